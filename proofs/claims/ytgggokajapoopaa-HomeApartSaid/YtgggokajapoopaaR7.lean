/- The document's lines, walked: All, Same; the number of an error. -/
import Derived.Test.YtgggokajapoopaaRb
import Derived.Test.YtgggokajapoopaaEq
namespace Go
def Rf.all (r : Rf) : List Ln := (List.range r.sets.toNat).flatMap fun (s : Nat) => r.of s
theorem Rf.all_take (r : Rf) (k : Nat) : (List.range (k + 1)).flatMap (fun (s : Nat) => r.of s) = (List.range k).flatMap (fun (s : Nat) => r.of s) ++ r.of k := by
  rw [List.range_succ, List.flatMap_append]; simp
theorem Rf.take_len (r : Rf) (h : r.L.length ≤ 1000) (k : Nat) : ((List.range k).flatMap fun (s : Nat) => r.of s).length ≤ k * 1000 := by
  induction k with
  | zero => simp
  | succ k ih =>
    rw [Rf.all_take, List.length_append]
    have : (r.of k).length ≤ r.L.length := List.length_filter_le _ _
    omega
theorem List.same_stop {α : Type} [DecidableEq α] {L M : List α} {k : Nat} {x y : α} (hx : L[k]? = some x) (hy : M[k]? = some y) (hxy : x ≠ y) : decide (L = M) = false := by
  simp; intro e; subst e; rw [hx] at hy; cases hy; exact hxy rfl
theorem List.same_all {α : Type} [DecidableEq α] {L M : List α} (hl : L.length = M.length) (h : ∀ i, i < L.length → L[i]? = M[i]?) : decide (L = M) = true := by
  simp
  apply List.ext_getElem? 
  intro i
  by_cases hi : i < L.length
  · exact h i hi
  · rw [List.getElem?_eq_none (by omega), List.getElem?_eq_none (by omega)]
theorem List.same_len {α : Type} [DecidableEq α] {L M : List α} (hl : L.length ≠ M.length) : decide (L = M) = false := by
  simp; intro e; subst e; exact hl rfl
end Go
namespace Go.Proofs
open Go.RowKit
theorem num_any (n : Int) (w : World) : Calls Try.prog 34 #[.int .i64 n] w fun e w' => e = .returned (.int .i64 n) ∧ w' = w := by
  go_enter Try.func34, Try.ntmps34
  go_wp2_with fail
  go_ret
  exact ⟨rfl, rfl⟩
set_option maxRecDepth 100000 in
set_option maxHeartbeats 400000 in
theorem rsame_any (L M : List Ln) (a b : Option Addr) (ca cb : Nat) (w : World) (hL : Row 18 Ln.cells w a L) (hM : Row 18 Ln.cells w b M) (hl : L.length ≤ 1000) :
    Calls Try.prog 43 #[.slice a L.length ca, .slice b M.length cb] w fun e w' => e = .returned (.bool (decide (L = M))) ∧ Ext w w' := by
  by_cases hlm : L.length = M.length
  · have hlm' : (L.length : Int) = (M.length : Int) := by omega
    have HL := Lib.hid hlm
    go_enter Try.func43, Try.ntmps43
    go_wp2_with fail
    go_loopw [5] (fun i wr => ∃ k : Nat, k ≤ L.length ∧ i = .int .i64 k ∧ (∀ j, j < k → L[j]? = M[j]?) ∧ Ext w wr) (fun i _ => L.length - (intOf i).toNat)
    case atStart => exact ⟨0, Nat.zero_le _, rfl, fun j h => absurd h (Nat.not_lt_zero _), Below.refl _ _⟩
    case round =>
      obtain ⟨k, hk, rfl, hp, hE⟩ := hrel
      by_cases hlt : k < L.length
      · obtain ⟨x, hx⟩ : ∃ x, L[k]? = some x := ⟨L[k], by simp [hlt]⟩
        obtain ⟨y, hy⟩ : ∃ y, M[k]? = some y := ⟨M[k]'(by omega), by simp⟩
        obtain ⟨bx, ox, rfl, hgx⟩ := (hL.ext hE) k x hx
        obtain ⟨by', oy, rfl, hgy⟩ := (hM.ext hE) k y hy
        have hbx : bx < wr.heap.size := World.agg?_lt hgx
        have hby : by' < wr.heap.size := World.agg?_lt hgy
        have hki : (k : Int) < (L.length : Int) := by omega
        have hki2 : (k : Int) < (M.length : Int) := by omega
        by_cases hq : x = y
        · have hd : decide (x = y) = true := by simp [hq]
          have HP : Hid (∀ j, j < k + 1 → L[j]? = M[j]?) := fun j hj => by
            rcases Nat.lt_succ_iff_lt_or_eq.1 hj with h | rfl
            · exact hp j h
            · rw [hx, hy, hq]
          have HD := Lib.hid hq
          clear hp hx hy hL hM hlm hlm' hq
          go_wp2_with fail
          go_quiet (fail)
          go_wp2_with fail
          go_roundw
          case rel => exact ⟨k + 1, by omega, by go_num, HP.out, hE.drewN _⟩
          case measure => simp [intOf]; omega
        · have hd : decide (x = y) = false := by simp [hq]
          have HD : Hid (decide (L = M) = false) := List.same_stop hx hy hq
          clear hp hx hy hL hM hlm hlm' hq
          go_wp2_with fail
          go_quiet (fail)
          go_wp2_with fail
          go_ret
          exact ⟨ret_bool HD.out.symm, hE.drewN _⟩
      · have HD : Hid (decide (L = M) = true) := List.same_all hlm (fun i hi => hp i (by omega))
        clear hp hL hM hlm hlm'
        go_wp2_with fail
        go_ret
        exact ⟨ret_bool HD.out.symm, hE⟩
  · have hlm' : ((L.length : Int) = (M.length : Int)) = False := by simp; omega
    have HD : Hid (decide (L = M) = false) := List.same_len hlm
    clear hL hM
    go_enter Try.func43, Try.ntmps43
    go_wp2_with fail
    go_ret
    exact ⟨ret_bool HD.out.symm, Ext.refl w⟩
theorem FilInv.more {w wr w1 w' : World} {m : Nat} {M N N' : List Ln} {v' : Value} {o o' : Option Nat} (hw : w.heap.size ≤ m) (hfr : ∀ g, o = some g → m ≤ g) (hE0 : Ext w wr) (hN : N' = M ++ N) (hE : Ext wr w1)
    (k1 : SetAt w' v' (M ++ N) o') (k2 : w1.grownBy w' o) (k3 : o' = o ∨ ∃ g, o' = some g ∧ w1.heap.size ≤ g) (hm : m ≤ wr.heap.size) : FilInv w m N' v' w' := by
  subst hN
  obtain ⟨a', c', e, -⟩ := k1.row Ln.okCells
  refine ⟨a', _, c', o', e, rfl, k1, fun g hg => ?_, ?_⟩
  · rcases k3 with h | ⟨g', h, h'⟩
    · exact hfr g (h ▸ hg)
    · rw [hg] at h; cases h
      have := hE.size
      omega
  · exact Ext.of_grown (hE0.trans hE) k2 (fun g hg => Nat.le_trans hw (hfr g hg))
set_option maxRecDepth 100000 in
set_option maxHeartbeats 400000 in
theorem rall_arg (s : Nat) (ways : Int) (L : List Ln) (a : Option Addr) (cap : Nat) (w : World) (hs : 1 ≤ s) (hs2 : s ≤ 64) (hL : Row 18 Ln.cells w a L) (hlen : L.length ≤ 1000) :
    Calls Try.prog 44 #[.agg #[.int .i64 s, .int .i64 ways, .slice a L.length cap]] w (ClonePost w (⟨s, ways, L⟩ : Rf).all) := by
  obtain ⟨i0, hi, hz0, hz1, hz2⟩ := info_parts Try.info39
  have HR : Hid (∀ w1, Ext w w1 → Row 18 Ln.cells w1 a L) := fun w1 h => hL.ext h
  clear hL
  go_enter Try.func44, Try.ntmps44
  go_wp2_with fail
  go_loopw [3, 4] (fun v i wr => ∃ k : Nat, k ≤ s ∧ i = .int .i64 k ∧ FilInv (w.alloc (.cells #[.int .i64 s, .int .i64 ways, .slice a L.length cap] 28)) (w.heap.size + 1) ((List.range k).flatMap fun (j : Nat) => (⟨s, ways, L⟩ : Rf).of j) v wr) (fun _ i _ => s - (intOf i).toNat)
  case atStart => exact ⟨0, Nat.zero_le _, rfl, none, 0, 0, none, rfl, rfl, SlAt.nil _ _, by simp, Below.refl _ _⟩
  case round =>
    obtain ⟨k, hk, rfl, hI⟩ := hrel
    have HI := Lib.hid hI
    obtain ⟨a1, n1, c1, o, rfl, hn1, hS, hfr, hE0⟩ := hI
    have hE := ((Ext.refl w).alloc (.cells #[.int .i64 s, .int .i64 ways, .slice a L.length cap] 28)).trans hE0
    obtain ⟨r1, r2, r3, r5, r4⟩ := hE0.rules
    have hB0 : wr.cell? ⟨w.heap.size, 0, none⟩ = some (.int .i64 s) := by rw [r1 _ _ (by simp)]; simp [go_sem]
    have hB1 : wr.cell? ⟨w.heap.size, 1, none⟩ = some (.int .i64 ways) := by rw [r1 _ _ (by simp)]; simp [go_sem]
    have hB : wr.cell? ⟨w.heap.size, 2, none⟩ = some (.slice a L.length cap) := by rw [r1 _ _ (by simp)]; simp [go_sem]
    have hBl : w.heap.size < wr.heap.size := by simp at r4; omega
    clear r1 r2 r3 r5 r4
    by_cases hlt : k < s
    · have hki : (k : Int) < (s : Int) := by omega
      have H1 := Lib.hid hn1
      have HF := Lib.hid hfr
      have HS : Hid (∀ w1, Ext wr w1 → SetAt w1 (.slice a1 n1 c1) _ o) := fun w1 h => hS.ext h
      have HE := Lib.hid hE0
      have hm : w.heap.size + 1 ≤ wr.heap.size := hBl
      clear hn1 hfr hS hE0
      go_wp2_with fail
      refine (rof_any s ways k L a cap _ (by omega) (by omega) (HR.out _ hE) hlen).mono ?_
      rintro e w1 ⟨v2, o2, rfl, hE1, hs2', -⟩
      obtain ⟨a2, c2, rfl, hrow⟩ := hs2'.row Ln.okCells
      have HRO := Lib.hid hrow
      clear hs2' hrow
      have HLn := Lib.hid (Rf.take_len (⟨s, ways, L⟩ : Rf) hlen k)
      go_wp2_with (at_builtin; refine wpList_append_sl rfl (.tmp 11) (.tmp 14) 26 rfl i0 _ Try.underlying26 hi hz0 hz1 (by rfl) (by decide) (by rw [hz2]; decide) Ln.okCells _ _ o (HS.out _ hE1) _ _ _ HRO.out rfl rfl (by have := HLn.out; have := List.length_filter_le (fun l : Ln => l.num % (s : Int) == (k : Int)) L; omega) ?_; intro v' o' w' k1 k2 k3)
      go_roundw
      case rel => exact ⟨k + 1, by omega, by go_num, FilInv.more (by simp) HF.out HE.out (Rf.all_take _ k) hE1 k1 k2 k3 hm⟩
      case measure => simp [intOf]; omega
    · have hkk : k = s := by omega
      subst hkk
      clear hS hn1
      go_wp2_with fail
      go_ret
      obtain ⟨a2, n2, c2, o2, e, -, h3, h4, h5⟩ := HI.out
      exact ⟨_, o2, rfl, ((Ext.refl w).alloc _).trans h5, e ▸ h3, fun g hg => by have := h4 g hg; omega⟩
theorem rall_any (v : Value) (r : Rf) (o : Option Nat) (w : World) (h : RfAt w v r o) (h1 : 1 ≤ r.sets ∧ r.sets ≤ 64) (hl : r.L.length ≤ 1000) : Calls Try.prog 44 #[v] w (ClonePost w r.all) := by
  obtain ⟨vs, rfl, hs⟩ := h
  obtain ⟨s, ways, L⟩ := r
  obtain ⟨a, cap, rfl, hr⟩ := hs.row Ln.okCells
  simp only at h1 hl hr ⊢
  obtain ⟨n, rfl⟩ : ∃ n : Nat, s = (n : Int) := ⟨s.toNat, by omega⟩
  exact rall_arg n ways L a cap w (by omega) (by omega) hr hl
end Go.Proofs
