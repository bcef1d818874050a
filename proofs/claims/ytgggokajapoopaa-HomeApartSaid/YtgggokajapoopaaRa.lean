import Derived.Test.YtgggokajapoopaaLen
import Derived.Deep.RegionHeld3
/- The document's lines, walked: Right, Find, Set. -/
namespace Go
def pow2i (s : Int) : Bool := s == 1 || s == 2 || s == 4 || s == 8 || s == 16 || s == 32 || s == 64
def right (s w : Int) : Bool := pow2i s && (decide (1 ≤ w) && decide (w ≤ 8))
end Go
namespace Go.Proofs
open Go.RowKit
def RightPost (s k : Int) : Prop :=
  (k = 1) ∨ (k = 2 ∧ s ≠ 1) ∨ (k = 4 ∧ s ≠ 1 ∧ s ≠ 2) ∨ (k = 8 ∧ s ≠ 1 ∧ s ≠ 2 ∧ s ≠ 4) ∨ (k = 16 ∧ s ≠ 1 ∧ s ≠ 2 ∧ s ≠ 4 ∧ s ≠ 8) ∨ (k = 32 ∧ s ≠ 1 ∧ s ≠ 2 ∧ s ≠ 4 ∧ s ≠ 8 ∧ s ≠ 16) ∨
  (k = 64 ∧ s ≠ 1 ∧ s ≠ 2 ∧ s ≠ 4 ∧ s ≠ 8 ∧ s ≠ 16 ∧ s ≠ 32) ∨ (k = 128 ∧ s ≠ 1 ∧ s ≠ 2 ∧ s ≠ 4 ∧ s ≠ 8 ∧ s ≠ 16 ∧ s ≠ 32 ∧ s ≠ 64)
theorem RightPost.next {s k : Int} (h : RightPost s k) (hk : k ≤ 64) (hs : k ≠ s) : RightPost s (k * 2) := by
  unfold RightPost at *
  omega
theorem RightPost.range {s k : Int} (h : RightPost s k) : 1 ≤ k ∧ k ≤ 128 := by unfold RightPost at h; omega
theorem RightPost.stop {s : Int} (h : RightPost s s) (w : Int) (hk : s ≤ 64) : right s w = (decide (1 ≤ w) && decide (w ≤ 8)) := by
  have : pow2i s = true := by unfold RightPost at h; unfold pow2i; simp; omega
  simp [right, this]
theorem RightPost.fin {s k : Int} (h : RightPost s k) (w : Int) (hk : ¬ k ≤ 64) : right s w = false := by
  have : pow2i s = false := by unfold RightPost at h; unfold pow2i; simp; omega
  simp [right, this]
set_option maxRecDepth 100000 in
set_option maxHeartbeats 400000 in
theorem right_any (s ways : Int) (w : World) : Calls Try.prog 24 #[.int .i64 s, .int .i64 ways] w fun e w' => e = .returned (.bool (right s ways)) ∧ w' = w := by
  go_enter Try.func24, Try.ntmps24
  go_wp2_with fail
  go_loopw [5] (fun i wr => ∃ k : Int, i = .int .i64 k ∧ RightPost s k ∧ wr = w) (fun i _ => 200 - (intOf i).toNat)
  case atStart => exact ⟨1, rfl, .inl rfl, rfl⟩
  case round =>
    obtain ⟨k, rfl, hp, rfl⟩ := hrel
    have hr := hp.range
    by_cases hle : k ≤ 64
    · by_cases hq : k = s
      · subst hq
        have HS := Lib.hid (hp.stop ways hle)
        clear hp
        by_cases h1 : 1 ≤ ways
        · go_wp2_with fail
          go_ret
          exact ⟨ret_bool (by rw [HS.out]; simp; try omega), rfl⟩
        · go_wp2_with fail
          go_ret
          exact ⟨ret_bool (by rw [HS.out]; simp; try omega), rfl⟩
      · have HS := Lib.hid (hp.next hle hq)
        clear hp
        go_wp2_with fail
        go_roundw
        case rel => exact ⟨k * 2, by go_num, HS.out, by trivial⟩
        case measure => simp [intOf]; omega
    · have HS := Lib.hid (hp.fin ways hle)
      clear hp
      go_wp2_with fail
      go_ret
      exact ⟨ret_bool HS.out.symm, rfl⟩
set_option maxRecDepth 100000 in
set_option maxHeartbeats 400000 in
theorem rfind_any (s ways : Int) (L : List Ln) (a : Option Addr) (cap : Nat) (n : Int) (w : World) (hL : Row 18 Ln.cells w a L) (hlen : L.length ≤ 1000) :
    Calls Try.prog 31 #[.agg #[.int .i64 s, .int .i64 ways, .slice a L.length cap], .int .u32 n] w fun e w' => e = .returned (.int .i64 (idxOf n L)) ∧ Ext w w' := by
  go_enter Try.func31, Try.ntmps31
  go_wp2_with fail
  go_loopw [5] (fun i wr => ∃ k : Nat, k ≤ L.length ∧ i = .int .i64 k ∧ (∀ i y, i < k → L[i]? = some y → y.num ≠ n) ∧ Ext (w.alloc (.cells #[.int .i64 s, .int .i64 ways, .slice a L.length cap] 28)) wr) (fun i _ => L.length - (intOf i).toNat)
  case atStart => exact ⟨0, Nat.zero_le _, rfl, fun i y h => absurd h (Nat.not_lt_zero _), Below.refl _ _⟩
  case round =>
    obtain ⟨k, hk, rfl, hp, hE0⟩ := hrel
    have hE := ((Ext.refl w).alloc (.cells #[.int .i64 s, .int .i64 ways, .slice a L.length cap] 28)).trans hE0
    obtain ⟨r1, r2, r3, r5, r4⟩ := hE0.rules
    have hB : wr.cell? ⟨w.heap.size, 2, none⟩ = some (.slice a L.length cap) := by rw [r1 _ _ (by simp)]; simp [go_sem]
    have hBl : w.heap.size < wr.heap.size := by simp at r4; omega
    by_cases hlt : k < L.length
    · obtain ⟨x, hx⟩ : ∃ x, L[k]? = some x := ⟨L[k], by simp [hlt]⟩
      obtain ⟨b, off, rfl, hg⟩ := (hL.ext hE) k x hx
      have hbl : b < wr.heap.size := World.agg?_lt hg
      have hc0 : wr.cell? ⟨b, off + k * 18, none⟩ = some (.int .u32 x.num) := by obtain ⟨_, _, e, h⟩ := (hL.ext hE).cell hx (j := 0) (by omega); cases e; rw [Nat.add_zero] at h; rw [h]; simp [go_sem]
      by_cases hq : x.num = n
      · have HC : Hid (idxOf n L = k) := idxOf_stop n L k x hx hq hp
        clear hp hx hL
        go_wp2_with fail
        go_ret
        exact ⟨ret_int HC.out.symm, hE⟩
      · have HP : Hid (∀ i y, i < k + 1 → L[i]? = some y → y.num ≠ n) := fun i y hi hy => by
          rcases Nat.lt_succ_iff_lt_or_eq.1 hi with h | rfl
          · exact hp i y h hy
          · rw [hx] at hy; cases hy; exact hq
        clear hp hx hL
        go_wp2_with fail
        go_roundw
        case rel => exact ⟨k + 1, by omega, by go_num, HP.out, hE0⟩
        case measure => simp [intOf]; omega
    · have HC : Hid (idxOf n L = -1) := idxOf_none n L (fun i y hi => hp i y (by omega))
      clear hp hL
      go_wp2_with fail
      go_ret
      exact ⟨ret_int HC.out.symm, hE⟩
set_option maxRecDepth 100000 in
set_option maxHeartbeats 400000 in
theorem rset_any (s ways : Int) (v : Value) (n : Int) (w : World) (hs : 1 ≤ s) (hs2 : s ≤ 64) (h0 : 0 ≤ n) (h1 : n < 4294967296) :
    Calls Try.prog 90 #[.agg #[.int .i64 s, .int .i64 ways, v], .int .u32 n] w fun e w' => e = .returned (.int .i64 (n % s)) ∧ Ext w w' := by
  have ht : n.tmod s = n % s := Int.tmod_eq_emod_of_nonneg h0
  go_enter Try.func90, Try.ntmps90
  go_wp2_with fail
  go_ret
  exact ⟨by rfl, (Ext.refl w).alloc _⟩
end Go.Proofs
/- The document's lines, walked: Of. -/
namespace Go
theorem Ext.of_grown {a w w' : World} {o : Option Nat} (h : Ext a w) (k : w.grownBy w' o) (ho : ∀ g, o = some g → a.heap.size ≤ g) : Ext a w' :=
  ⟨k.os.trans h.os, k.tape.trans h.tape, k.output.trans h.output, Nat.le_trans h.size k.size, fun j hj => (k.block j (Nat.lt_of_lt_of_le hj h.size) (fun e => by have := ho j e.symm; omega)).trans (h.block j hj)⟩
end Go
namespace Go.Proofs
open Go.RowKit
/-- Between two rounds of a filter: what was taken lies in a slice of its own. -/
def FilInv (w : World) (m : Nat) (M : List Ln) (v : Value) (wr : World) : Prop :=
  ∃ a n c o, v = .slice a n c ∧ n = M.length ∧ SetAt wr v M o ∧ (∀ g, o = some g → m ≤ g) ∧ Ext w wr
theorem take_filter_succ {p : Ln → Bool} {L : List Ln} {k : Nat} {x : Ln} (h : L[k]? = some x) : (L.take (k + 1)).filter p = if p x then (L.take k).filter p ++ [x] else (L.take k).filter p := by
  obtain ⟨hk, rfl⟩ := List.getElem?_eq_some_iff.1 h
  rw [List.take_succ_eq_append_getElem hk, List.filter_append]
  cases hp : p L[k] <;> simp [hp]
theorem FilInv.skip {w wr w' : World} {m : Nat} {p : Ln → Bool} {L : List Ln} {k : Nat} {x : Ln} {v : Value} (h : FilInv w m ((L.take k).filter p) v wr) (hx : L[k]? = some x) (hp : p x = false) (hE : Ext wr w') :
    FilInv w m ((L.take (k + 1)).filter p) v w' := by
  obtain ⟨a, n, c, o, h1, h2, h3, h4, h5⟩ := h
  rw [take_filter_succ hx, hp]
  exact ⟨a, n, c, o, h1, by simpa using h2, by simpa using h3.ext hE, h4, h5.trans hE⟩
theorem FilInv.take {w wr w1 w' : World} {m : Nat} {p : Ln → Bool} {L : List Ln} {k : Nat} {x : Ln} {v' : Value} {o o' : Option Nat} (hw : w.heap.size ≤ m) (hfr : ∀ g, o = some g → m ≤ g) (hE0 : Ext w wr) (hx : L[k]? = some x) (hp : p x = true) (hE : Ext wr w1)
    (k1 : SetAt w' v' ((L.take k).filter p ++ [x]) o') (k2 : w1.grownBy w' o) (k3 : o' = o ∨ ∃ g, o' = some g ∧ w1.heap.size ≤ g) (hm : m ≤ wr.heap.size) : FilInv w m ((L.take (k + 1)).filter p) v' w' := by
  rw [take_filter_succ hx, hp, if_pos rfl]
  obtain ⟨a', c', e, -⟩ := k1.row Ln.okCells
  refine ⟨a', _, c', o', e, rfl, k1, fun g hg => ?_, ?_⟩
  · rcases k3 with h | ⟨g', h, h'⟩
    · exact hfr g (h ▸ hg)
    · rw [hg] at h; cases h
      have := hE.size
      omega
  · exact Ext.of_grown (hE0.trans hE) k2 (fun g hg => Nat.le_trans hw (hfr g hg))
set_option maxRecDepth 100000 in
set_option maxHeartbeats 400000 in
theorem rof_any (s ways set : Int) (L : List Ln) (a : Option Addr) (cap : Nat) (w : World) (hs : 1 ≤ s) (hs2 : s ≤ 64) (hL : Row 18 Ln.cells w a L) (hlen : L.length ≤ 1000) :
    Calls Try.prog 89 #[.agg #[.int .i64 s, .int .i64 ways, .slice a L.length cap], .int .i64 set] w (ClonePost w (L.filter fun l => l.num % s == set)) := by
  obtain ⟨i0, hi, hz0, hz1, hz2⟩ := info_parts Try.info39
  go_enter Try.func89, Try.ntmps89
  go_wp2_with fail
  go_loopw [5, 6] (fun v i wr => ∃ k : Nat, k ≤ L.length ∧ i = .int .i64 k ∧ FilInv (w.alloc (.cells #[.int .i64 s, .int .i64 ways, .slice a L.length cap] 28)) (w.heap.size + 1) ((L.take k).filter fun l => l.num % s == set) v wr) (fun _ i _ => L.length - (intOf i).toNat)
  case atStart => exact ⟨0, Nat.zero_le _, rfl, none, 0, 0, none, rfl, rfl, SlAt.nil _ _, by simp, Below.refl _ _⟩
  case round =>
    obtain ⟨k, hk, rfl, hI⟩ := hrel
    have HI := Lib.hid hI
    obtain ⟨a1, n1, c1, o, rfl, hn1, hS, hfr, hE0⟩ := hI
    have hE := ((Ext.refl w).alloc (.cells #[.int .i64 s, .int .i64 ways, .slice a L.length cap] 28)).trans hE0
    obtain ⟨r1, r2, r3, r5, r4⟩ := hE0.rules
    have hB0 : wr.cell? ⟨w.heap.size, 0, none⟩ = some (.int .i64 s) := by rw [r1 _ _ (by simp)]; simp [go_sem]
    have hB1 : wr.cell? ⟨w.heap.size, 1, none⟩ = some (.int .i64 ways) := by rw [r1 _ _ (by simp)]; simp [go_sem]
    have hB : wr.cell? ⟨w.heap.size, 2, none⟩ = some (.slice a L.length cap) := by rw [r1 _ _ (by simp)]; simp [go_sem]
    have hBl : w.heap.size < wr.heap.size := by simp at r4; omega
    clear r1 r2 r3 r5 r4
    by_cases hlt : k < L.length
    · obtain ⟨x, hx⟩ : ∃ x, L[k]? = some x := ⟨L[k], by simp [hlt]⟩
      obtain ⟨b, off, rfl, hg⟩ := (hL.ext hE) k x hx
      have hbl : b < wr.heap.size := World.agg?_lt hg
      have hc0 : wr.cell? ⟨b, off + k * 18, none⟩ = some (.int .u32 x.num) := by obtain ⟨_, _, e, h⟩ := (hL.ext hE).cell hx (j := 0) (by omega); cases e; rw [Nat.add_zero] at h; rw [h]; simp [go_sem]
      have hki : (k : Int) < (L.length : Int) := by omega
      obtain ⟨⟨hn0, hn1'⟩, -⟩ := x.ok
      by_cases hq : x.num % s = set
      · have hp : (x.num % s == set) = true := by simp [hq]
        have HX := Lib.hid hx
        have H1 := Lib.hid hn1
        have HF := Lib.hid hfr
        have hfl : ((L.take k).filter fun l => l.num % s == set).length ≤ 1000 := Nat.le_trans (List.length_filter_le _ _) (by simp; omega)
        have HS : Hid (∀ w1, Ext wr w1 → SetAt w1 (.slice a1 n1 c1) ((L.take k).filter fun l => l.num % s == set) o) := fun w1 h => hS.ext h
        have HE := Lib.hid hE0
        have hm : w.heap.size + 1 ≤ wr.heap.size := hBl
        clear hx hn1 hfr hS hE0
        go_wp2_with fail
        go_region_with (go_at_call 90; refine (rset_any s ways _ x.num _ hs hs2 hn0 hn1').mono ?_; rintro e w1 ⟨rfl, hE1⟩; have hE2 := ((Ext.refl wr).drew).trans hE1; clear hE1; obtain ⟨q1, q2, q3, q5, q4⟩ := hE2.rules)
        all_goals
          go_wp2_with (at_builtin; refine wpList_append_sl rfl (.tmp 24) (.tmp 30) 26 rfl i0 _ Try.underlying26 hi hz0 hz1 (by rfl) (by decide) (by rw [hz2]; decide) Ln.okCells _ _ o (HS.out _ (hE2.alloc _)) _ _ [x] (Row_alloc_one Ln.okCells w1 x 39) rfl rfl (by simp; omega) ?_; intro v' o' w' k1 k2 k3)
          go_roundw
          case rel => exact ⟨k + 1, by omega, by go_num, FilInv.take (by simp) HF.out HE.out HX.out hp (hE2.alloc _) k1 k2 k3 hm⟩
          case measure => simp [intOf]; omega
      · have hp : (x.num % s == set) = false := by simp [hq]
        have HX := Lib.hid hx
        clear hx hn1 hfr hS hE0
        go_wp2_with fail
        go_region_with (go_at_call 90; refine (rset_any s ways _ x.num _ hs hs2 hn0 hn1').mono ?_; rintro e w1 ⟨rfl, hE1⟩; have hE2 := ((Ext.refl wr).drew).trans hE1; clear hE1; obtain ⟨q1, q2, q3, q5, q4⟩ := hE2.rules)
        all_goals
          go_wp2_with fail
          go_roundw
          case rel => exact ⟨k + 1, by omega, by go_num, HI.out.skip HX.out hp hE2⟩
          case measure => simp [intOf]; omega
    · have hkk : k = L.length := by omega
      subst hkk
      rw [List.take_length] at HI
      clear hS hn1
      go_wp2_with fail
      go_ret
      obtain ⟨a2, n2, c2, o2, e, -, h3, h4, h5⟩ := HI.out
      exact ⟨_, o2, rfl, ((Ext.refl w).alloc _).trans h5, e ▸ h3, fun g hg => by have := h4 g hg; omega⟩
end Go.Proofs
/- The document's lines, walked: Put. -/
namespace Go
open Go.RowKit
/-- The document's cache: sets, ways, and lines in the order in which they came. -/
structure Rf where
  sets : Int
  ways : Int
  L : List Ln
def Rf.of (r : Rf) (s : Int) : List Ln := r.L.filter fun l => l.num % r.sets == s
def Rf.put (r : Rf) (l : Ln) : Rf × Int :=
  if l.st < 1 ∨ 3 < l.st then (r, 2)
  else match r.L.findIdx? (·.num == l.num) with
    | some i => ({ r with L := r.L.set i l }, 0)
    | none => if ((r.of (l.num % r.sets)).length : Int) ≥ r.ways then (r, 200) else ({ r with L := r.L ++ [l] }, 0)
/-- The document's cache, as a value; o: the block of its list. -/
def RfAt (w : World) (v : Value) (r : Rf) (o : Option Nat) : Prop := ∃ vs, v = .agg #[.int .i64 r.sets, .int .i64 r.ways, vs] ∧ SetAt w vs r.L o
def RfPost (w : World) (o : Option Nat) (r : Rf) (n : Int) (e : Ending) (w' : World) : Prop :=
  ∃ v' o', e = .returned (.tuple #[v', .int .i64 n]) ∧ RfAt w' v' r o' ∧ Ext w w' ∧ (o' = o ∨ ∀ g, o' = some g → w.heap.size ≤ g)
end Go
namespace Go.Proofs
open Go.RowKit
theorem run_loadVar28 (W : World) (b : Nat) (x y z : Value) (h0 : W.cell? ⟨b, 0, none⟩ = some x) (h1 : W.cell? ⟨b, 1, none⟩ = some y) (h2 : W.cell? ⟨b, 2, none⟩ = some z) : (loadVar 28 ⟨b, 0, none⟩).run Try.prog W = .ok (.agg #[x, y, z]) W := by
  simp [go_sem, loadVar, Try.isAgg28, Try.sizeOf28, h0, h1, h2, loadCells]
theorem cells_1 {w : World} {b : Nat} {cs : Array Value} {n : Nat} (h : w.agg? ⟨b, 0, none⟩ n = some cs) {j : Nat} (hj : j < n) : w.cell? ⟨b, j, none⟩ = cs[j]? := by
  rw [← World.agg?_cell h hj]
  congr 1
  simp [Addr.add]
set_option maxRecDepth 100000 in
set_option maxHeartbeats 400000 in
theorem rput_arg (s ways : Int) (L : List Ln) (a : Option Addr) (cap : Nat) (l : Ln) (w : World) (hst : l.st < 1 ∨ 3 < l.st) :
    Calls Try.prog 33 #[.agg #[.int .i64 s, .int .i64 ways, .slice a L.length cap], .agg l.cells] w fun e w' => e = .returned (.tuple #[.agg #[.int .i64 s, .int .i64 ways, .slice a L.length cap], .int .i64 2]) ∧ Ext w w' := by
  by_cases h1 : l.st < 1
  all_goals
    go_enter Try.func33, Try.ntmps33
    go_wp2_with fail
    refine bodyPost_ret (resCT rfl _ _ ⟨w.heap.size + 1 + 1, 0, none⟩ _ rfl (run_loadVar_agg 28 3 Try.isAgg28 Try.sizeOf28 _ _ _ (World.agg?_alloc_at _ _ _ _ _ (by simp) rfl))) rfl ⟨rfl, ?_⟩
    exact (((Ext.refl w).alloc _).alloc _).alloc _
/-- An own slice that was made behind w, of one element at least: its block. -/
theorem SlAt.block {w1 W w' : World} {v' : Value} {L : List Ln} {o' : Option Nat} (k1 : SetAt w' v' L o') (k2 : W.grownBy w' (some w1.heap.size)) (k3 : o' = some w1.heap.size ∨ ∃ g, o' = some g ∧ W.heap.size ≤ g) (hE : Ext w1 W) {i : Nat} (hi : i < L.length) :
    Ext w1 w' ∧ ∃ g cap cur x, o' = some g ∧ v' = .slice (some ⟨g, 0, none⟩) L.length cap ∧ w'.heap[g]? = some (.cells cur 39 (0, 0)) ∧ L.length ≤ cap ∧ cap ≤ maxLen ∧ cur.size = cap * 18 ∧ cur.toList.take (L.length * 18) = flat Ln.cells L ∧ w1.heap.size ≤ g ∧ g < w'.heap.size ∧ w'.agg? ⟨g, i * 18, none⟩ 18 = some (Ln.cells x) ∧ w'.loose g = true := by
  refine ⟨Ext.of_grown hE k2 (fun g hg => by cases hg; omega), ?_⟩
  rcases k1 with ⟨rfl, _⟩ | ⟨g, cap, cur, ho, hv, hg, h1, h2, h3, h4⟩
  · simp at hi
  · have hr := Row_of_block Ln.okCells hg h1 h3 h4
    obtain ⟨b', off', hb', hag⟩ := hr i L[i] (by simp [hi])
    cases hb'
    rw [Nat.zero_add] at hag
    refine ⟨g, cap, cur, L[i], ho, hv, hg, h1, h2, h3, h4, ?_, (Array.getElem?_eq_some_iff.1 hg).1, hag, by simp [World.loose, hg]⟩
    rcases k3 with h | ⟨g', h, h'⟩
    · rw [ho] at h; cases h; omega
    · rw [ho] at h; cases h; exact Nat.le_trans hE.size h'
theorem emptySet (w1 : World) : SetAt (w1.alloc (.cells #[] 39)) (.slice (some ⟨w1.heap.size, 0, none⟩) 0 0) [] (some w1.heap.size) :=
  .inr ⟨_, 0, #[], rfl, rfl, heap_alloc_new _ _, Nat.le_refl _, Nat.zero_le _, rfl, rfl⟩
/-- The three boxes of Put: the document's cache, the line, the result. -/
structure Boxes (W : World) (n : Nat) (s ways : Int) (vs : Value) (l : Ln) : Prop where
  a0 : W.cell? ⟨n, 0, none⟩ = some (.int .i64 s)
  a1 : W.cell? ⟨n, 1, none⟩ = some (.int .i64 ways)
  a2 : W.cell? ⟨n, 2, none⟩ = some vs
  af : W.frozen? ⟨n, 2, none⟩ = false
  b0 : W.cell? ⟨n + 1, 0, none⟩ = some (.int .u32 l.num)
  bs : W.agg? ⟨n + 1, 0, none⟩ 18 = some l.cells
  c0 : W.cell? ⟨n + 1 + 1, 0, none⟩ = some (.int .i64 0)
  c1 : W.cell? ⟨n + 1 + 1, 1, none⟩ = some (.int .i64 0)
  c2 : W.cell? ⟨n + 1 + 1, 2, none⟩ = some (.slice none 0 0)
  f0 : W.frozen? ⟨n + 1 + 1, 0, none⟩ = false
  f1 : W.frozen? ⟨n + 1 + 1, 1, none⟩ = false
  f2 : W.frozen? ⟨n + 1 + 1, 2, none⟩ = false
  cs : W.agg? ⟨n + 1 + 1, 0, none⟩ 3 = some #[.int .i64 0, .int .i64 0, .slice none 0 0]
  cl : W.loose (n + 1 + 1) = true
  lt : n + 1 + 1 < W.heap.size
theorem Boxes.ext {W W' : World} {n : Nat} {s ways : Int} {vs : Value} {l : Ln} (h : Boxes W n s ways vs l) (hE : Ext W W') : Boxes W' n s ways vs l := by
  have h1 := h.lt
  obtain ⟨r1, r2, r3, r5, r4⟩ := hE.rules
  exact ⟨(r1 _ _ (by omega)).trans h.a0, (r1 _ _ (by omega)).trans h.a1, (r1 _ _ (by omega)).trans h.a2, (r2 _ _ (by omega)).trans h.af, (r1 _ _ (by omega)).trans h.b0, (r3 _ _ _ (by omega)).trans h.bs,
    (r1 _ _ (by omega)).trans h.c0, (r1 _ _ (by omega)).trans h.c1, (r1 _ _ (by omega)).trans h.c2, (r2 _ _ (by omega)).trans h.f0, (r2 _ _ (by omega)).trans h.f1, (r2 _ _ (by omega)).trans h.f2, (r3 _ _ _ (by omega)).trans h.cs, (r5 _ (by omega)).trans h.cl, by omega⟩
theorem Boxes.start (w : World) (s ways : Int) (vs : Value) (l : Ln) : Boxes (((w.alloc (.cells #[.int .i64 s, .int .i64 ways, vs] 28)).alloc (.cells l.cells 39)).alloc (.cells #[.int .i64 0, .int .i64 0, .slice none 0 0] 28)) w.heap.size s ways vs l := by
  constructor <;> simp [go_sem]
set_option maxRecDepth 100000 in
set_option maxHeartbeats 400000 in
theorem rput_there (s ways : Int) (L : List Ln) (a : Option Addr) (cap : Nat) (l : Ln) (w : World) (hs1 : 1 ≤ l.st) (hs3 : l.st ≤ 3) (hL : Row 18 Ln.cells w a L) (hlen : L.length ≤ 1000) (i : Nat) (HI : Hid (idxOf l.num L = (i : Int))) (hil : i < L.length) :
    Calls Try.prog 33 #[.agg #[.int .i64 s, .int .i64 ways, .slice a L.length cap], .agg l.cells] w (RfPost w none ⟨s, ways, L.set i l⟩ 0) := by
  obtain ⟨i0, hi, hz0, hz1, hz2⟩ := info_parts Try.info39
  have hr' : ∀ w1, Ext w w1 → Row 18 Ln.cells w1 a L := fun w1 h => hL.ext h
  have HR := Lib.hid hr'
  clear hr' hL
  go_enter Try.func33, Try.ntmps33
  go_wp2_with fail
  refine (rfind_any s ways L a cap l.num _ (HR.out _ ((((Ext.refl w).alloc _).alloc _).alloc _)) hlen).mono ?_
  rintro e w1 ⟨rfl, hE⟩
  rw [HI.out]
  have hd : decide ((i : Int) < 0) = false := by simp
  have hd2 : ((0 : Int) ≤ (i : Int)) = True := by simp
  have hX := (Boxes.start w s ways (.slice a L.length cap) l).ext hE
  have HX := Lib.hid hX
  obtain ⟨xa0, xa1, xa2, xaf, xb0, xbs, xc0, xc1, xc2, xf0, xf1, xf2, xcs, xcl, xlt⟩ := hX
  have hE0 : Ext w w1 := ((((Ext.refl w).alloc _).alloc _).alloc _).trans hE
  clear hE
  go_wp2_with fail
  have hlt1 : w.heap.size + 1 < w1.heap.size := by omega
  have hlt0 : w.heap.size < w1.heap.size := by omega
  have hilt : (i : Int) < (L.length : Int) := by omega
  go_region
  have HE := Lib.hid ((hE0.drew).alloc (.cells #[] 39))
  go_wp2_with (at_builtin; refine wpList_append_sl rfl (.tmp 36) (.tmp 38) 26 rfl i0 _ Try.underlying26 hi hz0 hz1 (by rfl) (by decide) (by rw [hz2]; decide) Ln.okCells _ [] _ (emptySet _) _ _ L (HR.out _ HE.out) rfl rfl (by simp; omega) ?_; intro v' o' w' k1 k2 k3; obtain ⟨hE3, g, cap', cur, x, rfl, rfl, q1, q2, q3, q4, q5, q6, q7, q8, q9⟩ := SlAt.block (w1 := w1) k1 k2 k3 ((Ext.refl w1).drew.alloc _) hil; clear k1 k2 k3; have Q1 := Lib.hid q1; have Q5 := Lib.hid q5; clear q1 q5; have hX := HX.out.ext hE3; obtain ⟨ya0, ya1, ya2, yaf, yb0, ybs, yc0, yc1, yc2, yf0, yf1, yf2, ycs, ycl, ylt⟩ := hX; have n0 := Nat.ne_of_lt (Nat.lt_of_lt_of_le hlt0 q6); have n1 := Nat.ne_of_lt (Nat.lt_of_lt_of_le hlt1 q6); have n2 := Nat.ne_of_lt (Nat.lt_of_lt_of_le xlt q6); have n0' := n0.symm; have n1' := n1.symm; have n2' := n2.symm)
  refine bodyPost_ret (resCT rfl _ _ ⟨w.heap.size + 1 + 1, 0, none⟩ _ rfl (run_loadVar28 _ _ _ _ _ (by simp [go_sem, *] <;> rfl) (by simp [go_sem, *] <;> rfl) (by simp [go_sem, *] <;> rfl))) rfl ⟨_, some g, rfl, ⟨_, rfl, ?_⟩, ?_, .inr fun g' hg' => ?_⟩
  · refine .inr ⟨g, cap', splice cur (i * 18) l.cells, rfl, by simp, ?_, by simpa using q2, q3, ?_, splice_flat Ln.okCells (by simpa using Q5.out) hil l⟩
    · rw [heap_setCell_other _ _ _ _ n2', heap_setCell_other _ _ _ _ n2', heap_setCell_other _ _ _ _ n2', heap_setCell_other _ _ _ _ n0']
      exact World.putAgg_heap (a := ⟨g, i * 18, none⟩) Q1.out
    · rw [size_splice _ _ _ (by rw [l.cells_size, q4]; simp at q2; omega), q4]
  · have h1 : w.heap.size ≤ w1.heap.size := hE0.size
    exact (((((hE0.trans hE3).putAgg _ _ (Nat.le_trans h1 q6)).setCell _ _ (by simp)).setCell _ _ (by simp only; omega)).setCell _ _ (by simp only; omega)).setCell _ _ (by simp only; omega)
  · cases hg'
    exact Nat.le_trans hE0.size q6
end Go.Proofs
