/- The document's lines, walked: Of. -/
import Derived.Test.YtgggokajapoopaaR1
namespace Go
theorem Ext.of_grown {a w w' : World} {o : Option Nat} (h : Ext a w) (k : w.grownBy w' o) (ho : ∀ g, o = some g → a.heap.size ≤ g) : Ext a w' :=
  ⟨k.os.trans h.os, k.tape.trans h.tape, k.output.trans h.output, Nat.le_trans h.size k.size, fun j hj => (k.block j (Nat.lt_of_lt_of_le hj h.size) (fun e => by have := ho j e.symm; omega)).trans (h.block j hj)⟩
end Go
namespace Go.Proofs
open Go.RowKit
/-- Between two rounds of a filter: what was taken lies in a slice of its own. -/
def FilInv (w : World) (m : Nat) (M : List Ln) (v : Value) (wr : World) : Prop :=
  ∃ a n c o, v = .slice a n c ∧ n = M.length ∧ SetAt wr v M o ∧ (∀ g, o = some g → m ≤ g) ∧ Ext w wr
theorem take_filter_succ {p : Ln → Bool} {L : List Ln} {k : Nat} {x : Ln} (h : L[k]? = some x) : (L.take (k + 1)).filter p = if p x then (L.take k).filter p ++ [x] else (L.take k).filter p := by
  obtain ⟨hk, rfl⟩ := List.getElem?_eq_some_iff.1 h
  rw [List.take_succ_eq_append_getElem hk, List.filter_append]
  cases hp : p L[k] <;> simp [hp]
theorem FilInv.skip {w wr w' : World} {m : Nat} {p : Ln → Bool} {L : List Ln} {k : Nat} {x : Ln} {v : Value} (h : FilInv w m ((L.take k).filter p) v wr) (hx : L[k]? = some x) (hp : p x = false) (hE : Ext wr w') :
    FilInv w m ((L.take (k + 1)).filter p) v w' := by
  obtain ⟨a, n, c, o, h1, h2, h3, h4, h5⟩ := h
  rw [take_filter_succ hx, hp]
  exact ⟨a, n, c, o, h1, by simpa using h2, by simpa using h3.ext hE, h4, h5.trans hE⟩
theorem FilInv.take {w wr w1 w' : World} {m : Nat} {p : Ln → Bool} {L : List Ln} {k : Nat} {x : Ln} {v' : Value} {o o' : Option Nat} (hw : w.heap.size ≤ m) (hfr : ∀ g, o = some g → m ≤ g) (hE0 : Ext w wr) (hx : L[k]? = some x) (hp : p x = true) (hE : Ext wr w1)
    (k1 : SetAt w' v' ((L.take k).filter p ++ [x]) o') (k2 : w1.grownBy w' o) (k3 : o' = o ∨ ∃ g, o' = some g ∧ w1.heap.size ≤ g) (hm : m ≤ wr.heap.size) : FilInv w m ((L.take (k + 1)).filter p) v' w' := by
  rw [take_filter_succ hx, hp, if_pos rfl]
  obtain ⟨a', c', e, -⟩ := k1.row Ln.okCells
  refine ⟨a', _, c', o', e, rfl, k1, fun g hg => ?_, ?_⟩
  · rcases k3 with h | ⟨g', h, h'⟩
    · exact hfr g (h ▸ hg)
    · rw [hg] at h; cases h
      have := hE.size
      omega
  · exact Ext.of_grown (hE0.trans hE) k2 (fun g hg => Nat.le_trans hw (hfr g hg))
set_option maxRecDepth 100000 in
set_option maxHeartbeats 400000 in
theorem rof_any (s ways set : Int) (L : List Ln) (a : Option Addr) (cap : Nat) (w : World) (hs : 1 ≤ s) (hs2 : s ≤ 64) (hL : Row 18 Ln.cells w a L) (hlen : L.length ≤ 1000) :
    Calls Try.prog 89 #[.agg #[.int .i64 s, .int .i64 ways, .slice a L.length cap], .int .i64 set] w (ClonePost w (L.filter fun l => l.num % s == set)) := by
  obtain ⟨i0, hi, hz0, hz1, hz2⟩ := info_parts Try.info39
  go_enter Try.func89, Try.ntmps89
  go_wp2_with fail
  go_loopw [5, 6] (fun v i wr => ∃ k : Nat, k ≤ L.length ∧ i = .int .i64 k ∧ FilInv (w.alloc (.cells #[.int .i64 s, .int .i64 ways, .slice a L.length cap] 28)) (w.heap.size + 1) ((L.take k).filter fun l => l.num % s == set) v wr) (fun _ i _ => L.length - (intOf i).toNat)
  case atStart => exact ⟨0, Nat.zero_le _, rfl, none, 0, 0, none, rfl, rfl, SlAt.nil _ _, by simp, Below.refl _ _⟩
  case round =>
    obtain ⟨k, hk, rfl, hI⟩ := hrel
    have HI := Lib.hid hI
    obtain ⟨a1, n1, c1, o, rfl, hn1, hS, hfr, hE0⟩ := hI
    have hE := ((Ext.refl w).alloc (.cells #[.int .i64 s, .int .i64 ways, .slice a L.length cap] 28)).trans hE0
    obtain ⟨r1, r2, r3, r5, r4⟩ := hE0.rules
    have hB0 : wr.cell? ⟨w.heap.size, 0, none⟩ = some (.int .i64 s) := by rw [r1 _ _ (by simp)]; simp [go_sem]
    have hB1 : wr.cell? ⟨w.heap.size, 1, none⟩ = some (.int .i64 ways) := by rw [r1 _ _ (by simp)]; simp [go_sem]
    have hB : wr.cell? ⟨w.heap.size, 2, none⟩ = some (.slice a L.length cap) := by rw [r1 _ _ (by simp)]; simp [go_sem]
    have hBl : w.heap.size < wr.heap.size := by simp at r4; omega
    clear r1 r2 r3 r5 r4
    by_cases hlt : k < L.length
    · obtain ⟨x, hx⟩ : ∃ x, L[k]? = some x := ⟨L[k], by simp [hlt]⟩
      obtain ⟨b, off, rfl, hg⟩ := (hL.ext hE) k x hx
      have hbl : b < wr.heap.size := World.agg?_lt hg
      have hc0 : wr.cell? ⟨b, off + k * 18, none⟩ = some (.int .u32 x.num) := by obtain ⟨_, _, e, h⟩ := (hL.ext hE).cell hx (j := 0) (by omega); cases e; rw [Nat.add_zero] at h; rw [h]; simp [go_sem]
      have hki : (k : Int) < (L.length : Int) := by omega
      obtain ⟨⟨hn0, hn1'⟩, -⟩ := x.ok
      by_cases hq : x.num % s = set
      · have hp : (x.num % s == set) = true := by simp [hq]
        have HX := Lib.hid hx
        have H1 := Lib.hid hn1
        have HF := Lib.hid hfr
        have hfl : ((L.take k).filter fun l => l.num % s == set).length ≤ 1000 := Nat.le_trans (List.length_filter_le _ _) (by simp; omega)
        have HS : Hid (∀ w1, Ext wr w1 → SetAt w1 (.slice a1 n1 c1) ((L.take k).filter fun l => l.num % s == set) o) := fun w1 h => hS.ext h
        have HE := Lib.hid hE0
        have hm : w.heap.size + 1 ≤ wr.heap.size := hBl
        clear hx hn1 hfr hS hE0
        go_wp2_with fail
        go_region_with (go_at_call 90; refine (rset_any s ways _ x.num _ hs hs2 hn0 hn1').mono ?_; rintro e w1 ⟨rfl, hE1⟩; have hE2 := ((Ext.refl wr).drew).trans hE1; clear hE1; obtain ⟨q1, q2, q3, q5, q4⟩ := hE2.rules)
        all_goals
          go_wp2_with (at_builtin; refine wpList_append_sl rfl (.tmp 24) (.tmp 30) 26 rfl i0 _ Try.underlying26 hi hz0 hz1 (by rfl) (by decide) (by rw [hz2]; decide) Ln.okCells _ _ o (HS.out _ (hE2.alloc _)) _ _ [x] (Row_alloc_one Ln.okCells w1 x 39) rfl rfl (by simp; omega) ?_; intro v' o' w' k1 k2 k3)
          go_roundw
          case rel => exact ⟨k + 1, by omega, by go_num, FilInv.take (by simp) HF.out HE.out HX.out hp (hE2.alloc _) k1 k2 k3 hm⟩
          case measure => simp [intOf]; omega
      · have hp : (x.num % s == set) = false := by simp [hq]
        have HX := Lib.hid hx
        clear hx hn1 hfr hS hE0
        go_wp2_with fail
        go_region_with (go_at_call 90; refine (rset_any s ways _ x.num _ hs hs2 hn0 hn1').mono ?_; rintro e w1 ⟨rfl, hE1⟩; have hE2 := ((Ext.refl wr).drew).trans hE1; clear hE1; obtain ⟨q1, q2, q3, q5, q4⟩ := hE2.rules)
        all_goals
          go_wp2_with fail
          go_roundw
          case rel => exact ⟨k + 1, by omega, by go_num, HI.out.skip HX.out hp hE2⟩
          case measure => simp [intOf]; omega
    · have hkk : k = L.length := by omega
      subst hkk
      rw [List.take_length] at HI
      clear hS hn1
      go_wp2_with fail
      go_ret
      obtain ⟨a2, n2, c2, o2, e, -, h3, h4, h5⟩ := HI.out
      exact ⟨_, o2, rfl, ((Ext.refl w).alloc _).trans h5, e ▸ h3, fun g hg => by have := h4 g hg; omega⟩
end Go.Proofs
