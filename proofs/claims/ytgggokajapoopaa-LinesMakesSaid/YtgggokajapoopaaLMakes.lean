/- The law LinesMakes, walked. -/
import Derived.Test.YtgggokajapoopaaNil
import Derived.Test.YtgggokajapoopaaPr
namespace Go.Proofs
open Go.RowKit
theorem flatO_none : flatO none = [] := rfl
theorem lenL_nil (w : World) : Calls Try.prog 39 #[.pointer none] w fun e w' => e = .returned (.int .i64 0) ∧ Ext w w' :=
  len_any (.pointer none) none (fun _ => False) w rfl (by simp [flatO_none])
theorem allL_nil (w : World) : Calls Try.prog 38 #[.pointer none] w (ClonePost w []) :=
  all_list (.pointer none) none (fun _ => False) w rfl (by simp [flatO_none])
theorem right_of (s ways : Int) (b : Bool) (h : right s ways = b) (w : World) : Calls Try.prog 24 #[.int .i64 s, .int .i64 ways] w fun e w' => e = .returned (.bool b) ∧ w = w' := right_is s ways b h w
set_option maxRecDepth 100000 in
set_option maxHeartbeats 2000000 in
theorem lawMakes_right (n k : Nat) (w : World) (hn : pow2 n = true) (hk1 : 1 ≤ k) (hk8 : k ≤ 8) (hr : right n k = true) :
    Calls Try.prog 8 #[.int .i64 n, .int .i64 k] w fun e w' => e = .returned (.bool true) ∧ Ext w w' := by
  have hwl : Ln.zero.cells.setIfInBounds 1 (Value.int .i64 1) = (wl 0 1).cells := rfl
  have hfl : (⟨k, List.replicate n []⟩ : Lns).flat = [] := by simp [Lns.flat]
  have HF := Lib.hid hfl
  have HN := Lib.hid hn
  have HRI := Lib.hid hr
  clear hfl hn hr
  go_enter Try.func8, Try.ntmps8
  go_wp2_with fail
  refine (new_any n k _ HN.out hk1 hk8).mono ?_
  rintro e w1 ⟨p, rfl, hE1, F1, h1, hF1⟩
  obtain ⟨pa, rfl⟩ : ∃ pa, p = .pointer pa := by obtain ⟨B, _, _, _, rfl, _⟩ := h1; exact ⟨_, rfl⟩
  have H1 := Lib.hid h1
  clear h1 hF1
  go_wp2_with fail
  refine (find_nil _ _).mono ?_
  rintro e w2 ⟨rfl, hE2⟩
  go_wp2_with fail
  refine (victim_nil _ _ _).mono ?_
  rintro e w3 ⟨rfl, hE3⟩
  obtain ⟨r1, r2, r3, r5, r4⟩ := hE3.rules
  have hz : w2.heap.size < w3.heap.size := by have := hE3.size; simp at this; omega
  go_wp2_with fail
  clear r1 r2 r3 r5 r4
  refine (put_nil (wl 0 1) _).mono ?_
  rintro e w4 ⟨rfl, hE4⟩
  go_wp2_with (go_at_call 34; refine (num_is _ _).mono ?_; rintro e w' ⟨rfl, rfl⟩)
  refine (drop_nil _ _).mono ?_
  rintro e w5 ⟨rfl, hE5⟩
  go_wp2_with fail
  refine (lenL_nil _).mono ?_
  rintro e w6 ⟨rfl, hE6⟩
  go_wp2_with fail
  refine (allL_nil _).mono ?_
  rintro e w7 ⟨v7, o7, rfl, hE7, hs7, -⟩
  obtain ⟨a7, c7, rfl, -⟩ := hs7.row Ln.okCells
  clear hs7
  go_wp2_with fail
  refine (copy_nil _).mono ?_
  rintro e w8 ⟨rfl, hE8⟩
  go_wp2_with fail
  refine (same_nil _).mono ?_
  rintro e w9 ⟨rfl, hE9⟩
  go_wp2_with fail
  refine (right_of _ _ _ HRI.out _).mono ?_
  rintro e w' ⟨rfl, rfl⟩
  have hE : Ext w1 w9 := ((((((((hE2.alloc _).trans hE3).alloc _).trans hE4).trans hE5).trans hE6).trans hE7).trans hE8).trans hE9
  have HE := Lib.hid hE
  clear hE hE2 hE3 hE4 hE5 hE6 hE7 hE8 hE9 hz
  go_wp2_with (go_at_call 34; refine (num_is _ _).mono ?_; rintro e w' ⟨rfl, rfl⟩)
  refine (len_any _ (some ⟨k, List.replicate n []⟩) F1 _ (H1.out.ext HE.out) (by show (Lns.flat _).length ≤ _; rw [HF.out]; simp)).mono ?_
  rintro e wa ⟨rfl, hEa⟩
  rw [show flatO (some (⟨k, List.replicate n []⟩ : Lns)) = [] from HF.out]
  go_wp2_with fail
  refine (all_list _ (some ⟨k, List.replicate n []⟩) F1 _ ((H1.out.ext HE.out).ext hEa) (by show (Lns.flat _).length ≤ _; rw [HF.out]; simp)).mono ?_
  rw [show flatO (some (⟨k, List.replicate n []⟩ : Lns)) = [] from HF.out]
  rintro e wb ⟨vb, ob, rfl, hEb, hsb, -⟩
  obtain ⟨ab, cb, rfl, -⟩ := hsb.row Ln.okCells
  clear hsb
  go_wp2_with fail
  refine (same_right _ _ F1 _ (((H1.out.ext HE.out).ext hEa).ext hEb)).mono ?_
  rintro e wc ⟨rfl, hEc⟩
  go_wp2_with fail
  refine (same_left _ _ F1 _ ((((H1.out.ext HE.out).ext hEa).ext hEb).ext hEc)).mono ?_
  rintro e wd ⟨rfl, hEd⟩
  go_wp2_with fail
  refine (works_any _).mono ?_
  rintro e we ⟨rfl, hEe⟩
  go_wp2_with fail
  go_ret
  exact ⟨rfl, (((((hE1.trans HE.out).trans hEa).trans hEb).trans hEc).trans hEd).trans hEe⟩
set_option maxRecDepth 100000 in
set_option maxHeartbeats 2000000 in
theorem lawMakes_bad (s ways : Int) (w : World) (hr : right s ways = false) :
    Calls Try.prog 8 #[.int .i64 s, .int .i64 ways] w fun e w' => e = .returned (.bool true) ∧ Ext w w' := by
  have hwl : Ln.zero.cells.setIfInBounds 1 (Value.int .i64 1) = (wl 0 1).cells := rfl
  have HRI := Lib.hid hr
  clear hr
  go_enter Try.func8, Try.ntmps8
  go_wp2_with fail
  refine (new_bad _ _ _ HRI.out).mono ?_
  rintro e w1 ⟨rfl, hE1⟩
  go_wp2_with fail
  refine (find_nil _ _).mono ?_
  rintro e w2 ⟨rfl, hE2⟩
  go_wp2_with fail
  refine (victim_nil _ _ _).mono ?_
  rintro e w3 ⟨rfl, hE3⟩
  obtain ⟨r1, r2, r3, r5, r4⟩ := hE3.rules
  have hz : w2.heap.size < w3.heap.size := by have := hE3.size; simp at this; omega
  go_wp2_with fail
  clear r1 r2 r3 r5 r4
  refine (put_nil (wl 0 1) _).mono ?_
  rintro e w4 ⟨rfl, hE4⟩
  go_wp2_with (go_at_call 34; refine (num_is _ _).mono ?_; rintro e w' ⟨rfl, rfl⟩)
  refine (drop_nil _ _).mono ?_
  rintro e w5 ⟨rfl, hE5⟩
  go_wp2_with fail
  refine (lenL_nil _).mono ?_
  rintro e w6 ⟨rfl, hE6⟩
  go_wp2_with fail
  refine (allL_nil _).mono ?_
  rintro e w7 ⟨v7, o7, rfl, hE7, hs7, -⟩
  obtain ⟨a7, c7, rfl, -⟩ := hs7.row Ln.okCells
  clear hs7
  go_wp2_with fail
  refine (copy_nil _).mono ?_
  rintro e w8 ⟨rfl, hE8⟩
  go_wp2_with fail
  refine (same_nil _).mono ?_
  rintro e w9 ⟨rfl, hE9⟩
  go_wp2_with fail
  refine (right_of _ _ _ HRI.out _).mono ?_
  rintro e w' ⟨rfl, rfl⟩
  go_wp2_with (go_at_call 34; refine (num_is _ _).mono ?_; rintro e w' ⟨rfl, rfl⟩)
  refine (works_any _).mono ?_
  rintro e we ⟨rfl, hEe⟩
  go_wp2_with fail
  go_ret
  exact ⟨rfl, (((((((((hE1.trans hE2).alloc _).trans hE3).alloc _).trans hE4).trans hE5).trans hE6).trans hE7).trans hE8).trans (hE9.trans hEe)⟩
theorem lawMakes (s ways : Int) (w : World) : Calls Try.prog 8 #[.int .i64 s, .int .i64 ways] w fun e w' => e = .returned (.bool true) ∧ Ext w w' := by
  cases hr : right s ways with
  | false => exact lawMakes_bad s ways w hr
  | true =>
    obtain ⟨n, k, rfl, rfl, hn, hk1, hk8⟩ := right_split hr
    exact lawMakes_right n k w hn hk1 hk8 hr
end Go.Proofs
