/- The law's works: a set that is full makes room. -/
import Derived.Test.YtgggokajapoopaaIs
namespace Go
def wl (n : Fin 16) (st : Int) : Ln := ⟨(n.val : Int), st, List.replicate 16 0, by omega, by simp, by simp⟩
@[go_sem] theorem wl4_cells : #[Value.int .u32 4, .int .i64 1, .int .u8 0, .int .u8 0, .int .u8 0, .int .u8 0, .int .u8 0, .int .u8 0, .int .u8 0, .int .u8 0, .int .u8 0, .int .u8 0, .int .u8 0, .int .u8 0, .int .u8 0, .int .u8 0, .int .u8 0, .int .u8 0] = (wl 4 1).cells := rfl
@[go_sem] theorem wl6_cells : #[Value.int .u32 6, .int .i64 3, .int .u8 0, .int .u8 0, .int .u8 0, .int .u8 0, .int .u8 0, .int .u8 0, .int .u8 0, .int .u8 0, .int .u8 0, .int .u8 0, .int .u8 0, .int .u8 0, .int .u8 0, .int .u8 0, .int .u8 0, .int .u8 0] = (wl 6 3).cells := rfl
@[go_sem] theorem wl8_cells : #[Value.int .u32 8, .int .i64 2, .int .u8 0, .int .u8 0, .int .u8 0, .int .u8 0, .int .u8 0, .int .u8 0, .int .u8 0, .int .u8 0, .int .u8 0, .int .u8 0, .int .u8 0, .int .u8 0, .int .u8 0, .int .u8 0, .int .u8 0, .int .u8 0] = (wl 8 2).cells := rfl
theorem Sub.above {w w1 : World} {F F' : Nat → Prop} (h : Sub w1 F F') (hF : ∀ b, F b → w.heap.size ≤ b) (hs : w.heap.size ≤ w1.heap.size) : ∀ b, F' b → w.heap.size ≤ b := fun b hb => (h b hb).elim (hF b) (Nat.le_trans hs)
theorem wk1 : (⟨2, List.replicate 2 []⟩ : Lns).put (wl 4 1) = (⟨2, [[wl 4 1], []]⟩, 0) := rfl
theorem wk2 : (⟨2, [[wl 4 1], []]⟩ : Lns).put (wl 6 3) = (⟨2, [[wl 4 1, wl 6 3], []]⟩, 0) := rfl
theorem wk3 : (⟨2, [[wl 4 1, wl 6 3], []]⟩ : Lns).put (wl 8 2) = (⟨2, [[wl 4 1, wl 6 3], []]⟩, 200) := rfl
theorem wk4 : (⟨2, [[wl 4 1, wl 6 3], []]⟩ : Lns).victim 8 (-1) = some (wl 6 3) := rfl
theorem wk5 : (⟨2, [[wl 4 1, wl 6 3], []]⟩ : Lns).drop 4 = (⟨2, [[wl 6 3], []]⟩, true) := rfl
theorem wk6 : (⟨2, [[wl 6 3], []]⟩ : Lns).drop 4 = (⟨2, [[wl 6 3], []]⟩, false) := rfl
theorem wk7 : (⟨2, [[wl 6 3], []]⟩ : Lns).put (wl 8 2) = (⟨2, [[wl 6 3, wl 8 2], []]⟩, 0) := rfl
theorem wk8 : (⟨2, [[wl 6 3, wl 8 2], []]⟩ : Lns).flat.length = 2 := rfl
end Go
namespace Go.Proofs
open Go.RowKit
set_option maxRecDepth 100000 in
set_option maxHeartbeats 400000 in
theorem works_any (w : World) : Calls Try.prog 25 #[] w fun e w' => e = .returned (.bool true) ∧ Ext w w' := by
  go_enter Try.func25, Try.ntmps25
  go_wp2_with fail
  refine (new_any 2 2 w rfl (by decide) (by decide)).mono ?_
  rintro e w1 ⟨p, rfl, hE1, F1, h1, hF1⟩
  obtain ⟨pa, rfl⟩ : ∃ pa, p = .pointer pa := by obtain ⟨B, _, _, _, rfl, _⟩ := h1; exact ⟨_, rfl⟩
  go_wp2_with fail
  refine (put_any _ _ F1 (wl 4 1) w1 h1).mono ?_
  rintro e w2 ⟨rfl, F2, h2, hC2, hS2⟩
  rw [wk1] at h2 ⊢
  have hE2 := hE1.of_chg hC2 hF1
  have hF2 := hS2.above hF1 hE1.size
  clear hC2 hS2 h1 hF1
  go_wp2_with fail
  refine (put_any _ _ F2 (wl 6 3) w2 h2).mono ?_
  rintro e w3 ⟨rfl, F3, h3, hC3, hS3⟩
  rw [wk2] at h3 ⊢
  have hE3 := hE2.of_chg hC3 hF2
  have hF3 := hS3.above hF2 hE2.size
  clear hC3 hS3 h2 hF2
  go_wp2_with fail
  refine (put_any _ _ F3 (wl 8 2) w3 h3).mono ?_
  rintro e w4 ⟨rfl, F4, h4, hC4, hS4⟩
  rw [wk3] at h4 ⊢
  have hE4 := hE3.of_chg hC4 hF3
  have hF4 := hS4.above hF3 hE3.size
  clear hC4 hS4 h3 hF3
  go_wp2_with fail
  refine (victim_any _ _ F4 8 (-1) w4 h4 (by decide) (by decide)).mono ?_
  rintro e w5 ⟨rfl, hE5⟩
  rw [wk4]
  simp only [lnOr, Option.getD_some, Option.isSome_some]
  have H5 := Lib.hid (h4.ext (hE5.alloc (.cells (wl 6 3).cells 39)))
  have hE := hE4.trans (hE5.alloc (.cells (wl 6 3).cells 39))
  have hF5 := hF4
  clear h4
  have hlt : w5.heap.size < (w5.alloc (.cells (wl 6 3).cells 39)).heap.size := by simp
  have hag : (w5.alloc (.cells (wl 6 3).cells 39)).cell? ⟨w5.heap.size, 0, none⟩ = some (.int .u32 6) := by simp [go_sem]; rfl
  go_wp2_with (go_at_call 34; refine (num_any _ _).mono ?_; rintro e w' ⟨rfl, rfl⟩)
  refine (drop_any _ _ F4 4 _ H5.out (by decide) (by decide)).mono ?_
  rintro e w6 ⟨rfl, F6, h6, hC6, hS6⟩
  rw [wk5] at h6 ⊢
  have hE6 := hE.of_chg hC6 hF5
  have hF6 := hS6.above hF5 hE.size
  have H6 := Lib.hid h6
  clear hC6 hS6 H5 hF5 hlt hag h6
  go_wp2_with fail
  refine (drop_any _ _ F6 4 _ H6.out (by decide) (by decide)).mono ?_
  rintro e w7 ⟨rfl, F7, h7, hC7, hS7⟩
  rw [wk6] at h7 ⊢
  have hE7 := hE6.of_chg hC7 hF6
  have hF7 := hS7.above hF6 hE6.size
  have H7 := Lib.hid h7
  clear hC7 hS7 H6 hF6 h7
  go_wp2_with fail
  refine (put_any _ _ F7 (wl 8 2) _ H7.out).mono ?_
  rintro e w8 ⟨rfl, F8, h8, hC8, hS8⟩
  rw [wk7] at h8 ⊢
  have hE8 := hE7.of_chg hC8 hF7
  have H8 := Lib.hid h8
  clear hC8 hS8 H7 hF7 h8
  go_wp2_with (go_at_call 34; refine (num_any _ _).mono ?_; rintro e w' ⟨rfl, rfl⟩)
  refine (len_any _ (some _) F8 _ H8.out (by simp only [flatO, wk8]; decide)).mono ?_
  rintro e w9 ⟨rfl, hE9⟩
  simp only [flatO, wk8]
  go_wp2_with fail
  go_ret
  exact ⟨rfl, hE8.trans hE9⟩
end Go.Proofs
