/- HomeNil, walked. -/
import Derived.Test.YtgggokajapoopaaHv
import Derived.Test.YtgggokajapoopaaHtz
import Derived.Deep.Cut
namespace Go.Proofs
open Go.RowKit
@[go_sem] theorem okCells_enNil : okCells 11 enNil = true := by simp [okCells, enNil, Value.oneCell']
@[go_sem] theorem enNil_size : enNil.size = 11 := rfl
/-- What lies between two calls: the message, the home without anything. -/
structure NilBox (w W : World) (m : Ms) : Prop where
  ext : Ext w W
  box : MsBox W w.heap.size m
  z : W.cell? ⟨w.heap.size + 1, 0, none⟩ = some (.pointer none)
  lt : w.heap.size + 1 < W.heap.size
theorem NilBox.start (w : World) (m : Ms) : NilBox w ((w.alloc (.cells m.cells 79)).alloc (.cells #[.pointer none, .map none] 106)) m := by
  refine ⟨((Ext.refl w).alloc _).alloc _, (MsBox.start w m).ext ((Ext.refl _).alloc _), ?_, by simp⟩
  have h := heap_alloc_new (w.alloc (.cells m.cells 79)) (.cells #[.pointer none, .map none] 106)
  have h' : ((w.alloc (.cells m.cells 79)).alloc (.cells #[.pointer none, .map none] 106)).heap[w.heap.size + 1]? = some (.cells #[.pointer none, .map none] 106 (0, 0)) := by simpa using h
  rw [cell_of_row _ _ 0 _ 106 (0, 0) h']; rfl
theorem NilBox.next {w W W' : World} {m : Ms} (h : NilBox w W m) (hE : Ext W W') : NilBox w W' m :=
  ⟨h.ext.trans hE, h.box.ext hE, (hE.cell (show w.heap.size + 1 < W.heap.size from h.lt)).trans h.z, Nat.lt_of_lt_of_le h.lt hE.size⟩
set_option maxRecDepth 100000 in
set_option maxHeartbeats 4000000 in
theorem lawHomeNil_big (m : Ms) (x : Int) (w : World) (h0 : 0 ≤ x ∧ x < 4294967296) (hx : 0 < x) : Calls Try.prog 15 #[.agg m.cells, .int .u32 x] w fun e w' => e = .returned (.bool true) ∧ Ext w w' := by
  have B0 := Lib.hid (NilBox.start w m)
  have ba := (NilBox.start w m).box.ag
  have bz := (NilBox.start w m).z
  have hx' : (0 < x) = True := eq_true hx
  have H0 := Lib.hid h0
  have HX := Lib.hid hx
  clear h0 hx
  go_enter Try.func15, Try.ntmps15
  go_upto_region 4 with (go_at_call 48; refine (take_nil m _).mono ?_; rintro e w1 ⟨rfl, hE1⟩; have hb := B0.out.next hE1; clear ba bz hE1; have ba := hb.box.ag; have bz := hb.z; have bzl := hb.lt; have B1 := Lib.hid hb; clear hb)
  go_upto_region 5 with (go_at_call 48; refine (take_zero m _ _ bz bzl).mono ?_; rintro e w2 ⟨rfl, hE2⟩; have hb := B1.out.next hE2; clear ba bz bzl hE2; have B2 := Lib.hid hb; clear hb)
  go_upto_region 7 with (first
    | (go_at_call 49; refine (hentry_nil _ x).mono ?_; rintro e w3 ⟨rfl, hE3⟩; have B3 := Lib.hid (B2.out.next hE3); clear hE3)
    | (go_at_call 58; refine (hnew_nil _).mono ?_; rintro e w4 ⟨rfl, rfl⟩))
  go_upto_region 8 with (go_at_call 59; refine (imgNew_any 16 _ rfl).mono ?_; rintro e w5 ⟨ib, bb, rfl, hE5, hi5, -, -⟩; have HE5 := Lib.hid hE5; have HI5 := Lib.hid hi5; clear hE5 hi5)
  go_upto_region 10 with (first
    | (go_at_call 58; refine (hnew_any _ _ _ _ _ HI5.out).mono ?_; rintro e w6 ⟨hb, ib2, bb2, mb, rfl, hE6, hh6, l1, l2, l3, l4⟩; have HE6 := Lib.hid (HE5.out.trans hE6); have HH6 := Lib.hid hh6; clear hE6 hh6 l1 l2 l3 l4)
    | (go_at_call 49; refine (hentry_range _ _ _ _ _ _ _ HH6.out x H0.out (by have := HX.out; simp [Hom.new]; omega)).mono ?_; rintro e w7 ⟨rfl, hE7⟩; have HE7 := Lib.hid (HE6.out.trans hE7); clear hE7))
  go_wp2_with (first
    | (go_at_call 60; refine (hmemory_nil _).mono ?_; rintro e w8 ⟨rfl, rfl⟩)
    | (go_at_call 46; refine (hlines_nil _).mono ?_; rintro e w8 ⟨rfl, rfl⟩)
    | (go_at_call 53; refine (hidle_nil _).mono ?_; rintro e w8 ⟨rfl, hE8⟩; have HE8 := Lib.hid hE8; clear hE8)
    | (go_at_call 54; refine (hcopy_nil _).mono ?_; rintro e w9 ⟨rfl, rfl⟩)
    | (go_at_call 47; refine (known_any _).mono ?_; rintro e w9 ⟨rfl, hE9⟩; have HE9 := Lib.hid hE9; clear hE9))
  go_ret
  exact ⟨rfl, (B3.out.ext.trans ((((Ext.refl w3).alloc _).putAgg _ _ (Nat.le_refl _)).trans HE7.out)).trans (((((Ext.refl w7).alloc _).putAgg _ _ (Nat.le_refl _)).trans HE8.out).trans HE9.out)⟩
set_option maxRecDepth 100000 in
set_option maxHeartbeats 4000000 in
theorem lawHomeNil_zero (m : Ms) (w : World) : Calls Try.prog 15 #[.agg m.cells, .int .u32 0] w fun e w' => e = .returned (.bool true) ∧ Ext w w' := by
  have B0 := Lib.hid (NilBox.start w m)
  have ba := (NilBox.start w m).box.ag
  have bz := (NilBox.start w m).z
  go_enter Try.func15, Try.ntmps15
  go_upto_region 4 with (go_at_call 48; refine (take_nil m _).mono ?_; rintro e w1 ⟨rfl, hE1⟩; have hb := B0.out.next hE1; clear ba bz hE1; have ba := hb.box.ag; have bz := hb.z; have bzl := hb.lt; have B1 := Lib.hid hb; clear hb)
  go_upto_region 5 with (go_at_call 48; refine (take_zero m _ _ bz bzl).mono ?_; rintro e w2 ⟨rfl, hE2⟩; have hb := B1.out.next hE2; clear ba bz bzl hE2; have B2 := Lib.hid hb; clear hb)
  go_upto_region 7 with (first
    | (go_at_call 49; refine (hentry_nil _ 0).mono ?_; rintro e w3 ⟨rfl, hE3⟩; have B3 := Lib.hid (B2.out.next hE3); clear hE3)
    | (go_at_call 58; refine (hnew_nil _).mono ?_; rintro e w4 ⟨rfl, rfl⟩))
  go_upto_region 8 with (go_at_call 59; refine (imgNew_any 16 _ rfl).mono ?_; rintro e w5 ⟨ib, bb, rfl, hE5, hi5, -, -⟩; have HE5 := Lib.hid hE5; have HI5 := Lib.hid hi5; clear hE5 hi5)
  go_upto_region 10 with (first
    | (go_at_call 58; refine (hnew_any _ _ _ _ _ HI5.out).mono ?_; rintro e w6 ⟨hb, ib2, bb2, mb, rfl, hE6, hh6, l1, l2, l3, l4⟩; have HE6 := Lib.hid (HE5.out.trans hE6); have HH6 := Lib.hid hh6; clear hE6 hh6 l1 l2 l3 l4)
    | (go_at_call 49; refine (hentry_any _ _ _ _ _ _ _ HH6.out 0 (by decide) (by decide) (by decide)).mono ?_; rintro e w7 ⟨v7, o7, rfl, hE7, hs7⟩; obtain ⟨a7, c7, rfl, -⟩ := hs7.row Ms.okCells; clear hs7; have HE7 := Lib.hid (HE6.out.trans hE7); clear hE7))
  go_wp2_with (first
    | (go_at_call 60; refine (hmemory_nil _).mono ?_; rintro e w8 ⟨rfl, rfl⟩)
    | (go_at_call 46; refine (hlines_nil _).mono ?_; rintro e w8 ⟨rfl, rfl⟩)
    | (go_at_call 53; refine (hidle_nil _).mono ?_; rintro e w8 ⟨rfl, hE8⟩; have HE8 := Lib.hid hE8; clear hE8)
    | (go_at_call 54; refine (hcopy_nil _).mono ?_; rintro e w9 ⟨rfl, rfl⟩)
    | (go_at_call 47; refine (known_any _).mono ?_; rintro e w9 ⟨rfl, hE9⟩; have HE9 := Lib.hid hE9; clear hE9))
  go_ret
  exact ⟨rfl, (B3.out.ext.trans ((((Ext.refl w3).alloc _).putAgg _ _ (Nat.le_refl _)).trans HE7.out)).trans ((((Ext.refl w7).alloc _).trans HE8.out).trans HE9.out)⟩
theorem lawHomeNil (m : Ms) (x : Int) (w : World) (h0 : 0 ≤ x ∧ x < 4294967296) : Calls Try.prog 15 #[.agg m.cells, .int .u32 x] w fun e w' => e = .returned (.bool true) ∧ Ext w w' := by
  by_cases hx : 0 < x
  · exact lawHomeNil_big m x w h0 hx
  · have : x = 0 := by omega
    subst this
    exact lawHomeNil_zero m w
end Go.Proofs
