/- Walks: the functions of package lines: Put. -/
import Derived.Test.YtgggokajapoopaaL4
import Derived.StillTailTactics
import Derived.Deep.RegionLaw
import Derived.BigRegion
namespace Go.Proofs
open Go.RowKit
set_option maxRecDepth 100000 in
set_option maxHeartbeats 400000 in
theorem put_at (B S : Nat) (vs : Array Value) (os : Nat → Option Nat) (c : Lns) (l : Ln) (w : World) (hb : LinesBody w B S vs os c) (hst : 1 ≤ l.st ∧ l.st ≤ 3)
    (g cap i : Nat) (x : Ln) (hS : S < w.heap.size) (hg0 : g < w.heap.size) (hc : w.cell? ⟨S, c.setNo l.num, none⟩ = some (.slice (some ⟨g, 0, none⟩) (c.of l.num).length cap))
    (HI : Hid (idxOf l.num (c.of l.num) = (i : Int))) (hg : w.agg? ⟨g, i * 18, none⟩ 18 = some x.cells) (hil : i < (c.of l.num).length) (hlo : w.loose g = true) :
    Calls Try.prog 35 #[.pointer (some ⟨B, 0, none⟩), .agg l.cells] w fun e w' => e = .returned (.int .i64 0) ∧ ∃ w1, Ext w w1 ∧ w' = w1.putAgg ⟨g, i * 18, none⟩ l.cells := by
  obtain ⟨h1, h3⟩ := hst
  have h0 := l.ok.1.1
  have h4 := l.ok.1.2
  go_enter Try.func35, Try.ntmps35
  go_wp2_with fail
  refine (none_body (hb.ext ((Ext.refl w).alloc _))).mono ?_
  rintro e w1 ⟨rfl, rfl⟩
  go_wp2_with fail
  refine (of_body (hb.ext ((Ext.refl w).alloc _)) l.num h0 h4).mono ?_
  rintro e w1 ⟨rfl, hE⟩
  rw [HI.out]
  obtain ⟨r1, r2, r3, r5, r4⟩ := hE.rules
  go_wp2_with fail
  go_still_tail 6, (by kernel_rfl)
  change wpList _ _ _ _ _ w1.drew
  go_wp2_with fail
  go_ret
  exact ⟨rfl, w1.drew, (((Ext.refl w).alloc _).trans hE).drew, rfl⟩
theorem Try.info39 : (Try.prog.info? 39).map (fun i => (i.zero, i.size, i.bytes)) = some (some (.agg Ln.zero.cells), 18, 32) := by kernel_rfl
theorem grownBy_cell {w w' : World} {o : Option Nat} (h : w.grownBy w' o) {b : Nat} (hb : b < w.heap.size) (ho : o ≠ some b) (j : Nat) : w'.cell? ⟨b, j, none⟩ = w.cell? ⟨b, j, none⟩ ∧ w'.frozen? ⟨b, j, none⟩ = w.frozen? ⟨b, j, none⟩ :=
  ⟨World.cell?_of_block (w := w) (a := ⟨b, j, none⟩) (h.block b hb (Ne.symm ho)), World.frozen?_of_block (w := w) (a := ⟨b, j, none⟩) (h.block b hb (Ne.symm ho))⟩
/-- What Put leaves where a line came behind the others of its set. -/
def PutNew (w : World) (S i : Nat) (L : List Ln) (o : Option Nat) (e : Ending) (w' : World) : Prop :=
  e = .returned (.int .i64 0) ∧ ∃ W v' o' w1, Ext w W ∧ SetAt w1 v' L o' ∧ W.grownBy w1 o ∧ (o' = o ∨ ∃ g, o' = some g ∧ W.heap.size ≤ g) ∧ w' = w1.setCell ⟨S, i, none⟩ v'
set_option maxRecDepth 100000 in
set_option maxHeartbeats 400000 in
theorem put_new (B S : Nat) (vs : Array Value) (os : Nat → Option Nat) (c : Lns) (l : Ln) (w : World) (hb : LinesBody w B S vs os c) (hst : 1 ≤ l.st ∧ l.st ≤ 3)
    (a : Option Addr) (cap : Nat) (hS : S < w.heap.size) (hc : w.cell? ⟨S, c.setNo l.num, none⟩ = some (.slice a (c.of l.num).length cap)) (hf : w.frozen? ⟨S, c.setNo l.num, none⟩ = false)
    (hw : w.cell? ⟨B, 1, none⟩ = some (.int .i64 c.ways)) (o : Option Nat) (hsl : SetAt w (.slice a (c.of l.num).length cap) (c.of l.num) o) (hoS : o ≠ some S)
    (HI : Hid (idxOf l.num (c.of l.num) = -1)) (hlt : (c.of l.num).length < c.ways) (hw8 : c.ways ≤ 8) :
    Calls Try.prog 35 #[.pointer (some ⟨B, 0, none⟩), .agg l.cells] w (PutNew w S (c.setNo l.num) (c.of l.num ++ [l]) o) := by
  obtain ⟨h1, h3⟩ := hst
  have h0 := l.ok.1.1
  have h4 := l.ok.1.2
  have hB : B < w.heap.size := World.block_lt_of_cell? w _ hw
  obtain ⟨i0, hi, hz0, hz1, hz2⟩ := info_parts Try.info39
  have HO := Lib.hid hoS
  clear hoS
  go_enter Try.func35, Try.ntmps35
  go_wp2_with fail
  refine (none_body (hb.ext ((Ext.refl w).alloc _))).mono ?_
  rintro e w1 ⟨rfl, rfl⟩
  go_wp2_with fail
  refine (of_body (hb.ext ((Ext.refl w).alloc _)) l.num h0 h4).mono ?_
  rintro e w1 ⟨rfl, hE⟩
  rw [HI.out]
  obtain ⟨r1, r2, r3, r5, r4⟩ := hE.rules
  have hd : ((c.ways : Int) ≤ ((c.of l.num).length : Int)) = False := by simp; omega
  go_wp2_with fail
  go_quiet (fail)
  clear r1 r2 r3 r4 r5
  have hE2 := hE.drewN nq
  clear hE
  generalize w1.drewN nq = w2 at *
  clear w1
  obtain ⟨r1, r2, r3, r5, r4⟩ := hE2.rules
  have hEw : Ext w w2 := ((Ext.refl w).alloc _).trans hE2
  have HS : ∀ X, SetAt (w2.alloc X).drew (.slice a (c.of l.num).length cap) (c.of l.num) o := fun X => hsl.ext (hEw.alloc X).drew
  have HSS := Lib.hid HS
  have hS2 : S < w2.heap.size := hEw.lt hS
  clear HS hd hsl hw
  go_wp2_with fail
  go_region_law (refine step_append_sl rfl (.tmp 27) (.tmp 29) 26 rfl i0 _ Try.underlying26 hi hz0 hz1 (by rfl) (by decide) (by rw [hz2]; decide) Ln.okCells _ _ o (HSS.out _) _ _ [l] (Row_alloc_one Ln.okCells w2 l 39) rfl rfl (by simp; omega) ?_; intro v' o' w' k1 k2 k3; obtain ⟨a', cap', rfl, -⟩ := k1.row Ln.okCells; obtain ⟨c1, c2⟩ := grownBy_cell k2 (b := S) (by simp; omega) HO.out (c.setNo l.num))
  all_goals
    go_wp2_with fail
    go_ret
    exact ⟨rfl, (w2.alloc (.cells l.cells 39)).drew, _, _, _, (hEw.alloc _).drew, k1, k2, k3, by simp⟩
set_option maxRecDepth 100000 in
set_option maxHeartbeats 400000 in
theorem put_full (B S : Nat) (vs : Array Value) (os : Nat → Option Nat) (c : Lns) (l : Ln) (w : World) (hb : LinesBody w B S vs os c) (hst : 1 ≤ l.st ∧ l.st ≤ 3)
    (a : Option Addr) (cap : Nat) (hS : S < w.heap.size) (hc : w.cell? ⟨S, c.setNo l.num, none⟩ = some (.slice a (c.of l.num).length cap))
    (hw : w.cell? ⟨B, 1, none⟩ = some (.int .i64 c.ways)) 
    (HI : Hid (idxOf l.num (c.of l.num) = -1)) (hlt : c.ways ≤ (c.of l.num).length) :
    Calls Try.prog 35 #[.pointer (some ⟨B, 0, none⟩), .agg l.cells] w fun e w' => e = .returned (.int .i64 200) ∧ Ext w w' := by
  obtain ⟨h1, h3⟩ := hst
  have h0 := l.ok.1.1
  have h4 := l.ok.1.2
  have hB : B < w.heap.size := World.block_lt_of_cell? w _ hw
  go_enter Try.func35, Try.ntmps35
  go_wp2_with fail
  refine (none_body (hb.ext ((Ext.refl w).alloc _))).mono ?_
  rintro e w1 ⟨rfl, rfl⟩
  go_wp2_with fail
  refine (of_body (hb.ext ((Ext.refl w).alloc _)) l.num h0 h4).mono ?_
  rintro e w1 ⟨rfl, hE⟩
  rw [HI.out]
  obtain ⟨r1, r2, r3, r5, r4⟩ := hE.rules
  have hd : ((c.ways : Int) ≤ ((c.of l.num).length : Int)) = True := by simp; omega
  go_wp2_with fail
  go_quiet (fail)
  go_wp2_with fail
  go_ret
  exact ⟨rfl, ((Ext.refl w).alloc _).trans (hE.drewN _)⟩
set_option maxRecDepth 100000 in
set_option maxHeartbeats 400000 in
theorem put_bad (B S : Nat) (vs : Array Value) (os : Nat → Option Nat) (c : Lns) (l : Ln) (w : World) (hb : LinesBody w B S vs os c) (hst : l.st < 1 ∨ 3 < l.st) :
    Calls Try.prog 35 #[.pointer (some ⟨B, 0, none⟩), .agg l.cells] w fun e w' => e = .returned (.int .i64 2) ∧ Ext w w' := by
  rcases hst with hst | hst
  all_goals
    go_enter Try.func35, Try.ntmps35
    go_wp2_with fail
    refine (none_body (hb.ext ((Ext.refl w).alloc _))).mono ?_
    rintro e w1 ⟨rfl, rfl⟩
    go_wp2_with fail
    go_ret
    exact ⟨rfl, (Ext.refl w).alloc _⟩
end Go.Proofs
