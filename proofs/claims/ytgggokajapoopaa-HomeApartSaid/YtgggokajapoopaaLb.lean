import Derived.Test.YtgggokajapoopaaLa
import Derived.Test.YtgggokajapoopaaObj
import Derived.StillTailTactics
import Derived.Deep.RegionLaw
import Derived.BigRegion
/- Walks: the functions of package lines. -/
namespace Go.Proofs
open Go.RowKit
theorem Try.info26 : (Try.prog.info? 26).map (fun i => (i.zero, i.size, i.bytes)) = some (some (.slice none 0 0), 1, 24) := by kernel_rfl
def pow2 (n : Nat) : Bool := n == 1 || n == 2 || n == 4 || n == 8 || n == 16 || n == 32 || n == 64
theorem bits_pow2 (n : Nat) (h : pow2 n = true) : bits BinOp.and IntKind.i64 (n : Int) ((n : Int) - 1) = 0 := by
  simp only [pow2, Bool.or_eq_true, beq_iff_eq] at h
  rcases h with (((((rfl | rfl) | rfl) | rfl) | rfl) | rfl) | rfl <;> kernel_rfl
/-- n nil slices. -/
def nils (n : Nat) : Array Value := Array.replicate n (.slice none 0 0)
theorem madeCells_nils (n : Nat) : madeCells (Value.slice none 0 0).cells (n * 1) = nils n := by
  apply Array.ext
  · simp [madeCells, nils]
  · intro i h1 h2
    simp [madeCells, nils, Value.cells, Nat.mod_one]
theorem run_make170 (w : World) (n : Nat) (hn : n ≤ 64) : (Instr.makeSlice 170 (.int .i64 n) (.int .i64 n)).run Try.prog w = .ok (.slice (some ⟨w.heap.size, 0, none⟩) n n) (w.alloc (.cells (nils n) 26)) := by
  obtain ⟨i0, hi, hz0, hz1, hz2⟩ := info_parts Try.info26
  have := run_make (P := Try.prog) w 170 26 i0 (.slice none 0 0) Try.underlying170 hi hz0 .i64 .i64 n n (by omega) (by omega) (by rw [hz2]; omega) (by omega)
  rw [this, hz1]
  simp only [Int.toNat_natCast, madeCells_nils]
set_option maxRecDepth 100000 in
set_option maxHeartbeats 400000 in
theorem new_any (n ways : Nat) (w : World) (h1 : pow2 n = true) (h3 : 1 ≤ ways) (h4 : ways ≤ 8) :
    Calls Try.prog 32 #[.int .i64 n, .int .i64 ways] w fun e w' => ∃ p, e = .returned (.tuple #[p, .int .i64 0]) ∧ Ext w w' ∧ ∃ F, LinesAt w' p ⟨ways, List.replicate n []⟩ F ∧ ∀ b, F b → w.heap.size ≤ b := by
  have hb := bits_pow2 n h1
  have hn : 1 ≤ n ∧ n ≤ 64 := by simp only [pow2, Bool.or_eq_true, beq_iff_eq] at h1; omega
  obtain ⟨hn1, hn2⟩ := hn
  have hmk := fun w => run_make170 w n hn2
  clear h1
  go_enter Try.func32, Try.ntmps32
  go_wp2_with fail
  go_ret2
  refine ⟨_, rfl, ((Ext.refl w).alloc _).alloc _, _, ⟨w.heap.size + 1, w.heap.size, nils n, fun _ => none, rfl, ?_, fun b => Iff.rfl⟩, ?_⟩
  · refine ⟨⟨by simpa using hn1, by simpa using hn2, h3, h4, ?_⟩, ?_, ?_, by simp [nils], ?_, by omega, by simp, by simp⟩
    · intro L hL
      obtain ⟨_, rfl⟩ := List.mem_replicate.1 hL
      simp
    · rw [heap_alloc2_new]
      simp
    · rw [heap_alloc2_old]
    · intro i L hi
      rw [List.getElem?_replicate] at hi
      split at hi
      · rename_i hin
        cases hi
        exact ⟨.slice none 0 0, by simp [nils, hin], .inl ⟨rfl, rfl, none, rfl⟩⟩
      · cases hi
  · rintro b (rfl | rfl | ⟨i, hi⟩)
    · omega
    · omega
    · cases hi
end Go.Proofs
/- Walks: the functions of package lines. -/
namespace Go.Proofs
open Go.RowKit
theorem of_body {B S : Nat} {vs : Array Value} {os : Nat → Option Nat} {c : Lns} {w : World} (h : LinesBody w B S vs os c) (n : Int) (h0 : 0 ≤ n) (h1 : n < 4294967296) :
    Calls Try.prog 88 #[.pointer (some ⟨B, 0, none⟩), .int .u32 n] w fun e w' => e = .returned (.tuple #[.pointer (some ⟨S, c.setNo n, none⟩), .int .i64 (idxOf n (c.of n))]) ∧ Ext w w' := by
  obtain ⟨v, hv, hs, hc⟩ := h.set n
  obtain ⟨a, cap, rfl, hr⟩ := hs.row Ln.okCells
  have hl := Lns.of_len h.ok n
  have := h.ok.w8
  exact of_any B S c.sets.length n a cap (c.of n) w (by rw [cell_of_row w B 0 _ 172 (0, 0) h.hB]; rfl) h.ok.s1 h.ok.s64 h0 h1 hc hr (by omega)
theorem none_body {B S : Nat} {vs : Array Value} {os : Nat → Option Nat} {c : Lns} {w : World} (h : LinesBody w B S vs os c) :
    Calls Try.prog 87 #[.pointer (some ⟨B, 0, none⟩)] w fun e w' => e = .returned (.bool false) ∧ w = w' := by
  have := h.ok.w1
  refine (none_some B c.ways w (by rw [cell_of_row w B 1 _ 172 (0, 0) h.hB]; rfl)).mono ?_
  rintro e w' ⟨rfl, rfl⟩
  exact ⟨ret_bool (by simp; omega), rfl⟩
set_option maxRecDepth 100000 in
set_option maxHeartbeats 400000 in
theorem find_any (p : Value) (c : Lns) (F : Nat → Prop) (n : Int) (w : World) (h : LinesAt w p c F) (h0 : 0 ≤ n) (h1 : n < 4294967296) :
    Calls Try.prog 28 #[p, .int .u32 n] w fun e w' => e = .returned (.tuple #[.agg (lnOr (lookup n (c.of n))).cells, .bool (lookup n (c.of n)).isSome]) ∧ Ext w w' := by
  obtain ⟨B, S, vs, os, rfl, hb, hF⟩ := h
  obtain ⟨v, hv, hs, hc⟩ := hb.set n
  obtain ⟨a, cap, rfl, hr⟩ := hs.row Ln.okCells
  clear hs hv hF
  have hS : S < w.heap.size := World.block_lt_of_cell? w _ hc
  rcases idxOf_cases n (c.of n) with ⟨i, x, hi, hx, -, hil, hl, -⟩ | ⟨hi, hl, -⟩
  · rw [hl]
    have HI := Lib.hid hi
    obtain ⟨b, off, rfl, hg⟩ := hr i x hx
    have hb0 : b < w.heap.size := World.agg?_lt hg
    clear hi hl hr hx
    go_enter Try.func28, Try.ntmps28
    go_wp2_with fail
    refine (none_body (hb.ext ((Ext.refl w).alloc _))).mono ?_
    rintro e w1 ⟨rfl, rfl⟩
    go_wp2_with fail
    refine (of_body (hb.ext ((Ext.refl w).alloc _)) n h0 h1).mono ?_
    rintro e w1 ⟨rfl, hE⟩
    rw [HI.out]
    obtain ⟨r1, r2, r3, r5, r4⟩ := hE.rules
    go_wp2_with fail
    refine bodyPost_ret (resCT rfl _ _ ⟨w.heap.size, 0, none⟩ (.agg x.cells) rfl (run_loadVar_agg 39 18 Try.isAgg39 Try.sizeOf39 _ _ _ (by simp [go_sem, r3]))) rfl ⟨rfl, ?_⟩
    exact (((Ext.refl w).alloc _).trans hE).putAgg _ _ (Nat.le_refl _)
  · rw [hl]
    have HI := Lib.hid hi
    clear hi hl hr
    go_enter Try.func28, Try.ntmps28
    go_wp2_with fail
    refine (none_body (hb.ext ((Ext.refl w).alloc _))).mono ?_
    rintro e w1 ⟨rfl, rfl⟩
    go_wp2_with fail
    refine (of_body (hb.ext ((Ext.refl w).alloc _)) n h0 h1).mono ?_
    rintro e w1 ⟨rfl, hE⟩
    rw [HI.out]
    obtain ⟨r1, r2, r3, r5, r4⟩ := hE.rules
    go_wp2_with fail
    refine bodyPost_ret (resCT rfl _ _ ⟨w.heap.size, 0, none⟩ (.agg Ln.zero.cells) rfl (run_loadVar_agg 39 18 Try.isAgg39 Try.sizeOf39 _ _ _ (by simp [go_sem, r3]))) rfl ⟨rfl, ?_⟩
    exact (((Ext.refl w).alloc _).trans hE)
end Go.Proofs
/- Walks: the functions of package lines: Put. -/
namespace Go.Proofs
open Go.RowKit
set_option maxRecDepth 100000 in
set_option maxHeartbeats 400000 in
theorem put_at (B S : Nat) (vs : Array Value) (os : Nat → Option Nat) (c : Lns) (l : Ln) (w : World) (hb : LinesBody w B S vs os c) (hst : 1 ≤ l.st ∧ l.st ≤ 3)
    (g cap i : Nat) (x : Ln) (hS : S < w.heap.size) (hg0 : g < w.heap.size) (hc : w.cell? ⟨S, c.setNo l.num, none⟩ = some (.slice (some ⟨g, 0, none⟩) (c.of l.num).length cap))
    (HI : Hid (idxOf l.num (c.of l.num) = (i : Int))) (hg : w.agg? ⟨g, i * 18, none⟩ 18 = some x.cells) (hil : i < (c.of l.num).length) (hlo : w.loose g = true) :
    Calls Try.prog 35 #[.pointer (some ⟨B, 0, none⟩), .agg l.cells] w fun e w' => e = .returned (.int .i64 0) ∧ ∃ w1, Ext w w1 ∧ w' = w1.putAgg ⟨g, i * 18, none⟩ l.cells := by
  obtain ⟨h1, h3⟩ := hst
  have h0 := l.ok.1.1
  have h4 := l.ok.1.2
  go_enter Try.func35, Try.ntmps35
  go_wp2_with fail
  refine (none_body (hb.ext ((Ext.refl w).alloc _))).mono ?_
  rintro e w1 ⟨rfl, rfl⟩
  go_wp2_with fail
  refine (of_body (hb.ext ((Ext.refl w).alloc _)) l.num h0 h4).mono ?_
  rintro e w1 ⟨rfl, hE⟩
  rw [HI.out]
  obtain ⟨r1, r2, r3, r5, r4⟩ := hE.rules
  go_wp2_with fail
  go_still_tail 6, (by kernel_rfl)
  change wpList _ _ _ _ _ w1.drew
  go_wp2_with fail
  go_ret
  exact ⟨rfl, w1.drew, (((Ext.refl w).alloc _).trans hE).drew, rfl⟩
theorem Try.info39 : (Try.prog.info? 39).map (fun i => (i.zero, i.size, i.bytes)) = some (some (.agg Ln.zero.cells), 18, 32) := by kernel_rfl
theorem grownBy_cell {w w' : World} {o : Option Nat} (h : w.grownBy w' o) {b : Nat} (hb : b < w.heap.size) (ho : o ≠ some b) (j : Nat) : w'.cell? ⟨b, j, none⟩ = w.cell? ⟨b, j, none⟩ ∧ w'.frozen? ⟨b, j, none⟩ = w.frozen? ⟨b, j, none⟩ :=
  ⟨World.cell?_of_block (w := w) (a := ⟨b, j, none⟩) (h.block b hb (Ne.symm ho)), World.frozen?_of_block (w := w) (a := ⟨b, j, none⟩) (h.block b hb (Ne.symm ho))⟩
/-- What Put leaves where a line came behind the others of its set. -/
def PutNew (w : World) (S i : Nat) (L : List Ln) (o : Option Nat) (e : Ending) (w' : World) : Prop :=
  e = .returned (.int .i64 0) ∧ ∃ W v' o' w1, Ext w W ∧ SetAt w1 v' L o' ∧ W.grownBy w1 o ∧ (o' = o ∨ ∃ g, o' = some g ∧ W.heap.size ≤ g) ∧ w' = w1.setCell ⟨S, i, none⟩ v'
set_option maxRecDepth 100000 in
set_option maxHeartbeats 400000 in
theorem put_new (B S : Nat) (vs : Array Value) (os : Nat → Option Nat) (c : Lns) (l : Ln) (w : World) (hb : LinesBody w B S vs os c) (hst : 1 ≤ l.st ∧ l.st ≤ 3)
    (a : Option Addr) (cap : Nat) (hS : S < w.heap.size) (hc : w.cell? ⟨S, c.setNo l.num, none⟩ = some (.slice a (c.of l.num).length cap)) (hf : w.frozen? ⟨S, c.setNo l.num, none⟩ = false)
    (hw : w.cell? ⟨B, 1, none⟩ = some (.int .i64 c.ways)) (o : Option Nat) (hsl : SetAt w (.slice a (c.of l.num).length cap) (c.of l.num) o) (hoS : o ≠ some S)
    (HI : Hid (idxOf l.num (c.of l.num) = -1)) (hlt : (c.of l.num).length < c.ways) (hw8 : c.ways ≤ 8) :
    Calls Try.prog 35 #[.pointer (some ⟨B, 0, none⟩), .agg l.cells] w (PutNew w S (c.setNo l.num) (c.of l.num ++ [l]) o) := by
  obtain ⟨h1, h3⟩ := hst
  have h0 := l.ok.1.1
  have h4 := l.ok.1.2
  have hB : B < w.heap.size := World.block_lt_of_cell? w _ hw
  obtain ⟨i0, hi, hz0, hz1, hz2⟩ := info_parts Try.info39
  have HO := Lib.hid hoS
  clear hoS
  go_enter Try.func35, Try.ntmps35
  go_wp2_with fail
  refine (none_body (hb.ext ((Ext.refl w).alloc _))).mono ?_
  rintro e w1 ⟨rfl, rfl⟩
  go_wp2_with fail
  refine (of_body (hb.ext ((Ext.refl w).alloc _)) l.num h0 h4).mono ?_
  rintro e w1 ⟨rfl, hE⟩
  rw [HI.out]
  obtain ⟨r1, r2, r3, r5, r4⟩ := hE.rules
  have hd : ((c.ways : Int) ≤ ((c.of l.num).length : Int)) = False := by simp; omega
  go_wp2_with fail
  go_quiet (fail)
  clear r1 r2 r3 r4 r5
  have hE2 := hE.drewN nq
  clear hE
  generalize w1.drewN nq = w2 at *
  clear w1
  obtain ⟨r1, r2, r3, r5, r4⟩ := hE2.rules
  have hEw : Ext w w2 := ((Ext.refl w).alloc _).trans hE2
  have HS : ∀ X, SetAt (w2.alloc X).drew (.slice a (c.of l.num).length cap) (c.of l.num) o := fun X => hsl.ext (hEw.alloc X).drew
  have HSS := Lib.hid HS
  have hS2 : S < w2.heap.size := hEw.lt hS
  clear HS hd hsl hw
  go_wp2_with fail
  go_region_law (refine step_append_sl rfl (.tmp 27) (.tmp 29) 26 rfl i0 _ Try.underlying26 hi hz0 hz1 (by rfl) (by decide) (by rw [hz2]; decide) Ln.okCells _ _ o (HSS.out _) _ _ [l] (Row_alloc_one Ln.okCells w2 l 39) rfl rfl (by simp; omega) ?_; intro v' o' w' k1 k2 k3; obtain ⟨a', cap', rfl, -⟩ := k1.row Ln.okCells; obtain ⟨c1, c2⟩ := grownBy_cell k2 (b := S) (by simp; omega) HO.out (c.setNo l.num))
  all_goals
    go_wp2_with fail
    go_ret
    exact ⟨rfl, (w2.alloc (.cells l.cells 39)).drew, _, _, _, (hEw.alloc _).drew, k1, k2, k3, by simp⟩
set_option maxRecDepth 100000 in
set_option maxHeartbeats 400000 in
theorem put_full (B S : Nat) (vs : Array Value) (os : Nat → Option Nat) (c : Lns) (l : Ln) (w : World) (hb : LinesBody w B S vs os c) (hst : 1 ≤ l.st ∧ l.st ≤ 3)
    (a : Option Addr) (cap : Nat) (hS : S < w.heap.size) (hc : w.cell? ⟨S, c.setNo l.num, none⟩ = some (.slice a (c.of l.num).length cap))
    (hw : w.cell? ⟨B, 1, none⟩ = some (.int .i64 c.ways)) 
    (HI : Hid (idxOf l.num (c.of l.num) = -1)) (hlt : c.ways ≤ (c.of l.num).length) :
    Calls Try.prog 35 #[.pointer (some ⟨B, 0, none⟩), .agg l.cells] w fun e w' => e = .returned (.int .i64 200) ∧ Ext w w' := by
  obtain ⟨h1, h3⟩ := hst
  have h0 := l.ok.1.1
  have h4 := l.ok.1.2
  have hB : B < w.heap.size := World.block_lt_of_cell? w _ hw
  go_enter Try.func35, Try.ntmps35
  go_wp2_with fail
  refine (none_body (hb.ext ((Ext.refl w).alloc _))).mono ?_
  rintro e w1 ⟨rfl, rfl⟩
  go_wp2_with fail
  refine (of_body (hb.ext ((Ext.refl w).alloc _)) l.num h0 h4).mono ?_
  rintro e w1 ⟨rfl, hE⟩
  rw [HI.out]
  obtain ⟨r1, r2, r3, r5, r4⟩ := hE.rules
  have hd : ((c.ways : Int) ≤ ((c.of l.num).length : Int)) = True := by simp; omega
  go_wp2_with fail
  go_quiet (fail)
  go_wp2_with fail
  go_ret
  exact ⟨rfl, ((Ext.refl w).alloc _).trans (hE.drewN _)⟩
set_option maxRecDepth 100000 in
set_option maxHeartbeats 400000 in
theorem put_bad (B S : Nat) (vs : Array Value) (os : Nat → Option Nat) (c : Lns) (l : Ln) (w : World) (hb : LinesBody w B S vs os c) (hst : l.st < 1 ∨ 3 < l.st) :
    Calls Try.prog 35 #[.pointer (some ⟨B, 0, none⟩), .agg l.cells] w fun e w' => e = .returned (.int .i64 2) ∧ Ext w w' := by
  rcases hst with hst | hst
  all_goals
    go_enter Try.func35, Try.ntmps35
    go_wp2_with fail
    refine (none_body (hb.ext ((Ext.refl w).alloc _))).mono ?_
    rintro e w1 ⟨rfl, rfl⟩
    go_wp2_with fail
    go_ret
    exact ⟨rfl, (Ext.refl w).alloc _⟩
end Go.Proofs
