import Derived.Test.YtgggokajapoopaaMp
import Derived.Deep.RegionHeld3
/- What message may be: the program's Check. -/
namespace Go
open Go.RowKit
/-- What a kind wants: does it go to the home, has it bytes? -/
def wantOf (x : Int) : Option (Bool × Bool) :=
  if x = 1 ∨ x = 2 ∨ x = 12 ∨ x = 13 then some (true, false) else if x = 3 ∨ x = 11 then some (true, true)
  else if x = 4 ∨ x = 5 ∨ x = 6 ∨ x = 7 then some (false, false) else if x = 8 ∨ x = 9 ∨ x = 10 then some (false, true) else none
def wantV (o : Option (Bool × Bool)) : Option Value := o.map fun p => .agg #[.bool p.1, .bool p.2]
@[go_sem] theorem wantV_some (a b : Bool) : wantV (some (a, b)) = some (.agg #[.bool a, .bool b]) := rfl
@[go_sem] theorem wantV_none : wantV none = none := rfl
/-- May a message be? -/
def Ms.may (m : Ms) : Bool := match wantOf m.kind with
  | none => false
  | some (true, y) => decide (m.to = 4) && (decide (0 ≤ m.frm) && (decide (m.frm < 4) && (y || decide (m.b = B16.zero))))
  | some (false, y) => decide (m.frm = 4) && (decide (0 ≤ m.to) && (decide (m.to < 4) && (y || decide (m.b = B16.zero))))
def chk (m : Ms) : Int := if m.may then 0 else 2
end Go
namespace Go.Proofs
open Go.RowKit
set_option maxRecDepth 100000 in
set_option maxHeartbeats 1000000 in
theorem wants_any (w : World) : Calls Try.prog 141 #[] w fun e w' => ∃ mb, e = .returned (.map (some mb)) ∧ Ext w w' ∧ w'.imap mb .i64 ∧ (∀ x, w'.mapGet mb .i64 x = wantV (wantOf x)) ∧ w.heap.size ≤ mb := by
  have hmm := @run_makeMap Try.prog
  go_enter Try.func141, Try.ntmps141
  go_wp2_with fail
  go_ret
  refine ⟨_, rfl, ?_, ?_, fun x => ?_, Nat.le_refl _⟩
  · have h0 := (Ext.refl w).alloc (.map #[] 0)
    iterate 13 refine Ext.mapPut ?_ _ _ _ _ (Nat.le_refl _)
    exact h0
  · simp only [World.imap_mapPut]
    simp [go_sem]
  · simp only [World.mapGet_mapPut_same, World.imap_mapPut, World.imap_made, World.mapGet_made]
    unfold wantOf wantV
    by_cases h : 1 ≤ x ∧ x ≤ 13
    · have : x = 1 ∨ x = 2 ∨ x = 3 ∨ x = 4 ∨ x = 5 ∨ x = 6 ∨ x = 7 ∨ x = 8 ∨ x = 9 ∨ x = 10 ∨ x = 11 ∨ x = 12 ∨ x = 13 := by omega
      rcases this with rfl | rfl | rfl | rfl | rfl | rfl | rfl | rfl | rfl | rfl | rfl | rfl | rfl <;> rfl
    · simp only [show ((1 : Int) = x) = False from eq_false (by omega), show ((2 : Int) = x) = False from eq_false (by omega), show ((3 : Int) = x) = False from eq_false (by omega), show ((4 : Int) = x) = False from eq_false (by omega), show ((5 : Int) = x) = False from eq_false (by omega), show ((6 : Int) = x) = False from eq_false (by omega), show ((7 : Int) = x) = False from eq_false (by omega), show ((8 : Int) = x) = False from eq_false (by omega), show ((9 : Int) = x) = False from eq_false (by omega), show ((10 : Int) = x) = False from eq_false (by omega), show ((11 : Int) = x) = False from eq_false (by omega), show ((12 : Int) = x) = False from eq_false (by omega), show ((13 : Int) = x) = False from eq_false (by omega), show (x = 1) = False from eq_false (by omega), show (x = 2) = False from eq_false (by omega), show (x = 3) = False from eq_false (by omega), show (x = 4) = False from eq_false (by omega), show (x = 5) = False from eq_false (by omega), show (x = 6) = False from eq_false (by omega), show (x = 7) = False from eq_false (by omega), show (x = 8) = False from eq_false (by omega), show (x = 9) = False from eq_false (by omega), show (x = 10) = False from eq_false (by omega), show (x = 11) = False from eq_false (by omega), show (x = 12) = False from eq_false (by omega), show (x = 13) = False from eq_false (by omega), if_false, or_false, Option.map_none]
theorem keepK {W0 W W' : World} {A : Nat} {k : Value} (hl : A < W0.heap.size) (h : Ext W0 W ∧ W.cell? ⟨A, 0, none⟩ = some k) (hE : Ext W W') : Ext W0 W' ∧ W'.cell? ⟨A, 0, none⟩ = some k :=
  ⟨h.1.trans hE, (hE.cell (Nat.lt_of_lt_of_le hl h.1.size)).trans h.2⟩
theorem keepK2 {W0 W : World} {A B : Nat} {k v : Value} {i : Nat} (hl : A < W0.heap.size) (h : Ext W0 W ∧ W.cell? ⟨A, 0, none⟩ = some k) (hB : W0.heap.size ≤ B) : Ext W0 (W.setCell ⟨B, i, none⟩ v) ∧ (W.setCell ⟨B, i, none⟩ v).cell? ⟨A, 0, none⟩ = some k :=
  ⟨h.1.setCell _ _ hB, by rw [World.cell?_of_block (w := W) (a := ⟨A, 0, none⟩) (heap_setCell_other _ _ _ _ (by simp only; omega))]; exact h.2⟩
set_option maxRecDepth 100000 in
set_option maxHeartbeats 1000000 in
theorem check_none (m : Ms) (w : World) (hw : wantOf m.kind = none) :
    Calls Try.prog 101 #[.agg m.cells] w fun e w' => e = .returned (.int .i64 2) ∧ Ext w w' := by
  have HB := Lib.hid (MsBox.start w m)
  obtain ⟨bk, bf, bt, bl, bb, ba, blt⟩ := MsBox.start w m
  go_enter Try.func101, Try.ntmps101
  go_wp2_with fail
  go_region_held3 (fun W => Ext (w.alloc (.cells m.cells 79)) W ∧ W.cell? ⟨w.heap.size, 0, none⟩ = some (.int .i64 m.kind))
    ((first | exact ⟨(Ext.refl _).drew, bk⟩ | exact ⟨((Ext.refl _).alloc _).drew, (World.cell?_alloc_past _ _ _ blt).trans bk⟩ | exact hS1 | exact keepK blt hS1 ((Ext.refl _).alloc _) | exact keepK2 blt (keepK2 blt hS1 (by simp)) (by simp)))
    (first | (go_at_call 141; refine (wants_any _).mono ?_; rintro e w1 ⟨mb, rfl, hE1, him, hmg, hml⟩; have hmk := hmg m.kind; rw [hw] at hmk; obtain ⟨r1, r2, r3, r5, r4⟩ := hE1.rules; have hmbl := him.lt; have hS1 := keepK blt (by assumption) hE1))
  all_goals
    rename_i hH
    have hEf := hH.1
    obtain ⟨ck, cf, ct, cl, cb, ca, clt⟩ := HB.out.ext hH.1
    clear hH hS1 hmg hmk bk bf bt bl bb ba
    go_wp2_with fail
    go_ret
    exact ⟨rfl, ((Ext.refl w).alloc _).trans hEf⟩
set_option maxRecDepth 100000 in
set_option maxHeartbeats 1000000 in
theorem check_tt1 (m : Ms) (w : World) (hw : wantOf m.kind = some (true, true)) (h4 : m.to ≠ 4) :
    Calls Try.prog 101 #[.agg m.cells] w fun e w' => e = .returned (.int .i64 2) ∧ Ext w w' := by
  have h4' : (m.to != 4) = true := by simpa using h4
  have HB := Lib.hid (MsBox.start w m)
  obtain ⟨bk, bf, bt, bl, bb, ba, blt⟩ := MsBox.start w m
  go_enter Try.func101, Try.ntmps101
  go_wp2_with fail
  go_region_held3 (fun W => Ext (w.alloc (.cells m.cells 79)) W ∧ W.cell? ⟨w.heap.size, 0, none⟩ = some (.int .i64 m.kind))
    ((first | exact ⟨(Ext.refl _).drew, bk⟩ | exact ⟨((Ext.refl _).alloc _).drew, (World.cell?_alloc_past _ _ _ blt).trans bk⟩ | exact hS1 | exact keepK blt hS1 ((Ext.refl _).alloc _) | exact keepK2 blt (keepK2 blt hS1 (by simp)) (by simp)))
    (first | (go_at_call 141; refine (wants_any _).mono ?_; rintro e w1 ⟨mb, rfl, hE1, him, hmg, hml⟩; have hmk := hmg m.kind; rw [hw] at hmk; obtain ⟨r1, r2, r3, r5, r4⟩ := hE1.rules; have hmbl := him.lt; have hS1 := keepK blt (by assumption) hE1))
  all_goals
    rename_i hH
    have hEf := hH.1
    obtain ⟨ck, cf, ct, cl, cb, ca, clt⟩ := HB.out.ext hH.1
    clear hH hS1 hmg hmk bk bf bt bl bb ba
    go_wp2_with fail
    go_ret
    exact ⟨rfl, ((Ext.refl w).alloc _).trans hEf⟩
set_option maxRecDepth 100000 in
set_option maxHeartbeats 1000000 in
theorem check_tt2 (m : Ms) (w : World) (hw : wantOf m.kind = some (true, true)) (h4 : m.to = 4) (h0 : m.frm < 0) :
    Calls Try.prog 101 #[.agg m.cells] w fun e w' => e = .returned (.int .i64 2) ∧ Ext w w' := by
  have HB := Lib.hid (MsBox.start w m)
  obtain ⟨bk, bf, bt, bl, bb, ba, blt⟩ := MsBox.start w m
  go_enter Try.func101, Try.ntmps101
  go_wp2_with fail
  go_region_held3 (fun W => Ext (w.alloc (.cells m.cells 79)) W ∧ W.cell? ⟨w.heap.size, 0, none⟩ = some (.int .i64 m.kind))
    ((first | exact ⟨(Ext.refl _).drew, bk⟩ | exact ⟨((Ext.refl _).alloc _).drew, (World.cell?_alloc_past _ _ _ blt).trans bk⟩ | exact hS1 | exact keepK blt hS1 ((Ext.refl _).alloc _) | exact keepK2 blt (keepK2 blt hS1 (by simp)) (by simp)))
    (first | (go_at_call 141; refine (wants_any _).mono ?_; rintro e w1 ⟨mb, rfl, hE1, him, hmg, hml⟩; have hmk := hmg m.kind; rw [hw] at hmk; obtain ⟨r1, r2, r3, r5, r4⟩ := hE1.rules; have hmbl := him.lt; have hS1 := keepK blt (by assumption) hE1))
  all_goals
    rename_i hH
    have hEf := hH.1
    obtain ⟨ck, cf, ct, cl, cb, ca, clt⟩ := HB.out.ext hH.1
    clear hH hS1 hmg hmk bk bf bt bl bb ba
    go_wp2_with fail
    go_ret
    exact ⟨rfl, ((Ext.refl w).alloc _).trans hEf⟩
set_option maxRecDepth 100000 in
set_option maxHeartbeats 1000000 in
theorem check_tt3 (m : Ms) (w : World) (hw : wantOf m.kind = some (true, true)) (h4 : m.to = 4) (h0 : 0 ≤ m.frm) (h1 : 4 ≤ m.frm) :
    Calls Try.prog 101 #[.agg m.cells] w fun e w' => e = .returned (.int .i64 2) ∧ Ext w w' := by
  have HB := Lib.hid (MsBox.start w m)
  obtain ⟨bk, bf, bt, bl, bb, ba, blt⟩ := MsBox.start w m
  go_enter Try.func101, Try.ntmps101
  go_wp2_with fail
  go_region_held3 (fun W => Ext (w.alloc (.cells m.cells 79)) W ∧ W.cell? ⟨w.heap.size, 0, none⟩ = some (.int .i64 m.kind))
    ((first | exact ⟨(Ext.refl _).drew, bk⟩ | exact ⟨((Ext.refl _).alloc _).drew, (World.cell?_alloc_past _ _ _ blt).trans bk⟩ | exact hS1 | exact keepK blt hS1 ((Ext.refl _).alloc _) | exact keepK2 blt (keepK2 blt hS1 (by simp)) (by simp)))
    (first | (go_at_call 141; refine (wants_any _).mono ?_; rintro e w1 ⟨mb, rfl, hE1, him, hmg, hml⟩; have hmk := hmg m.kind; rw [hw] at hmk; obtain ⟨r1, r2, r3, r5, r4⟩ := hE1.rules; have hmbl := him.lt; have hS1 := keepK blt (by assumption) hE1))
  all_goals
    rename_i hH
    have hEf := hH.1
    obtain ⟨ck, cf, ct, cl, cb, ca, clt⟩ := HB.out.ext hH.1
    clear hH hS1 hmg hmk bk bf bt bl bb ba
    go_wp2_with fail
    go_ret
    exact ⟨rfl, ((Ext.refl w).alloc _).trans hEf⟩
set_option maxRecDepth 100000 in
set_option maxHeartbeats 1000000 in
theorem check_tt4 (m : Ms) (w : World) (hw : wantOf m.kind = some (true, true)) (h4 : m.to = 4) (h0 : 0 ≤ m.frm) (h1 : m.frm < 4) :
    Calls Try.prog 101 #[.agg m.cells] w fun e w' => e = .returned (.int .i64 0) ∧ Ext w w' := by
  have HB := Lib.hid (MsBox.start w m)
  obtain ⟨bk, bf, bt, bl, bb, ba, blt⟩ := MsBox.start w m
  go_enter Try.func101, Try.ntmps101
  go_wp2_with fail
  go_region_held3 (fun W => Ext (w.alloc (.cells m.cells 79)) W ∧ W.cell? ⟨w.heap.size, 0, none⟩ = some (.int .i64 m.kind))
    ((first | exact ⟨(Ext.refl _).drew, bk⟩ | exact ⟨((Ext.refl _).alloc _).drew, (World.cell?_alloc_past _ _ _ blt).trans bk⟩ | exact hS1 | exact keepK blt hS1 ((Ext.refl _).alloc _) | exact keepK2 blt (keepK2 blt hS1 (by simp)) (by simp)))
    (first | (go_at_call 141; refine (wants_any _).mono ?_; rintro e w1 ⟨mb, rfl, hE1, him, hmg, hml⟩; have hmk := hmg m.kind; rw [hw] at hmk; obtain ⟨r1, r2, r3, r5, r4⟩ := hE1.rules; have hmbl := him.lt; have hS1 := keepK blt (by assumption) hE1))
  all_goals
    rename_i hH
    have hEf := hH.1
    obtain ⟨ck, cf, ct, cl, cb, ca, clt⟩ := HB.out.ext hH.1
    clear hH hS1 hmg hmk bk bf bt bl bb ba
    go_wp2_with fail
    go_ret
    exact ⟨rfl, ((Ext.refl w).alloc _).trans hEf⟩
set_option maxRecDepth 100000 in
set_option maxHeartbeats 1000000 in
theorem check_tf1 (m : Ms) (w : World) (hw : wantOf m.kind = some (true, false)) (h4 : m.to ≠ 4) :
    Calls Try.prog 101 #[.agg m.cells] w fun e w' => e = .returned (.int .i64 2) ∧ Ext w w' := by
  have h4' : (m.to != 4) = true := by simpa using h4
  have HB := Lib.hid (MsBox.start w m)
  obtain ⟨bk, bf, bt, bl, bb, ba, blt⟩ := MsBox.start w m
  go_enter Try.func101, Try.ntmps101
  go_wp2_with fail
  go_region_held3 (fun W => Ext (w.alloc (.cells m.cells 79)) W ∧ W.cell? ⟨w.heap.size, 0, none⟩ = some (.int .i64 m.kind))
    ((first | exact ⟨(Ext.refl _).drew, bk⟩ | exact ⟨((Ext.refl _).alloc _).drew, (World.cell?_alloc_past _ _ _ blt).trans bk⟩ | exact hS1 | exact keepK blt hS1 ((Ext.refl _).alloc _) | exact keepK2 blt (keepK2 blt hS1 (by simp)) (by simp)))
    (first | (go_at_call 141; refine (wants_any _).mono ?_; rintro e w1 ⟨mb, rfl, hE1, him, hmg, hml⟩; have hmk := hmg m.kind; rw [hw] at hmk; obtain ⟨r1, r2, r3, r5, r4⟩ := hE1.rules; have hmbl := him.lt; have hS1 := keepK blt (by assumption) hE1))
  all_goals
    rename_i hH
    have hEf := hH.1
    obtain ⟨ck, cf, ct, cl, cb, ca, clt⟩ := HB.out.ext hH.1
    clear hH hS1 hmg hmk bk bf bt bl bb ba
    go_wp2_with fail
    go_ret
    exact ⟨rfl, ((Ext.refl w).alloc _).trans hEf⟩
set_option maxRecDepth 100000 in
set_option maxHeartbeats 1000000 in
theorem check_tf2 (m : Ms) (w : World) (hw : wantOf m.kind = some (true, false)) (h4 : m.to = 4) (h0 : m.frm < 0) :
    Calls Try.prog 101 #[.agg m.cells] w fun e w' => e = .returned (.int .i64 2) ∧ Ext w w' := by
  have HB := Lib.hid (MsBox.start w m)
  obtain ⟨bk, bf, bt, bl, bb, ba, blt⟩ := MsBox.start w m
  go_enter Try.func101, Try.ntmps101
  go_wp2_with fail
  go_region_held3 (fun W => Ext (w.alloc (.cells m.cells 79)) W ∧ W.cell? ⟨w.heap.size, 0, none⟩ = some (.int .i64 m.kind))
    ((first | exact ⟨(Ext.refl _).drew, bk⟩ | exact ⟨((Ext.refl _).alloc _).drew, (World.cell?_alloc_past _ _ _ blt).trans bk⟩ | exact hS1 | exact keepK blt hS1 ((Ext.refl _).alloc _) | exact keepK2 blt (keepK2 blt hS1 (by simp)) (by simp)))
    (first | (go_at_call 141; refine (wants_any _).mono ?_; rintro e w1 ⟨mb, rfl, hE1, him, hmg, hml⟩; have hmk := hmg m.kind; rw [hw] at hmk; obtain ⟨r1, r2, r3, r5, r4⟩ := hE1.rules; have hmbl := him.lt; have hS1 := keepK blt (by assumption) hE1))
  all_goals
    rename_i hH
    have hEf := hH.1
    obtain ⟨ck, cf, ct, cl, cb, ca, clt⟩ := HB.out.ext hH.1
    clear hH hS1 hmg hmk bk bf bt bl bb ba
    go_wp2_with fail
    go_ret
    exact ⟨rfl, ((Ext.refl w).alloc _).trans hEf⟩
set_option maxRecDepth 100000 in
set_option maxHeartbeats 1000000 in
theorem check_tf3 (m : Ms) (w : World) (hw : wantOf m.kind = some (true, false)) (h4 : m.to = 4) (h0 : 0 ≤ m.frm) (h1 : 4 ≤ m.frm) :
    Calls Try.prog 101 #[.agg m.cells] w fun e w' => e = .returned (.int .i64 2) ∧ Ext w w' := by
  have HB := Lib.hid (MsBox.start w m)
  obtain ⟨bk, bf, bt, bl, bb, ba, blt⟩ := MsBox.start w m
  go_enter Try.func101, Try.ntmps101
  go_wp2_with fail
  go_region_held3 (fun W => Ext (w.alloc (.cells m.cells 79)) W ∧ W.cell? ⟨w.heap.size, 0, none⟩ = some (.int .i64 m.kind))
    ((first | exact ⟨(Ext.refl _).drew, bk⟩ | exact ⟨((Ext.refl _).alloc _).drew, (World.cell?_alloc_past _ _ _ blt).trans bk⟩ | exact hS1 | exact keepK blt hS1 ((Ext.refl _).alloc _) | exact keepK2 blt (keepK2 blt hS1 (by simp)) (by simp)))
    (first | (go_at_call 141; refine (wants_any _).mono ?_; rintro e w1 ⟨mb, rfl, hE1, him, hmg, hml⟩; have hmk := hmg m.kind; rw [hw] at hmk; obtain ⟨r1, r2, r3, r5, r4⟩ := hE1.rules; have hmbl := him.lt; have hS1 := keepK blt (by assumption) hE1))
  all_goals
    rename_i hH
    have hEf := hH.1
    obtain ⟨ck, cf, ct, cl, cb, ca, clt⟩ := HB.out.ext hH.1
    clear hH hS1 hmg hmk bk bf bt bl bb ba
    go_wp2_with fail
    go_ret
    exact ⟨rfl, ((Ext.refl w).alloc _).trans hEf⟩
set_option maxRecDepth 100000 in
set_option maxHeartbeats 1000000 in
theorem check_tf4 (m : Ms) (w : World) (hw : wantOf m.kind = some (true, false)) (h4 : m.to = 4) (h0 : 0 ≤ m.frm) (h1 : m.frm < 4) (hz : decide (m.b = B16.zero) = true) :
    Calls Try.prog 101 #[.agg m.cells] w fun e w' => e = .returned (.int .i64 0) ∧ Ext w w' := by
  have HB := Lib.hid (MsBox.start w m)
  obtain ⟨bk, bf, bt, bl, bb, ba, blt⟩ := MsBox.start w m
  go_enter Try.func101, Try.ntmps101
  go_wp2_with fail
  go_region_held3 (fun W => Ext (w.alloc (.cells m.cells 79)) W ∧ W.cell? ⟨w.heap.size, 0, none⟩ = some (.int .i64 m.kind))
    ((first | exact ⟨(Ext.refl _).drew, bk⟩ | exact ⟨((Ext.refl _).alloc _).drew, (World.cell?_alloc_past _ _ _ blt).trans bk⟩ | exact hS1 | exact keepK blt hS1 ((Ext.refl _).alloc _) | exact keepK2 blt (keepK2 blt hS1 (by simp)) (by simp)))
    (first | (go_at_call 141; refine (wants_any _).mono ?_; rintro e w1 ⟨mb, rfl, hE1, him, hmg, hml⟩; have hmk := hmg m.kind; rw [hw] at hmk; obtain ⟨r1, r2, r3, r5, r4⟩ := hE1.rules; have hmbl := him.lt; have hS1 := keepK blt (by assumption) hE1))
  all_goals
    rename_i hH
    have hEf := hH.1
    obtain ⟨ck, cf, ct, cl, cb, ca, clt⟩ := HB.out.ext hH.1
    clear hH hS1 hmg hmk bk bf bt bl bb ba
    go_wp2_with fail
    go_ret
    exact ⟨rfl, ((Ext.refl w).alloc _).trans hEf⟩
set_option maxRecDepth 100000 in
set_option maxHeartbeats 1000000 in
theorem check_tf5 (m : Ms) (w : World) (hw : wantOf m.kind = some (true, false)) (h4 : m.to = 4) (h0 : 0 ≤ m.frm) (h1 : m.frm < 4) (hz : decide (m.b = B16.zero) = false) :
    Calls Try.prog 101 #[.agg m.cells] w fun e w' => e = .returned (.int .i64 2) ∧ Ext w w' := by
  have HB := Lib.hid (MsBox.start w m)
  obtain ⟨bk, bf, bt, bl, bb, ba, blt⟩ := MsBox.start w m
  go_enter Try.func101, Try.ntmps101
  go_wp2_with fail
  go_region_held3 (fun W => Ext (w.alloc (.cells m.cells 79)) W ∧ W.cell? ⟨w.heap.size, 0, none⟩ = some (.int .i64 m.kind))
    ((first | exact ⟨(Ext.refl _).drew, bk⟩ | exact ⟨((Ext.refl _).alloc _).drew, (World.cell?_alloc_past _ _ _ blt).trans bk⟩ | exact hS1 | exact keepK blt hS1 ((Ext.refl _).alloc _) | exact keepK2 blt (keepK2 blt hS1 (by simp)) (by simp)))
    (first | (go_at_call 141; refine (wants_any _).mono ?_; rintro e w1 ⟨mb, rfl, hE1, him, hmg, hml⟩; have hmk := hmg m.kind; rw [hw] at hmk; obtain ⟨r1, r2, r3, r5, r4⟩ := hE1.rules; have hmbl := him.lt; have hS1 := keepK blt (by assumption) hE1))
  all_goals
    rename_i hH
    have hEf := hH.1
    obtain ⟨ck, cf, ct, cl, cb, ca, clt⟩ := HB.out.ext hH.1
    clear hH hS1 hmg hmk bk bf bt bl bb ba
    go_wp2_with fail
    go_ret
    exact ⟨rfl, ((Ext.refl w).alloc _).trans hEf⟩
set_option maxRecDepth 100000 in
set_option maxHeartbeats 1000000 in
theorem check_ft1 (m : Ms) (w : World) (hw : wantOf m.kind = some (false, true)) (h4 : m.frm ≠ 4) :
    Calls Try.prog 101 #[.agg m.cells] w fun e w' => e = .returned (.int .i64 2) ∧ Ext w w' := by
  have h4' : (m.frm != 4) = true := by simpa using h4
  have HB := Lib.hid (MsBox.start w m)
  obtain ⟨bk, bf, bt, bl, bb, ba, blt⟩ := MsBox.start w m
  go_enter Try.func101, Try.ntmps101
  go_wp2_with fail
  go_region_held3 (fun W => Ext (w.alloc (.cells m.cells 79)) W ∧ W.cell? ⟨w.heap.size, 0, none⟩ = some (.int .i64 m.kind))
    ((first | exact ⟨(Ext.refl _).drew, bk⟩ | exact ⟨((Ext.refl _).alloc _).drew, (World.cell?_alloc_past _ _ _ blt).trans bk⟩ | exact hS1 | exact keepK blt hS1 ((Ext.refl _).alloc _) | exact keepK2 blt (keepK2 blt hS1 (by simp)) (by simp)))
    (first | (go_at_call 141; refine (wants_any _).mono ?_; rintro e w1 ⟨mb, rfl, hE1, him, hmg, hml⟩; have hmk := hmg m.kind; rw [hw] at hmk; obtain ⟨r1, r2, r3, r5, r4⟩ := hE1.rules; have hmbl := him.lt; have hS1 := keepK blt (by assumption) hE1))
  all_goals
    rename_i hH
    have hEf := hH.1
    obtain ⟨ck, cf, ct, cl, cb, ca, clt⟩ := HB.out.ext hH.1
    clear hH hS1 hmg hmk bk bf bt bl bb ba
    go_wp2_with fail
    go_ret
    exact ⟨rfl, ((Ext.refl w).alloc _).trans hEf⟩
set_option maxRecDepth 100000 in
set_option maxHeartbeats 1000000 in
theorem check_ft2 (m : Ms) (w : World) (hw : wantOf m.kind = some (false, true)) (h4 : m.frm = 4) (h0 : m.to < 0) :
    Calls Try.prog 101 #[.agg m.cells] w fun e w' => e = .returned (.int .i64 2) ∧ Ext w w' := by
  have HB := Lib.hid (MsBox.start w m)
  obtain ⟨bk, bf, bt, bl, bb, ba, blt⟩ := MsBox.start w m
  go_enter Try.func101, Try.ntmps101
  go_wp2_with fail
  go_region_held3 (fun W => Ext (w.alloc (.cells m.cells 79)) W ∧ W.cell? ⟨w.heap.size, 0, none⟩ = some (.int .i64 m.kind))
    ((first | exact ⟨(Ext.refl _).drew, bk⟩ | exact ⟨((Ext.refl _).alloc _).drew, (World.cell?_alloc_past _ _ _ blt).trans bk⟩ | exact hS1 | exact keepK blt hS1 ((Ext.refl _).alloc _) | exact keepK2 blt (keepK2 blt hS1 (by simp)) (by simp)))
    (first | (go_at_call 141; refine (wants_any _).mono ?_; rintro e w1 ⟨mb, rfl, hE1, him, hmg, hml⟩; have hmk := hmg m.kind; rw [hw] at hmk; obtain ⟨r1, r2, r3, r5, r4⟩ := hE1.rules; have hmbl := him.lt; have hS1 := keepK blt (by assumption) hE1))
  all_goals
    rename_i hH
    have hEf := hH.1
    obtain ⟨ck, cf, ct, cl, cb, ca, clt⟩ := HB.out.ext hH.1
    clear hH hS1 hmg hmk bk bf bt bl bb ba
    go_wp2_with fail
    go_ret
    exact ⟨rfl, ((Ext.refl w).alloc _).trans hEf⟩
set_option maxRecDepth 100000 in
set_option maxHeartbeats 1000000 in
theorem check_ft3 (m : Ms) (w : World) (hw : wantOf m.kind = some (false, true)) (h4 : m.frm = 4) (h0 : 0 ≤ m.to) (h1 : 4 ≤ m.to) :
    Calls Try.prog 101 #[.agg m.cells] w fun e w' => e = .returned (.int .i64 2) ∧ Ext w w' := by
  have HB := Lib.hid (MsBox.start w m)
  obtain ⟨bk, bf, bt, bl, bb, ba, blt⟩ := MsBox.start w m
  go_enter Try.func101, Try.ntmps101
  go_wp2_with fail
  go_region_held3 (fun W => Ext (w.alloc (.cells m.cells 79)) W ∧ W.cell? ⟨w.heap.size, 0, none⟩ = some (.int .i64 m.kind))
    ((first | exact ⟨(Ext.refl _).drew, bk⟩ | exact ⟨((Ext.refl _).alloc _).drew, (World.cell?_alloc_past _ _ _ blt).trans bk⟩ | exact hS1 | exact keepK blt hS1 ((Ext.refl _).alloc _) | exact keepK2 blt (keepK2 blt hS1 (by simp)) (by simp)))
    (first | (go_at_call 141; refine (wants_any _).mono ?_; rintro e w1 ⟨mb, rfl, hE1, him, hmg, hml⟩; have hmk := hmg m.kind; rw [hw] at hmk; obtain ⟨r1, r2, r3, r5, r4⟩ := hE1.rules; have hmbl := him.lt; have hS1 := keepK blt (by assumption) hE1))
  all_goals
    rename_i hH
    have hEf := hH.1
    obtain ⟨ck, cf, ct, cl, cb, ca, clt⟩ := HB.out.ext hH.1
    clear hH hS1 hmg hmk bk bf bt bl bb ba
    go_wp2_with fail
    go_ret
    exact ⟨rfl, ((Ext.refl w).alloc _).trans hEf⟩
set_option maxRecDepth 100000 in
set_option maxHeartbeats 1000000 in
theorem check_ft4 (m : Ms) (w : World) (hw : wantOf m.kind = some (false, true)) (h4 : m.frm = 4) (h0 : 0 ≤ m.to) (h1 : m.to < 4) :
    Calls Try.prog 101 #[.agg m.cells] w fun e w' => e = .returned (.int .i64 0) ∧ Ext w w' := by
  have HB := Lib.hid (MsBox.start w m)
  obtain ⟨bk, bf, bt, bl, bb, ba, blt⟩ := MsBox.start w m
  go_enter Try.func101, Try.ntmps101
  go_wp2_with fail
  go_region_held3 (fun W => Ext (w.alloc (.cells m.cells 79)) W ∧ W.cell? ⟨w.heap.size, 0, none⟩ = some (.int .i64 m.kind))
    ((first | exact ⟨(Ext.refl _).drew, bk⟩ | exact ⟨((Ext.refl _).alloc _).drew, (World.cell?_alloc_past _ _ _ blt).trans bk⟩ | exact hS1 | exact keepK blt hS1 ((Ext.refl _).alloc _) | exact keepK2 blt (keepK2 blt hS1 (by simp)) (by simp)))
    (first | (go_at_call 141; refine (wants_any _).mono ?_; rintro e w1 ⟨mb, rfl, hE1, him, hmg, hml⟩; have hmk := hmg m.kind; rw [hw] at hmk; obtain ⟨r1, r2, r3, r5, r4⟩ := hE1.rules; have hmbl := him.lt; have hS1 := keepK blt (by assumption) hE1))
  all_goals
    rename_i hH
    have hEf := hH.1
    obtain ⟨ck, cf, ct, cl, cb, ca, clt⟩ := HB.out.ext hH.1
    clear hH hS1 hmg hmk bk bf bt bl bb ba
    go_wp2_with fail
    go_ret
    exact ⟨rfl, ((Ext.refl w).alloc _).trans hEf⟩
set_option maxRecDepth 100000 in
set_option maxHeartbeats 1000000 in
theorem check_ff1 (m : Ms) (w : World) (hw : wantOf m.kind = some (false, false)) (h4 : m.frm ≠ 4) :
    Calls Try.prog 101 #[.agg m.cells] w fun e w' => e = .returned (.int .i64 2) ∧ Ext w w' := by
  have h4' : (m.frm != 4) = true := by simpa using h4
  have HB := Lib.hid (MsBox.start w m)
  obtain ⟨bk, bf, bt, bl, bb, ba, blt⟩ := MsBox.start w m
  go_enter Try.func101, Try.ntmps101
  go_wp2_with fail
  go_region_held3 (fun W => Ext (w.alloc (.cells m.cells 79)) W ∧ W.cell? ⟨w.heap.size, 0, none⟩ = some (.int .i64 m.kind))
    ((first | exact ⟨(Ext.refl _).drew, bk⟩ | exact ⟨((Ext.refl _).alloc _).drew, (World.cell?_alloc_past _ _ _ blt).trans bk⟩ | exact hS1 | exact keepK blt hS1 ((Ext.refl _).alloc _) | exact keepK2 blt (keepK2 blt hS1 (by simp)) (by simp)))
    (first | (go_at_call 141; refine (wants_any _).mono ?_; rintro e w1 ⟨mb, rfl, hE1, him, hmg, hml⟩; have hmk := hmg m.kind; rw [hw] at hmk; obtain ⟨r1, r2, r3, r5, r4⟩ := hE1.rules; have hmbl := him.lt; have hS1 := keepK blt (by assumption) hE1))
  all_goals
    rename_i hH
    have hEf := hH.1
    obtain ⟨ck, cf, ct, cl, cb, ca, clt⟩ := HB.out.ext hH.1
    clear hH hS1 hmg hmk bk bf bt bl bb ba
    go_wp2_with fail
    go_ret
    exact ⟨rfl, ((Ext.refl w).alloc _).trans hEf⟩
set_option maxRecDepth 100000 in
set_option maxHeartbeats 1000000 in
theorem check_ff2 (m : Ms) (w : World) (hw : wantOf m.kind = some (false, false)) (h4 : m.frm = 4) (h0 : m.to < 0) :
    Calls Try.prog 101 #[.agg m.cells] w fun e w' => e = .returned (.int .i64 2) ∧ Ext w w' := by
  have HB := Lib.hid (MsBox.start w m)
  obtain ⟨bk, bf, bt, bl, bb, ba, blt⟩ := MsBox.start w m
  go_enter Try.func101, Try.ntmps101
  go_wp2_with fail
  go_region_held3 (fun W => Ext (w.alloc (.cells m.cells 79)) W ∧ W.cell? ⟨w.heap.size, 0, none⟩ = some (.int .i64 m.kind))
    ((first | exact ⟨(Ext.refl _).drew, bk⟩ | exact ⟨((Ext.refl _).alloc _).drew, (World.cell?_alloc_past _ _ _ blt).trans bk⟩ | exact hS1 | exact keepK blt hS1 ((Ext.refl _).alloc _) | exact keepK2 blt (keepK2 blt hS1 (by simp)) (by simp)))
    (first | (go_at_call 141; refine (wants_any _).mono ?_; rintro e w1 ⟨mb, rfl, hE1, him, hmg, hml⟩; have hmk := hmg m.kind; rw [hw] at hmk; obtain ⟨r1, r2, r3, r5, r4⟩ := hE1.rules; have hmbl := him.lt; have hS1 := keepK blt (by assumption) hE1))
  all_goals
    rename_i hH
    have hEf := hH.1
    obtain ⟨ck, cf, ct, cl, cb, ca, clt⟩ := HB.out.ext hH.1
    clear hH hS1 hmg hmk bk bf bt bl bb ba
    go_wp2_with fail
    go_ret
    exact ⟨rfl, ((Ext.refl w).alloc _).trans hEf⟩
set_option maxRecDepth 100000 in
set_option maxHeartbeats 1000000 in
theorem check_ff3 (m : Ms) (w : World) (hw : wantOf m.kind = some (false, false)) (h4 : m.frm = 4) (h0 : 0 ≤ m.to) (h1 : 4 ≤ m.to) :
    Calls Try.prog 101 #[.agg m.cells] w fun e w' => e = .returned (.int .i64 2) ∧ Ext w w' := by
  have HB := Lib.hid (MsBox.start w m)
  obtain ⟨bk, bf, bt, bl, bb, ba, blt⟩ := MsBox.start w m
  go_enter Try.func101, Try.ntmps101
  go_wp2_with fail
  go_region_held3 (fun W => Ext (w.alloc (.cells m.cells 79)) W ∧ W.cell? ⟨w.heap.size, 0, none⟩ = some (.int .i64 m.kind))
    ((first | exact ⟨(Ext.refl _).drew, bk⟩ | exact ⟨((Ext.refl _).alloc _).drew, (World.cell?_alloc_past _ _ _ blt).trans bk⟩ | exact hS1 | exact keepK blt hS1 ((Ext.refl _).alloc _) | exact keepK2 blt (keepK2 blt hS1 (by simp)) (by simp)))
    (first | (go_at_call 141; refine (wants_any _).mono ?_; rintro e w1 ⟨mb, rfl, hE1, him, hmg, hml⟩; have hmk := hmg m.kind; rw [hw] at hmk; obtain ⟨r1, r2, r3, r5, r4⟩ := hE1.rules; have hmbl := him.lt; have hS1 := keepK blt (by assumption) hE1))
  all_goals
    rename_i hH
    have hEf := hH.1
    obtain ⟨ck, cf, ct, cl, cb, ca, clt⟩ := HB.out.ext hH.1
    clear hH hS1 hmg hmk bk bf bt bl bb ba
    go_wp2_with fail
    go_ret
    exact ⟨rfl, ((Ext.refl w).alloc _).trans hEf⟩
set_option maxRecDepth 100000 in
set_option maxHeartbeats 1000000 in
theorem check_ff4 (m : Ms) (w : World) (hw : wantOf m.kind = some (false, false)) (h4 : m.frm = 4) (h0 : 0 ≤ m.to) (h1 : m.to < 4) (hz : decide (m.b = B16.zero) = true) :
    Calls Try.prog 101 #[.agg m.cells] w fun e w' => e = .returned (.int .i64 0) ∧ Ext w w' := by
  have HB := Lib.hid (MsBox.start w m)
  obtain ⟨bk, bf, bt, bl, bb, ba, blt⟩ := MsBox.start w m
  go_enter Try.func101, Try.ntmps101
  go_wp2_with fail
  go_region_held3 (fun W => Ext (w.alloc (.cells m.cells 79)) W ∧ W.cell? ⟨w.heap.size, 0, none⟩ = some (.int .i64 m.kind))
    ((first | exact ⟨(Ext.refl _).drew, bk⟩ | exact ⟨((Ext.refl _).alloc _).drew, (World.cell?_alloc_past _ _ _ blt).trans bk⟩ | exact hS1 | exact keepK blt hS1 ((Ext.refl _).alloc _) | exact keepK2 blt (keepK2 blt hS1 (by simp)) (by simp)))
    (first | (go_at_call 141; refine (wants_any _).mono ?_; rintro e w1 ⟨mb, rfl, hE1, him, hmg, hml⟩; have hmk := hmg m.kind; rw [hw] at hmk; obtain ⟨r1, r2, r3, r5, r4⟩ := hE1.rules; have hmbl := him.lt; have hS1 := keepK blt (by assumption) hE1))
  all_goals
    rename_i hH
    have hEf := hH.1
    obtain ⟨ck, cf, ct, cl, cb, ca, clt⟩ := HB.out.ext hH.1
    clear hH hS1 hmg hmk bk bf bt bl bb ba
    go_wp2_with fail
    go_ret
    exact ⟨rfl, ((Ext.refl w).alloc _).trans hEf⟩
set_option maxRecDepth 100000 in
set_option maxHeartbeats 1000000 in
theorem check_ff5 (m : Ms) (w : World) (hw : wantOf m.kind = some (false, false)) (h4 : m.frm = 4) (h0 : 0 ≤ m.to) (h1 : m.to < 4) (hz : decide (m.b = B16.zero) = false) :
    Calls Try.prog 101 #[.agg m.cells] w fun e w' => e = .returned (.int .i64 2) ∧ Ext w w' := by
  have HB := Lib.hid (MsBox.start w m)
  obtain ⟨bk, bf, bt, bl, bb, ba, blt⟩ := MsBox.start w m
  go_enter Try.func101, Try.ntmps101
  go_wp2_with fail
  go_region_held3 (fun W => Ext (w.alloc (.cells m.cells 79)) W ∧ W.cell? ⟨w.heap.size, 0, none⟩ = some (.int .i64 m.kind))
    ((first | exact ⟨(Ext.refl _).drew, bk⟩ | exact ⟨((Ext.refl _).alloc _).drew, (World.cell?_alloc_past _ _ _ blt).trans bk⟩ | exact hS1 | exact keepK blt hS1 ((Ext.refl _).alloc _) | exact keepK2 blt (keepK2 blt hS1 (by simp)) (by simp)))
    (first | (go_at_call 141; refine (wants_any _).mono ?_; rintro e w1 ⟨mb, rfl, hE1, him, hmg, hml⟩; have hmk := hmg m.kind; rw [hw] at hmk; obtain ⟨r1, r2, r3, r5, r4⟩ := hE1.rules; have hmbl := him.lt; have hS1 := keepK blt (by assumption) hE1))
  all_goals
    rename_i hH
    have hEf := hH.1
    obtain ⟨ck, cf, ct, cl, cb, ca, clt⟩ := HB.out.ext hH.1
    clear hH hS1 hmg hmk bk bf bt bl bb ba
    go_wp2_with fail
    go_ret
    exact ⟨rfl, ((Ext.refl w).alloc _).trans hEf⟩
theorem check_any (m : Ms) (w : World) : Calls Try.prog 101 #[.agg m.cells] w fun e w' => e = .returned (.int .i64 (chk m)) ∧ Ext w w' := by
  unfold chk Ms.may
  rcases hw : wantOf m.kind with _ | ⟨_ | _, y⟩
  · exact check_none m w hw
  · by_cases h4 : m.frm = 4
    · by_cases h0 : 0 ≤ m.to
      · by_cases h1 : m.to < 4
        · cases y
          · by_cases hz : m.b = B16.zero
            · simpa [h4, h0, h1, hz] using check_ff4 m w hw h4 h0 h1 (by simp [hz])
            · simpa [h4, h0, h1, hz] using check_ff5 m w hw h4 h0 h1 (by simp [hz])
          · simpa [h4, h0, h1] using check_ft4 m w hw h4 h0 h1
        · cases y
          · simpa [h4, h0, h1] using check_ff3 m w hw h4 h0 (by omega)
          · simpa [h4, h0, h1] using check_ft3 m w hw h4 h0 (by omega)
      · cases y
        · simpa [h4, h0] using check_ff2 m w hw h4 (by omega)
        · simpa [h4, h0] using check_ft2 m w hw h4 (by omega)
    · cases y
      · simpa [h4] using check_ff1 m w hw h4
      · simpa [h4] using check_ft1 m w hw h4
  · by_cases h4 : m.to = 4
    · by_cases h0 : 0 ≤ m.frm
      · by_cases h1 : m.frm < 4
        · cases y
          · by_cases hz : m.b = B16.zero
            · simpa [h4, h0, h1, hz] using check_tf4 m w hw h4 h0 h1 (by simp [hz])
            · simpa [h4, h0, h1, hz] using check_tf5 m w hw h4 h0 h1 (by simp [hz])
          · simpa [h4, h0, h1] using check_tt4 m w hw h4 h0 h1
        · cases y
          · simpa [h4, h0, h1] using check_tf3 m w hw h4 h0 (by omega)
          · simpa [h4, h0, h1] using check_tt3 m w hw h4 h0 (by omega)
      · cases y
        · simpa [h4, h0] using check_tf2 m w hw h4 (by omega)
        · simpa [h4, h0] using check_tt2 m w hw h4 (by omega)
    · cases y
      · simpa [h4] using check_tf1 m w hw h4
      · simpa [h4] using check_tt1 m w hw h4
end Go.Proofs
/- What message may be: the document's Check. -/
namespace Go.Proofs
open Go.RowKit
def inHarts (n : Int) : Bool := decide (0 ≤ n) && decide (n ≤ 3)
set_option maxRecDepth 100000 in
set_option maxHeartbeats 400000 in
theorem rcache_any (n : Int) (w : World) : Calls Try.prog 151 #[.int .i64 n] w fun e w' => e = .returned (.bool (inHarts n)) ∧ w = w' := by
  by_cases h : 0 ≤ n
  · have hd : decide (0 ≤ n) = true := by simpa using h
    have HI : Hid (inHarts n = decide (n ≤ 3)) := by unfold Hid inHarts; rw [hd, Bool.true_and]
    go_enter Try.func151, Try.ntmps151
    go_wp2_with fail
    go_ret
    exact ⟨ret_bool HI.out.symm, rfl⟩
  · have hd : decide (0 ≤ n) = false := by simpa using h
    have HI : Hid (inHarts n = false) := by unfold Hid inHarts; rw [hd, Bool.false_and]
    go_enter Try.func151, Try.ntmps151
    go_wp2_with fail
    go_ret
    exact ⟨ret_bool HI.out.symm, rfl⟩
set_option maxRecDepth 100000 in
set_option maxHeartbeats 1000000 in
theorem rcheck_1 (m : Ms) (w : World) (hk : m.kind = 1) : Calls Try.prog 111 #[.agg m.cells] w fun e w' => e = .returned (.int .i64 (chk m)) ∧ Ext w w' := by
  have HC : Hid (m.may = (decide (m.to = 4) && (decide (0 ≤ m.frm) && (decide (m.frm < 4) && (false || decide (m.b = B16.zero)))))) := by unfold Hid Ms.may; rw [hk]; rfl
  obtain ⟨bk, bf, bt, bl, bb, ba, blt⟩ := MsBox.start w m
  rw [hk] at bk
  clear hk
  go_enter Try.func111, Try.ntmps111
  go_wp2_with (go_at_call 151; refine (rcache_any _ _).mono ?_; rintro e w' ⟨rfl, rfl⟩)
  all_goals
    go_ret
    refine ⟨ret_int ?_, (Ext.refl w).alloc _⟩
    unfold chk
    rw [HC.out]
    clear HC bk bf bt bl bb ba blt
    try unfold inHarts at *
    simp_all <;> omega
set_option maxRecDepth 100000 in
set_option maxHeartbeats 1000000 in
theorem rcheck_2 (m : Ms) (w : World) (hk : m.kind = 2) : Calls Try.prog 111 #[.agg m.cells] w fun e w' => e = .returned (.int .i64 (chk m)) ∧ Ext w w' := by
  have HC : Hid (m.may = (decide (m.to = 4) && (decide (0 ≤ m.frm) && (decide (m.frm < 4) && (false || decide (m.b = B16.zero)))))) := by unfold Hid Ms.may; rw [hk]; rfl
  obtain ⟨bk, bf, bt, bl, bb, ba, blt⟩ := MsBox.start w m
  rw [hk] at bk
  clear hk
  go_enter Try.func111, Try.ntmps111
  go_wp2_with (go_at_call 151; refine (rcache_any _ _).mono ?_; rintro e w' ⟨rfl, rfl⟩)
  all_goals
    go_ret
    refine ⟨ret_int ?_, (Ext.refl w).alloc _⟩
    unfold chk
    rw [HC.out]
    clear HC bk bf bt bl bb ba blt
    try unfold inHarts at *
    simp_all <;> omega
set_option maxRecDepth 100000 in
set_option maxHeartbeats 1000000 in
theorem rcheck_3 (m : Ms) (w : World) (hk : m.kind = 3) : Calls Try.prog 111 #[.agg m.cells] w fun e w' => e = .returned (.int .i64 (chk m)) ∧ Ext w w' := by
  have HC : Hid (m.may = (decide (m.to = 4) && (decide (0 ≤ m.frm) && (decide (m.frm < 4) && (true || decide (m.b = B16.zero)))))) := by unfold Hid Ms.may; rw [hk]; rfl
  obtain ⟨bk, bf, bt, bl, bb, ba, blt⟩ := MsBox.start w m
  rw [hk] at bk
  clear hk
  go_enter Try.func111, Try.ntmps111
  go_wp2_with (go_at_call 151; refine (rcache_any _ _).mono ?_; rintro e w' ⟨rfl, rfl⟩)
  all_goals
    go_ret
    refine ⟨ret_int ?_, (Ext.refl w).alloc _⟩
    unfold chk
    rw [HC.out]
    clear HC bk bf bt bl bb ba blt
    try unfold inHarts at *
    simp_all <;> omega
set_option maxRecDepth 100000 in
set_option maxHeartbeats 1000000 in
theorem rcheck_4 (m : Ms) (w : World) (hk : m.kind = 4) : Calls Try.prog 111 #[.agg m.cells] w fun e w' => e = .returned (.int .i64 (chk m)) ∧ Ext w w' := by
  have HC : Hid (m.may = (decide (m.frm = 4) && (decide (0 ≤ m.to) && (decide (m.to < 4) && (false || decide (m.b = B16.zero)))))) := by unfold Hid Ms.may; rw [hk]; rfl
  obtain ⟨bk, bf, bt, bl, bb, ba, blt⟩ := MsBox.start w m
  rw [hk] at bk
  clear hk
  go_enter Try.func111, Try.ntmps111
  go_wp2_with (go_at_call 151; refine (rcache_any _ _).mono ?_; rintro e w' ⟨rfl, rfl⟩)
  all_goals
    go_ret
    refine ⟨ret_int ?_, (Ext.refl w).alloc _⟩
    unfold chk
    rw [HC.out]
    clear HC bk bf bt bl bb ba blt
    try unfold inHarts at *
    simp_all <;> omega
set_option maxRecDepth 100000 in
set_option maxHeartbeats 1000000 in
theorem rcheck_5 (m : Ms) (w : World) (hk : m.kind = 5) : Calls Try.prog 111 #[.agg m.cells] w fun e w' => e = .returned (.int .i64 (chk m)) ∧ Ext w w' := by
  have HC : Hid (m.may = (decide (m.frm = 4) && (decide (0 ≤ m.to) && (decide (m.to < 4) && (false || decide (m.b = B16.zero)))))) := by unfold Hid Ms.may; rw [hk]; rfl
  obtain ⟨bk, bf, bt, bl, bb, ba, blt⟩ := MsBox.start w m
  rw [hk] at bk
  clear hk
  go_enter Try.func111, Try.ntmps111
  go_wp2_with (go_at_call 151; refine (rcache_any _ _).mono ?_; rintro e w' ⟨rfl, rfl⟩)
  all_goals
    go_ret
    refine ⟨ret_int ?_, (Ext.refl w).alloc _⟩
    unfold chk
    rw [HC.out]
    clear HC bk bf bt bl bb ba blt
    try unfold inHarts at *
    simp_all <;> omega
set_option maxRecDepth 100000 in
set_option maxHeartbeats 1000000 in
theorem rcheck_6 (m : Ms) (w : World) (hk : m.kind = 6) : Calls Try.prog 111 #[.agg m.cells] w fun e w' => e = .returned (.int .i64 (chk m)) ∧ Ext w w' := by
  have HC : Hid (m.may = (decide (m.frm = 4) && (decide (0 ≤ m.to) && (decide (m.to < 4) && (false || decide (m.b = B16.zero)))))) := by unfold Hid Ms.may; rw [hk]; rfl
  obtain ⟨bk, bf, bt, bl, bb, ba, blt⟩ := MsBox.start w m
  rw [hk] at bk
  clear hk
  go_enter Try.func111, Try.ntmps111
  go_wp2_with (go_at_call 151; refine (rcache_any _ _).mono ?_; rintro e w' ⟨rfl, rfl⟩)
  all_goals
    go_ret
    refine ⟨ret_int ?_, (Ext.refl w).alloc _⟩
    unfold chk
    rw [HC.out]
    clear HC bk bf bt bl bb ba blt
    try unfold inHarts at *
    simp_all <;> omega
set_option maxRecDepth 100000 in
set_option maxHeartbeats 1000000 in
theorem rcheck_7 (m : Ms) (w : World) (hk : m.kind = 7) : Calls Try.prog 111 #[.agg m.cells] w fun e w' => e = .returned (.int .i64 (chk m)) ∧ Ext w w' := by
  have HC : Hid (m.may = (decide (m.frm = 4) && (decide (0 ≤ m.to) && (decide (m.to < 4) && (false || decide (m.b = B16.zero)))))) := by unfold Hid Ms.may; rw [hk]; rfl
  obtain ⟨bk, bf, bt, bl, bb, ba, blt⟩ := MsBox.start w m
  rw [hk] at bk
  clear hk
  go_enter Try.func111, Try.ntmps111
  go_wp2_with (go_at_call 151; refine (rcache_any _ _).mono ?_; rintro e w' ⟨rfl, rfl⟩)
  all_goals
    go_ret
    refine ⟨ret_int ?_, (Ext.refl w).alloc _⟩
    unfold chk
    rw [HC.out]
    clear HC bk bf bt bl bb ba blt
    try unfold inHarts at *
    simp_all <;> omega
set_option maxRecDepth 100000 in
set_option maxHeartbeats 1000000 in
theorem rcheck_8 (m : Ms) (w : World) (hk : m.kind = 8) : Calls Try.prog 111 #[.agg m.cells] w fun e w' => e = .returned (.int .i64 (chk m)) ∧ Ext w w' := by
  have HC : Hid (m.may = (decide (m.frm = 4) && (decide (0 ≤ m.to) && (decide (m.to < 4) && (true || decide (m.b = B16.zero)))))) := by unfold Hid Ms.may; rw [hk]; rfl
  obtain ⟨bk, bf, bt, bl, bb, ba, blt⟩ := MsBox.start w m
  rw [hk] at bk
  clear hk
  go_enter Try.func111, Try.ntmps111
  go_wp2_with (go_at_call 151; refine (rcache_any _ _).mono ?_; rintro e w' ⟨rfl, rfl⟩)
  all_goals
    go_ret
    refine ⟨ret_int ?_, (Ext.refl w).alloc _⟩
    unfold chk
    rw [HC.out]
    clear HC bk bf bt bl bb ba blt
    try unfold inHarts at *
    simp_all <;> omega
set_option maxRecDepth 100000 in
set_option maxHeartbeats 1000000 in
theorem rcheck_9 (m : Ms) (w : World) (hk : m.kind = 9) : Calls Try.prog 111 #[.agg m.cells] w fun e w' => e = .returned (.int .i64 (chk m)) ∧ Ext w w' := by
  have HC : Hid (m.may = (decide (m.frm = 4) && (decide (0 ≤ m.to) && (decide (m.to < 4) && (true || decide (m.b = B16.zero)))))) := by unfold Hid Ms.may; rw [hk]; rfl
  obtain ⟨bk, bf, bt, bl, bb, ba, blt⟩ := MsBox.start w m
  rw [hk] at bk
  clear hk
  go_enter Try.func111, Try.ntmps111
  go_wp2_with (go_at_call 151; refine (rcache_any _ _).mono ?_; rintro e w' ⟨rfl, rfl⟩)
  all_goals
    go_ret
    refine ⟨ret_int ?_, (Ext.refl w).alloc _⟩
    unfold chk
    rw [HC.out]
    clear HC bk bf bt bl bb ba blt
    try unfold inHarts at *
    simp_all <;> omega
set_option maxRecDepth 100000 in
set_option maxHeartbeats 1000000 in
theorem rcheck_10 (m : Ms) (w : World) (hk : m.kind = 10) : Calls Try.prog 111 #[.agg m.cells] w fun e w' => e = .returned (.int .i64 (chk m)) ∧ Ext w w' := by
  have HC : Hid (m.may = (decide (m.frm = 4) && (decide (0 ≤ m.to) && (decide (m.to < 4) && (true || decide (m.b = B16.zero)))))) := by unfold Hid Ms.may; rw [hk]; rfl
  obtain ⟨bk, bf, bt, bl, bb, ba, blt⟩ := MsBox.start w m
  rw [hk] at bk
  clear hk
  go_enter Try.func111, Try.ntmps111
  go_wp2_with (go_at_call 151; refine (rcache_any _ _).mono ?_; rintro e w' ⟨rfl, rfl⟩)
  all_goals
    go_ret
    refine ⟨ret_int ?_, (Ext.refl w).alloc _⟩
    unfold chk
    rw [HC.out]
    clear HC bk bf bt bl bb ba blt
    try unfold inHarts at *
    simp_all <;> omega
set_option maxRecDepth 100000 in
set_option maxHeartbeats 1000000 in
theorem rcheck_11 (m : Ms) (w : World) (hk : m.kind = 11) : Calls Try.prog 111 #[.agg m.cells] w fun e w' => e = .returned (.int .i64 (chk m)) ∧ Ext w w' := by
  have HC : Hid (m.may = (decide (m.to = 4) && (decide (0 ≤ m.frm) && (decide (m.frm < 4) && (true || decide (m.b = B16.zero)))))) := by unfold Hid Ms.may; rw [hk]; rfl
  obtain ⟨bk, bf, bt, bl, bb, ba, blt⟩ := MsBox.start w m
  rw [hk] at bk
  clear hk
  go_enter Try.func111, Try.ntmps111
  go_wp2_with (go_at_call 151; refine (rcache_any _ _).mono ?_; rintro e w' ⟨rfl, rfl⟩)
  all_goals
    go_ret
    refine ⟨ret_int ?_, (Ext.refl w).alloc _⟩
    unfold chk
    rw [HC.out]
    clear HC bk bf bt bl bb ba blt
    try unfold inHarts at *
    simp_all <;> omega
set_option maxRecDepth 100000 in
set_option maxHeartbeats 1000000 in
theorem rcheck_12 (m : Ms) (w : World) (hk : m.kind = 12) : Calls Try.prog 111 #[.agg m.cells] w fun e w' => e = .returned (.int .i64 (chk m)) ∧ Ext w w' := by
  have HC : Hid (m.may = (decide (m.to = 4) && (decide (0 ≤ m.frm) && (decide (m.frm < 4) && (false || decide (m.b = B16.zero)))))) := by unfold Hid Ms.may; rw [hk]; rfl
  obtain ⟨bk, bf, bt, bl, bb, ba, blt⟩ := MsBox.start w m
  rw [hk] at bk
  clear hk
  go_enter Try.func111, Try.ntmps111
  go_wp2_with (go_at_call 151; refine (rcache_any _ _).mono ?_; rintro e w' ⟨rfl, rfl⟩)
  all_goals
    go_ret
    refine ⟨ret_int ?_, (Ext.refl w).alloc _⟩
    unfold chk
    rw [HC.out]
    clear HC bk bf bt bl bb ba blt
    try unfold inHarts at *
    simp_all <;> omega
set_option maxRecDepth 100000 in
set_option maxHeartbeats 1000000 in
theorem rcheck_13 (m : Ms) (w : World) (hk : m.kind = 13) : Calls Try.prog 111 #[.agg m.cells] w fun e w' => e = .returned (.int .i64 (chk m)) ∧ Ext w w' := by
  have HC : Hid (m.may = (decide (m.to = 4) && (decide (0 ≤ m.frm) && (decide (m.frm < 4) && (false || decide (m.b = B16.zero)))))) := by unfold Hid Ms.may; rw [hk]; rfl
  obtain ⟨bk, bf, bt, bl, bb, ba, blt⟩ := MsBox.start w m
  rw [hk] at bk
  clear hk
  go_enter Try.func111, Try.ntmps111
  go_wp2_with (go_at_call 151; refine (rcache_any _ _).mono ?_; rintro e w' ⟨rfl, rfl⟩)
  all_goals
    go_ret
    refine ⟨ret_int ?_, (Ext.refl w).alloc _⟩
    unfold chk
    rw [HC.out]
    clear HC bk bf bt bl bb ba blt
    try unfold inHarts at *
    simp_all <;> omega
set_option maxRecDepth 100000 in
set_option maxHeartbeats 1000000 in
theorem rcheck_other (m : Ms) (w : World) (hk : m.kind < 1 ∨ 13 < m.kind) : Calls Try.prog 111 #[.agg m.cells] w fun e w' => e = .returned (.int .i64 (chk m)) ∧ Ext w w' := by
  have HC : Hid (chk m = 2) := by
    have : wantOf m.kind = none := by
      unfold wantOf
      rw [if_neg (by omega), if_neg (by omega), if_neg (by omega), if_neg (by omega)]
    unfold Hid chk Ms.may
    rw [this]
    rfl
  have k1 : (m.kind == 1) = false := by simp; omega
  have k2 : (m.kind == 2) = false := by simp; omega
  have k3 : (m.kind == 3) = false := by simp; omega
  have k4 : (m.kind == 4) = false := by simp; omega
  have k5 : (m.kind == 5) = false := by simp; omega
  have k6 : (m.kind == 6) = false := by simp; omega
  have k7 : (m.kind == 7) = false := by simp; omega
  have k8 : (m.kind == 8) = false := by simp; omega
  have k9 : (m.kind == 9) = false := by simp; omega
  have k10 : (m.kind == 10) = false := by simp; omega
  have k11 : (m.kind == 11) = false := by simp; omega
  have k12 : (m.kind == 12) = false := by simp; omega
  have k13 : (m.kind == 13) = false := by simp; omega
  obtain ⟨bk, bf, bt, bl, bb, ba, blt⟩ := MsBox.start w m
  clear hk
  go_enter Try.func111, Try.ntmps111
  go_wp2_with (go_at_call 151; refine (rcache_any _ _).mono ?_; rintro e w' ⟨rfl, rfl⟩)
  all_goals
    go_ret
    exact ⟨ret_int HC.out.symm, (Ext.refl w).alloc _⟩
theorem rcheck_any (m : Ms) (w : World) : Calls Try.prog 111 #[.agg m.cells] w fun e w' => e = .returned (.int .i64 (chk m)) ∧ Ext w w' := by
  by_cases h : m.kind < 1 ∨ 13 < m.kind
  · exact rcheck_other m w h
  · have : m.kind = 1 ∨ m.kind = 2 ∨ m.kind = 3 ∨ m.kind = 4 ∨ m.kind = 5 ∨ m.kind = 6 ∨ m.kind = 7 ∨ m.kind = 8 ∨ m.kind = 9 ∨ m.kind = 10 ∨ m.kind = 11 ∨ m.kind = 12 ∨ m.kind = 13 := by omega
    rcases this with h | h | h | h | h | h | h | h | h | h | h | h | h
    · exact rcheck_1 m w h
    · exact rcheck_2 m w h
    · exact rcheck_3 m w h
    · exact rcheck_4 m w h
    · exact rcheck_5 m w h
    · exact rcheck_6 m w h
    · exact rcheck_7 m w h
    · exact rcheck_8 m w h
    · exact rcheck_9 m w h
    · exact rcheck_10 m w h
    · exact rcheck_11 m w h
    · exact rcheck_12 m w h
    · exact rcheck_13 m w h
end Go.Proofs
