/- Victim: which line is to make room. -/
import Derived.Test.YtgggokajapoopaaDrop
namespace Go
/-- A choice among n. -/
def choice (pick : Int) (n : Nat) : Nat := (pick % (n : Int)).toNat
def Lns.victim (c : Lns) (n : Int) (pick : Int) : Option Ln :=
  match (c.of n).findIdx? (·.num == n) with
  | some _ => none
  | none => if (c.of n).length < c.ways then none else (c.of n)[choice pick (c.of n).length]?
theorem choice_lt (pick : Int) {n : Nat} (h : 0 < n) : choice pick n < n := by
  have := Int.emod_nonneg pick (b := (n : Int)) (by omega)
  have := Int.emod_lt_of_pos pick (b := (n : Int)) (by omega)
  unfold choice; omega
theorem tmod_cases (pick : Int) {n : Nat} (h : 0 < n) : pick.tmod (n : Int) = (choice pick n : Nat) ∨ pick.tmod (n : Int) = (choice pick n : Nat) - (n : Int) := by
  have h1 := Int.emod_nonneg pick (b := (n : Int)) (by omega)
  have h2 := Int.emod_lt_of_pos pick (b := (n : Int)) (by omega)
  have h3 : ((choice pick n : Nat) : Int) = pick % n := by unfold choice; omega
  have := Int.tmod_eq_emod (a := pick) (b := (n : Int))
  rw [this, h3]
  split
  · left; simp
  · right; simp
theorem choice_tmod (pick : Int) {n : Nat} (h : 0 < n) : (pick.tmod (n : Int) + (n : Int)).tmod (n : Int) = (choice pick n : Nat) := by
  have hl := choice_lt pick h
  rcases tmod_cases pick h with h1 | h1
  · rw [h1, Int.tmod_eq_emod_of_nonneg (by omega), Int.add_emod_right, Int.emod_eq_of_lt (by omega) (by omega)]
  · rw [h1, show ((choice pick n : Nat) : Int) - (n : Int) + n = (choice pick n : Nat) by omega, Int.tmod_eq_emod_of_nonneg (by omega), Int.emod_eq_of_lt (by omega) (by omega)]
end Go
namespace Go.Proofs
open Go.RowKit
set_option maxRecDepth 100000 in
set_option maxHeartbeats 400000 in
theorem victim_there (B S : Nat) (vs : Array Value) (os : Nat → Option Nat) (c : Lns) (n pick : Int) (w : World) (hb : LinesBody w B S vs os c) (h0 : 0 ≤ n) (h1 : n < 4294967296)
    (a : Option Addr) (cap : Nat) (hS : S < w.heap.size) (hc : w.cell? ⟨S, c.setNo n, none⟩ = some (.slice a (c.of n).length cap))
    (hw : w.cell? ⟨B, 1, none⟩ = some (.int .i64 c.ways)) (i : Nat) (HI : Hid (idxOf n (c.of n) = (i : Int))) :
    Calls Try.prog 29 #[.pointer (some ⟨B, 0, none⟩), .int .u32 n, .int .i64 pick] w fun e w' => e = .returned (.tuple #[.agg Ln.zero.cells, .bool false]) ∧ Ext w w' := by
  have hB : B < w.heap.size := World.block_lt_of_cell? w _ hw
  go_enter Try.func29, Try.ntmps29
  go_wp2_with fail
  refine (none_body (hb.ext ((Ext.refl w).alloc _))).mono ?_
  rintro e w1 ⟨rfl, rfl⟩
  go_wp2_with fail
  refine (of_body (hb.ext ((Ext.refl w).alloc _)) n h0 h1).mono ?_
  rintro e w1 ⟨rfl, hE⟩
  rw [HI.out]
  obtain ⟨r1, r2, r3, r5, r4⟩ := hE.rules
  go_wp2_with fail
  refine bodyPost_ret (resCT rfl _ _ ⟨w.heap.size, 0, none⟩ (.agg Ln.zero.cells) rfl (run_loadVar_agg 39 18 Try.isAgg39 Try.sizeOf39 _ _ _ (by simp [go_sem, r3]))) rfl ⟨rfl, ?_⟩
  exact ((Ext.refl w).alloc _).trans hE
set_option maxRecDepth 100000 in
set_option maxHeartbeats 400000 in
theorem victim_room (B S : Nat) (vs : Array Value) (os : Nat → Option Nat) (c : Lns) (n pick : Int) (w : World) (hb : LinesBody w B S vs os c) (h0 : 0 ≤ n) (h1 : n < 4294967296)
    (a : Option Addr) (cap : Nat) (hS : S < w.heap.size) (hc : w.cell? ⟨S, c.setNo n, none⟩ = some (.slice a (c.of n).length cap))
    (hw : w.cell? ⟨B, 1, none⟩ = some (.int .i64 c.ways)) (HI : Hid (idxOf n (c.of n) = -1)) (hlt : (c.of n).length < c.ways) :
    Calls Try.prog 29 #[.pointer (some ⟨B, 0, none⟩), .int .u32 n, .int .i64 pick] w fun e w' => e = .returned (.tuple #[.agg Ln.zero.cells, .bool false]) ∧ Ext w w' := by
  have hB : B < w.heap.size := World.block_lt_of_cell? w _ hw
  go_enter Try.func29, Try.ntmps29
  go_wp2_with fail
  refine (none_body (hb.ext ((Ext.refl w).alloc _))).mono ?_
  rintro e w1 ⟨rfl, rfl⟩
  go_wp2_with fail
  refine (of_body (hb.ext ((Ext.refl w).alloc _)) n h0 h1).mono ?_
  rintro e w1 ⟨rfl, hE⟩
  rw [HI.out]
  obtain ⟨r1, r2, r3, r5, r4⟩ := hE.rules
  go_wp2_with fail
  refine bodyPost_ret (resCT rfl _ _ ⟨w.heap.size, 0, none⟩ (.agg Ln.zero.cells) rfl (run_loadVar_agg 39 18 Try.isAgg39 Try.sizeOf39 _ _ _ (by simp [go_sem, r3]))) rfl ⟨rfl, ?_⟩
  exact ((Ext.refl w).alloc _).trans hE
set_option maxRecDepth 100000 in
set_option maxHeartbeats 400000 in
theorem victim_is (B S : Nat) (vs : Array Value) (os : Nat → Option Nat) (c : Lns) (n pick : Int) (w : World) (hb : LinesBody w B S vs os c) (h0 : 0 ≤ n) (h1 : n < 4294967296)
    (b off : Nat) (cap : Nat) (hS : S < w.heap.size) (hc : w.cell? ⟨S, c.setNo n, none⟩ = some (.slice (some ⟨b, off, none⟩) (c.of n).length cap))
    (hw : w.cell? ⟨B, 1, none⟩ = some (.int .i64 c.ways)) (HI : Hid (idxOf n (c.of n) = -1)) (hge : c.ways ≤ (c.of n).length) (hle : (c.of n).length ≤ 8) (hw1 : 1 ≤ c.ways)
    (k : Nat) (x : Ln) (HK : Hid (choice pick (c.of n).length = k)) (hkl : k < (c.of n).length) (hg : w.agg? ⟨b, off + k * 18, none⟩ 18 = some x.cells) (hb0 : b < w.heap.size) :
    Calls Try.prog 29 #[.pointer (some ⟨B, 0, none⟩), .int .u32 n, .int .i64 pick] w fun e w' => e = .returned (.tuple #[.agg x.cells, .bool true]) ∧ Ext w w' := by
  have hB : B < w.heap.size := World.block_lt_of_cell? w _ hw
  go_enter Try.func29, Try.ntmps29
  go_wp2_with fail
  refine (none_body (hb.ext ((Ext.refl w).alloc _))).mono ?_
  rintro e w1 ⟨rfl, rfl⟩
  go_wp2_with fail
  refine (of_body (hb.ext ((Ext.refl w).alloc _)) n h0 h1).mono ?_
  rintro e w1 ⟨rfl, hE⟩
  rw [HI.out]
  obtain ⟨r1, r2, r3, r5, r4⟩ := hE.rules
  go_wp2_with fail
  have hT := choice_tmod pick (n := (c.of n).length) (by omega)
  have hb3 : -8 ≤ pick.tmod ((c.of n).length : Int) ∧ pick.tmod ((c.of n).length : Int) ≤ 8 := by
    have := choice_lt pick (n := (c.of n).length) (by omega)
    rcases tmod_cases pick (n := (c.of n).length) (by omega) with h | h <;> omega
  rw [HK.out] at hT
  generalize hm : pick.tmod ((c.of n).length : Int) = m at *
  obtain ⟨hb3, hb4⟩ := hb3
  have hwr : IntKind.i64.wrap (m + ((c.of n).length : Int)) = m + ((c.of n).length : Int) := IntWalk.i64_in _ (by omega)
  have hN0 : (c.of n = []) = False := by simp; intro h; rw [h] at hkl; simp at hkl
  go_still_tail 12, (by kernel_rfl)
  change wpList _ _ _ _ _ w1.drew
  go_wp2_with fail
  refine bodyPost_ret (resCT rfl _ _ ⟨w.heap.size, 0, none⟩ (.agg x.cells) rfl (run_loadVar_agg 39 18 Try.isAgg39 Try.sizeOf39 _ _ _ (by simp [go_sem, r3]))) rfl ⟨rfl, ?_⟩
  exact ((((Ext.refl w).alloc _).trans hE).putAgg _ _ (Nat.le_refl _)).drew
/-- Victim: the line that is to make room. -/
theorem victim_any (p : Value) (c : Lns) (F : Nat → Prop) (n pick : Int) (w : World) (h : LinesAt w p c F) (h0 : 0 ≤ n) (h1 : n < 4294967296) :
    Calls Try.prog 29 #[p, .int .u32 n, .int .i64 pick] w fun e w' => e = .returned (.tuple #[.agg (lnOr (c.victim n pick)).cells, .bool (c.victim n pick).isSome]) ∧ Ext w w' := by
  obtain ⟨B, S, vs, os, rfl, hb, hF⟩ := h
  have hok := hb.ok
  obtain ⟨v, hv, hs, hc⟩ := hb.set n
  have hS : S < w.heap.size := hb.lt (.inr (.inl rfl))
  have hlen := Lns.of_len hok n
  have hw8 := hok.w8
  have hw1 := hok.w1
  obtain ⟨a, cap, rfl, hr⟩ := hs.row Ln.okCells
  cases hidx : (c.of n).findIdx? (·.num == n) with
  | some j =>
    have hv : c.victim n pick = none := by simp only [Lns.victim, hidx]
    rw [hv]
    exact victim_there B S vs os c n pick w hb h0 h1 a cap hS hc (LinesBody.cell1 hb) j (by unfold Hid idxOf; rw [hidx])
  | none =>
    have HI : Hid (idxOf n (c.of n) = -1) := by unfold Hid idxOf; rw [hidx]
    by_cases hlt : (c.of n).length < c.ways
    · have hv : c.victim n pick = none := by simp only [Lns.victim, hidx, hlt, if_true]
      rw [hv]
      exact victim_room B S vs os c n pick w hb h0 h1 a cap hS hc (LinesBody.cell1 hb) HI hlt
    · have hk := choice_lt pick (n := (c.of n).length) (by omega)
      have hv : c.victim n pick = some (c.of n)[choice pick (c.of n).length] := by simp [Lns.victim, hidx, hlt]
      rw [hv]
      obtain ⟨b, off, rfl, hg⟩ := hr (choice pick (c.of n).length) _ (List.getElem?_eq_getElem hk)
      exact victim_is B S vs os c n pick w hb h0 h1 b off cap hS hc (LinesBody.cell1 hb) HI (by omega) (by omega) hw1 _ _ (rfl : choice pick (c.of n).length = _) hk hg (World.agg?_lt hg)
end Go.Proofs
