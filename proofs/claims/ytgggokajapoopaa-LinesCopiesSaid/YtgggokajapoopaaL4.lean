/- Walks: the functions of package lines. -/
import Derived.Test.YtgggokajapoopaaL3
namespace Go.Proofs
open Go.RowKit
theorem of_body {B S : Nat} {vs : Array Value} {os : Nat → Option Nat} {c : Lns} {w : World} (h : LinesBody w B S vs os c) (n : Int) (h0 : 0 ≤ n) (h1 : n < 4294967296) :
    Calls Try.prog 88 #[.pointer (some ⟨B, 0, none⟩), .int .u32 n] w fun e w' => e = .returned (.tuple #[.pointer (some ⟨S, c.setNo n, none⟩), .int .i64 (idxOf n (c.of n))]) ∧ Ext w w' := by
  obtain ⟨v, hv, hs, hc⟩ := h.set n
  obtain ⟨a, cap, rfl, hr⟩ := hs.row Ln.okCells
  have hl := Lns.of_len h.ok n
  have := h.ok.w8
  exact of_any B S c.sets.length n a cap (c.of n) w (by rw [cell_of_row w B 0 _ 172 (0, 0) h.hB]; rfl) h.ok.s1 h.ok.s64 h0 h1 hc hr (by omega)
theorem none_body {B S : Nat} {vs : Array Value} {os : Nat → Option Nat} {c : Lns} {w : World} (h : LinesBody w B S vs os c) :
    Calls Try.prog 87 #[.pointer (some ⟨B, 0, none⟩)] w fun e w' => e = .returned (.bool false) ∧ w = w' := by
  have := h.ok.w1
  refine (none_some B c.ways w (by rw [cell_of_row w B 1 _ 172 (0, 0) h.hB]; rfl)).mono ?_
  rintro e w' ⟨rfl, rfl⟩
  exact ⟨ret_bool (by simp; omega), rfl⟩
set_option maxRecDepth 100000 in
set_option maxHeartbeats 400000 in
theorem find_any (p : Value) (c : Lns) (F : Nat → Prop) (n : Int) (w : World) (h : LinesAt w p c F) (h0 : 0 ≤ n) (h1 : n < 4294967296) :
    Calls Try.prog 28 #[p, .int .u32 n] w fun e w' => e = .returned (.tuple #[.agg (lnOr (lookup n (c.of n))).cells, .bool (lookup n (c.of n)).isSome]) ∧ Ext w w' := by
  obtain ⟨B, S, vs, os, rfl, hb, hF⟩ := h
  obtain ⟨v, hv, hs, hc⟩ := hb.set n
  obtain ⟨a, cap, rfl, hr⟩ := hs.row Ln.okCells
  clear hs hv hF
  have hS : S < w.heap.size := World.block_lt_of_cell? w _ hc
  rcases idxOf_cases n (c.of n) with ⟨i, x, hi, hx, -, hil, hl, -⟩ | ⟨hi, hl, -⟩
  · rw [hl]
    have HI := Lib.hid hi
    obtain ⟨b, off, rfl, hg⟩ := hr i x hx
    have hb0 : b < w.heap.size := World.agg?_lt hg
    clear hi hl hr hx
    go_enter Try.func28, Try.ntmps28
    go_wp2_with fail
    refine (none_body (hb.ext ((Ext.refl w).alloc _))).mono ?_
    rintro e w1 ⟨rfl, rfl⟩
    go_wp2_with fail
    refine (of_body (hb.ext ((Ext.refl w).alloc _)) n h0 h1).mono ?_
    rintro e w1 ⟨rfl, hE⟩
    rw [HI.out]
    obtain ⟨r1, r2, r3, r5, r4⟩ := hE.rules
    go_wp2_with fail
    refine bodyPost_ret (resCT rfl _ _ ⟨w.heap.size, 0, none⟩ (.agg x.cells) rfl (run_loadVar_agg 39 18 Try.isAgg39 Try.sizeOf39 _ _ _ (by simp [go_sem, r3]))) rfl ⟨rfl, ?_⟩
    exact (((Ext.refl w).alloc _).trans hE).putAgg _ _ (Nat.le_refl _)
  · rw [hl]
    have HI := Lib.hid hi
    clear hi hl hr
    go_enter Try.func28, Try.ntmps28
    go_wp2_with fail
    refine (none_body (hb.ext ((Ext.refl w).alloc _))).mono ?_
    rintro e w1 ⟨rfl, rfl⟩
    go_wp2_with fail
    refine (of_body (hb.ext ((Ext.refl w).alloc _)) n h0 h1).mono ?_
    rintro e w1 ⟨rfl, hE⟩
    rw [HI.out]
    obtain ⟨r1, r2, r3, r5, r4⟩ := hE.rules
    go_wp2_with fail
    refine bodyPost_ret (resCT rfl _ _ ⟨w.heap.size, 0, none⟩ (.agg Ln.zero.cells) rfl (run_loadVar_agg 39 18 Try.isAgg39 Try.sizeOf39 _ _ _ (by simp [go_sem, r3]))) rfl ⟨rfl, ?_⟩
    exact (((Ext.refl w).alloc _).trans hE)
end Go.Proofs
