/- The home, walked: the deferred closure of Take in a frame that gives up. -/
import Derived.Test.YtgggokajapoopaaHv
import Derived.Test.YtgggokajapoopaaHkl
namespace Go.Proofs
open Go.RowKit
set_option maxRecDepth 100000 in
set_option maxHeartbeats 400000 in
theorem recov_stop (b c : Nat) (a : Option Addr) (k l : Nat) (x n : Int) (older : List PanicEntry) (w : World) (hp : w.cell? ⟨b, 0, none⟩ = some (.slice a k l)) (zp : w.frozen? ⟨b, 0, none⟩ = false) (hq : w.cell? ⟨c, 0, none⟩ = some (.int .i64 x)) (zq : w.frozen? ⟨c, 0, none⟩ = false) (hpl : b < w.heap.size) (hql : c < w.heap.size) (hne : b ≠ c) :
    CallsD Try.prog 102 #[.pointer (some ⟨b, 0, none⟩), .pointer (some ⟨c, 0, none⟩)] (.panicking ({ v := .iface 182 (.agg #[.int .i64 n]), recovered := false } :: older)) w fun e u' w' =>
      e = .returned (.tuple #[]) ∧ u' = .panicking ({ v := .iface 182 (.agg #[.int .i64 n]), recovered := true } :: older) ∧ w' = (((w.setCell ⟨b, 0, none⟩ (.slice none 0 0)).setCell ⟨c, 0, none⟩ (.int .i64 n)).alloc (.cells #[.int .i64 n] 182)).drew := by
  refine callsD_of_wpS Try.func102 rfl fun c₀ cs hu => ?_
  apply wpS_seq
  apply wpS_region
  simp [wpOpsS, go_sem, recoverD, hu, Try.ntmps102, Exit.thenS]
  have hta : ∀ (w : World), (Instr.typeAssert (.iface 182 (.agg #[.int .i64 n])) 20 182 true).run Try.prog w = .ok (.tuple #[.agg #[.int .i64 n], .bool true]) w := fun _ => by kernel_rfl
  rw [show #[Value.pointer (some (⟨b, 0, none⟩ : Addr)), Value.pointer (some (⟨c, 0, none⟩ : Addr))] ++ (Array.replicate 11 undef).setIfInBounds 3 (Value.iface 182 (.agg #[.int .i64 n])) = #[Value.pointer (some (⟨b, 0, none⟩ : Addr)), Value.pointer (some (⟨c, 0, none⟩ : Addr)), undef, undef, undef, Value.iface 182 (.agg #[.int .i64 n]), undef, undef, undef, undef, undef, undef, undef] from rfl]
  refine wpS_of_wp ?_
  go_wp2_with fail
  have hne' : c ≠ b := Ne.symm hne
  go_region
  go_wp2_with fail
  cases c₀
  simp_all [bodyPostS, results, Try.results102]
theorem lt_of_cell {w : World} {a : Addr} {v : Value} (h : w.cell? a = some v) : a.block < w.heap.size := by
  by_cases hl : a.block < w.heap.size
  · exact hl
  · unfold World.cell? at h
    rw [Array.getElem?_eq_none (by omega)] at h
    cases h
theorem stop_facts {w w5 : World} {A : Nat} {v : Value} {x n : Int} {o : Obj} (d1 : w5.cell? ⟨A + 1, 0, none⟩ = some v) (d3 : w5.cell? ⟨A + 1 + 1, 0, none⟩ = some (.int .i64 x)) (hE : Ext w w5) (hA : w.heap.size ≤ A := by exact Nat.le_refl _) :
    (((w5.setCell ⟨A + 1, 0, none⟩ (.slice none 0 0)).setCell ⟨A + 1 + 1, 0, none⟩ (.int .i64 n)).alloc o).drew.cell? ⟨A + 1, 0, none⟩ = some (.slice none 0 0) ∧
    (((w5.setCell ⟨A + 1, 0, none⟩ (.slice none 0 0)).setCell ⟨A + 1 + 1, 0, none⟩ (.int .i64 n)).alloc o).drew.cell? ⟨A + 1 + 1, 0, none⟩ = some (.int .i64 n) ∧
    Ext w (((w5.setCell ⟨A + 1, 0, none⟩ (.slice none 0 0)).setCell ⟨A + 1 + 1, 0, none⟩ (.int .i64 n)).alloc o).drew := by
  have l1 : A + 1 < w5.heap.size := lt_of_cell d1
  have l2 : A + 1 + 1 < w5.heap.size := lt_of_cell d3
  refine ⟨?_, ?_, (((hE.setCell _ _ (by simp only; omega)).setCell _ _ (by simp only; omega)).alloc _).drew⟩
  · simp [go_sem, d1, l1]
  · simp [go_sem, d3, l2]
end Go.Proofs
