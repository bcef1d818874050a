/- The home, walked: busy. -/
import Derived.Test.YtgggokajapoopaaHm
import Derived.BigRegion
namespace Go.Proofs
open Go.RowKit
variable {w : World} {wb eb hb ib bb : Nat} {k : WkS} {vo vq vm : Value} {ol oq : Option Nat}
theorem _root_.Go.WkAt.busied {W0 : World} (H : WkAt W0 wb eb hb ib bb k vo vq vm ol oq) (m : Ms) (waits : Int) (told : Bool) :
    WkAt (((((W0.setCell ⟨eb, 5, none⟩ (.bool true)).setCell ⟨eb, 6, none⟩ (.int .i64 m.frm)).setCell ⟨eb, 7, none⟩ (.int .i64 m.kind)).setCell ⟨eb, 8, none⟩ (.int .i64 waits)).setCell ⟨eb, 9, none⟩ (.bool told)).drew wb eb hb ib bb { k with e := k.e.busied m waits told } vo vq vm ol oq ∧
    Chg (WkF wb eb bb ol) W0 (((((W0.setCell ⟨eb, 5, none⟩ (.bool true)).setCell ⟨eb, 6, none⟩ (.int .i64 m.frm)).setCell ⟨eb, 7, none⟩ (.int .i64 m.kind)).setCell ⟨eb, 8, none⟩ (.int .i64 waits)).setCell ⟨eb, 9, none⟩ (.bool told)).drew := by
  have s5 : ∀ (e : En), (e.cells vq).setIfInBounds 5 (.bool true) = ({ e with busy := true } : En).cells vq := fun e => rfl
  have s6 : ∀ (e : En), (e.cells vq).setIfInBounds 6 (.int .i64 m.frm) = ({ e with asks := m.frm } : En).cells vq := fun e => rfl
  have s7 : ∀ (e : En), (e.cells vq).setIfInBounds 7 (.int .i64 m.kind) = ({ e with kind := m.kind } : En).cells vq := fun e => rfl
  have s8 : ∀ (e : En), (e.cells vq).setIfInBounds 8 (.int .i64 waits) = ({ e with waits := waits } : En).cells vq := fun e => rfl
  have s9 : ∀ (e : En), (e.cells vq).setIfInBounds 9 (.bool told) = ({ e with told := told } : En).cells vq := fun e => rfl
  have h1 := heap_setCell_same _ eb 5 _ 84 (.bool true) H.hE
  rw [s5] at h1
  have h2 := heap_setCell_same _ eb 6 _ 84 (.int .i64 m.frm) h1
  rw [s6] at h2
  have h3 := heap_setCell_same _ eb 7 _ 84 (.int .i64 m.kind) h2
  rw [s7] at h3
  have h4 := heap_setCell_same _ eb 8 _ 84 (.int .i64 waits) h3
  rw [s8] at h4
  have h5 := heap_setCell_same _ eb 9 _ 84 (.bool told) h4
  rw [s9] at h5
  have step : ∀ (X : World), X.heap[eb]? = some (.cells ((k.e.busied m waits told).cells vq) 84 (0, 0)) → (∀ b, b ≠ eb → X.heap[b]? = W0.heap[b]?) → (X.os = W0.os ∧ X.tape = W0.tape ∧ X.output = W0.output ∧ W0.heap.size ≤ X.heap.size) →
      WkAt X.drew wb eb hb ib bb { k with e := k.e.busied m waits told } vo vq vm ol oq ∧ Chg (WkF wb eb bb ol) W0 X.drew := fun X a1 a2 a3 => H.entry (w' := X.drew) (e := k.e.busied m waits told) rfl a2 a3 a1
  refine step _ h5 (fun b hb => ?_) ⟨?_, ?_, ?_, ?_⟩
  · rw [heap_setCell_other _ _ _ _ hb, heap_setCell_other _ _ _ _ hb, heap_setCell_other _ _ _ _ hb, heap_setCell_other _ _ _ _ hb, heap_setCell_other _ _ _ _ hb]
  all_goals simp [World.setCell]
set_option maxRecDepth 100000 in
set_option maxHeartbeats 1000000 in
theorem busy_any (m : Ms) (waits : Int) (told : Bool) (h : WkAt w wb eb hb ib bb k vo vq vm ol oq) : Calls Try.prog 163 #[.pointer (some ⟨wb, 0, none⟩), .agg m.cells, .int .i64 waits, .bool told] w (StepE w wb eb hb ib bb k (k.e.busied m waits told) vo vq vm ol oq) := by
  have H := Lib.hid (h.ext ((Ext.refl w).alloc (.cells m.cells 79)))
  have h' := h.ext ((Ext.refl w).alloc (.cells m.cells 79))
  have HB := Lib.hid (MsBox.start w m)
  obtain ⟨bk, bf, bt, bl, bb', ba, blt⟩ := MsBox.start w m
  obtain ⟨f1, -, -, -⟩ := h'.facts
  obtain ⟨l1, l2, -⟩ := h.lt
  have c5 : (w.alloc (.cells m.cells 79)).cell? ⟨eb, 5, none⟩ = some (.bool k.e.busy) := (h'.cell 5).trans rfl
  have c6 : (w.alloc (.cells m.cells 79)).cell? ⟨eb, 6, none⟩ = some (.int .i64 k.e.asks) := (h'.cell 6).trans rfl
  have c7 : (w.alloc (.cells m.cells 79)).cell? ⟨eb, 7, none⟩ = some (.int .i64 k.e.kind) := (h'.cell 7).trans rfl
  have c8 : (w.alloc (.cells m.cells 79)).cell? ⟨eb, 8, none⟩ = some (.int .i64 k.e.waits) := (h'.cell 8).trans rfl
  have c9 : (w.alloc (.cells m.cells 79)).cell? ⟨eb, 9, none⟩ = some (.bool k.e.told) := (h'.cell 9).trans rfl
  have g5 := h'.fr 5
  have g6 := h'.fr 6
  have g7 := h'.fr 7
  have g8 := h'.fr 8
  have g9 := h'.fr 9
  have hne : wb ≠ eb := h.n1.1
  have hAe : w.heap.size ≠ eb := by omega
  clear h h' bt bl bb' ba
  go_enter Try.func163, Try.ntmps163
  go_wp2_with fail
  generalize hW0 : w.alloc (.cells m.cells 79) = W0 at *
  go_region
  go_end0
  have hE0 : Ext w W0 := hW0 ▸ (Ext.refl w).alloc (.cells m.cells 79)
  obtain ⟨x1, x2⟩ := H.out.busied m waits told
  exact ⟨rfl, x1, (hE0.chg _).trans x2 fun _ _ h => h⟩
end Go.Proofs
