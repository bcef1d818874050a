/- Calls of the law's script, as plain records, and how they lie. -/
import Derived.Test.YtgggokajapoopaaWk
namespace Go
open Go.RowKit
structure Act10 where
  what : Int
  line : Ln
def Act10.cells (x : Act10) : Array Value := (Value.int .i64 x.what :: x.line.cells.toList).toArray
@[go_sem] theorem Act10.cells_size (x : Act10) : x.cells.size = 19 := by simp [Act10.cells, Ln.cells_size]
@[go_sem] theorem Act10.okCells (x : Act10) : okCells 19 x.cells = true := by
  have h := Ln.okCells x.line
  simp only [Go.okCells, Bool.and_eq_true, beq_iff_eq] at h ⊢
  refine ⟨x.cells_size, ?_⟩
  rw [Array.all_eq_true_iff_forall_mem] at h ⊢
  intro v hv
  simp only [Act10.cells, List.mem_toArray, List.mem_cons, Array.mem_toList_iff] at hv
  rcases hv with rfl | hv
  · rfl
  · exact h.2 v hv
theorem Act10.cells_0 (x : Act10) : x.cells[0]? = some (.int .i64 x.what) := by simp [Act10.cells]
theorem Act10.cells_1 (x : Act10) : x.cells[1]? = some (.int .u32 x.line.num) := by simp [Act10.cells, Ln.cells]
@[go_sem] theorem Act10.cells_get0 (x : Act10) (h : 0 < x.cells.size) : x.cells[0] = .int .i64 x.what := by simp [Act10.cells]
@[go_sem] theorem Act10.cells_get1 (x : Act10) (h : 1 < x.cells.size) : x.cells[1] = .int .u32 x.line.num := by simp [Act10.cells, Ln.cells]
/-- The line within a call. -/
theorem Act10.sub {w : World} {b o : Nat} {x : Act10} (h : w.agg? ⟨b, o, none⟩ 19 = some x.cells) :
    w.cell? ⟨b, o, none⟩ = some (.int .i64 x.what) ∧ w.cell? ⟨b, o + 1, none⟩ = some (.int .u32 x.line.num) ∧ w.agg? ⟨b, o + 1, none⟩ 18 = some x.line.cells := by
  have e : ∀ j, (⟨b, o, none⟩ : Addr).add j = ⟨b, o + j, none⟩ := fun j => by unfold Addr.add; split <;> simp_all
  refine ⟨?_, ?_, ?_⟩
  · have := World.agg?_cell h (j := 0) (by omega)
    rw [e] at this
    exact this.trans x.cells_0
  · have := World.agg?_cell h (j := 1) (by omega)
    rw [e] at this
    exact this.trans x.cells_1
  · obtain ⟨c, t, fr, hh, hsp, hle, hx⟩ := World.agg?_some h
    simp only at hh hle hx
    unfold World.agg?
    simp only [hh, Option.isSome_none, Bool.false_eq_true, if_false]
    rw [if_pos (by omega)]
    congr 1
    have : c.extract (o + 1) (o + 1 + 18) = (c.extract o (o + 19)).extract 1 19 := by
      rw [Array.extract_extract]; congr 1; omega
    rw [this, ← hx]
    apply Array.ext'
    have hs := x.line.cells_size
    simp only [Act10.cells, Array.toList_extract, List.extract_eq_take_drop, List.drop_succ_cons, List.drop_zero]
    rw [List.take_of_length_le (by simp [hs])]
@[go_sem] theorem Act10.agg_alloc (w : World) (x : Act10) (b : Nat) (hb : b = w.heap.size) : (w.alloc (.cells x.cells 57)).agg? ⟨b, 1, none⟩ 18 = some x.line.cells := by
  have h := World.agg?_alloc_at w x.cells 57 b 19 hb x.cells_size
  have := (Act10.sub h).2.2
  simpa using this
end Go
namespace Go.Proofs
open Go.RowKit
@[go_sem ↓] theorem Try.loadVar57 (a : Addr) : loadVar 57 a = loadAgg 57 a := rfl
@[go_sem] theorem Try.loadAgg57 (w : World) (a : Addr) : (loadAgg 57 a).run Try.prog w = aggRes (w.agg? a 19) (loadSlow Try.prog 57 a w) w :=
  run_loadAgg 57 19 Try.isAgg57 Try.sizeOf57 w a
@[go_sem ↓] theorem Try.storeVar57 (a : Addr) (v : Value) : storeVar 57 a v = storeAgg 57 a v := rfl
@[go_sem] theorem Try.storeAgg57 (w : World) (a : Addr) (cs : Array Value) : (storeAgg 57 a (.agg cs)).run Try.prog w = storeRes ((w.agg? a 19).isSome && w.loose a.block && okCells 19 cs) (.ok () (w.putAgg a cs)) (storeSlow Try.prog 57 a (.agg cs) w) :=
  run_storeAgg 57 19 Try.sizeOf57 w a cs
end Go.Proofs
