/- The line of a cache as a plain record, and how it lies in cells. -/
import Derived.Test.YtgggokajapoopaaBase
namespace Go
/-- A line: number, state, sixteen bytes. -/
structure Ln where
  num : Int
  st : Int
  bs : List Int
  ok : (0 ≤ num ∧ num < 4294967296) ∧ bs.length = 16 ∧ (∀ b ∈ bs, 0 ≤ b ∧ b < 256)
def Ln.cells (l : Ln) : Array Value := (Value.int .u32 l.num :: Value.int .i64 l.st :: l.bs.map (Value.int .u8)).toArray
@[go_sem] theorem Ln.cells_size (l : Ln) : l.cells.size = 18 := by simp [Ln.cells, l.ok.2.1]
theorem Ln.cells_0 (l : Ln) : l.cells[0]? = some (.int .u32 l.num) := by simp [Ln.cells]
theorem Ln.cells_1 (l : Ln) : l.cells[1]? = some (.int .i64 l.st) := by simp [Ln.cells]
@[go_sem] theorem Ln.cells_get0 (l : Ln) (h : 0 < l.cells.size) : l.cells[0] = .int .u32 l.num := by simp [Ln.cells]
@[go_sem] theorem Ln.cells_get1 (l : Ln) (h : 1 < l.cells.size) : l.cells[1] = .int .i64 l.st := by simp [Ln.cells]
@[go_sem] theorem Ln.okCells (l : Ln) : okCells 18 l.cells = true := by
  simp [Go.okCells, Ln.cells, Value.oneCell', l.ok.2.1]
theorem Ln.ext' {a b : Ln} (h1 : a.num = b.num) (h2 : a.st = b.st) (h3 : a.bs = b.bs) : a = b := by
  cases a; cases b; simp_all
theorem Ln.cells_inj {a b : Ln} (h : a.cells = b.cells) : a = b := by
  unfold Ln.cells at h
  have h' := congrArg Array.toList h
  simp only [List.cons.injEq, Value.int.injEq, true_and] at h'
  refine Ln.ext' h'.1 h'.2.1 ?_
  exact (List.map_inj_right (fun x y hxy => by simpa using hxy)).1 h'.2.2
instance : DecidableEq Ln := fun a b =>
  if h : a.num = b.num ∧ a.st = b.st ∧ a.bs = b.bs then .isTrue (Ln.ext' h.1 h.2.1 h.2.2) else .isFalse (fun e => h (by subst e; simp))
/-- A row of elements of k cells from an address on: element i lies at i * k. -/
def Row {α : Type} (k : Nat) (enc : α → Array Value) (w : World) (a : Option Addr) (L : List α) : Prop :=
  ∀ i x, L[i]? = some x → ∃ b off, a = some ⟨b, off, none⟩ ∧ w.agg? ⟨b, off + i * k, none⟩ k = some (enc x)
theorem World.agg?_lt {w : World} {a : Addr} {n : Nat} {cs : Array Value} (h : w.agg? a n = some cs) : a.block < w.heap.size := by
  obtain ⟨c, t, fr, hh, _⟩ := World.agg?_some h
  exact (Array.getElem?_eq_some_iff.1 hh).1
theorem Row.mono {α : Type} {k : Nat} {enc : α → Array Value} {w w' : World} {a : Option Addr} {L : List α} (h : Row k enc w a L)
    (hw : ∀ b, b < w.heap.size → (∃ off, a = some ⟨b, off, none⟩) → w'.heap[b]? = w.heap[b]?) : Row k enc w' a L := by
  intro i x hx
  obtain ⟨b, off, rfl, hg⟩ := h i x hx
  exact ⟨b, off, rfl, by rw [World.agg?_of_block (hw b (World.agg?_lt hg) ⟨off, rfl⟩)]; exact hg⟩
/-- All that lay lies as it lay. -/
def Ext (w w' : World) : Prop := Go.RowKit.Below w.heap.size w w'
theorem Row.ext {α : Type} {k : Nat} {enc : α → Array Value} {w w' : World} {a : Option Addr} {L : List α} (h : Row k enc w a L) (hw : Ext w w') : Row k enc w' a L :=
  h.mono fun b hb _ => hw.block b hb
/-- The first cell of an element of a row. -/
theorem Row.cell {α : Type} {k : Nat} {enc : α → Array Value} {w : World} {a : Option Addr} {L : List α} (h : Row k enc w a L) {i : Nat} {x : α} (hx : L[i]? = some x) {j : Nat} (hj : j < k) :
    ∃ b off, a = some ⟨b, off, none⟩ ∧ w.cell? ⟨b, off + i * k + j, none⟩ = (enc x)[j]? := by
  obtain ⟨b, off, rfl, hg⟩ := h i x hx
  refine ⟨b, off, rfl, ?_⟩
  rw [← World.agg?_cell hg hj]
  congr 1
  unfold Addr.add; split <;> simp_all
theorem Ext.refl (w : World) : Ext w w := Go.RowKit.Below.refl _ _
theorem Ext.trans {a b c : World} (h : Ext a b) (k : Ext b c) : Ext a c := Go.RowKit.Below.trans h (Go.RowKit.Below.mono k h.size)
theorem Ext.alloc {a w : World} (h : Ext a w) (o : Obj) : Ext a (w.alloc o) := Go.RowKit.Below.alloc h h.size o
theorem Ext.drew {a w : World} (h : Ext a w) : Ext a w.drew := Go.RowKit.Below.drew h
theorem Ext.drewN {a w : World} (h : Ext a w) (n : Nat) : Ext a (w.drewN n) := ⟨h.os, h.tape, h.output, h.size, h.block⟩
theorem Ext.putAgg {a w : World} (h : Ext a w) (p : Addr) (cs : Array Value) (hp : a.heap.size ≤ p.block) : Ext a (w.putAgg p cs) :=
  ⟨h.os, h.tape, h.output, by rw [World.size_putAgg]; exact h.size, fun k hk => by rw [World.putAgg_other _ _ _ (by omega)]; exact h.block k hk⟩
theorem Ext.setCell {a w : World} (h : Ext a w) (p : Addr) (v : Value) (hp : a.heap.size ≤ p.block) : Ext a (w.setCell p v) := Go.RowKit.Below.setCell h hp v
theorem Ext.cell {a w : World} (h : Ext a w) {b o : Nat} (hb : b < a.heap.size) : w.cell? ⟨b, o, none⟩ = a.cell? ⟨b, o, none⟩ := Go.RowKit.Below.cell h (p := ⟨b, o, none⟩) hb
theorem Ext.agg {a w : World} (h : Ext a w) {b o n : Nat} (hb : b < a.heap.size) : w.agg? ⟨b, o, none⟩ n = a.agg? ⟨b, o, none⟩ n := World.agg?_of_block (h.block b hb)
theorem Ext.lt {a w : World} (h : Ext a w) {b : Nat} (hb : b < a.heap.size) : b < w.heap.size := Nat.lt_of_lt_of_le hb h.size
theorem World.loose_of_block {w w' : World} {b : Nat} (h : w'.heap[b]? = w.heap[b]?) : w'.loose b = w.loose b := by
  simp only [World.loose, h]
/-- What a call that only makes memory leaves: all old cells and marks read as before. -/
theorem Ext.rules {W w1 : World} (hb : Ext W w1) : (∀ b o, b < W.heap.size → w1.cell? ⟨b, o, none⟩ = W.cell? ⟨b, o, none⟩) ∧ (∀ b o, b < W.heap.size → w1.frozen? ⟨b, o, none⟩ = W.frozen? ⟨b, o, none⟩) ∧
    (∀ b o n, b < W.heap.size → w1.agg? ⟨b, o, none⟩ n = W.agg? ⟨b, o, none⟩ n) ∧ (∀ b, b < W.heap.size → w1.loose b = W.loose b) ∧ W.heap.size ≤ w1.heap.size :=
  ⟨fun b o h => Go.RowKit.Below.cell hb (p := ⟨b, o, none⟩) h, fun b o h => Go.RowKit.Below.frozen hb (p := ⟨b, o, none⟩) h, fun _ _ _ h => hb.agg h, fun b h => World.loose_of_block (hb.block b h), hb.size⟩
/-- Where a number stands in a list of lines; -1: nowhere. -/
def idxOf (n : Int) (L : List Ln) : Int := match L.findIdx? (·.num == n) with | some i => (i : Int) | none => -1
end Go
