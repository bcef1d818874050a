/- The message as a plain record, sixteen bytes, and how they lie in cells. -/
import Derived.Test.YtgggokajapoopaaEq
import Derived.Test.YtgggokajapoopaaCpy
namespace Go
open Go.RowKit
/-- Sixteen bytes. -/
structure B16 where
  bs : List Int
  ok : bs.length = 16 ∧ ∀ b ∈ bs, 0 ≤ b ∧ b < 256
def B16.cells (x : B16) : Array Value := (x.bs.map (Value.int .u8)).toArray
@[go_sem] theorem B16.cells_size (x : B16) : x.cells.size = 16 := by simp [B16.cells, x.ok.1]
@[go_sem] theorem B16.okCells (x : B16) : okCells 16 x.cells = true := by
  simp [Go.okCells, B16.cells, Value.oneCell', x.ok.1]
theorem B16.ext' {a b : B16} (h : a.bs = b.bs) : a = b := by cases a; cases b; simp_all
instance : DecidableEq B16 := fun a b => if h : a.bs = b.bs then .isTrue (B16.ext' h) else .isFalse (fun e => h (by rw [e]))
def B16.zero : B16 := ⟨List.replicate 16 0, by simp, by simp⟩
@[go_sem] theorem B16.zero_cells : #[Value.int .u8 0, .int .u8 0, .int .u8 0, .int .u8 0, .int .u8 0, .int .u8 0, .int .u8 0, .int .u8 0, .int .u8 0, .int .u8 0, .int .u8 0, .int .u8 0, .int .u8 0, .int .u8 0, .int .u8 0, .int .u8 0] = B16.zero.cells := rfl
/-- A message: kind, from, to, line, bytes. -/
structure Ms where
  kind : Int
  frm : Int
  to : Int
  line : Int
  b : B16
  ok : 0 ≤ line ∧ line < 4294967296
theorem Ms.ext' {x y : Ms} (h1 : x.kind = y.kind) (h2 : x.frm = y.frm) (h3 : x.to = y.to) (h4 : x.line = y.line) (h5 : x.b = y.b) : x = y := by cases x; cases y; simp_all
def Ms.cells (m : Ms) : Array Value := (Value.int .i64 m.kind :: Value.int .i64 m.frm :: Value.int .i64 m.to :: Value.int .u32 m.line :: m.b.bs.map (Value.int .u8)).toArray
@[go_sem] theorem Ms.cells_size (m : Ms) : m.cells.size = 20 := by simp [Ms.cells, m.b.ok.1]
@[go_sem] theorem Ms.okCells (m : Ms) : okCells 20 m.cells = true := by
  simp [Go.okCells, Ms.cells, Value.oneCell', m.b.ok.1]
theorem Ms.cells_0 (m : Ms) : m.cells[0]? = some (.int .i64 m.kind) := by simp [Ms.cells]
theorem Ms.cells_1 (m : Ms) : m.cells[1]? = some (.int .i64 m.frm) := by simp [Ms.cells]
theorem Ms.cells_2 (m : Ms) : m.cells[2]? = some (.int .i64 m.to) := by simp [Ms.cells]
theorem Ms.cells_3 (m : Ms) : m.cells[3]? = some (.int .u32 m.line) := by simp [Ms.cells]
@[go_sem] theorem Ms.cells_get0 (m : Ms) (h : 0 < m.cells.size) : m.cells[0] = .int .i64 m.kind := by simp [Ms.cells]
@[go_sem] theorem Ms.cells_get1 (m : Ms) (h : 1 < m.cells.size) : m.cells[1] = .int .i64 m.frm := by simp [Ms.cells]
@[go_sem] theorem Ms.cells_get2 (m : Ms) (h : 2 < m.cells.size) : m.cells[2] = .int .i64 m.to := by simp [Ms.cells]
@[go_sem] theorem Ms.cells_get3 (m : Ms) (h : 3 < m.cells.size) : m.cells[3] = .int .u32 m.line := by simp [Ms.cells]
instance : DecidableEq Ms := fun a b =>
  if h : a.kind = b.kind ∧ a.frm = b.frm ∧ a.to = b.to ∧ a.line = b.line ∧ a.b = b.b then .isTrue (Ms.ext' h.1 h.2.1 h.2.2.1 h.2.2.2.1 h.2.2.2.2) else .isFalse (fun e => h (by subst e; simp))
theorem Ms.cells_bs (m : Ms) : m.cells.extract 4 20 = m.b.cells := by
  have h := m.b.ok.1
  apply Array.ext'
  simp [Ms.cells, B16.cells]
  rw [List.take_of_length_le (by simp [h])]
/-- The parts of a message that lies somewhere. -/
theorem Ms.sub {w : World} {b o : Nat} {m : Ms} (h : w.agg? ⟨b, o, none⟩ 20 = some m.cells) :
    w.cell? ⟨b, o, none⟩ = some (.int .i64 m.kind) ∧ w.cell? ⟨b, o + 1, none⟩ = some (.int .i64 m.frm) ∧ w.cell? ⟨b, o + 2, none⟩ = some (.int .i64 m.to) ∧ w.cell? ⟨b, o + 3, none⟩ = some (.int .u32 m.line) ∧ w.agg? ⟨b, o + 4, none⟩ 16 = some m.b.cells := by
  have e : ∀ j, (⟨b, o, none⟩ : Addr).add j = ⟨b, o + j, none⟩ := fun j => by unfold Addr.add; split <;> simp_all
  have hc : ∀ j (hj : j < 20), w.cell? ⟨b, o + j, none⟩ = m.cells[j]? := fun j hj => by
    have := World.agg?_cell h (j := j) hj
    rwa [e] at this
  refine ⟨(hc 0 (by omega)).trans m.cells_0, (hc 1 (by omega)).trans m.cells_1, (hc 2 (by omega)).trans m.cells_2, (hc 3 (by omega)).trans m.cells_3, ?_⟩
  obtain ⟨c, t, fr, hh, hsp, hle, hx⟩ := World.agg?_some h
  simp only at hh hle hx
  unfold World.agg?
  simp only [hh, Option.isSome_none, Bool.false_eq_true, if_false]
  rw [if_pos (by omega), show c.extract (o + 4) (o + 4 + 16) = (c.extract o (o + 20)).extract 4 20 by rw [Array.extract_extract]; congr 1; omega, ← hx, m.cells_bs]
/-- A message that was boxed. -/
structure MsBox (W : World) (A : Nat) (m : Ms) : Prop where
  k : W.cell? ⟨A, 0, none⟩ = some (.int .i64 m.kind)
  f : W.cell? ⟨A, 1, none⟩ = some (.int .i64 m.frm)
  t : W.cell? ⟨A, 2, none⟩ = some (.int .i64 m.to)
  l : W.cell? ⟨A, 3, none⟩ = some (.int .u32 m.line)
  bs : W.agg? ⟨A, 4, none⟩ 16 = some m.b.cells
  ag : W.agg? ⟨A, 0, none⟩ 20 = some m.cells
  lt : A < W.heap.size
theorem MsBox.ext {W W' : World} {A : Nat} {m : Ms} (h : MsBox W A m) (hE : Ext W W') : MsBox W' A m := by
  have h1 := h.lt
  exact ⟨(hE.cell h1).trans h.k, (hE.cell h1).trans h.f, (hE.cell h1).trans h.t, (hE.cell h1).trans h.l, (hE.agg h1).trans h.bs, (hE.agg h1).trans h.ag, Nat.lt_of_lt_of_le h1 hE.size⟩
theorem MsBox.keep {W W' : World} {A : Nat} {m : Ms} (h : MsBox W A m) (hk : W'.heap[A]? = W.heap[A]?) : MsBox W' A m := by
  have h1 := h.lt
  have hl : A < W'.heap.size := by
    have : W'.heap[A]? ≠ none := by rw [hk, Array.getElem?_eq_getElem h1]; simp
    by_cases h : A < W'.heap.size
    · exact h
    · exact absurd (Array.getElem?_eq_none (by omega)) this
  exact ⟨(World.cell?_of_block (w := W) (a := ⟨A, 0, none⟩) hk).trans h.k, (World.cell?_of_block (w := W) (a := ⟨A, 1, none⟩) hk).trans h.f, (World.cell?_of_block (w := W) (a := ⟨A, 2, none⟩) hk).trans h.t, (World.cell?_of_block (w := W) (a := ⟨A, 3, none⟩) hk).trans h.l, (World.agg?_of_block (a := ⟨A, 4, none⟩) hk).trans h.bs, (World.agg?_of_block (a := ⟨A, 0, none⟩) hk).trans h.ag, hl⟩
theorem MsBox.of {W : World} {A : Nat} {m : Ms} (h : W.agg? ⟨A, 0, none⟩ 20 = some m.cells) : MsBox W A m := by
  obtain ⟨h0, h1, h2, h3, h4⟩ := Ms.sub h
  simp only [Nat.zero_add] at h1 h2 h3 h4
  exact ⟨h0, h1, h2, h3, h4, h, World.agg?_lt h⟩
theorem MsBox.start (w : World) (m : Ms) : MsBox (w.alloc (.cells m.cells 79)) w.heap.size m := MsBox.of (World.agg?_alloc_at w m.cells 79 w.heap.size 20 rfl m.cells_size)
/-! ### == -/
theorem B16.beq (a b : B16) : (a.bs == b.bs) = decide (a = b) := by
  by_cases h : a = b
  · subst h; simp
  · simp only [h, decide_false, beq_eq_false_iff_ne, ne_eq]
    exact fun e => h (B16.ext' e)
theorem Ms.beq_parts (a b : Ms) : decide (a = b) = (a.kind == b.kind && (a.frm == b.frm && (a.to == b.to && (a.line == b.line && decide (a.b = b.b))))) := by
  by_cases h : a = b
  · subst h; simp
  · rw [decide_eq_false h]
    symm
    rw [Bool.eq_false_iff]
    intro h'
    simp only [Bool.and_eq_true, beq_iff_eq, decide_eq_true_eq] at h'
    exact h (Ms.ext' h'.1 h'.2.1 h'.2.2.1 h'.2.2.2.1 h'.2.2.2.2)
end Go
namespace Go.Proofs
open Go.RowKit
@[go_sem ↓] theorem Try.loadVar79 (a : Addr) : loadVar 79 a = loadAgg 79 a := rfl
@[go_sem] theorem Try.loadAgg79 (w : World) (a : Addr) : (loadAgg 79 a).run Try.prog w = aggRes (w.agg? a 20) (loadSlow Try.prog 79 a w) w :=
  run_loadAgg 79 20 Try.isAgg79 Try.sizeOf79 w a
@[go_sem ↓] theorem Try.storeVar79 (a : Addr) (v : Value) : storeVar 79 a v = storeAgg 79 a v := rfl
@[go_sem] theorem Try.storeAgg79 (w : World) (a : Addr) (cs : Array Value) : (storeAgg 79 a (.agg cs)).run Try.prog w = storeRes ((w.agg? a 20).isSome && w.loose a.block && okCells 20 cs) (.ok () (w.putAgg a cs)) (storeSlow Try.prog 79 a (.agg cs) w) :=
  run_storeAgg 79 20 Try.sizeOf79 w a cs
@[go_sem ↓] theorem Try.loadVar37 (a : Addr) : loadVar 37 a = loadAgg 37 a := rfl
@[go_sem] theorem Try.loadAgg37 (w : World) (a : Addr) : (loadAgg 37 a).run Try.prog w = aggRes (w.agg? a 16) (loadSlow Try.prog 37 a w) w :=
  run_loadAgg 37 16 Try.isAgg37 Try.sizeOf37 w a
@[go_sem ↓] theorem Try.storeVar37 (a : Addr) (v : Value) : storeVar 37 a v = storeAgg 37 a v := rfl
@[go_sem] theorem Try.storeAgg37 (w : World) (a : Addr) (cs : Array Value) : (storeAgg 37 a (.agg cs)).run Try.prog w = storeRes ((w.agg? a 16).isSome && w.loose a.block && okCells 16 cs) (.ok () (w.putAgg a cs)) (storeSlow Try.prog 37 a (.agg cs) w) :=
  run_storeAgg 37 16 Try.sizeOf37 w a cs
theorem Try.equal37 (d : Nat) (w : World) (a b : B16) : (Op.equalIn (d + 2) 37 (.agg a.cells) (.agg b.cells)).run Try.prog w = .ok (decide (a = b)) w := by
  rw [← B16.beq]
  exact run_equalIn_ints w .u8 d 37 5 16 Try.underlying37 Try.underlying5 Try.sizeOf5 a.bs b.bs a.ok.1 b.ok.1
@[go_sem ↓] theorem Try.neq37 (w : World) (a b : B16) : (binOp .neq 37 (.agg a.cells) (.agg b.cells)).run Try.prog w = .ok (.bool (!decide (a = b))) w := by
  have h := Try.equal37 9998 w a b
  simp only [binOp]
  simp [Op.equal, Op.maxDepth, h]
theorem Try.info79 : (Try.prog.info? 79).map (fun i => (i.zero, i.size, i.bytes)) = some (some (.agg (Ms.cells ⟨0, 0, 0, 0, B16.zero, by omega⟩)), 20, 48) := by kernel_rfl
end Go.Proofs
