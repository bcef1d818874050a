/- Lines held against each other: '==' on the struct. -/
import Derived.Test.YtgggokajapoopaaLen
import Derived.Laws.StructEq
namespace Go
theorem all_range_ints : ∀ (xs ys : List Int), xs.length = ys.length → ((List.range xs.length).all fun i => xs.getD i 0 == ys.getD i 0) = (xs == ys)
  | [], [], _ => rfl
  | x :: xs, y :: ys, h => by
    have ih := all_range_ints xs ys (by simpa using h)
    rw [List.length_cons, List.range_succ_eq_map, List.all_cons, List.all_map]
    simp only [List.getD_cons_zero, Function.comp_def, List.getD_cons_succ, ih]
    simp [List.cons_beq_cons]
  | [], _ :: _, h => by simp at h
  | _ :: _, [], h => by simp at h
section
variable {P : Program} (w : World)
theorem run_equalIn_ints (k : IntKind) (d : Nat) (t e : TypeId) (n : Nat) (ht : P.underlying t = some (.array n e)) (he : P.underlying e = some (.int k)) (hsz : ∀ w, (sizeOf e).run P w = .ok 1 w)
    (xs ys : List Int) (hx : xs.length = n) (hy : ys.length = n) :
    (Op.equalIn (d + 2) t (.agg (xs.map (.int k)).toArray) (.agg (ys.map (.int k)).toArray)).run P w = .ok (xs == ys) w := by
  rw [← all_range_ints xs ys (hx.trans hy.symm), hx, List.range_eq_range', Op.equalIn]
  simp only [Sem.run_bind, run_underlying ht, Result.andThen_ok, hsz, Std.Legacy.Range.forIn_eq_forIn_range', Std.Legacy.Range.size, Nat.sub_zero, Nat.add_sub_cancel, Nat.div_one]
  have hl : ∀ i ∈ List.range' 0 n 1, i < n := fun i hi => by simpa using (List.mem_range'_1.1 hi).2
  generalize List.range' 0 n 1 = l at hl ⊢
  induction l with
  | nil => simp
  | cons i l ih =>
    have hi : i < n := hl i (by simp)
    have px : (part e (xs.map (.int k)).toArray (i * 1)).run P w = .ok (.int k (xs.getD i 0)) w := by
      simp [part, isAgg, run_underlying he, List.getD, List.getElem?_eq_getElem (show i < xs.length by omega)]
    have py : (part e (ys.map (.int k)).toArray (i * 1)).run P w = .ok (.int k (ys.getD i 0)) w := by
      simp [part, isAgg, run_underlying he, List.getD, List.getElem?_eq_getElem (show i < ys.length by omega)]
    have pe : (Op.equalIn (d + 1) e (.int k (xs.getD i 0)) (.int k (ys.getD i 0))).run P w = .ok (xs.getD i 0 == ys.getD i 0) w := run_equalIn_int w d e k k _ _ he
    simp only [List.forIn_cons, Sem.run_bind, px, py, pe, Result.andThen_ok, List.all_cons]
    cases hb : (xs.getD i 0 == ys.getD i 0)
    · simp
    · simp only [Bool.not_true, Bool.false_eq_true, if_false, Sem.run_pure, Result.andThen_ok, Bool.true_and]
      exact ih fun j hj => hl j (by simp [hj])
end
theorem Ln.cells_bs (l : Ln) : l.cells.extract 2 18 = (l.bs.map (Value.int .u8)).toArray := by
  have h := l.ok.2.1
  simp only [Ln.cells]
  apply Array.ext'
  simp
  rw [List.take_of_length_le (by simp [h])]
theorem Ln.beq_parts (a b : Ln) : decide (a = b) = (a.num == b.num && (a.st == b.st && a.bs == b.bs)) := by
  by_cases h : a = b
  · subst h; simp
  · simp only [h, decide_false, Bool.false_eq, Bool.and_eq_false_iff, beq_eq_false_iff_ne]
    by_cases h1 : a.num = b.num
    · by_cases h2 : a.st = b.st
      · by_cases h3 : a.bs = b.bs
        · exact absurd (Ln.ext' h1 h2 h3) h
        · simp [h3]
      · simp [h2]
    · simp [h1]
theorem Program.fieldsOf_eq {P : Program} {t : TypeId} {fs : Array Field} (h : P.underlying t = some (.struct fs)) : P.fieldsOf t = fs := by
  unfold Program.fieldsOf; rw [h]
theorem equal_line {P : Program} (w : World) (d : Nat) (t t0 t1 t2 e : TypeId) (f0 f1 f2 : Field) (h : P.underlying t = some (.struct #[f0, f1, f2]))
    (hn : f0.name ≠ "_" ∧ f1.name ≠ "_" ∧ f2.name ≠ "_") (ht : f0.type = t0 ∧ f1.type = t1 ∧ f2.type = t2) (ho : f0.offset = 0 ∧ f1.offset = 1 ∧ f2.offset = 2)
    (hh : P.stoodInHeld t = false) (h0 : P.underlying t0 = some (.int .u32)) (h1 : P.underlying t1 = some (.int .i64)) (h2 : P.underlying t2 = some (.array 16 e)) (he : P.underlying e = some (.int .u8)) (hse : ∀ w, (sizeOf e).run P w = .ok 1 w)
    (ha2 : ∀ w, (isAgg t2).run P w = .ok true w) (hs2 : ∀ w, (sizeOf t2).run P w = .ok 16 w) (a b : Ln) : (Op.equalIn (d + 3) t (.agg a.cells) (.agg b.cells)).run P w = .ok (decide (a = b)) w := by
  have hf := Program.fieldsOf_eq h
  rw [← hf] at h
  obtain ⟨ht0, ht1, ht2⟩ := ht
  obtain ⟨ho0, ho1, ho2⟩ := ho
  obtain ⟨hn0, hn1, hn2⟩ := hn
  rw [run_equalIn_struct w (d + 2) t _ _ h hh, hf, Ln.beq_parts]
  have p0 : ∀ l : Ln, (part t0 l.cells 0).run P w = .ok (.int .u32 l.num) w := fun l => by simp [part, isAgg, run_underlying h0, Ln.cells_0]
  have p1 : ∀ l : Ln, (part t1 l.cells 1).run P w = .ok (.int .i64 l.st) w := fun l => by simp [part, isAgg, run_underlying h1, Ln.cells_1]
  have p2 : ∀ l : Ln, (part t2 l.cells 2).run P w = .ok (.agg (l.bs.map (Value.int .u8)).toArray) w := fun l => by
    simp only [part, Sem.run_bind, ha2, hs2, Result.andThen_ok, if_true, Nat.reduceAdd, Ln.cells_bs, Sem.run_pure]
  have e0 := run_equalIn_int (P := P) w (d + 1) t0 .u32 .u32 a.num b.num h0
  have e1 := run_equalIn_int (P := P) w (d + 1) t1 .i64 .i64 a.st b.st h1
  have e2 := run_equalIn_ints (P := P) w .u8 d t2 e 16 h2 he hse a.bs b.bs a.ok.2.1 b.ok.2.1
  have go : ∀ d' (i0 i1 i2 : Bool), (Op.equalIn d' t0 (.int .u32 a.num) (.int .u32 b.num)).run P w = .ok i0 w → (Op.equalIn d' t1 (.int .i64 a.st) (.int .i64 b.st)).run P w = .ok i1 w →
      (Op.equalIn d' t2 (.agg (a.bs.map (Value.int .u8)).toArray) (.agg (b.bs.map (Value.int .u8)).toArray)).run P w = .ok i2 w → (Op.eqFields d' a.cells b.cells [f0, f1, f2]).run P w = .ok (i0 && (i1 && i2)) w := by
    intro d' i0 i1 i2 g0 g1 g2
    cases i0 <;> cases i1 <;> cases i2 <;> simp [Op.eqFields, hn0, hn1, hn2, ht0, ht1, ht2, ho0, ho1, ho2, p0, p1, p2, g0, g1, g2]
  exact go (d + 2) _ _ _ e0 e1 e2
end Go
namespace Go.Proofs
open Go.RowKit
theorem Try.equal39 (d : Nat) (w : World) (a b : Ln) : (Op.equalIn (d + 3) 39 (.agg a.cells) (.agg b.cells)).run Try.prog w = .ok (decide (a = b)) w :=
  equal_line w d 39 33 36 37 5 _ _ _ Try.underlying39 (by decide) ⟨rfl, rfl, rfl⟩ ⟨rfl, rfl, rfl⟩ Try.stoodInHeld39 Try.underlying33 Try.underlying36 Try.underlying37 Try.underlying5 Try.sizeOf5 Try.isAgg37 Try.sizeOf37 a b
@[go_sem ↓] theorem Try.neq39 (w : World) (a b : Ln) : (binOp .neq 39 (.agg a.cells) (.agg b.cells)).run Try.prog w = .ok (.bool (!decide (a = b))) w := by
  have h := Try.equal39 9997 w a b
  rw [run_neq_struct, h, Result.andThen_ok]
@[go_sem ↓] theorem Try.eql39 (w : World) (a b : Ln) : (binOp .eql 39 (.agg a.cells) (.agg b.cells)).run Try.prog w = .ok (.bool (decide (a = b))) w := by
  have h := Try.equal39 9997 w a b
  rw [run_eql_struct, h, Result.andThen_ok]
end Go.Proofs
