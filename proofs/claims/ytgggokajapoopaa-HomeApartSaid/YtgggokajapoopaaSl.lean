/- Slices of structs that lie at the head of a block of their own: how they lie, and append. -/
import Derived.Test.YtgggokajapoopaaLa
namespace Go
open Go.RowKit
theorem okCells_size {k : Nat} {cs : Array Value} (h : okCells k cs = true) : cs.size = k := by
  simp only [okCells, Bool.and_eq_true, beq_iff_eq] at h; exact h.1
theorem okCells_one {k : Nat} {cs : Array Value} (h : okCells k cs = true) : ∀ v ∈ cs, v.oneCell' = true := by
  simp only [okCells, Bool.and_eq_true, beq_iff_eq] at h
  exact Array.all_eq_true_iff_forall_mem.1 h.2
theorem List.take_drop_flat {α β : Type} (f : α → List β) (k : Nat) (hk : ∀ a, (f a).length = k) : ∀ (L : List α) (i : Nat) (x : α), L[i]? = some x → ((L.flatMap f).drop (i * k)).take k = f x
  | [], i, x, h => by simp at h
  | a :: L, 0, x, h => by
    simp at h; subst h
    simp [← hk a]
  | a :: L, i + 1, x, h => by
    have ih := List.take_drop_flat f k hk L i x (by simpa using h)
    rw [List.flatMap_cons, List.drop_append, List.drop_of_length_le (by rw [hk a, Nat.add_mul]; omega), List.nil_append, hk a, Nat.add_mul, Nat.one_mul, Nat.add_sub_cancel]
    exact ih
section
variable {α : Type} {e k : Nat} {enc : α → Array Value}
def flat (enc : α → Array Value) (L : List α) : List Value := L.flatMap fun x => (enc x).toList
theorem length_flat (hk : ∀ x, okCells k (enc x) = true) (L : List α) : (flat enc L).length = L.length * k := by
  induction L with
  | nil => simp [flat]
  | cons a L ih =>
    have := okCells_size (hk a)
    simp [flat] at ih ⊢
    rw [ih, this, Nat.add_mul]; omega
theorem flat_append (L M : List α) : flat enc (L ++ M) = flat enc L ++ flat enc M := by simp [flat]
theorem flat_one (x : α) : flat enc [x] = (enc x).toList := by simp [flat]
theorem flat_oneCell (hk : ∀ x, okCells k (enc x) = true) (L : List α) : ∀ v ∈ flat enc L, v.oneCell' = true := by
  intro v hv
  simp only [flat, List.mem_flatMap] at hv
  obtain ⟨x, _, hx⟩ := hv
  exact okCells_one (hk x) v (by simpa using hx)
/-- A block whose first cells are the elements of a list. -/
theorem Row_of_block {w : World} {g cap : Nat} {cur : Array Value} {t : TypeId} {fr : Nat × Nat} {L : List α} (hk : ∀ x, okCells k (enc x) = true) (hg : w.heap[g]? = some (.cells cur t fr)) (hc : L.length ≤ cap) (hs : cur.size = cap * k)
    (hx : cur.toList.take (L.length * k) = flat enc L) : Row k enc w (some ⟨g, 0, none⟩) L := by
  intro i x hi
  refine ⟨g, 0, rfl, ?_⟩
  have hil := (List.getElem?_eq_some_iff.1 hi).1
  have h1 : (i + 1) * k ≤ L.length * k := Nat.mul_le_mul_right _ (by omega)
  have h2 : L.length * k ≤ cap * k := Nat.mul_le_mul_right _ hc
  have h3 : (i + 1) * k = i * k + k := by rw [Nat.add_mul]; omega
  have hle : i * k + k ≤ cur.size := by omega
  unfold World.agg?
  simp only [hg, Option.isSome_none, Bool.false_eq_true, if_false, Nat.zero_add]
  rw [if_pos hle]
  congr 1
  apply Array.ext'
  rw [Array.toList_extract, List.extract_eq_take_drop]
  have h1 := List.take_drop_flat (fun x => (enc x).toList) k (fun a => by simpa using okCells_size (hk a)) L i x hi
  change ((flat enc L).drop (i * k)).take k = _ at h1
  rw [← hx, List.drop_take, List.take_take] at h1
  rw [show i * k + k - i * k = k from by omega, ← h1]
  congr 1
  omega
/-- A slice of elements: of none (wherever it points), or at the head of the block o of its own. -/
def SlAt (e k : Nat) (enc : α → Array Value) (w : World) (v : Value) (L : List α) (o : Option Nat) : Prop :=
  (L = [] ∧ o = none ∧ ∃ a, v = .slice a 0 0) ∨
  (∃ g cap cur, o = some g ∧ v = .slice (some ⟨g, 0, none⟩) L.length cap ∧ w.heap[g]? = some (.cells cur e (0, 0)) ∧ L.length ≤ cap ∧ cap ≤ maxLen ∧ cur.size = cap * k ∧ cur.toList.take (L.length * k) = flat enc L)
theorem SlAt.row {w : World} {v : Value} {L : List α} {o : Option Nat} (hk : ∀ x, okCells k (enc x) = true) (h : SlAt e k enc w v L o) : ∃ a cap, v = .slice a L.length cap ∧ Row k enc w a L := by
  rcases h with ⟨rfl, _, a, rfl⟩ | ⟨g, cap, cur, _, rfl, hg, hc, _, hs, hx⟩
  · exact ⟨a, 0, rfl, fun i x h => by simp at h⟩
  · exact ⟨_, cap, rfl, Row_of_block hk hg hc hs hx⟩
theorem SlAt.keep {w w' : World} {v : Value} {L : List α} {o : Option Nat} (h : SlAt e k enc w v L o) (hk : ∀ b, o = some b → w'.heap[b]? = w.heap[b]?) : SlAt e k enc w' v L o := by
  rcases h with h | ⟨g, cap, cur, ho, hv, hg, rest⟩
  · exact .inl h
  · exact .inr ⟨g, cap, cur, ho, hv, by rw [hk g ho]; exact hg, rest⟩
theorem SlAt.lt {w : World} {v : Value} {L : List α} {o : Option Nat} (h : SlAt e k enc w v L o) {g : Nat} (hg : o = some g) : g < w.heap.size := by
  rcases h with ⟨_, h, _⟩ | ⟨g', cap, cur, ho, hv, hh, rest⟩
  · rw [hg] at h; cases h
  · rw [hg] at ho; cases ho; exact (Array.getElem?_eq_some_iff.1 hh).1
theorem SlAt.ext {w w' : World} {v : Value} {L : List α} {o : Option Nat} (h : SlAt e k enc w v L o) (hw : Ext w w') : SlAt e k enc w' v L o := h.keep fun b hb => hw.block b (h.lt hb)
theorem SlAt.nil (w : World) (a : Option Addr) : SlAt e k enc w (.slice a 0 0) ([] : List α) none := .inl ⟨rfl, rfl, a, rfl⟩
/-- The cells of a row, one by one. -/
theorem Row.cells {w : World} {a : Option Addr} {L : List α} (hk : ∀ x, okCells k (enc x) = true) (hk0 : 0 < k) (h : Row k enc w a L) (b : Addr) (ha : a = some b) : ∀ j u, (flat enc L)[j]? = some u → w.cell? (b.add j) = some u := by
  intro j u hu
  have hj : j < L.length * k := by rw [← length_flat hk]; exact (List.getElem?_eq_some_iff.1 hu).1
  have hi : j / k < L.length := Nat.div_lt_of_lt_mul (by rw [Nat.mul_comm]; exact hj)
  have hx : L[j / k]? = some L[j / k] := by simp [hi]
  have hm : j % k < k := Nat.mod_lt _ hk0
  obtain ⟨b', off, hb', hc⟩ := h.cell hx hm
  rw [ha] at hb'; cases hb'
  have hadd : (⟨b', off, none⟩ : Addr).add j = ⟨b', off + j, none⟩ := by unfold Addr.add; split <;> simp_all
  have hdiv : j / k * k + j % k = j := by rw [Nat.mul_comm]; exact Nat.div_add_mod j k
  rw [hadd, show off + j = off + j / k * k + j % k from by omega, hc]
  have h1 := List.take_drop_flat (fun x => (enc x).toList) k (fun a => by simpa using okCells_size (hk a)) L (j / k) _ hx
  change ((flat enc L).drop (j / k * k)).take k = _ at h1
  have h2 : ((enc L[j / k]).toList)[j % k]? = some u := by
    rw [← h1, List.getElem?_take, if_pos hm, List.getElem?_drop, hdiv]
    exact hu
  rw [← Array.getElem?_toList]
  exact h2
/-- Only the block o, and new ones, have turned (World.grownBy), and the new own block is the old one or new. -/
theorem run_append_sl {P : Program} (t ty : TypeId) (i : TypeInfo) (z : Value) (ht : P.underlying t = some (.slice e)) (hi : P.info? e = some i) (hz : i.zero = some z) (hsz : i.size = k) (hzs : z.cells.size = k) (hk0 : 0 < k)
    (hk : ∀ x, okCells k (enc x) = true) (w : World) (v : Value) (L : List α) (o : Option Nat) (h : SlAt e k enc w v L o) (src : Option Addr) (c : Nat) (M : List α) (hM : Row k enc w src M)
    (hb : L.length + M.length ≤ 4294967296) (hby : i.bytes ≤ 4096) :
    ∃ v' o' w', (Builtin.append_ #[t, t] ty #[v, .slice src M.length c]).run P w = .ok v' w' ∧ SlAt e k enc w' v' (L ++ M) o' ∧ w.grownBy w' o ∧ (o' = o ∨ ∃ g, o' = some g ∧ w.heap.size ≤ g) ∧ (M = [] → v' = v) := by
  cases M with
  | nil =>
    refine ⟨v, o, w, ?_, by simpa using h, ⟨rfl, rfl, rfl, Nat.le_refl _, fun _ _ _ => rfl⟩, .inl rfl, fun _ => rfl⟩
    have hfirst : (Builtin.firstCells k 0 (.slice src 0 c)).run P w = .ok #[] w := by
      cases src with
      | none => simp [Builtin.firstCells]
      | some b => simp [Builtin.firstCells, loadCells, loadCellsFrom]
    have key : ∀ base n cap, n ≤ cap → (Builtin.append_ #[t, t] ty #[.slice base n cap, .slice src 0 c]).run P w = .ok (.slice base n cap) w := by
      intro base n cap hn
      cases base with
      | none => simp [Builtin.append_, run_underlying ht, sizeOf, typeInfo, hi, hsz, Builtin.lenOf, hn, hfirst]
      | some b => simp [Builtin.append_, run_underlying ht, sizeOf, typeInfo, hi, hsz, Builtin.lenOf, hn, hfirst, storeCells]
    rcases h with ⟨rfl, _, a, rfl⟩ | ⟨g, cap, cur, _, rfl, _, hc, _⟩
    · exact key _ _ _ (Nat.le_refl _)
    · exact key _ _ _ hc
  | cons m M' =>
    obtain ⟨b, off, rfl, _⟩ := hM 0 m rfl
    generalize hMM : m :: M' = M at *
    have hpos : 0 < M.length := by rw [← hMM]; simp
    have hne : M = [] → False := fun h => by rw [h] at hpos; simp at hpos
    subst hsz
    have hl := length_flat hk M
    have hcells := hM.cells hk hk0 ⟨b, off, none⟩ rfl
    have hone := flat_oneCell hk M
    have hbytes : ∀ n, n ≤ 4294967296 → n * i.bytes ≤ 140737488355328 := fun n hn => Nat.le_trans (Nat.mul_le_mul hn hby) (by decide)
    have hfl := length_flat hk L
    have grown : ∀ (old : Nat) (hold : old < L.length + M.length) (row : Option Nat),
        SlAt e i.size enc (w.drew.alloc (.cells ((flat enc L).toArray ++ (flat enc M).toArray ++ Builtin.zeroCells z.cells (grownCap w (L.length + M.length) old e - (L.length + M.length))) e)) (.slice (some ⟨w.heap.size, 0, none⟩) (L.length + M.length) (grownCap w (L.length + M.length) old e)) (L ++ M) (some w.heap.size) ∧
        w.grownBy (w.drew.alloc (.cells ((flat enc L).toArray ++ (flat enc M).toArray ++ Builtin.zeroCells z.cells (grownCap w (L.length + M.length) old e - (L.length + M.length))) e)) row := by
      intro old ho row
      have hge := grownCap_ge w (L.length + M.length) old e
      have hcm : grownCap w (L.length + M.length) old e ≤ maxLen := grownCap_le_maxLen w (L.length + M.length) old e (by unfold maxLen; omega)
      refine ⟨.inr ⟨w.heap.size, _, _, rfl, by rw [List.length_append], heap_alloc_new w.drew _, by rw [List.length_append]; exact hge, hcm, ?_, ?_⟩, ⟨rfl, rfl, rfl, by simp, fun k hk _ => Below.heap_alloc w.drew _ k hk⟩⟩
      · simp only [Array.size_append, List.size_toArray, size_zeroCells, hzs, hfl, hl, ← Nat.add_mul]
        congr 1
        omega
      · simp only [Array.toList_append]
        rw [flat_append, List.length_append, Nat.add_mul, ← hfl, ← hl, ← List.length_append]
        exact List.take_left
    rcases h with ⟨rfl, rfl, a, rfl⟩ | ⟨g, cap, cur, rfl, rfl, hg, hc, hcm, hcs, htake⟩
    · simp only [List.length_nil, Nat.zero_add] at hb grown
      have hgr := grown 0 hpos none
      have hf0 : flat enc ([] : List α) = [] := by simp [flat]
      cases a with
      | none =>
        have hr := run_append_nil (P := P) w t ty e i z ht hi hz ⟨b, off, none⟩ M.length c (flat enc M) hl hcells hpos (by omega) (Nat.le_trans (hbytes _ hb) (by decide))
        rw [hf0] at hgr
        simp only [Array.empty_append] at hgr
        exact ⟨_, _, _, hr, hgr.1, hgr.2, .inr ⟨_, rfl, Nat.le_refl _⟩, fun h => (hne h).elim⟩
      | some a0 =>
        have hr := run_append_grow (P := P) w t ty e i z ht hi hz a0 0 0 [] (by simp) (by simp) ⟨b, off, none⟩ M.length c (flat enc M) hl hcells (by omega) (by omega) (by rw [Nat.zero_add]; exact growslice_fits hpos (hbytes _ hb))
        rw [hf0] at hgr
        simp only [Nat.zero_add] at hr
        exact ⟨_, _, _, hr, hgr.1, hgr.2, .inr ⟨_, rfl, Nat.le_refl _⟩, fun h => (hne h).elim⟩
    · by_cases hroom : L.length + M.length ≤ cap
      · have hfit : L.length * i.size + (flat enc M).length ≤ cur.size := by rw [hl, hcs, ← Nat.add_mul]; exact Nat.mul_le_mul_right _ hroom
        have hr := run_append_room (P := P) w t ty e i ht hi g L.length cap cur hg ⟨b, off, none⟩ M.length c (flat enc M) hl hcells hone hroom hfit
        refine ⟨_, some g, _, hr, .inr ⟨g, cap, _, rfl, by rw [List.length_append], setRow_heap w g cur _ e _ hg, by rw [List.length_append]; exact hroom, hcm, ?_, ?_⟩, ⟨rfl, rfl, rfl, by simp, fun k _ hk => setRow_other w g k _ (fun e => hk (by simp [e]))⟩, .inl rfl, fun h => (hne h).elim⟩
        · simp only [List.size_toArray, List.length_append, List.length_take, List.length_drop, Array.length_toList]
          omega
        · rw [htake, flat_append, List.length_append, Nat.add_mul, ← hfl, ← hl, ← List.length_append]
          exact List.take_left
      · have holds : ∀ j u, (flat enc L)[j]? = some u → w.cell? ((⟨g, 0, none⟩ : Addr).add j) = some u := (Row_of_block hk hg hc hcs htake).cells hk hk0 ⟨g, 0, none⟩ rfl
        have hr := run_append_grow (P := P) w t ty e i z ht hi hz ⟨g, 0, none⟩ L.length cap (flat enc L) hfl holds ⟨b, off, none⟩ M.length c (flat enc M) hl hcells (by omega) (by omega) (growslice_fits (by omega) (hbytes _ hb))
        have hgr := grown cap (by omega) (some g)
        exact ⟨_, _, _, hr, hgr.1, hgr.2, .inr ⟨_, rfl, Nat.le_refl _⟩, fun h => (hne h).elim⟩
theorem Row_alloc_one (hk : ∀ x, okCells k (enc x) = true) (w : World) (x : α) (t : TypeId) : Row k enc (w.alloc (.cells (enc x) t)) (some ⟨w.heap.size, 0, none⟩) [x] :=
  Row_of_block (cap := 1) hk (heap_alloc_new w _) (by simp) (by rw [okCells_size (hk x)]; simp) (by rw [flat_one]; simp only [List.length_cons, List.length_nil, Nat.zero_add, Nat.one_mul]; rw [List.take_of_length_le]; have := okCells_size (hk x); simp; omega)
/-- append, in a region that goes in the text's order. -/
theorem wpList_append_sl {P : Program} {ops : Array Oper} {rest : List Oper} {op : Oper} {a : Act} {w : World} {Q : Exit → Act → World → Prop} (hg : op.guard = none) (s x : Operand) (t : TypeId)
    (ho : op.op = .call { callee := .builtin .append, args := #[s, x], argTypes := #[t, t] })
    (i : TypeInfo) (z : Value) (ht : P.underlying t = some (.slice e)) (hi : P.info? e = some i) (hz : i.zero = some z) (hsz : i.size = k) (hzs : z.cells.size = k) (hk0 : 0 < k) (hby : i.bytes ≤ 4096)
    (hk : ∀ x, okCells k (enc x) = true) (v : Value) (L : List α) (o : Option Nat) (h : SlAt e k enc w v L o) (src : Option Addr) (c : Nat) (M : List α) (hM : Row k enc w src M)
    (hs : a.eval s = v) (hx : a.eval x = .slice src M.length c) (hb : L.length + M.length ≤ 4294967296)
    (hK : ∀ v' o' w', SlAt e k enc w' v' (L ++ M) o' → w.grownBy w' o → (o' = o ∨ ∃ g, o' = some g ∧ w.heap.size ≤ g) → wpList P ops Q rest (a.put op.dst v') w') : wpList P ops Q (op :: rest) a w := by
  obtain ⟨v', o', w', hr, h1, h2, h3, _⟩ := run_append_sl (P := P) t op.type i z ht hi hz hsz hzs hk0 hk w v L o h src c M hM hb hby
  refine wpList_plain hg fun K hK' => ?_
  unfold Oper.wp execOp
  simp only [ho, resolve, invoke, builtin, Sem.run_bind, Sem.run_pure, Result.andThen_ok, List.map_toArray, List.map_cons, List.map_nil, hs, hx, hr]
  exact hK' _ _ (hK v' o' w' h1 h2 h3)
theorem step_append_sl {P : Program} {ops : Array Oper} {op : Oper} {a : Act} {w : World} {K : Act → World → Prop} {Q : Exit → Act → World → Prop} {E : Prop} (hg : op.guard = none) (s x : Operand) (t : TypeId)
    (ho : op.op = .call { callee := .builtin .append, args := #[s, x], argTypes := #[t, t] })
    (i : TypeInfo) (z : Value) (ht : P.underlying t = some (.slice e)) (hi : P.info? e = some i) (hz : i.zero = some z) (hsz : i.size = k) (hzs : z.cells.size = k) (hk0 : 0 < k) (hby : i.bytes ≤ 4096)
    (hk : ∀ x, okCells k (enc x) = true) (v : Value) (L : List α) (o : Option Nat) (h : SlAt e k enc w v L o) (src : Option Addr) (c : Nat) (M : List α) (hM : Row k enc w src M)
    (hs : a.eval s = v) (hx : a.eval x = .slice src M.length c) (hb : L.length + M.length ≤ 4294967296)
    (hK : ∀ v' o' w', SlAt e k enc w' v' (L ++ M) o' → w.grownBy w' o → (o' = o ∨ ∃ g, o' = some g ∧ w.heap.size ≤ g) → K (a.put op.dst v') w') :
    if Region.wanted op (yielded ops a.tmps) = true then Oper.wp P op a w K Q else E := by
  rw [if_pos (by simp [Region.wanted, hg])]
  obtain ⟨v', o', w', hr, h1, h2, h3, _⟩ := run_append_sl (P := P) t op.type i z ht hi hz hsz hzs hk0 hk w v L o h src c M hM hb hby
  unfold Oper.wp execOp
  simp only [ho, resolve, invoke, builtin, Sem.run_bind, Sem.run_pure, Result.andThen_ok, List.map_toArray, List.map_cons, List.map_nil, hs, hx, hr]
  exact hK v' o' w' h1 h2 h3
theorem setIfInBounds_self {vs : Array Value} {i : Nat} {v : Value} (h : vs[i]? = some v) : vs.setIfInBounds i v = vs := by
  apply Array.ext_getElem?
  intro j
  rw [Array.getElem?_setIfInBounds]
  split
  · rename_i hij
    subst hij
    obtain ⟨hlt, _⟩ := Array.getElem?_eq_some_iff.1 h
    rw [if_pos hlt, h]
  · rfl
/-- One element put anew: the cells that they are then. -/
theorem splice_flat (hk : ∀ x, okCells k (enc x) = true) {cur : Array Value} {L : List α} (hx : cur.toList.take (L.length * k) = flat enc L) {j : Nat} (hj : j < L.length) (x : α) :
    (splice cur (j * k) (enc x)).toList.take ((L.set j x).length * k) = flat enc (L.set j x) := by
  have hL : L = L.take j ++ L[j] :: L.drop (j + 1) := by simp
  have hset : L.set j x = L.take j ++ x :: L.drop (j + 1) := List.set_eq_take_append_cons_drop .. |>.trans (by rw [if_pos hj])
  have hsz := okCells_size (hk x)
  have hA : (flat enc (L.take j)).length = j * k := by rw [length_flat hk, List.length_take]; congr 1; omega
  have hD : (flat enc (L.drop (j + 1))).length = (L.length - (j + 1)) * k := by rw [length_flat hk, List.length_drop]
  have hcur : cur.toList = flat enc (L.take j) ++ ((enc L[j]).toList ++ (flat enc (L.drop (j + 1)) ++ cur.toList.drop (L.length * k))) := by
    have hfl : flat enc L = flat enc (L.take j) ++ ((enc L[j]).toList ++ flat enc (L.drop (j + 1))) := by
      conv => lhs; rw [hL]
      unfold flat
      rw [List.flatMap_append, List.flatMap_cons]
    conv => lhs; rw [← List.take_append_drop (L.length * k) cur.toList, hx, hfl]
    simp only [List.append_assoc]
  have hy := okCells_size (hk L[j])
  unfold splice
  simp only [hsz]
  have h1 : cur.toList.take (j * k) = flat enc (L.take j) := by rw [hcur, ← hA]; exact List.take_left
  have h2 : cur.toList.drop (j * k + k) = flat enc (L.drop (j + 1)) ++ cur.toList.drop (L.length * k) := by
    conv => lhs; rw [hcur]
    rw [List.drop_append, List.drop_of_length_le (by omega), List.nil_append, hA]
    rw [List.drop_append, List.drop_of_length_le (by simp; omega), List.nil_append]
    simp [hy]
  rw [h1, h2, hset]
  have hl : (L.take j ++ x :: L.drop (j + 1)).length * k = (flat enc (L.take j) ++ (enc x).toList ++ flat enc (L.drop (j + 1))).length := by
    simp only [List.length_append, hA, hD, Array.length_toList, hsz, List.length_take, List.length_cons, List.length_drop]
    rw [show min j L.length = j from by omega, Nat.add_mul, Nat.add_mul, Nat.one_mul]
    omega
  rw [hl, ← List.append_assoc, List.take_left]
  simp [flat]
/-- append within the capacity: from the row M behind the first n elements of the block g. -/
theorem run_append_in {P : Program} (t ty : TypeId) (i : TypeInfo) (ht : P.underlying t = some (.slice e)) (hi : P.info? e = some i) (hsz : i.size = k) (hk0 : 0 < k) (hk : ∀ x, okCells k (enc x) = true)
    (w : World) (g n cap : Nat) (cur : Array Value) (hg : w.heap[g]? = some (.cells cur e (0, 0))) (hcs : cur.size = cap * k) (b : Addr) (c : Nat) (M : List α) (hM : Row k enc w (some b) M) (hroom : n + M.length ≤ cap) :
    (Builtin.append_ #[t, t] ty #[.slice (some ⟨g, 0, none⟩) n cap, .slice (some b) M.length c]).run P w =
      .ok (.slice (some ⟨g, 0, none⟩) (n + M.length) cap) (w.setRow g (cur.toList.take (n * k) ++ flat enc M ++ cur.toList.drop (n * k + M.length * k)).toArray) := by
  subst hsz
  have hl := length_flat hk M
  have := run_append_room (P := P) w t ty e i ht hi g n cap cur hg b M.length c (flat enc M) hl (hM.cells hk hk0 b rfl) (flat_oneCell hk M) hroom (by rw [hl, hcs, ← Nat.add_mul]; exact Nat.mul_le_mul_right _ hroom)
  rw [this, hl]
theorem wpList_append_run {P : Program} {ops : Array Oper} {rest : List Oper} {op : Oper} {a : Act} {w : World} {Q : Exit → Act → World → Prop} (hg : op.guard = none) (s x : Operand) (t : TypeId)
    (ho : op.op = .call { callee := .builtin .append, args := #[s, x], argTypes := #[t, t] }) (vs vx : Value) (v' : Value) (w' : World)
    (hr : ∀ ty, (Builtin.append_ #[t, t] ty #[vs, vx]).run P w = .ok v' w') (hs : a.eval s = vs) (hx : a.eval x = vx) (hK : wpList P ops Q rest (a.put op.dst v') w') : wpList P ops Q (op :: rest) a w := by
  refine wpList_plain hg fun K hK' => ?_
  unfold Oper.wp execOp
  simp only [ho, resolve, invoke, builtin, Sem.run_bind, Sem.run_pure, Result.andThen_ok, List.map_toArray, List.map_cons, List.map_nil, hs, hx, hr]
  exact hK' _ _ hK
theorem step_append_run {P : Program} {ops : Array Oper} {op : Oper} {a : Act} {w : World} {K : Act → World → Prop} {Q : Exit → Act → World → Prop} {E : Prop} (hg : op.guard = none) (s x : Operand) (t : TypeId)
    (ho : op.op = .call { callee := .builtin .append, args := #[s, x], argTypes := #[t, t] }) (vs vx : Value) (v' : Value) (w' : World)
    (hr : ∀ ty, (Builtin.append_ #[t, t] ty #[vs, vx]).run P w = .ok v' w') (hs : a.eval s = vs) (hx : a.eval x = vx) (hK : K (a.put op.dst v') w') :
    if Region.wanted op (yielded ops a.tmps) = true then Oper.wp P op a w K Q else E := by
  rw [if_pos (by simp [Region.wanted, hg])]
  unfold Oper.wp execOp
  simp only [ho, resolve, invoke, builtin, Sem.run_bind, Sem.run_pure, Result.andThen_ok, List.map_toArray, List.map_cons, List.map_nil, hs, hx, hr]
  exact hK
theorem wpList_clear_run {P : Program} {ops : Array Oper} {rest : List Oper} {op : Oper} {a : Act} {w : World} {Q : Exit → Act → World → Prop} (hg : op.guard = none) (s : Operand) (t : TypeId)
    (ho : op.op = .call { callee := .builtin .clear, args := #[s], argTypes := #[t] }) (vs : Value) (v' : Value) (w' : World)
    (hr : ∀ ty, (Builtin.clear_ #[t] ty #[vs]).run P w = .ok v' w') (hs : a.eval s = vs) (hK : wpList P ops Q rest (a.put op.dst v') w') : wpList P ops Q (op :: rest) a w := by
  refine wpList_plain hg fun K hK' => ?_
  unfold Oper.wp execOp
  simp only [ho, resolve, invoke, builtin, Sem.run_bind, Sem.run_pure, Result.andThen_ok, List.map_toArray, List.map_cons, List.map_nil, hs, hr]
  exact hK' _ _ hK
theorem run_clear_one {P : Program} (t ty : TypeId) (i : TypeInfo) (ht : P.underlying t = some (.slice e)) (hi : P.info? e = some i) (z : Array Value) (hz : i.zero = some (.agg z)) (hzk : okCells k z = true)
    (w : World) (g o c : Nat) (cur : Array Value) (hg : w.heap[g]? = some (.cells cur e (0, 0))) (hfit : o + k ≤ cur.size) :
    (Builtin.clear_ #[t] ty #[.slice (some ⟨g, o, none⟩) 1 c]).run P w = .ok (.tuple #[]) (w.setRow g (splice cur o z)) := by
  have hzs := okCells_size hzk
  have hzc : Builtin.zeroCells z 1 = z := by
    apply Array.ext
    · simp [Builtin.zeroCells]
    · intro j h1 h2
      simp only [Builtin.zeroCells, Array.getElem_map, Array.getElem_range, Nat.one_mul]
      rw [Nat.mod_eq_of_lt h2]
      exact getElem!_pos z j h2
  have hst := run_storeCells_at P g o e z.toList 0 cur w hg (by simpa [hzs] using hfit) (fun v hv => okCells_one hzk v (by simpa using hv))
  simp only [Nat.add_zero, Array.length_toList] at hst
  simp [Builtin.clear_, run_underlying ht, zeroValue, typeInfo, hi, hz, Value.cells, hzc, hst, splice]
end
end Go
