/- Maps whose keys are whole numbers: what stands at a key, and how a store turns it. -/
import Derived.Test.YtgggokajapoopaaMs
namespace Go
open Go.RowKit
def keyIs (q : IntKind) (x : Int) (e : MapEntry) : Bool := match e.key with | .int q' k => q' == q && k == x | _ => false
/-- Block b is a map whose keys are of the kind q. -/
def World.imap (w : World) (b : Nat) (q : IntKind) : Prop := ∃ es clock, w.heap[b]? = some (.map es clock) ∧ ∀ e ∈ es.toList, ∃ k, e.key = .int q k
/-- What stands at a key. -/
def World.mapGet (w : World) (b : Nat) (q : IntKind) (x : Int) : Option Value := match w.heap[b]? with
  | some (.map es _) => (es.toList.find? (keyIs q x)).map (·.val)
  | _ => none
def putObjE (q : IntKind) (x : Int) (v : Value) (es : Array MapEntry) (clock : Nat) : Obj := match es.toList.findIdx? (keyIs q x) with
  | some i => .map (es.modify i fun e => { e with key := .int q x, val := v }) clock
  | none => .map (es.push { key := .int q x, val := v, born := clock }) (clock + 1)
def putObjM (q : IntKind) (x : Int) (v : Value) : Obj → Obj
  | .map es clock => putObjE q x v es clock
  | o => o
/-- The map with another value at a key. -/
def World.mapPut (w : World) (b : Nat) (q : IntKind) (x : Int) (v : Value) : World := { w with heap := w.heap.modify b (putObjM q x v) }
theorem World.mapPut_heap {w : World} {b : Nat} {q : IntKind} {x : Int} {v : Value} {es : Array MapEntry} {clock : Nat} (h : w.heap[b]? = some (.map es clock)) : (w.mapPut b q x v).heap[b]? = some (putObjE q x v es clock) := by
  obtain ⟨hlt, hv⟩ := Array.getElem?_eq_some_iff.1 h
  unfold World.mapPut
  rw [Array.getElem?_eq_getElem (by simpa using hlt), Array.getElem_modify]
  simp [hv, putObjM]
theorem World.mapPut_other (w : World) {b k : Nat} (q : IntKind) (x : Int) (v : Value) (h : k ≠ b) : (w.mapPut b q x v).heap[k]? = w.heap[k]? := by
  simp [World.mapPut, Array.getElem?_modify, Ne.symm h]
@[go_sem, simp] theorem World.size_mapPut (w : World) (b : Nat) (q : IntKind) (x : Int) (v : Value) : (w.mapPut b q x v).heap.size = w.heap.size := by simp [World.mapPut]
theorem World.imap_of_block {w w' : World} {b : Nat} {q : IntKind} (h : w'.heap[b]? = w.heap[b]?) : w'.imap b q ↔ w.imap b q := by
  unfold World.imap; rw [h]
theorem World.mapGet_of_block {w w' : World} {b : Nat} (h : w'.heap[b]? = w.heap[b]?) (q : IntKind) (x : Int) : w'.mapGet b q x = w.mapGet b q x := by
  unfold World.mapGet; rw [h]
theorem World.imap.lt {w : World} {b : Nat} {q : IntKind} (h : w.imap b q) : b < w.heap.size := by
  obtain ⟨es, clock, hb, _⟩ := h
  exact (Array.getElem?_eq_some_iff.1 hb).1
@[go_sem] theorem World.imap_made (w : World) (b : Nat) (q : IntKind) (hb : b = w.heap.size) : (w.alloc (.map #[] 0)).imap b q = True := by
  subst hb
  exact eq_true ⟨#[], 0, heap_alloc_new w _, by simp⟩
@[go_sem] theorem World.mapGet_made (w : World) (b : Nat) (q : IntKind) (x : Int) (hb : b = w.heap.size) : (w.alloc (.map #[] 0)).mapGet b q x = none := by
  subst hb
  unfold World.mapGet
  rw [heap_alloc_new]
  rfl
section
variable (w : World)
@[go_sem] theorem World.imap_alloc_past (o : Obj) (b : Nat) (q : IntKind) (hb : b < w.heap.size) : (w.alloc o).imap b q = w.imap b q :=
  propext (World.imap_of_block (Go.RowKit.Below.heap_alloc w o b hb))
@[go_sem] theorem World.mapGet_alloc_past (o : Obj) (b : Nat) (q : IntKind) (x : Int) (hb : b < w.heap.size) : (w.alloc o).mapGet b q x = w.mapGet b q x :=
  World.mapGet_of_block (Go.RowKit.Below.heap_alloc w o b hb) q x
@[go_sem] theorem World.imap_drew (b : Nat) (q : IntKind) : w.drew.imap b q = w.imap b q := rfl
@[go_sem] theorem World.imap_drewN (b m : Nat) (q : IntKind) : (w.drewN m).imap b q = w.imap b q := rfl
@[go_sem] theorem World.mapGet_drew (b : Nat) (q : IntKind) (x : Int) : w.drew.mapGet b q x = w.mapGet b q x := rfl
@[go_sem] theorem World.mapGet_drewN (b m : Nat) (q : IntKind) (x : Int) : (w.drewN m).mapGet b q x = w.mapGet b q x := rfl
theorem heap_setCell_map {w : World} {a : Addr} {v : Value} {b : Nat} {es : Array MapEntry} {clock : Nat} (h : w.heap[b]? = some (.map es clock)) : (w.setCell a v).heap[b]? = some (.map es clock) := by
  by_cases hb : b = a.block
  · subst hb
    simp [World.setCell, Array.getElem?_modify, h]
  · rw [heap_setCell_other w a b v hb]; exact h
theorem heap_putAgg_map {w : World} {a : Addr} {cs : Array Value} {b : Nat} {es : Array MapEntry} {clock : Nat} (h : w.heap[b]? = some (.map es clock)) : (w.putAgg a cs).heap[b]? = some (.map es clock) := by
  by_cases hb : b = a.block
  · subst hb
    simp [World.putAgg, Array.getElem?_modify, h]
  · rw [w.putAgg_other a cs hb]; exact h
@[go_sem] theorem World.imap_setCell (a : Addr) (v : Value) (b : Nat) (q : IntKind) (h : w.imap b q) : (w.setCell a v).imap b q = True := by
  obtain ⟨es, clock, hb, hk⟩ := h
  exact eq_true ⟨es, clock, heap_setCell_map hb, hk⟩
@[go_sem] theorem World.imap_putAgg (a : Addr) (cs : Array Value) (b : Nat) (q : IntKind) (h : w.imap b q) : (w.putAgg a cs).imap b q = True := by
  obtain ⟨es, clock, hb, hk⟩ := h
  exact eq_true ⟨es, clock, heap_putAgg_map hb, hk⟩
theorem keyIs_put (q : IntKind) (x : Int) (v : Value) (n : Nat) : keyIs q x { key := .int q x, val := v, born := n } = true := by simp [keyIs]
theorem find_modify {es : List MapEntry} {q : IntKind} {x : Int} {v : Value} : ∀ {i : Nat}, es.findIdx? (keyIs q x) = some i →
    ∀ y, ((es.modify i fun e => { e with key := .int q x, val := v }).find? (keyIs q y)).map (·.val) = if x = y then some v else (es.find? (keyIs q y)).map (·.val) := by
  induction es with
  | nil => intro i h; simp at h
  | cons e es ih =>
    intro i h y
    rw [List.findIdx?_cons] at h
    by_cases he : keyIs q x e = true
    · rw [if_pos he] at h
      cases h
      simp only [List.modify_zero_cons, List.find?_cons]
      by_cases hxy : x = y
      · subst hxy
        simp [keyIs]
      · have h1 : keyIs q y { e with key := .int q x, val := v } = false := by simp [keyIs, hxy]
        have h2 : keyIs q y e = false := by
          unfold keyIs at he ⊢
          split at he
          · rename_i q' k hk
            simp only [Bool.and_eq_true, beq_iff_eq] at he
            rw [he.2]
            simp [hxy]
          · cases he
        rw [h1, h2, if_neg hxy]
    · rw [if_neg he] at h
      cases hi : es.findIdx? (keyIs q x) with
      | none => rw [hi] at h; simp at h
      | some j =>
        rw [hi] at h
        simp at h
        subst h
        simp only [List.modify_succ_cons, List.find?_cons]
        cases hy : keyIs q y e
        · exact ih hi y
        · by_cases hxy : x = y
          · subst hxy; exact absurd hy he
          · simp [hxy]
theorem find_push {es : List MapEntry} {q : IntKind} {x : Int} {v : Value} {n : Nat} (h : es.findIdx? (keyIs q x) = none) (y : Int) :
    ((es ++ [({ key := .int q x, val := v, born := n } : MapEntry)]).find? (keyIs q y)).map (·.val) = if x = y then some v else (es.find? (keyIs q y)).map (·.val) := by
  rw [List.find?_append]
  by_cases hxy : x = y
  · subst hxy
    have : es.find? (keyIs q x) = none := by
      rw [List.find?_eq_none]
      rw [List.findIdx?_eq_none_iff] at h
      intro e he
      simp [h e he]
    rw [this]
    simp [keyIs]
  · have h1 : ([{ key := .int q x, val := v, born := n }] : List MapEntry).find? (keyIs q y) = none := by simp [keyIs, hxy]
    rw [h1, if_neg hxy, Option.or_none]
@[go_sem] theorem World.mapGet_mapPut_same (b : Nat) (q : IntKind) (x y : Int) (v : Value) (h : w.imap b q) : (w.mapPut b q x v).mapGet b q y = if x = y then some v else w.mapGet b q y := by
  obtain ⟨es, clock, hb, hk⟩ := h
  unfold World.mapGet
  rw [World.mapPut_heap hb, hb]
  unfold putObjE
  cases hi : es.toList.findIdx? (keyIs q x) with
  | some i =>
    simp only [Array.toList_modify]
    exact find_modify hi y
  | none =>
    simp only [Array.toList_push]
    exact find_push hi y
@[go_sem] theorem World.mapGet_mapPut_other (b c : Nat) (q : IntKind) (x y : Int) (v : Value) (h : c ≠ b) : (w.mapPut b q x v).mapGet c q y = w.mapGet c q y :=
  World.mapGet_of_block (w.mapPut_other q x v h) q y
theorem keyIs_int {q : IntKind} {x : Int} {e : MapEntry} (h : keyIs q x e = true) : e.key = .int q x := by
  unfold keyIs at h
  split at h
  · rename_i q' k hk
    simp only [Bool.and_eq_true, beq_iff_eq] at h
    rw [hk, h.1, h.2]
  · cases h
theorem imap_putObj {q : IntKind} {x : Int} {v : Value} {es : Array MapEntry} {clock : Nat} : (∃ es' clock', putObjE q x v es clock = .map es' clock' ∧ ∀ e ∈ es'.toList, ∃ k, e.key = .int q k) ↔ ∀ e ∈ es.toList, ∃ k, e.key = .int q k := by
  unfold putObjE
  cases hi : es.toList.findIdx? (keyIs q x) with
  | some i =>
    obtain ⟨hil, hki, _⟩ := List.findIdx?_eq_some_iff_getElem.1 hi
    constructor
    · rintro ⟨es', clock', h, hk⟩ e he
      cases h
      rw [Array.toList_modify] at hk
      obtain ⟨j, hj, rfl⟩ := List.getElem_of_mem he
      by_cases hij : i = j
      · subst hij; exact ⟨x, keyIs_int hki⟩
      · have := hk ((es.toList.modify i fun e => { e with key := .int q x, val := v })[j]'(by simpa using hj)) (List.getElem_mem _)
        rwa [List.getElem_modify, if_neg hij] at this
    · intro h
      refine ⟨_, _, rfl, fun e he => ?_⟩
      rw [Array.toList_modify] at he
      obtain ⟨j, hj, rfl⟩ := List.getElem_of_mem he
      rw [List.getElem_modify]
      split
      · exact ⟨x, rfl⟩
      · exact h _ (List.getElem_mem _)
  | none =>
    constructor
    · rintro ⟨es', clock', h, hk⟩ e he
      cases h
      exact hk e (by simp only [Array.toList_push, List.mem_append]; exact .inl he)
    · intro h
      refine ⟨_, _, rfl, fun e he => ?_⟩
      simp only [Array.toList_push, List.mem_append, List.mem_singleton] at he
      rcases he with he | rfl
      · exact h e he
      · exact ⟨x, rfl⟩
@[go_sem] theorem World.imap_mapPut (b c : Nat) (q : IntKind) (x : Int) (v : Value) : (w.mapPut b q x v).imap c q = w.imap c q := by
  apply propext
  by_cases hbc : c = b
  · subst hbc
    unfold World.imap
    cases hh : w.heap[c]? with
    | none =>
      have : (w.mapPut c q x v).heap[c]? = none := by
        rw [Array.getElem?_eq_none_iff] at hh ⊢
        simpa using hh
      rw [this]
    | some o =>
      cases o with
      | map es clock =>
        rw [World.mapPut_heap hh]
        constructor
        · rintro ⟨es', clock', h, hk⟩
          exact ⟨es, clock, rfl, imap_putObj.1 ⟨es', clock', by simpa using h, hk⟩⟩
        · rintro ⟨es', clock', h, hk⟩
          cases h
          obtain ⟨es'', clock'', h2, hk2⟩ := (imap_putObj (x := x) (v := v) (clock := clock)).2 hk
          exact ⟨es'', clock'', by rw [h2], hk2⟩
      | _ =>
        have : (w.mapPut c q x v).heap[c]? = w.heap[c]? := by
          obtain ⟨hlt, hv⟩ := Array.getElem?_eq_some_iff.1 hh
          unfold World.mapPut
          rw [hh, Array.getElem?_eq_getElem (by simpa using hlt), Array.getElem_modify]
          simp [hv, putObjM]
        rw [this, hh]
  · exact World.imap_of_block (w.mapPut_other q x v hbc)
theorem World.imap_mapPut_other (b c : Nat) (q q' : IntKind) (x : Int) (v : Value) (h : c ≠ b) : (w.mapPut b q x v).imap c q' = w.imap c q' :=
  propext (World.imap_of_block (w.mapPut_other q x v h))
@[go_sem] theorem World.cell?_mapPut (b : Nat) (q : IntKind) (x : Int) (v : Value) (a : Addr) (h : w.imap b q) : (w.mapPut b q x v).cell? a = w.cell? a := by
  by_cases hb : a.block = b
  · obtain ⟨es, clock, hh, _⟩ := h
    have h1 := World.mapPut_heap (q := q) (x := x) (v := v) hh
    unfold World.cell?
    rw [hb, h1, hh]
    unfold putObjE
    cases es.toList.findIdx? (keyIs q x) <;> rfl
  · exact World.cell?_of_block (w.mapPut_other q x v hb)
@[go_sem] theorem World.agg?_mapPut (b : Nat) (q : IntKind) (x : Int) (v : Value) (a : Addr) (n : Nat) (h : w.imap b q) : (w.mapPut b q x v).agg? a n = w.agg? a n := by
  by_cases hb : a.block = b
  · obtain ⟨es, clock, hh, _⟩ := h
    have h1 := World.mapPut_heap (q := q) (x := x) (v := v) hh
    unfold World.agg?
    rw [hb, h1, hh]
    unfold putObjE
    cases es.toList.findIdx? (keyIs q x) <;> rfl
  · exact World.agg?_of_block (w.mapPut_other q x v hb)
@[go_sem] theorem World.frozen?_mapPut (b : Nat) (q : IntKind) (x : Int) (v : Value) (a : Addr) (h : w.imap b q) : (w.mapPut b q x v).frozen? a = w.frozen? a := by
  by_cases hb : a.block = b
  · obtain ⟨es, clock, hh, _⟩ := h
    have h1 := World.mapPut_heap (q := q) (x := x) (v := v) hh
    unfold World.frozen?
    rw [hb, h1, hh]
    unfold putObjE
    cases es.toList.findIdx? (keyIs q x) <;> rfl
  · exact World.frozen?_of_block (w.mapPut_other q x v hb)
@[go_sem] theorem World.loose_mapPut (b : Nat) (q : IntKind) (x : Int) (v : Value) (c : Nat) (h : w.imap b q) : (w.mapPut b q x v).loose c = w.loose c := by
  by_cases hb : c = b
  · obtain ⟨es, clock, hh, _⟩ := h
    have h1 := World.mapPut_heap (q := q) (x := x) (v := v) hh
    unfold World.loose
    rw [hb, h1, hh]
    unfold putObjE
    cases es.toList.findIdx? (keyIs q x) <;> rfl
  · exact World.loose_of_block (w.mapPut_other q x v hb)
end
theorem Ext.mapPut {a w : World} (h : Ext a w) (b : Nat) (q : IntKind) (x : Int) (v : Value) (hb : a.heap.size ≤ b) : Ext a (w.mapPut b q x v) :=
  ⟨h.os, h.tape, h.output, by rw [World.size_mapPut]; exact h.size, fun k hk => by rw [World.mapPut_other _ _ _ _ (by omega)]; exact h.block k hk⟩
theorem Ext.imap {a w : World} (h : Ext a w) {b : Nat} {q : IntKind} (hb : a.imap b q) : w.imap b q := (World.imap_of_block (h.block b hb.lt)).2 hb
theorem Ext.mapGet {a w : World} (h : Ext a w) {b : Nat} (hb : b < a.heap.size) (q : IntKind) (x : Int) : w.mapGet b q x = a.mapGet b q x := World.mapGet_of_block (h.block b hb) q x
/-! ### the operations -/
theorem findNow_ints (q : IntKind) (x : Int) : ∀ (es : List MapEntry) (i : Nat), (∀ e ∈ es, ∃ k, e.key = .int q k) →
    Instr.findNow (.int q) (.int q x) es i = some ((es.findIdx? (keyIs q x)).bind fun j => (es[j]?).map fun e => (i + j, e.val))
  | [], i, _ => rfl
  | e :: es, i, h => by
    obtain ⟨k, hk⟩ := h e (by simp)
    have ih := findNow_ints q x es (i + 1) (fun e he => h e (by simp [he]))
    unfold Instr.findNow
    rw [hk]
    simp only [Instr.sameNow, if_true, List.findIdx?_cons]
    have hki : keyIs q x e = (k == x) := by simp [keyIs, hk]
    rw [hki]
    by_cases hx : x = k
    · subst hx
      simp
    · have h1 : (x == k) = false := by simpa using hx
      have h2 : (k == x) = false := by simpa using Ne.symm hx
      rw [h1, h2]
      simp only [Bool.false_eq_true, if_false, ih]
      cases hf : es.findIdx? (keyIs q x) with
      | none => rfl
      | some j =>
        simp only [Option.bind_some, Option.map_some, List.getElem?_cons_succ]
        rw [show i + 1 + j = i + (j + 1) by omega]
theorem find_idx {es : List MapEntry} {q : IntKind} {x : Int} : ((es.findIdx? (keyIs q x)).bind fun j => (es[j]?).map fun e => (0 + j, e.val)).map (·.2) = (es.find? (keyIs q x)).map (·.val) := by
  induction es with
  | nil => rfl
  | cons e es ih =>
    rw [List.findIdx?_cons, List.find?_cons]
    cases hk : keyIs q x e
    · simp only [Bool.false_eq_true, if_false]
      rw [← ih]
      cases es.findIdx? (keyIs q x) with
      | none => rfl
      | some j =>
        simp only [Option.map_some, Option.bind_some, List.getElem?_cons_succ]
        cases es[j]? <;> rfl
    · rfl
open Classical in
noncomputable def mapRes {α : Type} (p : Prop) (x y : Result α) : Result α := if p then x else y
def lookSlow (P : Program) (t : TypeId) (m k : Value) (c : Bool) (w : World) : Result Value := (Instr.lookup t m k c).run P w
def updSlow (P : Program) (t : TypeId) (m k v : Value) (w : World) : Result Unit := (Instr.mapUpdate t m k v).run P w
@[go_sem] theorem mapRes_true {α : Type} (x y : Result α) : mapRes True x y = x := by simp [mapRes]
theorem run_lookup_imap {P : Program} {t k e : TypeId} {q : IntKind} (ht : P.underlying t = some (.map k e)) (hk : P.underlying k = some (.int q)) {z : Value} (hz : ∀ w, (zeroValue e).run P w = .ok z w) (w : World) (b : Nat) (x : Int) (c : Bool) (h : w.imap b q) :
    (Instr.lookup t (.map (some b)) (.int q x) c).run P w = .ok (if c then .tuple #[(w.mapGet b q x).getD z, .bool (w.mapGet b q x).isSome] else (w.mapGet b q x).getD z) w := by
  obtain ⟨es, clock, hb, hks⟩ := h
  have hf := findNow_ints q x es.toList 0 hks
  have hi := find_idx (es := es.toList) (q := q) (x := x)
  have hc : ∀ em, (Instr.checkKey em 10000 k (.int q x)).run P w = .ok () w := fun em => MapKept.run_checkKey hk (by simp [MapKept.IsKey]) em 9999
  have hg : w.mapGet b q x = (es.toList.find? (keyIs q x)).map (·.val) := by unfold World.mapGet; rw [hb]
  rw [hg, ← hi]
  unfold Instr.lookup
  cases hr : ((es.toList.findIdx? (keyIs q x)).bind fun j => (es.toList[j]?).map fun e => (0 + j, e.val)) with
  | none =>
    rw [hr] at hf
    cases c <;> simp [run_underlying ht, getObj, Sem.run, hb, hc, Instr.findKey, run_underlying hk, hf, hz, Result.andThen]
  | some p =>
    rw [hr] at hf
    obtain ⟨j, v⟩ := p
    cases c <;> simp [run_underlying ht, getObj, Sem.run, hb, hc, Instr.findKey, run_underlying hk, hf, Result.andThen]
theorem run_update_imap {P : Program} {t k e : TypeId} {q : IntKind} (ht : P.underlying t = some (.map k e)) (hk : P.underlying k = some (.int q)) (w : World) (b : Nat) (x : Int) (v : Value) (h : w.imap b q) :
    (Instr.mapUpdate t (.map (some b)) (.int q x) v).run P w = .ok () (w.mapPut b q x v) := by
  obtain ⟨es, clock, hb, hks⟩ := h
  have hf := findNow_ints q x es.toList 0 hks
  have hlt := (Array.getElem?_eq_some_iff.1 hb).1
  have hc : ∀ em, (Instr.checkKey em 10000 k (.int q x)).run P w = .ok () w := fun em => MapKept.run_checkKey hk (by simp [MapKept.IsKey]) em 9999
  have hput : ∀ o, putObjE q x v es clock = o → w.mapPut b q x v = { w with heap := w.heap.setIfInBounds b o } := by
    intro o ho
    unfold World.mapPut
    rw [show w.heap.setIfInBounds b o = w.heap.set b o hlt from by simp [Array.setIfInBounds, hlt]]
    congr 1
    apply Array.ext
    · simp
    · intro i h1 h2
      simp only [Array.getElem_modify, Array.getElem_set]
      split
      · rename_i hi
        subst hi
        have : w.heap[b] = .map es clock := (Array.getElem?_eq_some_iff.1 hb).2
        rw [this]
        exact ho
      · rfl
  unfold Instr.mapUpdate
  cases hi : es.toList.findIdx? (keyIs q x) with
  | none =>
    rw [hi] at hf
    have ho : putObjE q x v es clock = .map (es.push { key := .int q x, val := v, born := clock }) (clock + 1) := by unfold putObjE; rw [hi]
    rw [hput _ ho]
    simp [run_underlying ht, getObj, setObj, Sem.run, hb, hc, Instr.findKey, run_underlying hk, hf, Result.andThen]
  | some i =>
    rw [hi] at hf
    have ho : putObjE q x v es clock = .map (es.modify i fun e => { e with key := .int q x, val := v }) clock := by unfold putObjE; rw [hi]
    rw [hput _ ho]
    obtain ⟨hil, hki, _⟩ := List.findIdx?_eq_some_iff_getElem.1 hi
    obtain ⟨k', hk'⟩ := hks _ (List.getElem_mem hil)
    have hil' : i < es.size := by simpa using hil
    have hkx : k' = x := by
      simp only [keyIs, hk'] at hki
      simpa using hki
    subst hkx
    have hkey : es[i].key = .int q k' := by simpa using hk'
    simp [run_underlying ht, getObj, setObj, Sem.run, hb, hc, Instr.findKey, run_underlying hk, hf, Result.andThen, hil', Instr.keyThatStays, hkey, Instr.sameBits]
end Go
namespace Go.Proofs
open Go.RowKit Classical
theorem Try.zero190 (w : World) : (zeroValue 190).run Try.prog w = .ok .nilFunc w := by kernel_rfl
theorem Try.zero228 (w : World) : (zeroValue 228).run Try.prog w = .ok (.agg #[.bool false, .bool false]) w := by kernel_rfl
theorem Try.zero185 (w : World) : (zeroValue 185).run Try.prog w = .ok (.pointer none) w := by kernel_rfl
@[go_sem ↓ high] theorem Try.lookup191 (w : World) (b : Nat) (x : Int) : (Instr.lookup 191 (.map (some b)) (.int .i64 x) false).run Try.prog w = mapRes (w.imap b .i64) (.ok ((w.mapGet b .i64 x).getD .nilFunc) w) (lookSlow Try.prog 191 (.map (some b)) (.int .i64 x) false w) := by
  unfold mapRes
  split
  · rename_i h
    rw [run_lookup_imap Try.underlying191 Try.underlying77 Try.zero190 w b x false h]
    rfl
  · rfl
@[go_sem ↓ high] theorem Try.lookup230 (w : World) (b : Nat) (x : Int) : (Instr.lookup 230 (.map (some b)) (.int .i64 x) true).run Try.prog w = mapRes (w.imap b .i64) (.ok (.tuple #[(w.mapGet b .i64 x).getD (.agg #[.bool false, .bool false]), .bool (w.mapGet b .i64 x).isSome]) w) (lookSlow Try.prog 230 (.map (some b)) (.int .i64 x) true w) := by
  unfold mapRes
  split
  · rename_i h
    rw [run_lookup_imap Try.underlying230 Try.underlying77 Try.zero228 w b x true h]
    rfl
  · rfl
@[go_sem ↓ high] theorem Try.lookup104 (w : World) (b : Nat) (x : Int) : (Instr.lookup 104 (.map (some b)) (.int .u32 x) false).run Try.prog w = mapRes (w.imap b .u32) (.ok ((w.mapGet b .u32 x).getD (.pointer none)) w) (lookSlow Try.prog 104 (.map (some b)) (.int .u32 x) false w) := by
  unfold mapRes
  split
  · rename_i h
    rw [run_lookup_imap Try.underlying104 Try.underlying33 Try.zero185 w b x false h]
    rfl
  · rfl
@[go_sem ↓ high] theorem Try.update191 (w : World) (b : Nat) (x : Int) (v : Value) : (Instr.mapUpdate 191 (.map (some b)) (.int .i64 x) v).run Try.prog w = mapRes (w.imap b .i64) (.ok () (w.mapPut b .i64 x v)) (updSlow Try.prog 191 (.map (some b)) (.int .i64 x) v w) := by
  unfold mapRes
  split
  · rename_i h
    rw [run_update_imap Try.underlying191 Try.underlying77 w b x v h]
  · rfl
@[go_sem ↓ high] theorem Try.update230 (w : World) (b : Nat) (x : Int) (v : Value) : (Instr.mapUpdate 230 (.map (some b)) (.int .i64 x) v).run Try.prog w = mapRes (w.imap b .i64) (.ok () (w.mapPut b .i64 x v)) (updSlow Try.prog 230 (.map (some b)) (.int .i64 x) v w) := by
  unfold mapRes
  split
  · rename_i h
    rw [run_update_imap Try.underlying230 Try.underlying77 w b x v h]
  · rfl
@[go_sem ↓ high] theorem Try.update104 (w : World) (b : Nat) (x : Int) (v : Value) : (Instr.mapUpdate 104 (.map (some b)) (.int .u32 x) v).run Try.prog w = mapRes (w.imap b .u32) (.ok () (w.mapPut b .u32 x v)) (updSlow Try.prog 104 (.map (some b)) (.int .u32 x) v w) := by
  unfold mapRes
  split
  · rename_i h
    rw [run_update_imap Try.underlying104 Try.underlying33 w b x v h]
  · rfl
end Go.Proofs
