/- Words and small laws for structs of several cells: a row of cells read and written as a whole. -/
import Derived.Test.YtgggokajapoopaaProg
import Derived.WalkKit
import Derived.WalkSpells
import Derived.WalkLawsBesides
import Derived.Deep.QuietTactic
import Derived.BigQuiet
import Derived.Lib.Hide
namespace Go
/-- The n cells from an address on, where they all lie in one block. -/
def World.agg? (w : World) (a : Addr) (n : Nat) : Option (Array Value) :=
  match w.heap[a.block]? with
  | some (.cells c _ _) => if a.spot.isSome then none else if a.off + n ≤ c.size then some (c.extract a.off (a.off + n)) else none
  | _ => none
theorem World.agg?_some {w : World} {a : Addr} {n : Nat} {cs : Array Value} (h : w.agg? a n = some cs) :
    ∃ c t fr, w.heap[a.block]? = some (.cells c t fr) ∧ a.spot = none ∧ a.off + n ≤ c.size ∧ cs = c.extract a.off (a.off + n) := by
  unfold World.agg? at h
  split at h
  · rename_i c t fr hh
    split at h
    · cases h
    · split at h
      · rename_i h1 h2
        cases h
        exact ⟨c, t, fr, hh, by simpa using h1, h2, rfl⟩
      · cases h
  · cases h
theorem World.agg?_size {w : World} {a : Addr} {n : Nat} {cs : Array Value} (h : w.agg? a n = some cs) : cs.size = n := by
  obtain ⟨c, t, fr, _, _, hl, rfl⟩ := World.agg?_some h
  simp; omega
theorem World.agg?_cell {w : World} {a : Addr} {n : Nat} {cs : Array Value} (h : w.agg? a n = some cs) {j : Nat} (hj : j < n) : w.cell? (a.add j) = cs[j]? := by
  obtain ⟨c, t, fr, hh, hs, hl, rfl⟩ := World.agg?_some h
  have : (a.add j).block = a.block ∧ (a.add j).off = a.off + j ∧ (a.add j).spot = none := by
    unfold Addr.add; split
    · subst_vars; simp [hs]
    · simp
  obtain ⟨e1, e2, e3⟩ := this
  simp only [World.cell?, e1, hh, e2, e3, Option.isSome_none, Bool.false_eq_true, if_false]
  rw [Array.getElem?_extract]
  rw [if_pos (by omega)]
theorem World.agg?_of_block {w w' : World} {a : Addr} {n : Nat} (h : w'.heap[a.block]? = w.heap[a.block]?) : w'.agg? a n = w.agg? a n := by
  simp only [World.agg?, h]
theorem World.agg?_row {w : World} {b : Nat} {c : Array Value} {t : TypeId} {fr : Nat × Nat} (h : w.heap[b]? = some (.cells c t fr)) {n : Nat} (hn : c.size = n) : w.agg? ⟨b, 0, none⟩ n = some c := by
  subst hn
  simp [World.agg?, h]
section
variable {P : Program}
theorem run_loadCells_agg (w : World) (a : Addr) (n : Nat) (cs : Array Value) (h : w.agg? a n = some cs) : (loadCells a n).run P w = .ok cs w := by
  have hs := World.agg?_size h
  have := run_loadCells_list (P := P) w a cs.toList (fun j v hv => by
    have hj : j < n := by
      have := (List.getElem?_eq_some_iff.1 hv).1
      simp at this; omega
    rw [World.agg?_cell h hj]
    simpa using hv)
  simpa [hs] using this
theorem run_loadVar_agg (ty : TypeId) (n : Nat) (hagg : ∀ w, (isAgg ty).run P w = .ok true w) (hsz : ∀ w, (sizeOf ty).run P w = .ok n w) (w : World) (a : Addr) (cs : Array Value) (h : w.agg? a n = some cs) :
    (loadVar ty a).run P w = .ok (.agg cs) w := by
  simp [loadVar, hagg, hsz, run_loadCells_agg w a n cs h]
end
/-- What a load of several cells comes to: known where the cells are. -/
def aggRes (o : Option (Array Value)) (alt : Result Value) (w : World) : Result Value :=
  match o with
  | some cs => .ok (.agg cs) w
  | none => alt
@[go_sem] theorem aggRes_some (cs : Array Value) (alt : Result Value) (w : World) : aggRes (some cs) alt w = .ok (.agg cs) w := rfl
/-- A load of several cells, under a name of its own: the walk does not take it apart. -/
def loadAgg (ty : TypeId) (a : Addr) : Sem Value := loadVar ty a
def loadSlow (P : Program) (ty : TypeId) (a : Addr) (w : World) : Result Value := (loadVar ty a).run P w
theorem run_loadAgg {P : Program} (ty : TypeId) (n : Nat) (hagg : ∀ w, (isAgg ty).run P w = .ok true w) (hsz : ∀ w, (sizeOf ty).run P w = .ok n w) (w : World) (a : Addr) :
    (loadAgg ty a).run P w = aggRes (w.agg? a n) (loadSlow P ty a w) w := by
  cases h : w.agg? a n with
  | none => rfl
  | some cs => unfold loadAgg; rw [run_loadVar_agg ty n hagg hsz w a cs h]; rfl
/-! ### Stores of several cells -/
/-- No cell of the block is marked. -/
def World.loose (w : World) (b : Nat) : Bool := match w.heap[b]? with | some (.cells _ _ fr) => fr == (0, 0) | _ => false
def splice (c : Array Value) (o : Nat) (cs : Array Value) : Array Value := (c.toList.take o ++ cs.toList ++ c.toList.drop (o + cs.size)).toArray
theorem size_splice (c : Array Value) (o : Nat) (cs : Array Value) (h : o + cs.size ≤ c.size) : (splice c o cs).size = c.size := by
  simp [splice]; omega
theorem splice_whole (c cs : Array Value) (h : c.size = cs.size) : splice c 0 cs = cs := by
  apply Array.ext'
  simp [splice, ← h]
theorem extract_splice (c : Array Value) (o : Nat) (cs : Array Value) (h : o + cs.size ≤ c.size) : (splice c o cs).extract o (o + cs.size) = cs := by
  apply Array.ext'
  have h1 : (c.toList.take o).length = o := by simp; omega
  have h2 : cs.size = cs.toList.length := by simp
  rw [Array.toList_extract, List.extract_eq_take_drop]
  unfold splice
  simp only [List.append_assoc]
  conv => lhs; rw [show o + cs.size - o = cs.toList.length by omega]
  rw [List.drop_append_of_le_length (by omega)]
  rw [List.drop_of_length_le (by omega), List.nil_append, List.take_left]
/-- The cells from an address on are put anew. -/
def World.putAgg (w : World) (a : Addr) (cs : Array Value) : World :=
  { w with heap := w.heap.modify a.block fun
      | .cells c e f => .cells (splice c a.off cs) e f
      | o => o }
theorem World.putAgg_heap {w : World} {a : Addr} {c cs : Array Value} {t : TypeId} {fr : Nat × Nat} (h : w.heap[a.block]? = some (.cells c t fr)) : (w.putAgg a cs).heap[a.block]? = some (.cells (splice c a.off cs) t fr) := by
  obtain ⟨hlt, hv⟩ := Array.getElem?_eq_some_iff.1 h
  unfold World.putAgg
  rw [Array.getElem?_eq_getElem (by simpa using hlt), Array.getElem_modify]
  simp [hv]
theorem World.putAgg_other (w : World) (a : Addr) (cs : Array Value) {b : Nat} (h : b ≠ a.block) : (w.putAgg a cs).heap[b]? = w.heap[b]? := by
  simp [World.putAgg, Array.getElem?_modify, Ne.symm h]
@[go_sem, simp] theorem World.size_putAgg (w : World) (a : Addr) (cs : Array Value) : (w.putAgg a cs).heap.size = w.heap.size := by simp [World.putAgg]
theorem World.putAgg_setRow {w : World} {a : Addr} {c cs : Array Value} {t : TypeId} {fr : Nat × Nat} (h : w.heap[a.block]? = some (.cells c t fr)) : w.putAgg a cs = w.setRow a.block (splice c a.off cs) := by
  unfold World.putAgg World.setRow
  congr 1
  apply Array.ext
  · simp
  · intro i h1 h2
    simp only [Array.getElem_modify]
    split
    · rename_i hi
      obtain ⟨hlt, hv⟩ := Array.getElem?_eq_some_iff.1 h
      subst hi
      simp [hv]
    · rfl
def okCells (n : Nat) (cs : Array Value) : Bool := cs.size == n && cs.all (·.oneCell')
@[go_sem] theorem okCells_lit (n : Nat) (l : List Value) : okCells n l.toArray = (l.length == n && l.all (·.oneCell')) := by simp [okCells]
attribute [go_sem] Value.oneCell'
theorem run_storeVar_agg {P : Program} (ty : TypeId) (n : Nat) (hsz : ∀ w, (sizeOf ty).run P w = .ok n w) (w : World) (a : Addr) (cs old : Array Value) (h : w.agg? a n = some old) (hl : w.loose a.block = true) (hc : okCells n cs = true) :
    (storeVar ty a (.agg cs)).run P w = .ok () (w.putAgg a cs) := by
  obtain ⟨c, t, fr, hh, hsp, hle, rfl⟩ := World.agg?_some h
  simp only [okCells, Bool.and_eq_true, beq_iff_eq] at hc
  obtain ⟨hn, h1⟩ := hc
  subst hn
  have hfr : fr = (0, 0) := by
    unfold World.loose at hl
    rw [hh] at hl
    simpa using hl
  subst hfr
  obtain ⟨b, o, sp⟩ := a
  simp only at hsp hh hle
  subst hsp
  have hst := run_storeCells_at P b o t cs.toList 0 c w hh (by simpa using hle) (fun v hv => (Array.all_eq_true_iff_forall_mem.1 h1) v (by simpa using hv))
  rw [World.putAgg_setRow hh]
  simp only [Nat.add_zero, Array.length_toList] at hst
  simp [storeVar, hsz, Value.cells, hst, splice]
/-- A store of several cells, under a name of its own. -/
def storeAgg (ty : TypeId) (a : Addr) (v : Value) : Sem Unit := storeVar ty a v
def storeSlow (P : Program) (ty : TypeId) (a : Addr) (v : Value) (w : World) : Result Unit := (storeVar ty a v).run P w
def storeRes (b : Bool) (x y : Result Unit) : Result Unit := if b then x else y
@[go_sem] theorem storeRes_true (x y : Result Unit) : storeRes true x y = x := rfl
theorem run_storeAgg {P : Program} (ty : TypeId) (n : Nat) (hsz : ∀ w, (sizeOf ty).run P w = .ok n w) (w : World) (a : Addr) (cs : Array Value) :
    (storeAgg ty a (.agg cs)).run P w = storeRes ((w.agg? a n).isSome && w.loose a.block && okCells n cs) (.ok () (w.putAgg a cs)) (storeSlow P ty a (.agg cs) w) := by
  cases h : (w.agg? a n).isSome && w.loose a.block && okCells n cs with
  | false => rfl
  | true =>
    simp only [Bool.and_eq_true] at h
    obtain ⟨⟨h1, h2⟩, h3⟩ := h
    obtain ⟨old, ho⟩ := Option.isSome_iff_exists.1 h1
    unfold storeAgg
    rw [run_storeVar_agg ty n hsz w a cs old ho h2 h3]; rfl
section
variable (w : World)
@[go_sem] theorem World.agg?_alloc_at (c : Array Value) (t : TypeId) (b n : Nat) (hb : b = w.heap.size) (hn : c.size = n) : (w.alloc (.cells c t)).agg? ⟨b, 0, none⟩ n = some c := by
  subst hb
  exact World.agg?_row (heap_alloc_new w _) hn
@[go_sem] theorem World.agg?_alloc_past (o : Obj) (b off n : Nat) (hb : b < w.heap.size) : (w.alloc o).agg? ⟨b, off, none⟩ n = w.agg? ⟨b, off, none⟩ n :=
  World.agg?_of_block (Go.RowKit.Below.heap_alloc w o b hb)
@[go_sem] theorem World.agg?_drew (a : Addr) (n : Nat) : w.drew.agg? a n = w.agg? a n := rfl
@[go_sem] theorem World.agg?_drewN (a : Addr) (n m : Nat) : (w.drewN m).agg? a n = w.agg? a n := rfl
@[go_sem] theorem World.agg?_setCell_other (a : Addr) (v : Value) (b off n : Nat) (h : b ≠ a.block) : (w.setCell a v).agg? ⟨b, off, none⟩ n = w.agg? ⟨b, off, none⟩ n :=
  World.agg?_of_block (heap_setCell_other w a b v h)
@[go_sem] theorem World.agg?_putAgg_same (a : Addr) (cs : Array Value) (n : Nat) (h : (w.agg? a n).isSome = true) (hn : cs.size = n) : (w.putAgg a cs).agg? a n = some cs := by
  obtain ⟨old, ho⟩ := Option.isSome_iff_exists.1 h
  obtain ⟨c, t, fr, hh, hsp, hle, _⟩ := World.agg?_some ho
  subst hn
  unfold World.agg?
  rw [World.putAgg_heap hh]
  simp only [hsp, Option.isSome_none, Bool.false_eq_true, if_false, size_splice c a.off cs hle]
  rw [if_pos hle, extract_splice c a.off cs hle]
@[go_sem] theorem World.agg?_putAgg_other (a : Addr) (cs : Array Value) (b off n : Nat) (h : b ≠ a.block) : (w.putAgg a cs).agg? ⟨b, off, none⟩ n = w.agg? ⟨b, off, none⟩ n :=
  World.agg?_of_block (w.putAgg_other a cs h)
@[go_sem] theorem World.cell?_putAgg_other (a : Addr) (cs : Array Value) (b off : Nat) (h : b ≠ a.block) : (w.putAgg a cs).cell? ⟨b, off, none⟩ = w.cell? ⟨b, off, none⟩ :=
  World.cell?_of_block (w := w) (a := ⟨b, off, none⟩) (w.putAgg_other a cs h)
@[go_sem] theorem World.frozen?_putAgg (a : Addr) (cs : Array Value) (p : Addr) : (w.putAgg a cs).frozen? p = w.frozen? p := by
  by_cases h : p.block = a.block
  · unfold World.frozen?
    simp only [World.putAgg, Array.getElem?_modify, h, if_true]
    cases w.heap[a.block]? with
    | none => rfl
    | some o => cases o <;> rfl
  · exact World.frozen?_of_block (w.putAgg_other a cs h)
theorem World.cell?_putAgg_at (b : Nat) (cs : Array Value) (j : Nat) (h : (w.agg? ⟨b, 0, none⟩ cs.size).isSome = true) (hj : j < cs.size) : (w.putAgg ⟨b, 0, none⟩ cs).cell? ⟨b, j, none⟩ = cs[j]? := by
  have := World.agg?_cell (World.agg?_putAgg_same w ⟨b, 0, none⟩ cs cs.size h rfl) hj
  rw [← this]
  congr 1
  unfold Addr.add; split <;> simp_all
@[go_sem] theorem World.loose_alloc_at (c : Array Value) (t : TypeId) (b : Nat) (hb : b = w.heap.size) : (w.alloc (.cells c t)).loose b = true := by
  subst hb
  unfold World.loose
  rw [heap_alloc_new]
  rfl
@[go_sem] theorem World.loose_alloc_past (o : Obj) (b : Nat) (hb : b < w.heap.size) : (w.alloc o).loose b = w.loose b := by
  unfold World.loose
  rw [Go.RowKit.Below.heap_alloc w o b hb]
@[go_sem] theorem World.loose_drew (b : Nat) : w.drew.loose b = w.loose b := rfl
@[go_sem] theorem World.loose_drewN (b m : Nat) : (w.drewN m).loose b = w.loose b := rfl
@[go_sem] theorem World.loose_setCell (a : Addr) (v : Value) (b : Nat) : (w.setCell a v).loose b = w.loose b := by
  by_cases h : b = a.block
  · subst h
    unfold World.loose
    simp only [World.setCell, Array.getElem?_modify, if_true]
    cases w.heap[a.block]? with
    | none => rfl
    | some o => cases o <;> rfl
  · unfold World.loose
    rw [heap_setCell_other w a b v h]
@[go_sem] theorem World.loose_putAgg (a : Addr) (cs : Array Value) (b : Nat) : (w.putAgg a cs).loose b = w.loose b := by
  by_cases h : b = a.block
  · subst h
    unfold World.loose
    simp only [World.putAgg, Array.getElem?_modify, if_true]
    cases w.heap[a.block]? with
    | none => rfl
    | some o => cases o <;> rfl
  · unfold World.loose
    rw [w.putAgg_other a cs h]
@[go_sem] theorem World.putAgg_alloc_at (c cs : Array Value) (t : TypeId) (b : Nat) (hb : b = w.heap.size) (hn : cs.size = c.size) : (w.alloc (.cells c t)).putAgg ⟨b, 0, none⟩ cs = w.alloc (.cells cs t) := by
  subst hb
  unfold World.putAgg World.alloc
  congr 1
  apply Array.ext
  · simp
  · intro i h1 h2
    simp only [Array.getElem_modify, Array.getElem_push]
    split
    · rename_i hi
      subst hi
      simp [splice_whole c cs hn.symm]
    · rename_i hi
      simp at h1
      rw [dif_pos (by omega), dif_pos (by omega)]
@[go_sem] theorem World.putAgg_alloc_past (o : Obj) (b off : Nat) (cs : Array Value) (hb : b < w.heap.size) : (w.alloc o).putAgg ⟨b, off, none⟩ cs = (w.putAgg ⟨b, off, none⟩ cs).alloc o := by
  unfold World.putAgg World.alloc
  congr 1
  apply Array.ext
  · simp
  · intro i h1 h2
    simp only [Array.getElem_modify, Array.getElem_push, Array.size_modify]
    split
    · rename_i hi
      subst hi
      simp [hb]
    · split <;> rfl
@[go_sem] theorem World.putAgg_drew (a : Addr) (cs : Array Value) : w.drew.putAgg a cs = (w.putAgg a cs).drew := rfl
end
theorem resCT {P : Program} {fn : Func} {p t : Tmp} {ty : TypeId} (h : fn.results = #[.cell p ty, .tmp t]) (tmps : Array Value) (w : World) (a : Addr) (v : Value)
    (hp : tmps.getD p undef = .pointer (some a)) (hl : (loadVar ty a).run P w = .ok v w) : (results fn tmps).run P w = .ok (.tuple #[v, tmps.getD t undef]) w := by
  have hp' : tmps[p]?.getD undef = .pointer (some a) := by simpa using hp
  simp [results, h, hp', asAddr, hl]
theorem resC {P : Program} {fn : Func} {p : Tmp} {ty : TypeId} (h : fn.results = #[.cell p ty]) (tmps : Array Value) (w : World) (a : Addr) (v : Value)
    (hp : tmps.getD p undef = .pointer (some a)) (hl : (loadVar ty a).run P w = .ok v w) : (results fn tmps).run P w = .ok v w := by
  have hp' : tmps[p]?.getD undef = .pointer (some a) := by simpa using hp
  simp [results, h, hp', asAddr, hl]
theorem resTCT {P : Program} {fn : Func} {s p t : Tmp} {ty : TypeId} (h : fn.results = #[.tmp s, .cell p ty, .tmp t]) (tmps : Array Value) (w : World) (a : Addr) (v : Value)
    (hp : tmps.getD p undef = .pointer (some a)) (hl : (loadVar ty a).run P w = .ok v w) : (results fn tmps).run P w = .ok (.tuple #[tmps.getD s undef, v, tmps.getD t undef]) w := by
  have hp' : tmps[p]?.getD undef = .pointer (some a) := by simpa using hp
  simp [results, h, hp', asAddr, hl]
/-! ### A literal of one part that is the whole -/
def fillSlow (place : Nat → Option (Nat × Nat)) (cells : Array Value) (i : Nat) (cs : Array Value) : Option (Array Value) := Instr.fill place cells [(i, .agg cs)]
theorem foldl_zipIdx (cs cells : List Value) (o : Nat) (h : o + cs.length ≤ cells.length) :
    ((cs.zipIdx o).foldl (fun (acc : List Value) (p : Value × Nat) => acc.set p.2 p.1) cells) = cells.take o ++ cs ++ cells.drop (o + cs.length) := by
  induction cs generalizing o cells with
  | nil => simp
  | cons c cs ih =>
    simp only [List.zipIdx_cons, List.foldl_cons]
    rw [ih (cells.set o c) (o + 1) (by simp at h ⊢; omega)]
    simp only [List.length_cons] at h ⊢
    apply List.ext_getElem?
    intro k
    simp only [List.getElem?_append, List.length_append, List.length_take, List.length_set, List.length_cons, List.getElem?_take, List.getElem?_drop, List.getElem?_set]
    have e1 : min (o + 1) cells.length = o + 1 := by omega
    have e2 : min o cells.length = o := by omega
    rw [e1, e2]
    by_cases h1 : k < o
    · simp [h1, show k < o + 1 from by omega, show k < o + 1 + cs.length from by omega, show k < o + (cs.length + 1) from by omega, show ¬ o = k from by omega]
    · by_cases h2 : k = o
      · subst h2
        simp [show k < k + 1 + cs.length from by omega, show k < cells.length from by omega]
      · by_cases h3 : k < o + 1 + cs.length
        · simp [h1, h3, show ¬ k < o + 1 from by omega, show k < o + (cs.length + 1) from by omega]
          rw [show k - o = (k - (o + 1)) + 1 from by omega]
          simp
        · simp [show ¬ k < o + (cs.length + 1) from by omega, show o + 1 + cs.length = o + (cs.length + 1) from by omega, show ¬ o = o + (cs.length + 1) + (k - (o + (cs.length + 1))) from by omega]
theorem fill_whole_eq (place : Nat → Option (Nat × Nat)) (cells : Array Value) (i : Nat) (cs : Array Value) (hp : place i = some (0, cs.size)) (hs : cells.size = cs.size) : Instr.fill place cells [(i, .agg cs)] = some cs := by
  simp only [Instr.fill, hp, Value.cells, ne_eq, not_true_eq_false, Nat.zero_add, decide_false, Bool.false_or, hs, gt_iff_lt, Nat.lt_irrefl]
  rw [if_neg (by simp)]
  congr 1
  have h := foldl_zipIdx cs.toList cells.toList 0 (by simp [hs])
  simp only [List.take_zero, List.nil_append, Nat.zero_add] at h
  rw [List.drop_of_length_le (by simp [hs]), List.append_nil] at h
  apply Array.ext'
  rw [← h, ← Array.foldl_toList]
  simp only [Array.toList_zipIdx]
  generalize cs.toList.zipIdx = z
  clear h hs hp
  induction z generalizing cells with
  | nil => rfl
  | cons p z ih => simp only [List.foldl_cons]; rw [ih]; simp
@[go_sem ↓ high] theorem fill_whole (place : Nat → Option (Nat × Nat)) (cells : Array Value) (i : Nat) (cs : Array Value) : Instr.fill place cells [(i, .agg cs)] = if place i = some (0, cs.size) ∧ cells.size = cs.size then some cs else fillSlow place cells i cs := by
  split
  · rename_i h; exact fill_whole_eq place cells i cs h.1 h.2
  · rfl
attribute [go_sem high] fill_whole
theorem ret_int {k : IntKind} {a b : Int} (h : a = b) : Ending.returned (.int k a) = Ending.returned (.int k b) := by rw [h]
theorem ret_bool {a b : Bool} (h : a = b) : Ending.returned (.bool a) = Ending.returned (.bool b) := by rw [h]
end Go
