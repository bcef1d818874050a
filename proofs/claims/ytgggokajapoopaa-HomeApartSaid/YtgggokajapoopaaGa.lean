import Derived.Test.YtgggokajapoopaaHj
/- The document's home: how it lies, and its small functions. -/
namespace Go
open Go.RowKit Go.Proofs
/-- An entry of the document's home, with where its queue lies. -/
structure REn where
  e : En
  a : Option Addr
  c : Nat
def REn.cells (p : REn) : Array Value := p.e.cells (.slice p.a p.e.q.length p.c)
@[go_sem] theorem REn.ok (p : REn) : okCells 11 p.cells = true := En.okCells _ _ _ _
@[go_sem] theorem REn.cells_size (p : REn) : p.cells.size = 11 := by simp [REn.cells, En.cells]
/-- The document's home. -/
structure Rh where
  mem : List B16
  es : List En
/-- The queue of an entry lies there. -/
def REn.At (w : World) (p : REn) : Prop := Row 20 Ms.cells w p.a p.e.q ∧ p.e.q.length ≤ p.c
def RhAt (w : World) (v : Value) (G : Rh) : Prop :=
  ∃ ab cb ae ce L, v = .agg #[.slice ab (bytesOf G.mem).length cb, .slice ae L.length ce] ∧ Row 1 encB w ab (bytesOf G.mem) ∧ Row 11 REn.cells w ae L ∧ L.map REn.e = G.es ∧ ∀ p ∈ L, REn.At w p
theorem REn.At.ext {w w' : World} {p : REn} (h : p.At w) (hE : Ext w w') : p.At w' := ⟨h.1.ext hE, h.2⟩
theorem RhAt.ext {w w' : World} {v : Value} {G : Rh} (h : RhAt w v G) (hE : Ext w w') : RhAt w' v G := by
  obtain ⟨ab, cb, ae, ce, L, h1, h2, h3, h4, h5⟩ := h
  exact ⟨ab, cb, ae, ce, L, h1, h2.ext hE, h3.ext hE, h4, fun p hp => (h5 p hp).ext hE⟩
end Go
namespace Go.Proofs
open Go.RowKit
@[go_sem ↓] theorem Try.loadVar74 (a : Addr) : loadVar 74 a = loadAgg 74 a := rfl
@[go_sem] theorem Try.loadAgg74 (w : World) (a : Addr) : (loadAgg 74 a).run Try.prog w = aggRes (w.agg? a 2) (loadSlow Try.prog 74 a w) w :=
  run_loadAgg 74 2 Try.isAgg74 Try.sizeOf74 w a
@[go_sem ↓] theorem Try.storeVar74 (a : Addr) (v : Value) : storeVar 74 a v = storeAgg 74 a v := rfl
@[go_sem] theorem Try.storeAgg74 (w : World) (a : Addr) (cs : Array Value) : (storeAgg 74 a (.agg cs)).run Try.prog w = storeRes ((w.agg? a 2).isSome && w.loose a.block && okCells 2 cs) (.ok () (w.putAgg a cs)) (storeSlow Try.prog 74 a (.agg cs) w) :=
  run_storeAgg 74 2 Try.sizeOf74 w a cs
theorem twos_ok (a b : Option Addr) (n c n' c' : Nat) : okCells 2 #[.slice a n c, .slice b n' c'] = true := by simp [okCells, Value.oneCell']
@[go_sem] theorem _root_.Go.En.cells_get0 (e : En) (v : Value) (h : 0 < (e.cells v).size) : (e.cells v)[0] = .int .i64 e.owner := rfl
@[go_sem] theorem _root_.Go.En.cells_set0 (e : En) (v : Value) (n : Int) : (e.cells v).setIfInBounds 0 (.int .i64 n) = ({ e with owner := n } : En).cells v := rfl
@[go_sem] theorem _root_.Go.En.cells_0 (e : En) (v : Value) : (e.cells v)[0]? = some (.int .i64 e.owner) := rfl
@[go_sem] theorem agg_alloc_shares (w : World) (e : En) (v : Value) (t : TypeId) (b : Nat) (hb : b = w.heap.size) : (w.alloc (.cells (e.cells v) t)).agg? ⟨b, 1, none⟩ 4 = some #[.bool e.s0, .bool e.s1, .bool e.s2, .bool e.s3] := by
  subst hb
  unfold World.agg?
  rw [heap_alloc_new]
  rfl
@[go_sem] theorem put_alloc_shares (w : World) (e : En) (v : Value) (t : TypeId) (b : Nat) (x y z u : Bool) (hb : b = w.heap.size) : (w.alloc (.cells (e.cells v) t)).putAgg ⟨b, 1, none⟩ #[.bool x, .bool y, .bool z, .bool u] = w.alloc (.cells (({ e with s0 := x, s1 := y, s2 := z, s3 := u } : En).cells v) t) := by
  subst hb
  unfold World.putAgg World.alloc
  congr 1
  apply Array.ext
  · simp
  · intro i h1 h2
    simp only [Array.getElem_modify, Array.getElem_push]
    split
    · rename_i hi
      subst hi
      simp only [Nat.lt_irrefl, dite_false]
      rfl
    · rename_i hi
      simp at h1
      rw [dif_pos (by omega), dif_pos (by omega)]
@[go_sem] theorem _root_.Go.En.cells_get5 (e : En) (v : Value) (h : 5 < (e.cells v).size) : (e.cells v)[5] = .bool e.busy := rfl
@[go_sem] theorem _root_.Go.En.cells_get6 (e : En) (v : Value) (h : 6 < (e.cells v).size) : (e.cells v)[6] = .int .i64 e.asks := rfl
@[go_sem] theorem _root_.Go.En.cells_get7 (e : En) (v : Value) (h : 7 < (e.cells v).size) : (e.cells v)[7] = .int .i64 e.kind := rfl
@[go_sem] theorem _root_.Go.En.cells_get8 (e : En) (v : Value) (h : 8 < (e.cells v).size) : (e.cells v)[8] = .int .i64 e.waits := rfl
@[go_sem] theorem _root_.Go.En.cells_get9 (e : En) (v : Value) (h : 9 < (e.cells v).size) : (e.cells v)[9] = .bool e.told := rfl
set_option maxRecDepth 100000 in
set_option maxHeartbeats 400000 in
theorem rown_any (e : En) (a : Option Addr) (n c : Nat) (r : Int) (w : World) : Calls Try.prog 116 #[.agg (e.cells (.slice a n c)), .int .i64 r] w fun x w' => x = .returned (.agg ((e.own r).cells (.slice a n c))) ∧ Ext w w' := by
  have h4 := fours_ok false false false false
  go_enter Try.func116, Try.ntmps116
  go_wp2_with fail
  (try simp only [Exit.inBlock, Exit.then])
  refine bodyPost_ret (resC rfl _ _ ⟨w.heap.size + 1, 0, none⟩ (.agg ((e.own r).cells (.slice a n c))) rfl ?_) rfl ⟨rfl, ((Ext.refl w).alloc _).alloc _⟩
  exact run_loadVar_agg 84 11 Try.isAgg84 Try.sizeOf84 _ _ _ (by simp [go_sem]; rfl)
/-- The document's home, boxed, and a result that is a message. -/
theorem rh_shape {w : World} {v : Value} {G : Rh} (h : RhAt w v G) : ∃ ab nb cb ae ne ce, v = .agg #[.slice ab nb cb, .slice ae ne ce] ∧ nb = (bytesOf G.mem).length ∧ ne = G.es.length := by
  obtain ⟨ab, cb, ae, ce, L, h1, h2, h3, h4, h5⟩ := h
  exact ⟨ab, _, cb, ae, _, ce, h1, rfl, by rw [← h4, List.length_map]⟩
/-- Sixteen cells of which the first j are a line's. -/
def fillB (y : B16) (j : Nat) : Array Value := ((y.bs.take j ++ List.replicate (16 - j) 0).map (Value.int .u8)).toArray
theorem fillB_zero (y : B16) : fillB y 0 = B16.zero.cells := rfl
theorem fillB_full (y : B16) : fillB y 16 = y.cells := by
  unfold fillB B16.cells
  rw [List.take_of_length_le (by rw [y.ok.1]; exact Nat.le_refl _)]
  simp
@[go_sem] theorem fillB_size (y : B16) (j : Nat) (h : j ≤ 16) : (fillB y j).size = 16 := by
  unfold fillB
  have := y.ok.1
  simp; omega
theorem fillB_set (y : B16) (j : Nat) (b : Int) (h : j < 16) (hb : y.bs[j]? = some b) : (fillB y j).setIfInBounds j (.int .u8 b) = fillB y (j + 1) := by
  have hl := y.ok.1
  unfold fillB
  apply Array.ext'
  simp only [Array.toList_setIfInBounds, ← List.map_set]
  congr 1
  apply List.ext_getElem?
  intro i
  have e1 : (y.bs.take j).length = j := by simp; omega
  have e2 : (y.bs.take (j + 1)).length = j + 1 := by simp; omega
  simp only [List.getElem?_set, List.getElem?_append, e1, e2, List.length_append, List.length_replicate, List.getElem?_take, List.getElem?_replicate]
  by_cases h1 : j = i
  · subst h1
    simp only [if_true, show j < j + (16 - j) from by omega, show j < j + 1 from by omega, hb]
  · by_cases h2 : i < j
    · simp only [h1, h2, show i < j + 1 from by omega, if_true, if_false]
    · by_cases h3 : i < 16
      · simp only [h1, h2, show ¬ i < j + 1 from by omega, show i - j < 16 - j from by omega, show i - (j + 1) < 16 - (j + 1) from by omega, if_true, if_false]
      · simp only [h1, h2, show ¬ i < j + 1 from by omega, show ¬ i - j < 16 - j from by omega, show ¬ i - (j + 1) < 16 - (j + 1) from by omega, if_false]
theorem fillB_at (y : B16) (j : Nat) (h : j < 16) : (fillB y j)[j]? = some (.int .u8 0) := by
  have hl := y.ok.1
  have e1 : (y.bs.take j).length = j := by simp; omega
  unfold fillB
  rw [List.getElem?_toArray, List.getElem?_map, List.getElem?_append_right (by omega), e1, List.getElem?_replicate, if_pos (by omega)]
  rfl
/-- Byte j of line x. -/
theorem byte_of_line {ls : List B16} {x : Nat} {y : B16} (hy : ls[x]? = some y) (j : Nat) (hj : j < 16) : ∃ b, y.bs[j]? = some b ∧ (bytesOf ls)[16 * x + j]? = some b := by
  have hl := y.ok.1
  refine ⟨y.bs[j]'(by omega), List.getElem?_eq_getElem _, ?_⟩
  induction ls generalizing x with
  | nil => simp at hy
  | cons a l ih =>
    have ha := a.ok.1
    unfold bytesOf at ih ⊢
    rw [List.flatMap_cons]
    cases x with
    | zero =>
      simp at hy; subst hy
      rw [List.getElem?_append_left (by omega)]
      simp
    | succ x =>
      have := ih (x := x) (by simpa using hy)
      rw [List.getElem?_append_right (by omega), show 16 * (x + 1) + j - a.bs.length = 16 * x + j by omega]
      exact this
/-- Between two rounds of Line. -/
structure LineInv (w wr : World) (hv : Array Value) (y : B16) (j : Nat) : Prop where
  ext : Ext w wr
  h0 : wr.heap[w.heap.size]? = some (.cells hv 74 (0, 0))
  h1 : wr.heap[w.heap.size + 1]? = some (.cells B16.zero.cells 37 (0, 0))
  h2 : wr.heap[w.heap.size + 1 + 1]? = some (.cells (fillB y j) 37 (0, 0))
theorem LineInv.start (w : World) (hv : Array Value) (y : B16) : LineInv w (((w.alloc (.cells hv 74)).alloc (.cells B16.zero.cells 37)).alloc (.cells B16.zero.cells 37)) hv y 0 := by
  have e0 := heap_alloc_new w (.cells hv 74)
  have e1 := heap_alloc_new (w.alloc (.cells hv 74)) (.cells B16.zero.cells 37)
  have e2 := heap_alloc_new ((w.alloc (.cells hv 74)).alloc (.cells B16.zero.cells 37)) (.cells B16.zero.cells 37)
  simp only [World.size_alloc] at e1 e2
  refine ⟨(((Ext.refl w).alloc _).alloc _).alloc _, ?_, ?_, ?_⟩
  · rw [Below.heap_alloc _ _ _ (by simp; omega), Below.heap_alloc _ _ _ (by simp), e0]
  · rw [Below.heap_alloc _ _ _ (by simp), e1]
  · rw [e2, fillB_zero]
theorem LineInv.next {w wr : World} {hv : Array Value} {y : B16} {j : Nat} {b : Int} (h : LineInv w wr hv y j) (hj : j < 16) (hb : y.bs[j]? = some b) : LineInv w (wr.setCell ⟨w.heap.size + 1 + 1, j, none⟩ (.int .u8 b)) hv y (j + 1) := by
  have h2 := heap_setCell_same wr (w.heap.size + 1 + 1) j _ 37 (.int .u8 b) h.h2
  rw [fillB_set y j b hj hb] at h2
  exact ⟨h.ext.setCell _ _ (by simp only; omega), (heap_setCell_other _ _ _ _ (by simp only; omega)).trans h.h0, (heap_setCell_other _ _ _ _ (by simp only; omega)).trans h.h1, h2⟩
set_option maxRecDepth 100000 in
set_option maxHeartbeats 1000000 in
theorem rline_any (v : Value) (G : Rh) (x : Nat) (y : B16) (w : World) (h : RhAt w v G) (hy : G.mem[x]? = some y) (hl : G.mem.length ≤ 256) :
    Calls Try.prog 152 #[v, .int .u32 x] w fun e w' => e = .returned (.agg y.cells) ∧ Ext w w' := by
  have hx : x < G.mem.length := (List.getElem?_eq_some_iff.1 hy).1
  obtain ⟨ab, cb, ae, ce, L, rfl, h2, -⟩ := h
  have HB : Hid (∀ j : Nat, j < 16 → ∃ b, y.bs[j]? = some b ∧ (bytesOf G.mem)[16 * x + j]? = some b) := fun j hj => byte_of_line hy j hj
  have hlen := length_bytesOf G.mem
  obtain ⟨nb, hnb⟩ : ∃ nb, nb = (bytesOf G.mem).length := ⟨_, rfl⟩
  have hnx : 16 * x + 16 ≤ nb := by omega
  have hx256 : x < 256 := by omega
  have H2 := Lib.hid h2
  rw [← hnb]
  clear hlen hnb h2 hl hx hy
  go_enter Try.func152, Try.ntmps152
  go_wp2_with fail
  go_loopw [6] (fun i wr => ∃ j : Nat, j ≤ 16 ∧ i = .int .i64 j ∧ LineInv w wr #[.slice ab nb cb, .slice ae L.length ce] y j) (fun i _ => 16 - (intOf i).toNat)
  case atStart => exact ⟨0, Nat.zero_le _, rfl, LineInv.start _ _ _⟩
  case round =>
    obtain ⟨j, hj, rfl, hI⟩ := hrel
    have c0 : wr.cell? ⟨w.heap.size, 0, none⟩ = some (.slice ab nb cb) := by rw [cell_of_row wr _ 0 _ 74 (0, 0) hI.h0]; rfl
    by_cases hlt : j < 16
    · obtain ⟨b, hb1, hb2⟩ := HB.out j hlt
      have hc := (H2.out.ext hI.ext).cell hb2 (j := 0) (by omega)
      obtain ⟨bb, off, rfl, hcell⟩ := hc
      have hc0 : wr.cell? ⟨bb, off + (16 * x + j), none⟩ = some (.int .u8 b) := by
        rw [Nat.mul_one, Nat.add_zero] at hcell
        exact hcell
      have hc1 : wr.cell? ⟨w.heap.size + 1 + 1, j, none⟩ = (fillB y j)[j]? := cell_of_row wr _ j _ 37 (0, 0) hI.h2
      have hf1 : wr.frozen? ⟨w.heap.size + 1 + 1, j, none⟩ = false := frozen_of_row wr _ j _ 37 hI.h2
      have hj1 := fillB_at y j hlt
      rw [hj1] at hc1
      have HI := Lib.hid hI
      have hji : (j : Int) < 16 := by omega
      clear hb2 hcell hI hj1
      go_wp2_with fail
      go_roundw
      case rel => exact ⟨j + 1, by omega, by go_num, HI.out.next hlt hb1⟩
      case measure => simp [intOf]; omega
    · have hjj : j = 16 := by omega
      subst hjj
      have hag : wr.agg? ⟨w.heap.size + 1 + 1, 0, none⟩ 16 = some y.cells := by rw [World.agg?_row hI.h2 (fillB_size y 16 (by omega)), fillB_full]
      obtain ⟨hr1, hr2⟩ : (wr.agg? ⟨w.heap.size + 1, 0, none⟩ 16).isSome = true ∧ wr.loose (w.heap.size + 1) = true := by
        rw [World.agg?_row hI.h1 (B16.cells_size _)]
        exact ⟨rfl, by simp [World.loose, hI.h1]⟩
      have HI := Lib.hid hI
      clear hI
      go_wp2_with fail
      (try simp only [Exit.inBlock, Exit.then])
      refine bodyPost_ret (resC rfl _ _ ⟨w.heap.size + 1, 0, none⟩ (.agg y.cells) rfl ?_) rfl ⟨rfl, HI.out.ext.putAgg _ _ (by simp only; omega)⟩
      exact run_loadVar_agg 37 16 Try.isAgg37 Try.sizeOf37 _ _ _ (World.agg?_putAgg_same _ _ _ _ hr1 (B16.cells_size _))
end Go.Proofs
/- The document's home: '==' on messages; SameMsgs, SameEntry, where both are the same; New. -/
namespace Go
theorem equal_msg {P : Program} (w : World) (d : Nat) (t t0 t1 t2 t3 t4 e : TypeId) (f0 f1 f2 f3 f4 : Field) (h : P.underlying t = some (.struct #[f0, f1, f2, f3, f4]))
    (hn : f0.name ≠ "_" ∧ f1.name ≠ "_" ∧ f2.name ≠ "_" ∧ f3.name ≠ "_" ∧ f4.name ≠ "_") (ht : f0.type = t0 ∧ f1.type = t1 ∧ f2.type = t2 ∧ f3.type = t3 ∧ f4.type = t4) (ho : f0.offset = 0 ∧ f1.offset = 1 ∧ f2.offset = 2 ∧ f3.offset = 3 ∧ f4.offset = 4)
    (hh : P.stoodInHeld t = false) (h0 : P.underlying t0 = some (.int .i64)) (h1 : P.underlying t1 = some (.int .i64)) (h2 : P.underlying t2 = some (.int .i64)) (h3 : P.underlying t3 = some (.int .u32)) (h4 : P.underlying t4 = some (.array 16 e)) (he : P.underlying e = some (.int .u8)) (hse : ∀ w, (sizeOf e).run P w = .ok 1 w)
    (ha4 : ∀ w, (isAgg t4).run P w = .ok true w) (hs4 : ∀ w, (sizeOf t4).run P w = .ok 16 w) (a b : Ms) : (Op.equalIn (d + 3) t (.agg a.cells) (.agg b.cells)).run P w = .ok (decide (a = b)) w := by
  have hf := Program.fieldsOf_eq h
  rw [← hf] at h
  obtain ⟨ht0, ht1, ht2, ht3, ht4⟩ := ht
  obtain ⟨ho0, ho1, ho2, ho3, ho4⟩ := ho
  obtain ⟨hn0, hn1, hn2, hn3, hn4⟩ := hn
  rw [run_equalIn_struct w (d + 2) t _ _ h hh, hf, Ms.beq_parts]
  have p0 : ∀ l : Ms, (part t0 l.cells 0).run P w = .ok (.int .i64 l.kind) w := fun l => by simp [part, isAgg, run_underlying h0, Ms.cells_0]
  have p1 : ∀ l : Ms, (part t1 l.cells 1).run P w = .ok (.int .i64 l.frm) w := fun l => by simp [part, isAgg, run_underlying h1, Ms.cells_1]
  have p2 : ∀ l : Ms, (part t2 l.cells 2).run P w = .ok (.int .i64 l.to) w := fun l => by simp [part, isAgg, run_underlying h2, Ms.cells_2]
  have p3 : ∀ l : Ms, (part t3 l.cells 3).run P w = .ok (.int .u32 l.line) w := fun l => by simp [part, isAgg, run_underlying h3, Ms.cells_3]
  have p4 : ∀ l : Ms, (part t4 l.cells 4).run P w = .ok (.agg l.b.cells) w := fun l => by
    simp only [part, Sem.run_bind, ha4, hs4, Result.andThen_ok, if_true, Nat.reduceAdd, Ms.cells_bs, Sem.run_pure]
  have e0 := run_equalIn_int (P := P) w (d + 1) t0 .i64 .i64 a.kind b.kind h0
  have e1 := run_equalIn_int (P := P) w (d + 1) t1 .i64 .i64 a.frm b.frm h1
  have e2 := run_equalIn_int (P := P) w (d + 1) t2 .i64 .i64 a.to b.to h2
  have e3 := run_equalIn_int (P := P) w (d + 1) t3 .u32 .u32 a.line b.line h3
  have e4 : (Op.equalIn (d + 2) t4 (.agg a.b.cells) (.agg b.b.cells)).run P w = .ok (decide (a.b = b.b)) w := by
    rw [← B16.beq]
    exact run_equalIn_ints (P := P) w .u8 d t4 e 16 h4 he hse a.b.bs b.b.bs a.b.ok.1 b.b.ok.1
  have go : ∀ d' (i0 i1 i2 i3 i4 : Bool), (Op.equalIn d' t0 (.int .i64 a.kind) (.int .i64 b.kind)).run P w = .ok i0 w → (Op.equalIn d' t1 (.int .i64 a.frm) (.int .i64 b.frm)).run P w = .ok i1 w → (Op.equalIn d' t2 (.int .i64 a.to) (.int .i64 b.to)).run P w = .ok i2 w →
      (Op.equalIn d' t3 (.int .u32 a.line) (.int .u32 b.line)).run P w = .ok i3 w → (Op.equalIn d' t4 (.agg a.b.cells) (.agg b.b.cells)).run P w = .ok i4 w → (Op.eqFields d' a.cells b.cells [f0, f1, f2, f3, f4]).run P w = .ok (i0 && (i1 && (i2 && (i3 && i4)))) w := by
    intro d' i0 i1 i2 i3 i4 g0 g1 g2 g3 g4
    cases i0 <;> cases i1 <;> cases i2 <;> cases i3 <;> cases i4 <;> simp [Op.eqFields, hn0, hn1, hn2, hn3, hn4, ht0, ht1, ht2, ht3, ht4, ho0, ho1, ho2, ho3, ho4, p0, p1, p2, p3, p4, g0, g1, g2, g3, g4]
  exact go (d + 2) _ _ _ _ _ e0 e1 e2 e3 e4
end Go
namespace Go.Proofs
open Go.RowKit
theorem Try.equal79 (d : Nat) (w : World) (a b : Ms) : (Op.equalIn (d + 3) 79 (.agg a.cells) (.agg b.cells)).run Try.prog w = .ok (decide (a = b)) w :=
  equal_msg w d 79 77 3 3 33 37 5 _ _ _ _ _ Try.underlying79 (by decide) ⟨rfl, rfl, rfl, rfl, rfl⟩ ⟨rfl, rfl, rfl, rfl, rfl⟩ Try.stoodInHeld79 Try.underlying77 Try.underlying3 Try.underlying3 Try.underlying33 Try.underlying37 Try.underlying5 Try.sizeOf5 Try.isAgg37 Try.sizeOf37 a b
@[go_sem ↓] theorem Try.neq79 (w : World) (a b : Ms) : (binOp .neq 79 (.agg a.cells) (.agg b.cells)).run Try.prog w = .ok (.bool (!decide (a = b))) w := by
  have h := Try.equal79 9997 w a b
  rw [run_neq_struct, h, Result.andThen_ok]
theorem eql82_same (e : En) (w : World) : (binOp .eql 82 (.agg #[.bool e.s0, .bool e.s1, .bool e.s2, .bool e.s3]) (.agg #[.bool e.s0, .bool e.s1, .bool e.s2, .bool e.s3])).run Try.prog w = .ok (.bool true) w := by
  generalize e.s0 = a
  generalize e.s1 = b
  generalize e.s2 = c
  generalize e.s3 = d
  cases a <;> cases b <;> cases c <;> cases d <;> kernel_rfl
set_option maxRecDepth 100000 in
set_option maxHeartbeats 400000 in
theorem rsame_msgs (L : List Ms) (a b : Option Addr) (ca cb : Nat) (w : World) (ha : Row 20 Ms.cells w a L) (hb : Row 20 Ms.cells w b L) (hl : L.length ≤ 100000) :
    Calls Try.prog 56 #[.slice a L.length ca, .slice b L.length cb] w fun e w' => e = .returned (.bool true) ∧ Ext w w' := by
  have HA := Lib.hid ha
  have HB := Lib.hid hb
  clear ha hb
  go_enter Try.func56, Try.ntmps56
  go_wp2_with fail
  go_loopw [5] (fun i wr => ∃ k : Nat, k ≤ L.length ∧ i = .int .i64 k ∧ Ext w wr) (fun i _ => L.length - (intOf i).toNat)
  case atStart => exact ⟨0, Nat.zero_le _, rfl, Below.refl _ _⟩
  case round =>
    obtain ⟨k, hk, rfl, hE⟩ := hrel
    by_cases hlt : k < L.length
    · obtain ⟨x, hx⟩ : ∃ x, L[k]? = some x := ⟨L[k], by simp [hlt]⟩
      obtain ⟨b1, off1, rfl, hg1⟩ := (HA.out.ext hE) k x hx
      obtain ⟨b2, off2, rfl, hg2⟩ := (HB.out.ext hE) k x hx
      have hki : (k : Int) < (L.length : Int) := by omega
      have hk0 : (0 : Int) ≤ (k : Int) := by omega
      clear hx
      go_wp2_with fail
      go_quiet (fail)
      go_wp2_with fail
      go_roundw
      case rel => exact ⟨k + 1, by omega, by go_num, hE.trans ((Ext.refl _).drewN _)⟩
      case measure => simp [intOf]; omega
    · have hkk : k = L.length := by omega
      subst hkk
      go_wp2_with fail
      go_ret
      exact ⟨rfl, hE⟩
set_option maxRecDepth 100000 in
set_option maxHeartbeats 1000000 in
theorem rsame_entry (e : En) (a b : Option Addr) (ca cb : Nat) (w : World) (ha : Row 20 Ms.cells w a e.q) (hb : Row 20 Ms.cells w b e.q) (hl : e.q.length ≤ 100000) :
    Calls Try.prog 50 #[.agg (e.cells (.slice a e.q.length ca)), .agg (e.cells (.slice b e.q.length cb))] w fun r w' => r = .returned (.bool true) ∧ Ext w w' := by
  have HA : Hid (∀ W, Ext w W → Row 20 Ms.cells W a e.q) := fun W hE => ha.ext hE
  have HB : Hid (∀ W, Ext w W → Row 20 Ms.cells W b e.q) := fun W hE => hb.ext hE
  have hq := fun w => eql82_same e w
  clear ha hb
  go_enter Try.func50, Try.ntmps50
  go_wp2_with (go_at_call 56; refine (rsame_msgs e.q a b ca cb _ (HA.out _ (((Ext.refl w).alloc _).alloc _)) (HB.out _ (((Ext.refl w).alloc _).alloc _)) hl).mono ?_; rintro r w2 ⟨rfl, hE⟩)
  go_ret
  exact ⟨rfl, ((((Ext.refl w).alloc _).alloc _)).trans hE⟩
end Go.Proofs
