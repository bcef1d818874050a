/- The home as a plain record, and how it lies: entries, a message that is taken. -/
import Derived.Test.YtgggokajapoopaaImb
import Derived.Test.YtgggokajapoopaaChs
namespace Go
open Go.RowKit Go.Proofs
/-- An entry: owner, four sharers, busy, asks, kind, waits, told, queue. -/
structure En where
  owner : Int
  s0 : Bool
  s1 : Bool
  s2 : Bool
  s3 : Bool
  busy : Bool
  asks : Int
  kind : Int
  waits : Int
  told : Bool
  q : List Ms
def En.cells (e : En) (v : Value) : Array Value := #[.int .i64 e.owner, .bool e.s0, .bool e.s1, .bool e.s2, .bool e.s3, .bool e.busy, .int .i64 e.asks, .int .i64 e.kind, .int .i64 e.waits, .bool e.told, v]
def En.zero : En := ⟨-1, false, false, false, false, false, 0, 0, 0, false, []⟩
/-- A queue: anywhere in a block. -/
def QAt (w : World) (v : Value) (q : List Ms) (o : Option Nat) : Prop :=
  (q = [] ∧ o = none ∧ ∃ a c, v = .slice a 0 c) ∨ (∃ g off cap, o = some g ∧ v = .slice (some ⟨g, off, none⟩) q.length cap ∧ Row 20 Ms.cells w (some ⟨g, off, none⟩) q ∧ q ≠ [] ∧ q.length ≤ cap)
theorem QAt.keep {w w' : World} {v : Value} {q : List Ms} {o : Option Nat} (h : QAt w v q o) (hk : ∀ b, o = some b → w'.heap[b]? = w.heap[b]?) : QAt w' v q o := by
  rcases h with h | ⟨g, off, cap, ho, hv, hr, rest⟩
  · exact .inl h
  · refine .inr ⟨g, off, cap, ho, hv, fun i x hx => ?_, rest⟩
    obtain ⟨b, off', e, hg⟩ := hr i x hx
    cases e
    exact ⟨g, off, rfl, by rw [World.agg?_of_block (hk g ho)]; exact hg⟩
theorem QAt.lt {w : World} {v : Value} {q : List Ms} {o : Option Nat} (h : QAt w v q o) {g : Nat} (hg : o = some g) : g < w.heap.size := by
  rcases h with ⟨_, h, _⟩ | ⟨g', off, cap, ho, hv, hr, hq, _⟩
  · rw [hg] at h; cases h
  · rw [hg] at ho
    cases ho
    cases q with
    | nil => exact absurd rfl hq
    | cons m q =>
      obtain ⟨b, off', e, hg⟩ := hr 0 m rfl
      cases e
      exact World.agg?_lt hg
theorem QAt.of {w : World} {v : Value} {q : List Ms} {o : Option Nat} (h : SlAt 79 20 Ms.cells w v q o) : ∃ o', QAt w v q o' ∧ ∀ g, o' = some g → o = some g := by
  rcases h with ⟨rfl, ho, a, hv⟩ | ⟨g, cap, cur, ho, hv, hh, hle, hcm, hs, htake⟩
  · exact ⟨none, .inl ⟨rfl, rfl, a, 0, hv⟩, by simp⟩
  · cases q with
    | nil => exact ⟨none, .inl ⟨rfl, rfl, _, _, hv⟩, by simp⟩
    | cons m q => exact ⟨some g, .inr ⟨g, 0, cap, rfl, hv, Row_of_block Ms.okCells hh hle hs htake, by simp, hle⟩, fun g' h => by cases h; exact ho⟩
theorem QAt.slice {w : World} {v : Value} {q : List Ms} {o : Option Nat} (h : QAt w v q o) : ∃ a c, v = .slice a q.length c := by
  rcases h with ⟨rfl, _, a, c, hv⟩ | ⟨g, off, cap, ho, hv, _⟩
  · exact ⟨a, c, hv⟩
  · exact ⟨_, _, hv⟩
/-- What a message's taking works on: memory, the line's entry, what is sent, the line. -/
structure WkS where
  mem : List B16
  e : En
  out : List Ms
  line : Nat
structure WkAt (w : World) (wb eb hb ib bb : Nat) (k : WkS) (vo vq vm : Value) (ol oq : Option Nat) : Prop where
  hW : w.heap[wb]? = some (.cells #[vo, .pointer (some ⟨eb, 0, none⟩), .pointer (some ⟨hb, 0, none⟩), .int .u32 k.line] 189 (0, 0))
  out : SlAt 79 20 Ms.cells w vo k.out ol
  hE : w.heap[eb]? = some (.cells (k.e.cells vq) 84 (0, 0))
  q : QAt w vq k.e.q oq
  hH : w.heap[hb]? = some (.cells #[.pointer (some ⟨ib, 0, none⟩), vm] 106 (0, 0))
  img : ImgAt w (.pointer (some ⟨ib, 0, none⟩)) k.mem ib bb
  line : k.line < k.mem.length
  n1 : wb ≠ eb ∧ wb ≠ hb ∧ wb ≠ ib ∧ wb ≠ bb ∧ eb ≠ hb ∧ eb ≠ ib ∧ eb ≠ bb ∧ hb ≠ ib ∧ hb ≠ bb
  n2 : ∀ g, ol = some g → g ≠ wb ∧ g ≠ eb ∧ g ≠ hb ∧ g ≠ ib ∧ g ≠ bb ∧ oq ≠ some g
  n3 : ∀ g, oq = some g → g ≠ wb ∧ g ≠ eb ∧ g ≠ hb ∧ g ≠ ib ∧ g ≠ bb
/-- The blocks that a message's taking may turn. -/
def WkF (wb eb bb : Nat) (ol : Option Nat) (b : Nat) : Prop := b = wb ∨ b = eb ∨ b = bb ∨ ol = some b
section
variable {w w' : World} {wb eb hb ib bb : Nat} {k : WkS} {vo vq vm : Value} {ol oq : Option Nat}
theorem WkAt.lt (h : WkAt w wb eb hb ib bb k vo vq vm ol oq) : wb < w.heap.size ∧ eb < w.heap.size ∧ hb < w.heap.size ∧ ib < w.heap.size ∧ bb < w.heap.size :=
  ⟨(Array.getElem?_eq_some_iff.1 h.hW).1, (Array.getElem?_eq_some_iff.1 h.hE).1, (Array.getElem?_eq_some_iff.1 h.hH).1, h.img.lt.1, h.img.lt.2⟩
theorem WkAt.ext (h : WkAt w wb eb hb ib bb k vo vq vm ol oq) (hE : Ext w w') : WkAt w' wb eb hb ib bb k vo vq vm ol oq := by
  obtain ⟨l1, l2, l3, l4, l5⟩ := h.lt
  exact ⟨(hE.block _ l1).trans h.hW, h.out.ext hE, (hE.block _ l2).trans h.hE, h.q.keep fun b hb => hE.block b (h.q.lt hb), (hE.block _ l3).trans h.hH, h.img.ext hE, h.line, h.n1, h.n2, h.n3⟩
/-- The entry is put anew. -/
theorem WkAt.entry (h : WkAt w wb eb hb ib bb k vo vq vm ol oq) {e : En} (hq : e.q = k.e.q) (hk : ∀ b, b ≠ eb → w'.heap[b]? = w.heap[b]?) (hs : w'.os = w.os ∧ w'.tape = w.tape ∧ w'.output = w.output ∧ w.heap.size ≤ w'.heap.size) (he : w'.heap[eb]? = some (.cells (e.cells vq) 84 (0, 0))) :
    WkAt w' wb eb hb ib bb { k with e := e } vo vq vm ol oq ∧ Chg (WkF wb eb bb ol) w w' := by
  obtain ⟨m1, m2, m3, m4, m5, m6, m7, m8, m9⟩ := h.n1
  refine ⟨⟨(hk _ m1).trans h.hW, h.out.keep fun b hb => hk b (h.n2 b hb).2.1, he, ?_, (hk _ (Ne.symm m5)).trans h.hH, h.img.keep fun b hb => hk b (by rcases hb with rfl | rfl; exact Ne.symm m6; exact Ne.symm m7), h.line, h.n1, h.n2, h.n3⟩, ⟨hs.1, hs.2.1, hs.2.2.1, hs.2.2.2, fun b _ hn => hk b fun e => hn (.inr (.inl e))⟩⟩
  show QAt w' vq e.q oq
  rw [hq]
  exact h.q.keep fun b hb => hk b (h.n3 b hb).2.1
/-- The cells of the entry, and of what leads to it. -/
theorem WkAt.facts (h : WkAt w wb eb hb ib bb k vo vq vm ol oq) :
    w.cell? ⟨wb, 1, none⟩ = some (.pointer (some ⟨eb, 0, none⟩)) ∧ w.cell? ⟨wb, 2, none⟩ = some (.pointer (some ⟨hb, 0, none⟩)) ∧ w.cell? ⟨wb, 3, none⟩ = some (.int .u32 k.line) ∧ w.cell? ⟨hb, 0, none⟩ = some (.pointer (some ⟨ib, 0, none⟩)) := by
  refine ⟨?_, ?_, ?_, ?_⟩
  · rw [cell_of_row w wb 1 _ 189 (0, 0) h.hW]; rfl
  · rw [cell_of_row w wb 2 _ 189 (0, 0) h.hW]; rfl
  · rw [cell_of_row w wb 3 _ 189 (0, 0) h.hW]; rfl
  · rw [cell_of_row w hb 0 _ 106 (0, 0) h.hH]; rfl
theorem WkAt.cell (h : WkAt w wb eb hb ib bb k vo vq vm ol oq) (j : Nat) : w.cell? ⟨eb, j, none⟩ = (k.e.cells vq)[j]? := cell_of_row w eb j _ 84 (0, 0) h.hE
theorem WkAt.fr (h : WkAt w wb eb hb ib bb k vo vq vm ol oq) (j : Nat) : w.frozen? ⟨eb, j, none⟩ = false := frozen_of_row w eb j _ 84 h.hE
end
@[go_sem] theorem World.isSome_agg?_setCell (W : World) (a p : Addr) (v : Value) (n : Nat) : ((W.setCell a v).agg? p n).isSome = (W.agg? p n).isSome := by
  by_cases hb : p.block = a.block
  · unfold World.agg?
    rw [hb]
    simp only [World.setCell, Array.getElem?_modify, if_true]
    cases W.heap[a.block]? with
    | none => rfl
    | some o =>
      cases o with
      | cells c t fr =>
        simp only [Option.map_some]
        split
        · rfl
        · have hsz : (if a.spot.isSome = true then c else c.setIfInBounds a.off v).size = c.size := by split <;> simp
          by_cases hl : p.off + n ≤ c.size <;> simp [hl, hsz]
      | _ => rfl
  · rw [World.agg?_of_block (heap_setCell_other W a p.block v hb)]
theorem keep_set {W : World} {a b i j : Nat} {u v : Value} (hne : a ≠ b) (h : W.cell? ⟨a, i, none⟩ = some v) : (W.setCell ⟨b, j, none⟩ u).cell? ⟨a, i, none⟩ = some v :=
  (World.cell?_of_block (w := W) (a := ⟨a, i, none⟩) (heap_setCell_other _ _ _ _ hne)).trans h
theorem keep_setD {W : World} {a b i j : Nat} {u v : Value} (hne : a ≠ b) (h : W.cell? ⟨a, i, none⟩ = some v) : (W.setCell ⟨b, j, none⟩ u).drew.cell? ⟨a, i, none⟩ = some v := keep_set hne h
theorem keep_put {W : World} {a b i j : Nat} {cs : Array Value} {v : Value} (hne : a ≠ b) (h : W.cell? ⟨a, i, none⟩ = some v) : (W.putAgg ⟨b, j, none⟩ cs).cell? ⟨a, i, none⟩ = some v :=
  (World.cell?_putAgg_other W _ cs a i hne).trans h
theorem keep_putD {W : World} {a b i j : Nat} {cs : Array Value} {v : Value} (hne : a ≠ b) (h : W.cell? ⟨a, i, none⟩ = some v) : (W.putAgg ⟨b, j, none⟩ cs).drew.cell? ⟨a, i, none⟩ = some v := keep_put hne h
theorem undrew {W : World} {a : Addr} {v : Value} (h : W.cell? a = some v) : W.drew.cell? a = some v := h
def En.leave (e : En) (r : Int) : En := if e.owner = r then { e with owner := -1 } else e
def En.own (e : En) (r : Int) : En := { e with owner := r, s0 := false, s1 := false, s2 := false, s3 := false }
def En.busied (e : En) (m : Ms) (waits : Int) (told : Bool) : En := { e with busy := true, asks := m.frm, kind := m.kind, waits := waits, told := told }
end Go
namespace Go.Proofs
open Go.RowKit
@[go_sem ↓] theorem Try.loadVar82 (a : Addr) : loadVar 82 a = loadAgg 82 a := rfl
@[go_sem] theorem Try.loadAgg82 (w : World) (a : Addr) : (loadAgg 82 a).run Try.prog w = aggRes (w.agg? a 4) (loadSlow Try.prog 82 a w) w :=
  run_loadAgg 82 4 Try.isAgg82 Try.sizeOf82 w a
@[go_sem ↓] theorem Try.storeVar82 (a : Addr) (v : Value) : storeVar 82 a v = storeAgg 82 a v := rfl
@[go_sem] theorem Try.storeAgg82 (w : World) (a : Addr) (cs : Array Value) : (storeAgg 82 a (.agg cs)).run Try.prog w = storeRes ((w.agg? a 4).isSome && w.loose a.block && okCells 4 cs) (.ok () (w.putAgg a cs)) (storeSlow Try.prog 82 a (.agg cs) w) :=
  run_storeAgg 82 4 Try.sizeOf82 w a cs
theorem fours_ok (a b c d : Bool) : okCells 4 #[.bool a, .bool b, .bool c, .bool d] = true := by simp [okCells, Value.oneCell']
/-- What a step upon the entry leaves. -/
def StepE (w : World) (wb eb hb ib bb : Nat) (k : WkS) (e' : En) (vo vq vm : Value) (ol oq : Option Nat) (e : Ending) (w' : World) : Prop :=
  e = .returned (.tuple #[]) ∧ WkAt w' wb eb hb ib bb { k with e := e' } vo vq vm ol oq ∧ Chg (WkF wb eb bb ol) w w'
variable {w : World} {wb eb hb ib bb : Nat} {k : WkS} {vo vq vm : Value} {ol oq : Option Nat}
set_option maxRecDepth 100000 in
set_option maxHeartbeats 400000 in
theorem leave_any (r : Int) (h : WkAt w wb eb hb ib bb k vo vq vm ol oq) : Calls Try.prog 162 #[.pointer (some ⟨wb, 0, none⟩), .int .i64 r] w (StepE w wb eb hb ib bb k (k.e.leave r) vo vq vm ol oq) := by
  obtain ⟨f1, f2, f3, f4⟩ := h.facts
  have c0 : w.cell? ⟨eb, 0, none⟩ = some (.int .i64 k.e.owner) := (h.cell 0).trans rfl
  have g0 := h.fr 0
  have H := Lib.hid h
  clear h f2 f3 f4
  by_cases hq : k.e.owner = r
  · have hd : (k.e.owner == r) = true := by simp [hq]
    have HL : Hid (k.e.leave r = { k.e with owner := -1 }) := by unfold Hid En.leave; rw [if_pos hq]
    clear hq
    go_enter Try.func162, Try.ntmps162
    go_wp2_with fail
    go_end0
    have h1 := heap_setCell_same _ eb 0 _ 84 (.int .i64 (-1)) H.out.hE
    exact ⟨rfl, H.out.entry (by rw [HL.out]) (fun b hb => heap_setCell_other _ _ _ _ hb) ⟨rfl, rfl, rfl, by simp [World.setCell]⟩ (by rw [HL.out]; exact h1)⟩
  · have hd : (k.e.owner == r) = false := by simp [hq]
    have HL : Hid (k.e.leave r = k.e) := by unfold Hid En.leave; rw [if_neg hq]
    clear hq
    go_enter Try.func162, Try.ntmps162
    go_wp2_with fail
    go_end0
    exact ⟨rfl, by rw [HL.out]; exact H.out, Chg.refl _ _⟩
set_option maxRecDepth 100000 in
set_option maxHeartbeats 400000 in
theorem own_any (r : Int) (h : WkAt w wb eb hb ib bb k vo vq vm ol oq) : Calls Try.prog 146 #[.pointer (some ⟨wb, 0, none⟩), .int .i64 r] w (StepE w wb eb hb ib bb k (k.e.own r) vo vq vm ol oq) := by
  obtain ⟨f1, f2, f3, f4⟩ := h.facts
  have c0 : w.cell? ⟨eb, 0, none⟩ = some (.int .i64 k.e.owner) := (h.cell 0).trans rfl
  have hag : w.agg? ⟨eb, 1, none⟩ 4 = some #[.bool k.e.s0, .bool k.e.s1, .bool k.e.s2, .bool k.e.s3] := by
    unfold World.agg?
    simp only [h.hE]
    rfl
  have hlo : w.loose eb = true := by simp [World.loose, h.hE]
  have h4 := fours_ok false false false false
  have g0 := h.fr 0
  have hne : wb ≠ eb := h.n1.1
  have H := Lib.hid h
  clear h f2 f3 f4
  go_enter Try.func146, Try.ntmps146
  go_wp2_with fail
  go_region_held3 (fun W => W.cell? ⟨wb, 1, none⟩ = some (.pointer (some ⟨eb, 0, none⟩))) ((first | exact f1 | with_reducible exact keep_setD hne f1 | with_reducible exact keep_putD hne f1 | with_reducible exact keep_putD hne (keep_set hne f1) | with_reducible exact keep_setD hne (keep_put hne f1) | trace_state)) (fail)
  go_end0
  have h1 := World.putAgg_heap (a := ⟨eb, 1, none⟩) (cs := #[.bool false, .bool false, .bool false, .bool false]) (heap_setCell_same _ eb 0 _ 84 (.int .i64 r) H.out.hE)
  exact ⟨rfl, H.out.entry rfl (fun b hb => (World.putAgg_other _ _ _ hb).trans (heap_setCell_other _ _ _ _ hb)) ⟨rfl, rfl, rfl, by simp [World.setCell]⟩ h1⟩
end Go.Proofs
