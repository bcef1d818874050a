/- The home, walked: send. -/
import Derived.Test.YtgggokajapoopaaHo
import Derived.Deep.RegionLaw
import Derived.Deep.RegionHeld3
import Derived.BigRegion
import Derived.StillTailTactics
namespace Go
open Go.RowKit Go.Proofs
/-- What a step upon the work leaves. -/
def StepW (w : World) (wb eb hb ib bb : Nat) (k' : WkS) (vm : Value) (ol oq : Option Nat) (w' : World) : Prop :=
  ∃ vo vq ol' oq', WkAt w' wb eb hb ib bb k' vo vq vm ol' oq' ∧ Chg (WkF wb eb bb ol) w w' ∧ (ol' = ol ∨ ∃ g, ol' = some g ∧ w.heap.size ≤ g) ∧ (oq' = oq ∨ oq' = none)
theorem WkF.sub {w : World} {wb eb bb : Nat} {ol ol1 : Option Nat} (h : ol1 = ol ∨ ∃ g, ol1 = some g ∧ w.heap.size ≤ g) : ∀ x, x < w.heap.size → WkF wb eb bb ol1 x → WkF wb eb bb ol x := by
  rintro x hx (h1 | h1 | h1 | h1)
  · exact .inl h1
  · exact .inr (.inl h1)
  · exact .inr (.inr (.inl h1))
  · rcases h with rfl | ⟨g, hg, hle⟩
    · exact .inr (.inr (.inr h1))
    · rw [hg] at h1; cases h1; omega
/-- A message more is to be sent. -/
theorem WkAt.sent {w0 w1 w' : World} {wb eb hb ib bb : Nat} {k : WkS} {vo vq vm v' : Value} {ol oq o' : Option Nat} {out' : List Ms} (h : WkAt w0 wb eb hb ib bb k vo vq vm ol oq) (hE : Ext w0 w1) (k1 : SlAt 79 20 Ms.cells w' v' out' o') (k2 : w1.grownBy w' ol) (k3 : o' = ol ∨ ∃ g, o' = some g ∧ w1.heap.size ≤ g) :
    WkAt (w'.setCell ⟨wb, 0, none⟩ v') wb eb hb ib bb { k with out := out' } v' vq vm o' oq ∧ Chg (WkF wb eb bb ol) w0 (w'.setCell ⟨wb, 0, none⟩ v') ∧ (o' = ol ∨ ∃ g, o' = some g ∧ w0.heap.size ≤ g) := by
  obtain ⟨l1, l2, l3, l4, l5⟩ := h.lt
  obtain ⟨m1, m2, m3, m4, m5, m6, m7, m8, m9⟩ := h.n1
  have hs := hE.size
  have hk : ∀ b, b < w0.heap.size → b ≠ wb → ol ≠ some b → (w'.setCell ⟨wb, 0, none⟩ v').heap[b]? = w0.heap[b]? := fun b hb h1 h2 => by
    rw [heap_setCell_other _ _ _ _ (by simpa using h1), k2.block b (by omega) (Ne.symm h2), hE.block b hb]
  have nol : ∀ b, (b = wb ∨ b = eb ∨ b = hb ∨ b = ib ∨ b = bb ∨ oq = some b) → ol ≠ some b := fun b hb e => by
    obtain ⟨q1, q2, q3, q4, q5, q6⟩ := h.n2 b e
    rcases hb with hb | hb | hb | hb | hb | hb
    · exact q1 hb
    · exact q2 hb
    · exact q3 hb
    · exact q4 hb
    · exact q5 hb
    · exact q6 hb
  have hW : w'.heap[wb]? = w0.heap[wb]? := (k2.block wb (by omega) (Ne.symm (nol wb (.inl rfl)))).trans (hE.block wb l1)
  have hq : ∀ g, oq = some g → g < w0.heap.size := fun g hg => h.q.lt hg
  have ho' : ∀ g, o' = some g → ol = some g ∨ w0.heap.size ≤ g := fun g hg => by
    rcases k3 with h1 | ⟨g', h1, h2⟩
    · exact .inl (h1 ▸ hg)
    · rw [hg] at h1; cases h1; exact .inr (by omega)
  refine ⟨⟨?_, ?_, (hk eb l2 (Ne.symm m1) (nol _ (.inr (.inl rfl)))).trans h.hE, h.q.keep fun b hb => hk b (hq b hb) (h.n3 b hb).1 (nol b (.inr (.inr (.inr (.inr (.inr hb)))))),
    (hk hb l3 (Ne.symm m2) (nol _ (.inr (.inr (.inl rfl))))).trans h.hH, h.img.keep fun b hb => ?_, h.line, h.n1, ?_, h.n3⟩, ⟨k2.os.trans hE.os, k2.tape.trans hE.tape, k2.output.trans hE.output, ?_, fun b hb hn => hk b hb (fun e => hn (.inl e)) (fun e => hn (.inr (.inr (.inr e))))⟩, ?_⟩
  · exact heap_setCell_same w' wb 0 _ 189 v' (hW.trans h.hW)
  · refine k1.keep fun b hb => heap_setCell_other _ _ _ _ ?_
    show b ≠ wb
    rcases ho' b hb with h1 | h1
    · exact (h.n2 b h1).1
    · omega
  · rcases hb with rfl | rfl
    · exact hk b l4 (Ne.symm m3) (nol _ (.inr (.inr (.inr (.inl rfl)))))
    · exact hk b l5 (Ne.symm m4) (nol _ (.inr (.inr (.inr (.inr (.inl rfl))))))
  · intro g hg
    rcases ho' g hg with h1 | h1
    · exact h.n2 g h1
    · refine ⟨by omega, by omega, by omega, by omega, by omega, fun e => ?_⟩
      have := hq g e; omega
  · have := k2.size
    simp only [World.setCell, Array.size_modify]
    omega
  · rcases k3 with h1 | ⟨g', h1, h2⟩
    · exact .inl h1
    · exact .inr ⟨g', h1, by omega⟩
def WkS.msg (k : WkS) (kind to : Int) (y : Bool) : Ms := ⟨kind, 4, to, ((k.line % 4294967296 : Nat) : Int), if y then k.mem.getD k.line B16.zero else B16.zero, by omega⟩
theorem WkS.msg_line (k : WkS) (kind to : Int) (y : Bool) (h : k.line < 4294967296) : (k.msg kind to y).line = (k.line : Int) := by
  show ((k.line % 4294967296 : Nat) : Int) = _
  rw [Nat.mod_eq_of_lt h]
theorem WkS.msg_plain (k : WkS) (kind to : Int) (h : k.line < 4294967296) : (k.msg kind to false).cells = #[Value.int .i64 kind, .int .i64 4, .int .i64 to, .int .u32 k.line, .int .u8 0, .int .u8 0, .int .u8 0, .int .u8 0, .int .u8 0, .int .u8 0, .int .u8 0, .int .u8 0, .int .u8 0, .int .u8 0, .int .u8 0, .int .u8 0, .int .u8 0, .int .u8 0, .int .u8 0, .int .u8 0] := by
  rw [← k.msg_line kind to false h]; rfl
theorem Ms.put_bytes (m : Ms) (x : B16) : splice m.cells 4 x.cells = ({ m with b := x } : Ms).cells := by
  have h := m.b.ok.1
  have hx := x.ok.1
  apply Array.ext'
  simp [splice, Ms.cells, B16.cells, h, hx]
theorem Ms.room {W : World} {A : Nat} {m : Ms} (h : W.heap[A]? = some (.cells m.cells 79)) : ((W.agg? ⟨A, 4, none⟩ 16).isSome = true) ∧ W.loose A = true := by
  constructor
  · unfold World.agg?
    simp [h, m.cells_size]
  · simp [World.loose, h]
end Go
namespace Go.Proofs
open Go.RowKit
variable {w : World} {wb eb hb ib bb : Nat} {k : WkS} {vo vq vm : Value} {ol oq : Option Nat}
set_option maxRecDepth 100000 in
set_option maxHeartbeats 400000 in
theorem send_plain (kind to : Int) (h : WkAt w wb eb hb ib bb k vo vq vm ol oq) (hol : k.out.length ≤ 1000) :
    Calls Try.prog 147 #[.pointer (some ⟨wb, 0, none⟩), .int .i64 kind, .int .i64 to, .bool false] w fun e w' => e = .returned (.tuple #[]) ∧ StepW w wb eb hb ib bb { k with out := k.out ++ [k.msg kind to false] } vm ol oq w' := by
  obtain ⟨i0, hi, hz0, hz1, hz2⟩ := info_parts Try.info79
  obtain ⟨f1, f2, f3, f4⟩ := h.facts
  have f0 : w.cell? ⟨wb, 0, none⟩ = some vo := by rw [cell_of_row w wb 0 _ 189 (0, 0) h.hW]; rfl
  have g0 : w.frozen? ⟨wb, 0, none⟩ = false := frozen_of_row w wb 0 _ 189 h.hW
  obtain ⟨ao, co, rfl, -⟩ := h.out.row Ms.okCells
  obtain ⟨l1, l2, l3, l4, l5⟩ := h.lt
  have H := Lib.hid h
  clear h f2 f4
  obtain ⟨M, hM⟩ : ∃ M, M = k.msg kind to false := ⟨_, rfl⟩
  have hms : #[Value.int .i64 kind, .int .i64 4, .int .i64 to, .int .u32 k.line, .int .u8 0, .int .u8 0, .int .u8 0, .int .u8 0, .int .u8 0, .int .u8 0, .int .u8 0, .int .u8 0, .int .u8 0, .int .u8 0, .int .u8 0, .int .u8 0, .int .u8 0, .int .u8 0, .int .u8 0, .int .u8 0] = M.cells := by rw [hM, WkS.msg_plain _ _ _ (by have := H.out.line; have := H.out.img.len.2; omega)]
  have hag : (w.alloc (.cells M.cells 79)).agg? ⟨w.heap.size, 0, none⟩ 20 = some M.cells := World.agg?_alloc_at _ _ _ _ _ rfl M.cells_size
  have hrow : Row 20 Ms.cells ((w.alloc (.cells M.cells 79)).alloc (.cells M.cells 79)) (some ⟨w.heap.size + 1, 0, none⟩) [M] := by
    have := Row_alloc_one Ms.okCells (w.alloc (.cells M.cells 79)) M 79
    simpa using this
  have HROW := Lib.hid hrow
  rw [← hM]
  clear hM hrow
  go_enter Try.func147, Try.ntmps147
  go_wp2_with fail
  have hE0 : Ext w (w.alloc (.cells M.cells 79)) := (Ext.refl w).alloc _
  have h0 := H.out.ext hE0
  have hsz : (w.alloc (.cells M.cells 79)).heap.size = w.heap.size + 1 := World.size_alloc _ _
  generalize hW0 : w.alloc (.cells M.cells 79) = W0 at *
  clear hW0 f1 f0 g0
  have l1' : wb < W0.heap.size := h0.lt.1
  have f0 : W0.cell? ⟨wb, 0, none⟩ = some (.slice ao k.out.length co) := by rw [cell_of_row W0 wb 0 _ 189 (0, 0) h0.hW]; rfl
  have g0 : W0.frozen? ⟨wb, 0, none⟩ = false := frozen_of_row W0 wb 0 _ 189 h0.hW
  have H0 := Lib.hid h0
  have HSZ := Lib.hid hsz
  clear h0 hsz
  have hrow : Row 20 Ms.cells (W0.alloc (.cells M.cells 79)).drew (some ⟨W0.heap.size, 0, none⟩) [M] := Row_alloc_one Ms.okCells W0 M 79
  have HROW2 := Lib.hid hrow
  clear hrow
  go_region_law (refine step_append_sl rfl (.tmp 38) (.tmp 40) 70 rfl i0 _ Try.underlying70 hi hz0 hz1 (by rfl) (by decide) (by rw [hz2]; decide) Ms.okCells _ _ ol (H0.out.out.ext ((Ext.refl W0).alloc _).drew) _ _ [M] HROW2.out rfl rfl (by simp; omega) ?_; intro v' o' w' k1 k2 k3; obtain ⟨a', cap', rfl, -⟩ := k1.row Ms.okCells; obtain ⟨c1, c2⟩ := grownBy_cell k2 (b := wb) (by simp; omega) (fun e => (H0.out.n2 wb e).1 rfl) 0)
  all_goals
    go_end0
    obtain ⟨x1, x2, x3⟩ := H0.out.sent ((Ext.refl W0).alloc (.cells M.cells 79)).drew k1 k2 k3
    have hl : k.out.length + 1 = (k.out ++ [M]).length := by simp
    rw [hl]
    refine ⟨rfl, _, vq, o', oq, x1, ?_, ?_, .inl rfl⟩
    · exact (hE0.chg _).trans x2 (fun _ _ h => h)
    · have := hE0.size
      rcases x3 with h | ⟨g, h1, h2⟩
      · exact .inl h
      · exact .inr ⟨g, h1, by omega⟩
set_option maxRecDepth 100000 in
set_option maxHeartbeats 1000000 in
theorem send_bytes (kind to : Int) (h : WkAt w wb eb hb ib bb k vo vq vm ol oq) (hol : k.out.length ≤ 1000) :
    Calls Try.prog 147 #[.pointer (some ⟨wb, 0, none⟩), .int .i64 kind, .int .i64 to, .bool true] w fun e w' => e = .returned (.tuple #[]) ∧ StepW w wb eb hb ib bb { k with out := k.out ++ [k.msg kind to true] } vm ol oq w' := by
  obtain ⟨i0, hi, hz0, hz1, hz2⟩ := info_parts Try.info79
  obtain ⟨f1, f2, f3, f4⟩ := h.facts
  obtain ⟨x, hx⟩ : ∃ x, k.mem[k.line]? = some x := ⟨_, List.getElem?_eq_getElem h.line⟩
  have hMb : ∃ M, M = k.msg kind to false := ⟨_, rfl⟩
  obtain ⟨M, hM⟩ := hMb
  have hN : (k.msg kind to true) = { M with b := x } := by
    rw [hM]; unfold WkS.msg; simp [List.getD, hx]
  have hms : #[Value.int .i64 kind, .int .i64 4, .int .i64 to, .int .u32 k.line, .int .u8 0, .int .u8 0, .int .u8 0, .int .u8 0, .int .u8 0, .int .u8 0, .int .u8 0, .int .u8 0, .int .u8 0, .int .u8 0, .int .u8 0, .int .u8 0, .int .u8 0, .int .u8 0, .int .u8 0, .int .u8 0] = M.cells := by rw [hM, WkS.msg_plain _ _ _ (by have := h.line; have := h.img.len.2; omega)]
  have HX := Lib.hid hx
  obtain ⟨ao, co, rfl, -⟩ := h.out.row Ms.okCells
  have H := Lib.hid h
  rw [hN]
  clear hM hN h f2 f4
  obtain ⟨N, hNN⟩ : ∃ N, N = ({ M with b := x } : Ms) := ⟨_, rfl⟩
  rw [← hNN]
  have HN := Lib.hid hNN
  clear hNN hx
  go_enter Try.func147, Try.ntmps147
  go_wp2_with fail
  have hE0 : Ext w (w.alloc (.cells M.cells 79)) := (Ext.refl w).alloc _
  have h0 := H.out.ext hE0
  have hbk : (w.alloc (.cells M.cells 79)).heap[w.heap.size]? = some (.cells M.cells 79) := heap_alloc_new w _
  have hsz : w.heap.size < (w.alloc (.cells M.cells 79)).heap.size := by simp
  generalize hW0 : w.alloc (.cells M.cells 79) = W0 at *
  clear hW0 f1 f3
  obtain ⟨f1, f2, f3, f4⟩ := h0.facts
  have H0 := Lib.hid h0
  have HE0 := Lib.hid hE0
  have HBK := Lib.hid hbk
  clear h0 hE0 hbk
  have l1' : wb < W0.heap.size := H0.out.lt.1
  have hx16 := x.okCells
  go_region_with (go_at_call 161; refine (imgLine_any _ _ _ _ _ _ _ (H0.out.img.ext (Ext.refl W0).drew) HX.out).mono ?_; rintro e w1 ⟨rfl, hE1⟩; obtain ⟨hag, hlo⟩ := Ms.room ((hE1.block _ hsz).trans HBK.out))
  all_goals
    have hE1' : Ext w w1 := (HE0.out.trans (Ext.refl W0).drew).trans hE1
    have hE2 : Ext w (w1.putAgg ⟨w.heap.size, 4, none⟩ x.cells) := hE1'.putAgg _ _ (Nat.le_refl _)
    have hbk2 : (w1.putAgg ⟨w.heap.size, 4, none⟩ x.cells).heap[w.heap.size]? = some (.cells N.cells 79) := (World.putAgg_heap ((hE1.block _ hsz).trans HBK.out)).trans (by rw [Ms.put_bytes, HN.out])
    have hsz2 : w.heap.size < (w1.putAgg ⟨w.heap.size, 4, none⟩ x.cells).heap.size := by
      have := hE1.size
      rw [World.size_putAgg]
      exact Nat.lt_of_lt_of_le hsz this
    generalize hW2 : w1.putAgg ⟨w.heap.size, 4, none⟩ x.cells = W2 at *
    clear hW2 hE1' hE1 f1 f2 f3 f4 hag hlo hx16
    have h0 := H.out.ext hE2
    have l1' : wb < W2.heap.size := h0.lt.1
    have f0 : W2.cell? ⟨wb, 0, none⟩ = some (.slice ao k.out.length co) := by rw [cell_of_row W2 wb 0 _ 189 (0, 0) h0.hW]; rfl
    have g0 : W2.frozen? ⟨wb, 0, none⟩ = false := frozen_of_row W2 wb 0 _ 189 h0.hW
    have hag : W2.agg? ⟨w.heap.size, 0, none⟩ 20 = some N.cells := by
      unfold World.agg?
      simp only [hbk2]
      simp [N.cells_size]
    have H2 := Lib.hid h0
    have HE2 := Lib.hid hE2
    have hrow : Row 20 Ms.cells (W2.alloc (.cells N.cells 79)).drew (some ⟨W2.heap.size, 0, none⟩) [N] := Row_alloc_one Ms.okCells W2 N 79
    have HROW2 := Lib.hid hrow
    clear h0 hbk2 hE2 hrow
    go_wp2_with fail
    go_region_law (refine step_append_sl rfl (.tmp 38) (.tmp 40) 70 rfl i0 _ Try.underlying70 hi hz0 hz1 (by rfl) (by decide) (by rw [hz2]; decide) Ms.okCells _ _ ol (H2.out.out.ext ((Ext.refl W2).alloc _).drew) _ _ [N] HROW2.out rfl rfl (by simp; omega) ?_; intro v' o' w' k1 k2 k3; obtain ⟨a', cap', rfl, -⟩ := k1.row Ms.okCells; obtain ⟨c1, c2⟩ := grownBy_cell k2 (b := wb) (by simp; omega) (fun e => (H2.out.n2 wb e).1 rfl) 0)
    all_goals
      go_end0
      obtain ⟨x1, x2, x3⟩ := H2.out.sent ((Ext.refl W2).alloc (.cells N.cells 79)).drew k1 k2 k3
      have hl : k.out.length + 1 = (k.out ++ [N]).length := by simp
      rw [hl]
      refine ⟨rfl, _, vq, o', oq, x1, ?_, ?_, .inl rfl⟩
      · exact (HE2.out.chg _).trans x2 (fun _ _ h => h)
      · have := HE2.out.size
        rcases x3 with h | ⟨g, h1, h2⟩
        · exact .inl h
        · exact .inr ⟨g, h1, by omega⟩
end Go.Proofs
