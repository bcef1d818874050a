/- The home's work, walked: request. -/
import Derived.Test.YtgggokajapoopaaHui
import Derived.Deep.RegionLaw
namespace Go
open Go.RowKit Go.Proofs
/-- What a whole message's work leaves. -/
def StepT (w : World) (wb eb hb ib bb : Nat) (k' : WkS) (vm : Value) (ol oq os : Option Nat) (w' : World) : Prop :=
  ∃ vo vq ol' oq', WkAt w' wb eb hb ib bb k' vo vq vm ol' oq' ∧ Chg (fun b => WkF wb eb bb ol b ∨ os = some b) w w' ∧ ∀ g, oq' = some g → oq = some g ∨ os = some g ∨ w.heap.size ≤ g
theorem StepW.T {w w' : World} {wb eb hb ib bb : Nat} {k' : WkS} {vm : Value} {ol oq : Option Nat} (os : Option Nat) (h : StepW w wb eb hb ib bb k' vm ol oq w') : StepT w wb eb hb ib bb k' vm ol oq os w' := by
  obtain ⟨vo, vq, ol', oq', h1, h2, -, h4⟩ := h
  exact ⟨vo, vq, ol', oq', h1, ⟨h2.os, h2.tape, h2.output, h2.size, fun b hb hn => h2.block b hb fun hf => hn (.inl hf)⟩, fun g hg => by
    rcases h4 with rfl | rfl
    · exact .inl hg
    · cases hg⟩
theorem StepT.before {w w1 w2 : World} {wb eb hb ib bb : Nat} {k' : WkS} {vm : Value} {ol oq os : Option Nat} (hE : Ext w w1) (h : StepT w1 wb eb hb ib bb k' vm ol oq os w2) : StepT w wb eb hb ib bb k' vm ol oq os w2 := by
  obtain ⟨vo, vq, ol', oq', h1, h2, h3⟩ := h
  refine ⟨vo, vq, ol', oq', h1, (hE.chg _).trans h2 fun _ _ h => h, fun g hg => ?_⟩
  rcases h3 g hg with h | h | h
  · exact .inl h
  · exact .inr (.inl h)
  · exact .inr (.inr (Nat.le_trans hE.size h))
theorem WkAt.queued {w0 w1 w' : World} {wb eb hb ib bb : Nat} {k : WkS} {vo vq vm v' : Value} {ol oq os o' : Option Nat} {q' : List Ms} (h : WkAt w0 wb eb hb ib bb k vo vq vm ol oq)
    (hn : ∀ g, os = some g → g ≠ wb ∧ g ≠ eb ∧ g ≠ hb ∧ g ≠ ib ∧ g ≠ bb ∧ ol ≠ some g) (hE : Ext w0 w1) (k1 : SlAt 79 20 Ms.cells w' v' q' o') (k2 : w1.grownBy w' os) (k3 : o' = os ∨ ∃ g, o' = some g ∧ w1.heap.size ≤ g) :
    StepT w0 wb eb hb ib bb { k with e := { k.e with q := q' } } vm ol oq os (w'.setCell ⟨eb, 10, none⟩ v') := by
  obtain ⟨l1, l2, l3, l4, l5⟩ := h.lt
  obtain ⟨m1, m2, m3, m4, m5, m6, m7, m8, m9⟩ := h.n1
  have hs := hE.size
  have hk : ∀ b, b < w0.heap.size → b ≠ eb → os ≠ some b → (w'.setCell ⟨eb, 10, none⟩ v').heap[b]? = w0.heap[b]? := fun b hb h1 h2 => by
    rw [heap_setCell_other _ _ _ _ (by simpa using h1), k2.block b (by omega) (Ne.symm h2), hE.block b hb]
  have nos : ∀ b, (b = wb ∨ b = eb ∨ b = hb ∨ b = ib ∨ b = bb ∨ ol = some b) → os ≠ some b := fun b hb e => by
    obtain ⟨q1, q2, q3, q4, q5, q6⟩ := hn b e
    rcases hb with hb | hb | hb | hb | hb | hb
    · exact q1 hb
    · exact q2 hb
    · exact q3 hb
    · exact q4 hb
    · exact q5 hb
    · exact q6 hb
  have hEb : w'.heap[eb]? = w0.heap[eb]? := (k2.block eb (by omega) (Ne.symm (nos eb (.inr (.inl rfl))))).trans (hE.block eb l2)
  have hol : ∀ g, ol = some g → g < w0.heap.size := fun g hg => h.out.lt hg
  have ho' : ∀ g, o' = some g → os = some g ∨ w0.heap.size ≤ g := fun g hg => by
    rcases k3 with h1 | ⟨g', h1, h2⟩
    · exact .inl (h1 ▸ hg)
    · rw [hg] at h1; cases h1; exact .inr (by omega)
  have k1' : SlAt 79 20 Ms.cells (w'.setCell ⟨eb, 10, none⟩ v') v' q' o' := by
    refine k1.keep fun b hb => heap_setCell_other _ _ _ _ ?_
    show b ≠ eb
    rcases ho' b hb with h1 | h1
    · exact (hn b h1).2.1
    · omega
  obtain ⟨o2, hq2, ho2⟩ := QAt.of k1'
  have hc10 : (k.e.cells vq).setIfInBounds 10 v' = ({ k.e with q := q' } : En).cells v' := rfl
  have hE2 := heap_setCell_same w' eb 10 _ 84 v' (hEb.trans h.hE)
  rw [hc10] at hE2
  refine ⟨vo, v', ol, o2, ⟨(hk wb l1 m1 (nos _ (.inl rfl))).trans h.hW, h.out.keep fun b hb => hk b (hol b hb) (h.n2 b hb).2.1 (nos b (.inr (.inr (.inr (.inr (.inr hb)))))), hE2, hq2,
    (hk hb l3 (Ne.symm m5) (nos _ (.inr (.inr (.inl rfl))))).trans h.hH, h.img.keep fun b hb => ?_, h.line, h.n1, ?_, ?_⟩, ⟨k2.os.trans hE.os, k2.tape.trans hE.tape, k2.output.trans hE.output, ?_, fun b hb hn => hk b hb (fun e => hn (.inl (.inr (.inl e)))) (fun e => hn (.inr e))⟩, fun g hg => .inr (ho' g (ho2 g hg))⟩
  · rcases hb with rfl | rfl
    · exact hk b l4 (Ne.symm m6) (nos _ (.inr (.inr (.inr (.inl rfl)))))
    · exact hk b l5 (Ne.symm m7) (nos _ (.inr (.inr (.inr (.inr (.inl rfl))))))
  · intro g hg
    obtain ⟨q1, q2, q3, q4, q5, q6⟩ := h.n2 g hg
    refine ⟨q1, q2, q3, q4, q5, fun e => ?_⟩
    rcases ho' g (ho2 g e) with h1 | h1
    · exact (hn g h1).2.2.2.2.2 hg
    · have := hol g hg; omega
  · intro g hg
    rcases ho' g (ho2 g hg) with h1 | h1
    · obtain ⟨q1, q2, q3, q4, q5, q6⟩ := hn g h1
      exact ⟨q1, q2, q3, q4, q5⟩
    · exact ⟨by omega, by omega, by omega, by omega, by omega⟩
  · have := k2.size
    simp only [World.setCell, Array.size_modify]
    omega
def WkS.asked (k : WkS) (m : Ms) : WkS := if k.e.busy then { k with e := { k.e with q := k.e.q ++ [m] } } else k.begun m
end Go
namespace Go.Proofs
open Go.RowKit
variable {w : World} {wb eb hb ib bb : Nat} {k : WkS} {vo vq vm : Value} {ol oq os : Option Nat}
set_option maxRecDepth 100000 in
set_option maxHeartbeats 1000000 in
theorem request_waits (m : Ms) (h : WkAt w wb eb hb ib bb k vo vq vm ol oq) (hs : SlAt 79 20 Ms.cells w vq k.e.q os) (hn : ∀ g, os = some g → g ≠ wb ∧ g ≠ eb ∧ g ≠ hb ∧ g ≠ ib ∧ g ≠ bb ∧ ol ≠ some g) (hql : k.e.q.length ≤ 900) (hb' : k.e.busy = true) :
    Calls Try.prog 104 #[.pointer (some ⟨wb, 0, none⟩), .agg m.cells] w fun e w' => e = .returned (.tuple #[]) ∧ StepT w wb eb hb ib bb (k.asked m) vm ol oq os w' := by
  obtain ⟨i0, hi, hz0, hz1, hz2⟩ := info_parts Try.info79
  have hG : k.asked m = { k with e := { k.e with q := k.e.q ++ [m] } } := by unfold WkS.asked; rw [if_pos hb']
  rw [hG]
  have hE0 : Ext w (w.alloc (.cells m.cells 79)) := (Ext.refl w).alloc _
  have hag : (w.alloc (.cells m.cells 79)).agg? ⟨w.heap.size, 0, none⟩ 20 = some m.cells := World.agg?_alloc_at _ _ _ _ _ rfl m.cells_size
  have h0 := h.ext hE0
  have HS := Lib.hid (hs.ext hE0)
  obtain ⟨a1, c1, rfl, -⟩ := hs.row Ms.okCells
  have hsl := fun g (hg : os = some g) => hs.lt hg
  obtain ⟨f1, -, -, -, -, c5, -⟩ := h0.all
  have c10 : (w.alloc (.cells m.cells 79)).cell? ⟨eb, 10, none⟩ = _ := h0.all.2.2.2.2.2.2.2.2.2.2
  have g10 := h0.fr 10
  rw [hb'] at c5
  obtain ⟨l1, l2, l3, l4, l5⟩ := h0.lt
  have hne : wb ≠ eb := h.n1.1
  have H0 := Lib.hid h0
  have HN := Lib.hid hn
  have HE0 := Lib.hid hE0
  clear h h0 hG hs hb' hn hE0
  go_enter Try.func104, Try.ntmps104
  go_wp2_with fail
  generalize hW0 : w.alloc (.cells m.cells 79) = W0 at *
  clear hW0
  have hrow : Row 20 Ms.cells (W0.alloc (.cells m.cells 79)).drew (some ⟨W0.heap.size, 0, none⟩) [m] := Row_alloc_one Ms.okCells W0 m 79
  have HROW2 := Lib.hid hrow
  clear hrow
  go_region_law (refine step_append_sl rfl (.tmp 21) (.tmp 23) 70 rfl i0 _ Try.underlying70 hi hz0 hz1 (by rfl) (by decide) (by rw [hz2]; decide) Ms.okCells _ _ os (HS.out.ext ((Ext.refl W0).alloc _).drew) _ _ [m] HROW2.out rfl rfl (by simp; omega) ?_; intro v' o' w' k1 k2 k3; obtain ⟨a', cap', rfl, -⟩ := k1.row Ms.okCells; obtain ⟨d1, d2⟩ := grownBy_cell k2 (b := eb) (by simp; omega) (fun e => (HN.out eb e).2.1 rfl) 10; obtain ⟨d3, d4⟩ := grownBy_cell k2 (b := wb) (by simp; omega) (fun e => (HN.out wb e).1 rfl) 1)
  all_goals
    go_wp2_with fail
    (try simp only [Exit.inBlock, Exit.then])
    refine bodyPost_ret (results_none rfl _ _ _) rfl ?_
    have hl : k.e.q.length + 1 = (k.e.q ++ [m]).length := by simp
    rw [hl]
    exact ⟨rfl, StepT.before HE0.out (H0.out.queued HN.out ((Ext.refl W0).alloc (.cells m.cells 79)).drew k1 k2 k3)⟩
set_option maxRecDepth 100000 in
set_option maxHeartbeats 400000 in
theorem request_begins (m : Ms) (h : WkAt w wb eb hb ib bb k vo vq vm ol oq) (hol : k.out.length ≤ 900) (hr : m.asking) (hb' : k.e.busy = false) :
    Calls Try.prog 104 #[.pointer (some ⟨wb, 0, none⟩), .agg m.cells] w fun e w' => e = .returned (.tuple #[]) ∧ StepT w wb eb hb ib bb (k.asked m) vm ol oq os w' := by
  have hG : k.asked m = k.begun m := by unfold WkS.asked; rw [hb']; rfl
  rw [hG]
  have hm := Mid.start h m
  obtain ⟨bk, bf, bt, bl, bb', ba, blt⟩ := hm.box
  obtain ⟨f1, -, -, -, -, c5, -⟩ := hm.at'.all
  rw [hb'] at c5
  have M0 := Lib.hid hm
  have HR := Lib.hid hr
  clear h hm hG hb' hr
  go_enter Try.func104, Try.ntmps104
  go_wp2_with (go_at_call 142; refine (begin_any m M0.out.at' hol HR.out).mono ?_; rintro e w2 ⟨rfl, s2⟩; obtain ⟨vo2, vq2, ol2, oq2, hm⟩ := M0.out.stepW s2)
  go_end0
  exact ⟨rfl, hm.done.T os⟩
theorem request_any (m : Ms) (h : WkAt w wb eb hb ib bb k vo vq vm ol oq) (hs : SlAt 79 20 Ms.cells w vq k.e.q os) (hn : ∀ g, os = some g → g ≠ wb ∧ g ≠ eb ∧ g ≠ hb ∧ g ≠ ib ∧ g ≠ bb ∧ ol ≠ some g) (hql : k.e.q.length ≤ 900) (hol : k.out.length ≤ 900) (hr : m.asking) :
    Calls Try.prog 104 #[.pointer (some ⟨wb, 0, none⟩), .agg m.cells] w fun e w' => e = .returned (.tuple #[]) ∧ StepT w wb eb hb ib bb (k.asked m) vm ol oq os w' := by
  cases hb' : k.e.busy
  · exact request_begins m h hol hr hb'
  · exact request_waits m h hs hn hql hb'
end Go.Proofs
