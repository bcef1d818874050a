/- The home's work, walked: done. -/
import Derived.Test.YtgggokajapoopaaHn
import Derived.Test.YtgggokajapoopaaHui
import Derived.Deep.LoopGhost
import Derived.Lib.SliceRun
namespace Go.Proofs
open Go.RowKit
variable {w : World} {wb eb hb ib bb : Nat} {k : WkS} {vo vq vm : Value} {ol oq : Option Nat}
theorem _root_.Go.WkAt.freed {W0 : World} (H : WkAt W0 wb eb hb ib bb k vo vq vm ol oq) :
    WkAt ((((W0.setCell ⟨eb, 5, none⟩ (.bool false)).setCell ⟨eb, 6, none⟩ (.int .i64 0)).setCell ⟨eb, 7, none⟩ (.int .i64 0)).setCell ⟨eb, 9, none⟩ (.bool false)).drew wb eb hb ib bb k.freed vo vq vm ol oq ∧
    Chg (WkF wb eb bb ol) W0 ((((W0.setCell ⟨eb, 5, none⟩ (.bool false)).setCell ⟨eb, 6, none⟩ (.int .i64 0)).setCell ⟨eb, 7, none⟩ (.int .i64 0)).setCell ⟨eb, 9, none⟩ (.bool false)).drew := by
  have s5 : ∀ (e : En), (e.cells vq).setIfInBounds 5 (.bool false) = ({ e with busy := false } : En).cells vq := fun e => rfl
  have s6 : ∀ (e : En), (e.cells vq).setIfInBounds 6 (.int .i64 0) = ({ e with asks := 0 } : En).cells vq := fun e => rfl
  have s7 : ∀ (e : En), (e.cells vq).setIfInBounds 7 (.int .i64 0) = ({ e with kind := 0 } : En).cells vq := fun e => rfl
  have s9 : ∀ (e : En), (e.cells vq).setIfInBounds 9 (.bool false) = ({ e with told := false } : En).cells vq := fun e => rfl
  have h1 := heap_setCell_same _ eb 5 _ 84 (.bool false) H.hE
  rw [s5] at h1
  have h2 := heap_setCell_same _ eb 6 _ 84 (.int .i64 0) h1
  rw [s6] at h2
  have h3 := heap_setCell_same _ eb 7 _ 84 (.int .i64 0) h2
  rw [s7] at h3
  have h5 := heap_setCell_same _ eb 9 _ 84 (.bool false) h3
  rw [s9] at h5
  have step : ∀ (X : World), X.heap[eb]? = some (.cells (k.freed.e.cells vq) 84 (0, 0)) → (∀ b, b ≠ eb → X.heap[b]? = W0.heap[b]?) → (X.os = W0.os ∧ X.tape = W0.tape ∧ X.output = W0.output ∧ W0.heap.size ≤ X.heap.size) →
      WkAt X.drew wb eb hb ib bb { k with e := k.freed.e } vo vq vm ol oq ∧ Chg (WkF wb eb bb ol) W0 X.drew := fun X a1 a2 a3 => H.entry (w' := X.drew) (e := k.freed.e) rfl a2 a3 a1
  refine step _ h5 (fun b hb => ?_) ⟨?_, ?_, ?_, ?_⟩
  · rw [heap_setCell_other _ _ _ _ hb, heap_setCell_other _ _ _ _ hb, heap_setCell_other _ _ _ _ hb, heap_setCell_other _ _ _ _ hb]
  all_goals simp [World.setCell]
set_option maxRecDepth 100000 in
theorem run_slice1 (a : Option Addr) (n cap : Nat) (h : 1 ≤ n) (w : World) : (Instr.slice 70 (.slice a n cap) (some (.int .i64 1)) none none).run Try.prog w = .ok (.slice (if cap = 1 then a else a.map (·.add 20)) (n - 1) (cap - 1)) w := by
  have he : Try.prog.elem 70 = 79 := by kernel_rfl
  have hu : Try.prog.underlying 70 = some (.slice (Try.prog.elem 70)) := by rw [he]; exact Try.underlying70
  have hs : ∀ w, (sizeOf (Try.prog.elem 70)).run Try.prog w = .ok 20 w := by
    intro w
    rw [he]
    obtain ⟨i0, hi, hz0, hz1, hz2⟩ := info_parts Try.info79
    simp [sizeOf, typeInfo, hi, hz1]
  rw [run_slice_l w 70 a n cap hu .i64 1 (by decide) (by omega), hs w]
  simp [Result.andThen, sliced]
/-- The queue's tail. -/
theorem _root_.Go.QAt.tail {w : World} {a : Option Addr} {n cap : Nat} {m : Ms} {q : List Ms} {o : Option Nat} (h : QAt w (.slice a n cap) (m :: q) o) (hcap : n ≤ cap) :
    QAt w (.slice (if cap = 1 then a else a.map (·.add 20)) (n - 1) (cap - 1)) q (if q = [] then none else o) := by
  rcases h with ⟨h, -⟩ | ⟨g, off, c, ho, hv, hr, -, hle⟩
  · cases h
  · simp only [Value.slice.injEq] at hv
    obtain ⟨rfl, rfl, rfl⟩ := hv
    simp only [List.length_cons, Nat.add_sub_cancel]
    by_cases hq : q = []
    · subst hq
      rw [if_pos rfl]
      exact .inl ⟨rfl, rfl, _, _, rfl⟩
    · rw [if_neg hq, if_neg (by
        have := List.length_pos_iff.2 hq
        simp only [List.length_cons] at hle
        omega)]
      refine .inr ⟨g, off + 20, cap - 1, ho, ?_, fun i x hx => ?_, hq, ?_⟩
      · have : (⟨g, off, none⟩ : Addr).add 20 = ⟨g, off + 20, none⟩ := by unfold Addr.add; split <;> simp_all
        simp [this]
      · obtain ⟨b, off', e, hg⟩ := hr (i + 1) x (by simpa using hx)
        cases e
        exact ⟨g, off + 20, rfl, by rw [show off + 20 + i * 20 = off + (i + 1) * 20 by omega]; exact hg⟩
      · simp only [List.length_cons] at hle
        omega
theorem _root_.Go.QAt.head {w : World} {a : Option Addr} {n cap : Nat} {m : Ms} {q : List Ms} {o : Option Nat} (h : QAt w (.slice a n cap) (m :: q) o) :
    ∃ g off, a = some ⟨g, off, none⟩ ∧ o = some g ∧ w.agg? ⟨g, off, none⟩ 20 = some m.cells ∧ n = q.length + 1 ∧ n ≤ cap := by
  rcases h with ⟨h, -⟩ | ⟨g, off, c, ho, hv, hr, -, hle⟩
  · cases h
  · simp only [Value.slice.injEq] at hv
    obtain ⟨rfl, rfl, rfl⟩ := hv
    obtain ⟨b, off', e, hg⟩ := hr 0 m rfl
    cases e
    exact ⟨g, off, rfl, ho, by simpa using hg, rfl, hle⟩
/-- The queue is put anew. -/
theorem _root_.Go.WkAt.requeue {W : World} (h : WkAt W wb eb hb ib bb k vo vq vm ol oq) (v : Value) (q : List Ms) (o : Option Nat) (hq : QAt W v q o) (ho : o = oq ∨ o = none) :
    WkAt (W.setCell ⟨eb, 10, none⟩ v) wb eb hb ib bb { k with e := { k.e with q := q } } vo v vm ol o ∧ Chg (WkF wb eb bb ol) W (W.setCell ⟨eb, 10, none⟩ v) := by
  obtain ⟨m1, m2, m3, m4, m5, m6, m7, m8, m9⟩ := h.n1
  have h1 := heap_setCell_same _ eb 10 _ 84 v h.hE
  have hc10 : (k.e.cells vq).setIfInBounds 10 v = ({ k.e with q := q } : En).cells v := rfl
  rw [hc10] at h1
  have hk : ∀ b, b ≠ eb → (W.setCell ⟨eb, 10, none⟩ v).heap[b]? = W.heap[b]? := fun b hb => heap_setCell_other _ _ _ _ hb
  have ho3 : ∀ g, o = some g → oq = some g := fun g hg => by
    rcases ho with rfl | rfl
    · exact hg
    · cases hg
  refine ⟨⟨(hk _ m1).trans h.hW, h.out.keep fun b hb => hk b (h.n2 b hb).2.1, h1, hq.keep fun b hb => hk b (h.n3 b (ho3 b hb)).2.1, (hk _ (Ne.symm m5)).trans h.hH, h.img.keep fun b hb => hk b (by rcases hb with rfl | rfl; exact Ne.symm m6; exact Ne.symm m7), h.line, h.n1, fun g hg => ?_, fun g hg => h.n3 g (ho3 g hg)⟩,
    ⟨rfl, rfl, rfl, by simp [World.setCell], fun b _ hn => hk b fun e => hn (.inr (.inl e))⟩⟩
  obtain ⟨q1, q2, q3, q4, q5, q6⟩ := h.n2 g hg
  exact ⟨q1, q2, q3, q4, q5, fun e => q6 (ho3 g e)⟩
set_option maxRecDepth 100000 in
set_option maxHeartbeats 4000000 in
theorem done_any (m : Ms) (h : WkAt w wb eb hb ib bb k vo vq vm ol oq) {x : Int} (hk : EnW k.e x) (hol : k.out.length + 4 * k.e.q.length ≤ 900) (hm : k.e.mayDone m = true) :
    Calls Try.prog 107 #[.pointer (some ⟨wb, 0, none⟩), .agg m.cells] w fun e w' => e = .returned (.tuple #[]) ∧ StepW w wb eb hb ib bb k.fin vm ol oq w' := by
  simp only [En.mayDone, Bool.and_eq_true, beq_iff_eq] at hm
  obtain ⟨⟨h1, h2⟩, h3⟩ := hm
  have hE : EnW k.freed.e x := ⟨hk.own, hk.apart, fun _ => ⟨hk.told h2, rfl⟩, (fun h => by cases h), (fun h => by cases h), fun h => absurd (hk.told h2) h, hk.nn, hk.q⟩
  have hm := Mid.start h m
  obtain ⟨f1, -, -, -, c0, c5, c6, c7, c8, c9, -⟩ := hm.at'.all
  have bf := hm.box.f
  rw [h1] at c5
  rw [h2] at c9
  have hq : (k.e.asks == m.frm) = true := by simpa using h3
  have M0 := Lib.hid hm
  have HE := Lib.hid hE
  have HOL := Lib.hid hol
  clear h hm hE hk hol h1 h2 h3
  go_enter Try.func107, Try.ntmps107
  go_wp2_with fail
  generalize hW0 : w.alloc (.cells m.cells 79) = W0 at *
  clear hW0
  refine wp_region_still_tail 28 (by kernel_rfl) (by kernel_rfl) (quiet_still _ _ ?_)
  simp only [List.take_succ_cons, List.take_zero, List.drop_succ_cons, List.drop_zero]
  repeat (go_big_quiet_step (fail))
  refine wpQuiet_nil ?_
  change wpList _ _ _ _ _ W0.drew
  go_wp2_with (go_at_call 143; refine (must_true _).mono ?_; rintro e w2 ⟨rfl, rfl⟩)
  have M1 := Lib.hid (M0.out.ext (Ext.refl W0).drew)
  clear f1 c0 c5 c6 c7 c8 c9 bf M0
  generalize W0.drew = W1 at *
  obtain ⟨f1, -, -, -, c0, c5, c6, c7, c8, c9, -⟩ := M1.out.at'.all
  have g5 := M1.out.at'.fr 5
  have g6 := M1.out.at'.fr 6
  have g7 := M1.out.at'.fr 7
  have g9 := M1.out.at'.fr 9
  have hne : wb ≠ eb := M1.out.at'.n1.1
  clear c0 c8
  go_region
  obtain ⟨x1, x2⟩ := M1.out.at'.freed
  have hm2 := M1.out.next x1 x2 (.inl rfl) (.inl rfl)
  have M2 := Lib.hid hm2
  clear f1 c5 c6 c7 c9 g5 g6 g7 g9 x1 x2 hm2
  generalize ((((W1.setCell ⟨eb, 5, none⟩ (.bool false)).setCell ⟨eb, 6, none⟩ (.int .i64 0)).setCell ⟨eb, 7, none⟩ (.int .i64 0)).setCell ⟨eb, 9, none⟩ (.bool false)).drew = W2 at *
  go_wp2_with fail
  go_loopg [] k.e.q.length (fun n wr => ∃ k1 vo1 vq1 ol1 oq1, Mid w wr wb eb hb ib bb w.heap.size m k1 vo1 vq1 vm ol oq ol1 oq1 ∧ k1.e.q.length = n ∧ EnW k1.e x ∧ k1.drain k1.e.q.length = k.fin ∧ k1.out.length + 4 * k1.e.q.length ≤ 900)
  case atStart => exact ⟨_, _, _, _, _, M2.out, rfl, HE.out, rfl, HOL.out⟩
  case round =>
    obtain ⟨k1, vo1, vq1, ol1, oq1, hm, hn, hE, hD, hL⟩ := hrel
    obtain ⟨f1, -, -, -, -, c5, -⟩ := hm.at'.all
    have c10 : wr.cell? ⟨eb, 10, none⟩ = some vq1 := hm.at'.all.2.2.2.2.2.2.2.2.2.2
    obtain ⟨aq, cq, hvq⟩ := hm.at'.q.slice
    cases hb1 : k1.e.busy with
    | true =>
      rw [hb1] at c5
      have HD : Hid (k1 = k.fin) := by unfold Hid; rw [← hD, drain_stop _ _ (.inl hb1)]
      have M3 := Lib.hid hm
      clear hm hn hE hD hL hvq
      go_wp2_with fail
      go_end0
      exact ⟨rfl, HD.out ▸ M3.out.done⟩
    | false =>
      rw [hb1] at c5
      cases hqq : k1.e.q with
      | nil =>
        have HD : Hid (k1 = k.fin) := by unfold Hid; rw [← hD, drain_stop _ _ (.inr hqq)]
        rw [hqq] at hvq
        subst hvq
        have M3 := Lib.hid hm
        clear hm hn hE hD hL hqq
        go_wp2_with fail
        go_end0
        exact ⟨rfl, HD.out ▸ M3.out.done⟩
      | cons m1 q1 =>
        obtain ⟨nq1, hnq⟩ : ∃ n, n = k1.e.q.length := ⟨_, rfl⟩
        rw [← hnq] at hvq
        have hQ := hm.at'.q
        rw [hvq, hqq] at hQ
        subst hvq
        obtain ⟨g, off, rfl, ho, hag, hlen, hcap⟩ := hQ.head
        obtain ⟨hE', hask, -⟩ := hE.tail hqq
        have hB := Begun.any (k := { k1 with e := { k1.e with q := q1 } }) hE' hb1 hask
        have hst := drain_step q1.length k1 m1 q1 hb1 hqq
        have hl1 : k1.e.q.length = q1.length + 1 := hnq ▸ hlen
        have hsl := fun w => run_slice1 (some ⟨g, off, none⟩) nq1 cq (by omega) w
        have QT := Lib.hid (hQ.tail hcap)
        have hni : (0 : Int) < ((nq1 : Nat) : Int) := by omega
        have ROUND : Hid ((({ k1 with e := { k1.e with q := q1 } } : WkS).begun m1).e.q.length < gk ∧ EnW (({ k1 with e := { k1.e with q := q1 } } : WkS).begun m1).e x ∧ (({ k1 with e := { k1.e with q := q1 } } : WkS).begun m1).drain (({ k1 with e := { k1.e with q := q1 } } : WkS).begun m1).e.q.length = k.fin ∧ (({ k1 with e := { k1.e with q := q1 } } : WkS).begun m1).out.length + 4 * (({ k1 with e := { k1.e with q := q1 } } : WkS).begun m1).e.q.length ≤ 900) := by
          have hbq : (({ k1 with e := { k1.e with q := q1 } } : WkS).begun m1).e.q = q1 := hB.q
          have hbo : (({ k1 with e := { k1.e with q := q1 } } : WkS).begun m1).out.length ≤ k1.out.length + 4 := hB.out
          refine ⟨by rw [hbq]; omega, hB.w, ?_, by rw [hbq]; omega⟩
          rw [hbq, ← hst, ← hl1]; exact hD
        have hol1 : k1.out.length ≤ 900 := by omega
        have HASK := Lib.hid hask
        have M3 := Lib.hid hm
        have hne1 : wb ≠ eb := hm.at'.n1.1
        have g10 := hm.at'.fr 10
        have hgl : g < wr.heap.size := World.agg?_lt hag
        have hebl : eb < wr.heap.size := hm.at'.lt.2.1
        have hwbl : wb < wr.heap.size := hm.at'.lt.1
        generalize (if cq = 1 then some (⟨g, off, none⟩ : Addr) else (some (⟨g, off, none⟩ : Addr)).map (·.add 20)) = a2 at hsl QT
        generalize nq1 - 1 = n2 at hsl QT
        generalize cq - 1 = c2 at hsl QT
        have HOQ : Hid ((if q1 = [] then none else oq1) = oq1 ∨ (if q1 = [] then none else oq1) = (none : Option Nat)) := by
          unfold Hid
          split
          · exact .inr rfl
          · exact .inl rfl
        generalize (if q1 = [] then none else oq1) = oq2 at *
        clear hm hn hE hD hL hQ hE' hask hB hst hl1 hlen hcap hqq ho hnq
        go_wp2_with fail
        have M4 := Lib.hid (M3.out.ext ((Ext.refl wr).alloc (.cells m1.cells 79)))
        have QT4 : Hid (QAt (wr.alloc (.cells m1.cells 79)) (.slice a2 n2 c2) q1 oq2) := QT.out.keep fun b hb => Below.heap_alloc _ _ _ (QT.out.lt hb)
        have hbox : (wr.alloc (.cells m1.cells 79)).agg? ⟨wr.heap.size, 0, none⟩ 20 = some m1.cells := World.agg?_alloc_at _ _ _ _ _ rfl m1.cells_size
        have hne5 : wr.heap.size ≠ eb := by omega
        clear f1 c5 c10 g10 hag
        generalize wr.alloc (.cells m1.cells 79) = W4 at *
        obtain ⟨f1, -⟩ := M4.out.at'.all
        have c10 : W4.cell? ⟨eb, 10, none⟩ = _ := M4.out.at'.all.2.2.2.2.2.2.2.2.2.2
        have g10 := M4.out.at'.fr 10
        go_region
        obtain ⟨x1, x2⟩ := M4.out.at'.requeue (.slice a2 n2 c2) q1 oq2 QT4.out HOQ.out
        have hm5 := (M4.out.next x1 x2 (.inl rfl) HOQ.out).ext (Ext.refl _).drew
        have hbox5 : (W4.setCell ⟨eb, 10, none⟩ (.slice a2 n2 c2)).drew.agg? ⟨wr.heap.size, 0, none⟩ 20 = some m1.cells := (World.agg?_of_block (w := W4) (a := ⟨wr.heap.size, 0, none⟩) (heap_setCell_other _ _ _ _ hne5)).trans hbox
        have M5 := Lib.hid hm5
        clear x1 x2 hm5 hbox f1 c10 g10
        generalize (W4.setCell ⟨eb, 10, none⟩ (.slice a2 n2 c2)).drew = W5 at *
        go_wp2_with (go_at_call 142; refine (begin_any m1 M5.out.at' hol1 HASK.out).mono ?_; rintro e w6 ⟨rfl, s6⟩; obtain ⟨vo6, vq6, ol6, oq6, hm6⟩ := M5.out.stepW s6; have M6 := Lib.hid hm6; clear s6 hm6)
        go_roundg (({ k1 with e := { k1.e with q := q1 } } : WkS).begun m1).e.q.length
        case measure => exact ROUND.out.1
        case rel => exact ⟨_, _, _, _, _, M6.out, rfl, ROUND.out.2.1, ROUND.out.2.2.1, ROUND.out.2.2.2⟩
theorem done_no (m : Ms) (h : WkAt w wb eb hb ib bb k vo vq vm ol oq) (hm : k.e.mayDone m = false) :
    Calls Try.prog 107 #[.pointer (some ⟨wb, 0, none⟩), .agg m.cells] w fun e w' => e = .panicked strayed ∧ Ext w w' := by
  cases h1 : k.e.busy with
  | false => exact done_no1 m h h1
  | true =>
    cases h2 : k.e.told with
    | false => exact done_no2 m h h1 h2
    | true =>
      refine done_no3 m h h1 h2 fun h3 => ?_
      simp [En.mayDone, h1, h2, h3] at hm
end Go.Proofs
