/- Texts in one: Hv, Hx3, Hz. -/
import Derived.Test.YtgggokajapoopaaHj
import Derived.Test.YtgggokajapoopaaHr
import Derived.Defers
import Derived.Recover
import Derived.BigQuiet
import Derived.Deep.Cut
import Derived.RangeFuncBox
/- The home, walked: Take. -/
namespace Go.Proofs
open Go.RowKit
variable {F : Nat → Prop}
set_option maxRecDepth 100000 in
set_option maxHeartbeats 400000 in
theorem recov_idle (p q : Addr) (w : World) : CallsD Try.prog 102 #[.pointer (some p), .pointer (some q)] .returning w fun e u' w' => e = .returned (.tuple #[]) ∧ u' = .returning ∧ w' = w := by
  refine callsD_of_wpS Try.func102 rfl fun c₀ cs hu => ?_
  apply wpS_seq
  apply wpS_region
  simp [wpOpsS, go_sem, recoverD, hu, Try.ntmps102, Exit.thenS]
  rw [show #[Value.pointer (some p), Value.pointer (some q)] ++ (Array.replicate 11 undef).setIfInBounds 3 Value.nilIface = #[Value.pointer (some p), Value.pointer (some q), undef, undef, undef, Value.nilIface, undef, undef, undef, undef, undef, undef, undef] from rfl]
  refine wpS_of_wp ?_
  go_wp2_with fail
  cases c₀
  simp_all [bodyPostS, results, Try.results102]
theorem resCC {P : Program} {fn : Func} {p t : Tmp} {ty tz : TypeId} (h : fn.results = #[.cell p ty, .cell t tz]) (tmps : Array Value) (w : World) (a b : Addr) (v u : Value)
    (hp : tmps.getD p undef = .pointer (some a)) (ht : tmps.getD t undef = .pointer (some b)) (hl : (loadVar ty a).run P w = .ok v w) (hl' : (loadVar tz b).run P w = .ok u w) : (results fn tmps).run P w = .ok (.tuple #[v, u]) w := by
  have hp' : tmps[p]?.getD undef = .pointer (some a) := by rw [← hp]; simp [Array.getD_eq_getD_getElem?]
  have ht' : tmps[t]?.getD undef = .pointer (some b) := by rw [← ht]; simp [Array.getD_eq_getD_getElem?]
  simp [results, h, hp', ht', asAddr, hl, hl']
set_option maxRecDepth 100000 in
set_option maxHeartbeats 400000 in
theorem take_nil (m : Ms) (w : World) : Calls Try.prog 48 #[.pointer none, .agg m.cells] w fun e w' => e = .returned (.tuple #[.slice none 0 0, .int .i64 1]) ∧ Ext w w' := by
  have hmf : ∀ (fn : Fn) (first cap : Array Value) (w : World), (Instr.makeFunc fn first cap).run Try.prog w = .ok (.func fn first cap) w := fun _ _ _ _ => rfl
  go_enter_defers Try.func48, Try.ntmps48
  go_wp2_with (go_at_call 99; refine (hnone_nil _).mono ?_; rintro e w1 ⟨rfl, rfl⟩)
  refine ⟨_, resCC rfl _ _ ⟨w.heap.size + 1, 0, none⟩ ⟨w.heap.size + 1 + 1, 0, none⟩ (.slice none 0 0) (.int .i64 1) rfl rfl ?_ ?_, rfl, (((Ext.refl w).alloc _).alloc _).alloc _⟩
  · simp [go_sem]
  · simp [go_sem]
theorem chk_of {m : Ms} (h : m.may = true) : chk m = 0 := by unfold chk; rw [h]; rfl
theorem chk_not {m : Ms} (h : m.may = false) : chk m = 2 := by unfold chk; rw [h]; rfl
/-- The three blocks that Take makes first: the message, the two results. -/
structure TkBox (W : World) (A : Nat) (m : Ms) (v : Value) (i : Int) : Prop where
  box : MsBox W A m
  h1 : W.heap[A + 1]? = some (.cells #[v] 70 (0, 0))
  h2 : W.heap[A + 1 + 1]? = some (.cells #[.int .i64 i] 45 (0, 0))
theorem TkBox.start (w : World) (m : Ms) (v : Value) (i : Int) : TkBox (((w.alloc (.cells m.cells 79)).alloc (.cells #[v] 70)).alloc (.cells #[.int .i64 i] 45)) w.heap.size m v i := by
  refine ⟨(MsBox.start w m).ext (((Ext.refl _).alloc _).alloc _), ?_, ?_⟩
  · rw [Below.heap_alloc _ _ _ (by simp)]
    have := heap_alloc_new (w.alloc (.cells m.cells 79)) (.cells #[v] 70)
    simpa using this
  · have := heap_alloc_new ((w.alloc (.cells m.cells 79)).alloc (.cells #[v] 70)) (.cells #[.int .i64 i] 45)
    simpa using this
theorem TkBox.keep {W W' : World} {A : Nat} {m : Ms} {v : Value} {i : Int} (h : TkBox W A m v i) (hk : ∀ b, b = A ∨ b = A + 1 ∨ b = A + 1 + 1 → W'.heap[b]? = W.heap[b]?) : TkBox W' A m v i :=
  ⟨h.box.keep (hk _ (.inl rfl)), (hk _ (.inr (.inl rfl))).trans h.h1, (hk _ (.inr (.inr rfl))).trans h.h2⟩
theorem TkBox.lt {W : World} {A : Nat} {m : Ms} {v : Value} {i : Int} (h : TkBox W A m v i) : A + 1 + 1 < W.heap.size := (Array.getElem?_eq_some_iff.1 h.h2).1
theorem TkBox.ext {W W' : World} {A : Nat} {m : Ms} {v : Value} {i : Int} (h : TkBox W A m v i) (hE : Ext W W') : TkBox W' A m v i :=
  h.keep fun b hb => hE.block b (by have := h.lt; omega)
theorem TkBox.facts {W : World} {A : Nat} {m : Ms} {v : Value} {i : Int} (h : TkBox W A m v i) :
    W.cell? ⟨A + 1, 0, none⟩ = some v ∧ W.frozen? ⟨A + 1, 0, none⟩ = false ∧ W.cell? ⟨A + 1 + 1, 0, none⟩ = some (.int .i64 i) ∧ W.frozen? ⟨A + 1 + 1, 0, none⟩ = false := by
  refine ⟨?_, frozen_of_row W (A + 1) 0 _ 70 h.h1, ?_, frozen_of_row W (A + 1 + 1) 0 _ 45 h.h2⟩
  · rw [cell_of_row W (A + 1) 0 _ 70 (0, 0) h.h1]; rfl
  · rw [cell_of_row W (A + 1 + 1) 0 _ 45 (0, 0) h.h2]; rfl
theorem Ext.two {w W : World} (hE : Ext w W) (v u : Value) : Ext w ((W.setCell ⟨w.heap.size + 1, 0, none⟩ v).setCell ⟨w.heap.size + 1 + 1, 0, none⟩ u) :=
  (hE.setCell _ _ (by simp only; omega)).setCell _ _ (by simp only; omega)
set_option maxRecDepth 100000 in
set_option maxHeartbeats 400000 in
theorem take_bad1 (w : World) (p : Value) (H : Hom) (hb ib bb mb : Nat) (h : HomAt w p H hb ib bb mb F) (m : Ms) (hm : m.may = false) :
    Calls Try.prog 48 #[p, .agg m.cells] w fun e w' => e = .returned (.tuple #[.slice none 0 0, .int .i64 2]) ∧ Ext w w' := by
  have hmf : ∀ (fn : Fn) (first cap : Array Value) (w : World), (Instr.makeFunc fn first cap).run Try.prog w = .ok (.func fn first cap) w := fun _ _ _ _ => rfl
  obtain ⟨rfl⟩ := h.p
  have hE0 : Ext w (((w.alloc (.cells m.cells 79)).alloc (.cells #[.slice none 0 0] 70)).alloc (.cells #[.int .i64 0] 45)) := (((Ext.refl w).alloc _).alloc _).alloc _
  have HH := Lib.hid (h.ext hE0)
  have HE0 := Lib.hid hE0
  have hck := chk_not hm
  have HT := Lib.hid (TkBox.start w m (.slice none 0 0) 0)
  have hag := HT.out.box.ag
  clear h hm hE0
  go_enter_defers Try.func48, Try.ntmps48
  go_wp2_with (first
    | (go_at_call 99; refine (hnone_any _ _ _ _ _ _ _ HH.out).mono ?_; rintro e w1 ⟨rfl, rfl⟩)
    | (go_at_call 101; refine (check_any m _).mono ?_; rintro e w2 ⟨rfl, hE2⟩; rw [hck]; obtain ⟨d1, d2, d3, d4⟩ := (HT.out.ext hE2).facts; have HE2 := Lib.hid hE2; clear hE2 hag))
  refine ⟨_, resCC rfl _ _ ⟨w.heap.size + 1, 0, none⟩ ⟨w.heap.size + 1 + 1, 0, none⟩ (.slice none 0 0) (.int .i64 2) rfl rfl ?_ ?_, rfl, Ext.two (HE0.out.trans HE2.out) _ _⟩
  · simp [go_sem, d1]
  · simp [go_sem, d3]
set_option maxRecDepth 100000 in
set_option maxHeartbeats 400000 in
theorem take_bad2 (w : World) (p : Value) (H : Hom) (hb ib bb mb : Nat) (h : HomAt w p H hb ib bb mb F) (m : Ms) (hm : m.may = true) (ht : m.to ≠ 4) :
    Calls Try.prog 48 #[p, .agg m.cells] w fun e w' => e = .returned (.tuple #[.slice none 0 0, .int .i64 2]) ∧ Ext w w' := by
  have hmf : ∀ (fn : Fn) (first cap : Array Value) (w : World), (Instr.makeFunc fn first cap).run Try.prog w = .ok (.func fn first cap) w := fun _ _ _ _ => rfl
  obtain ⟨rfl⟩ := h.p
  have hE0 : Ext w (((w.alloc (.cells m.cells 79)).alloc (.cells #[.slice none 0 0] 70)).alloc (.cells #[.int .i64 0] 45)) := (((Ext.refl w).alloc _).alloc _).alloc _
  have HH := Lib.hid (h.ext hE0)
  have HE0 := Lib.hid hE0
  have hck := chk_of hm
  have hto : (m.to != 4) = true := by simpa using ht
  have HT := Lib.hid (TkBox.start w m (.slice none 0 0) 0)
  have hag := HT.out.box.ag
  clear h hm hE0 ht
  go_enter_defers Try.func48, Try.ntmps48
  go_wp2_with (first
    | (go_at_call 99; refine (hnone_any _ _ _ _ _ _ _ HH.out).mono ?_; rintro e w1 ⟨rfl, rfl⟩)
    | (go_at_call 101; refine (check_any m _).mono ?_; rintro e w2 ⟨rfl, hE2⟩; rw [hck]; have hT2 := HT.out.ext hE2; obtain ⟨d1, d2, d3, d4⟩ := hT2.facts; have bt := hT2.box.t; have HE2 := Lib.hid hE2; clear hE2 hag hT2))
  refine ⟨_, resCC rfl _ _ ⟨w.heap.size + 1, 0, none⟩ ⟨w.heap.size + 1 + 1, 0, none⟩ (.slice none 0 0) (.int .i64 2) rfl rfl ?_ ?_, rfl, Ext.two (HE0.out.trans HE2.out) _ _⟩
  · simp [go_sem, d1]
  · simp [go_sem, d3]
set_option maxRecDepth 100000 in
set_option maxHeartbeats 1000000 in
theorem take_range (w : World) (p : Value) (H : Hom) (hb ib bb mb : Nat) (h : HomAt w p H hb ib bb mb F) (m : Ms) (hm : m.may = true) (ht : m.to = 4) (hl : (H.mem.length : Int) ≤ m.line) :
    Calls Try.prog 48 #[p, .agg m.cells] w fun e w' => e = .returned (.tuple #[.slice none 0 0, .int .i64 4]) ∧ Ext w w' := by
  have hmf : ∀ (fn : Fn) (first cap : Array Value) (w : World), (Instr.makeFunc fn first cap).run Try.prog w = .ok (.func fn first cap) w := fun _ _ _ _ => rfl
  obtain ⟨rfl⟩ := h.p
  have hE0 : Ext w (((w.alloc (.cells m.cells 79)).alloc (.cells #[.slice none 0 0] 70)).alloc (.cells #[.int .i64 0] 45)) := (((Ext.refl w).alloc _).alloc _).alloc _
  have HH := Lib.hid (h.ext hE0)
  have HE0 := Lib.hid hE0
  have hck := chk_of hm
  have hto : (m.to != 4) = false := by simpa using ht
  have hwr : wrap64 m.line = m.line := by unfold wrap64; have := m.ok; omega
  have hl' : ((H.mem.length : Int) ≤ m.line) = True := eq_true hl
  have hld : decide ((H.mem.length : Int) ≤ m.line) = true := by simpa using hl
  have HT := Lib.hid (TkBox.start w m (.slice none 0 0) 0)
  have hag := HT.out.box.ag
  clear h hm hE0 ht hl
  go_enter_defers Try.func48, Try.ntmps48
  go_wp2_with (first
    | (go_at_call 99; refine (hnone_any _ _ _ _ _ _ _ HH.out).mono ?_; rintro e w1 ⟨rfl, rfl⟩)
    | (go_at_call 101; refine (check_any m _).mono ?_; rintro e w2 ⟨rfl, hE2⟩; rw [hck]; have hT2 := HT.out.ext hE2; obtain ⟨d1, d2, d3, d4⟩ := hT2.facts; have bt := hT2.box.t; have bl := hT2.box.l; have HE2 := Lib.hid hE2; clear hE2 hag hT2))
  go_quiet ((go_at_call 46; refine Calls.quiet_of_same ((hlines_any _ _ _ _ _ _ _ (HH.out.ext (HE2.out.trans ((Ext.refl _).drewN _)))).mono (fun e w' h => ⟨h.1, h.2.symm⟩))))
  go_wp2_with fail
  refine ⟨_, resCC rfl _ _ ⟨w.heap.size + 1, 0, none⟩ ⟨w.heap.size + 1 + 1, 0, none⟩ (.slice none 0 0) (.int .i64 4) rfl rfl ?_ ?_, rfl, Ext.two ((HE0.out.trans HE2.out).trans ((Ext.refl _).drewN _)) _ _⟩
  · simp [go_sem, d1]
  · simp [go_sem, d3]
def _root_.Go.WkS.of (H : Hom) (x : Nat) : WkS := ⟨H.mem, H.get x, [], x⟩
end Go.Proofs
/- The home, walked: Take of a request (the plain part). -/
namespace Go.Proofs
open Go.RowKit
theorem wants3 {m : Ms} (hk : m.kind = 1 ∨ m.kind = 2 ∨ m.kind = 3) (hm : m.may = true) : m.asking := by
  refine ⟨hk, ?_⟩
  rcases hk with hk | hk | hk <;> (simp [Ms.may, wantOf, hk] at hm; omega)
/-- The home behind a message: memory and one entry anew. -/
def _root_.Go.Hom.put (H : Hom) (k : WkS) : Hom := ⟨k.mem, fun y => if (k.line : Int) = y then some k.e else H.es y⟩
theorem _root_.Go.QAt.wide {w : World} {v : Value} {q : List Ms} {g : Nat} (h : QAt w v q (some g)) : ∃ cs t fr, w.heap[g]? = some (.cells cs t fr) ∧ 20 ≤ cs.size := by
  rcases h with ⟨_, h, _⟩ | ⟨g', off, cap, ho, hv, hr, hq, _⟩
  · cases h
  · cases ho
    cases q with
    | nil => exact absurd rfl hq
    | cons m q =>
      obtain ⟨b, off', e, hg⟩ := hr 0 m rfl
      cases e
      obtain ⟨c, t, fr, hh, hsp, hle, hx⟩ := World.agg?_some hg
      exact ⟨c, t, fr, hh, by simp only at hle; omega⟩
/-- The blocks of a home's entries behind a message. -/
def FAft (F : Nat → Prop) (eb : Nat) (oq : Option Nat) : Nat → Prop := fun b => F b ∨ b = eb ∨ oq = some b
theorem hom_after {w w5 W6 : World} {p : Value} {H : Hom} {hb ib bb mb wb eb A : Nat} {k : WkS} {vo vq : Value} {ol oq : Option Nat} {u1 u2 : Value} {F : Nat → Prop} (h : HomAt w p H hb ib bb mb F)
    (hW : WkAt w5 wb eb hb ib bb k vo vq (.map (some mb)) ol oq) (hk5 : ∀ b, b < w.heap.size → b ≠ bb → w5.heap[b]? = w.heap[b]?) (hA : w.heap.size ≤ A) (hEA : eb ≠ A + 1 ∧ eb ≠ A + 1 + 1) (hEm : eb ≠ mb)
    (h1 : w5.heap[A + 1]? = some (.cells #[u1] 70 (0, 0))) (h2 : w5.heap[A + 1 + 1]? = some (.cells #[u2] 45 (0, 0)))
    (h6 : ∀ b, b ≠ mb → b ≠ A + 1 → b ≠ A + 1 + 1 → W6.heap[b]? = w5.heap[b]?) (hs6 : W6.heap.size = w5.heap.size) (hs5 : w.heap.size ≤ w5.heap.size) (him : W6.imap mb .u32) (hbm : W6.imapB mb .u32) (hg6 : ∀ y, W6.mapGet mb .u32 y = if (k.line : Int) = y then some (.pointer (some ⟨eb, 0, none⟩)) else w5.mapGet mb .u32 y) :
    HomAt W6 p (H.put k) hb ib bb mb (FAft F eb oq) := by
  obtain ⟨l1, l2, l3, l4⟩ := h.lt
  obtain ⟨m1, m2, m3, m4, m5⟩ := h.ne
  obtain ⟨n1, n2, n3, n4⟩ := h.fn
  have hmb : w5.heap[mb]? = w.heap[mb]? := hk5 mb l4 (Ne.symm m5)
  have hq : ∀ g, oq = some g → g ≠ mb ∧ g ≠ A + 1 ∧ g ≠ A + 1 + 1 ∧ g ≠ bb := fun g hg => by
    subst hg
    obtain ⟨cs, t, fr, e1, e2⟩ := hW.q.wide
    refine ⟨fun e => ?_, fun e => ?_, fun e => ?_, (hW.n3 g rfl).2.2.2.2⟩
    · subst e
      obtain ⟨es, clock, e3, -⟩ := h.im
      rw [hmb, e3] at e1; cases e1
    · subst e
      rw [h1] at e1; cases e1; simp at e2
    · subst e
      rw [h2] at e1; cases e1; simp at e2
  obtain ⟨i1, i2, i3, i4, i5, i6, i7, i8, i9⟩ := hW.n1
  refine ⟨h.p, (h6 hb m3 (by omega) (by omega)).trans hW.hH, hW.img.keep fun b hb => ?_, him, fun y => ?_, h.ne, ⟨?_, ?_, ?_, ?_⟩, ?_, hbm⟩
  · rcases hb with rfl | rfl
    · exact h6 b m4 (by omega) (by omega)
    · exact h6 b m5 (by omega) (by omega)
  · rw [hg6 y]
    show ((if (k.line : Int) = y then some k.e else H.es y) = none ∧ _) ∨ ∃ e v, (if (k.line : Int) = y then some k.e else H.es y) = some e ∧ _
    by_cases hy : (k.line : Int) = y
    · rw [if_pos hy, if_pos hy]
      refine .inr ⟨k.e, _, rfl, rfl, eb, vq, oq, rfl, (h6 eb hEm hEA.1 hEA.2).trans hW.hE, hW.q.keep fun g hg => h6 g (hq g hg).1 (hq g hg).2.1 (hq g hg).2.2.1, .inr (.inl rfl), fun g hg => .inr (.inr hg)⟩
    · rw [if_neg hy, if_neg hy, World.mapGet_of_block hmb]
      rcases h.ent y with e1 | ⟨e, v, e1, e2, e3⟩
      · exact .inl e1
      · refine .inr ⟨e, v, e1, e2, (e3.keep (w' := W6) fun b hb hf => ?_).wide fun b hb => .inl hb⟩
        rw [h6 b (fun e => n4 (e ▸ hf)) (by omega) (by omega), hk5 b hb (fun e => n3 (e ▸ hf))]
  · rintro (h' | h' | h')
    · exact n1 h'
    · exact i5 h'.symm
    · exact (hW.n3 _ h').2.2.1 rfl
  · rintro (h' | h' | h')
    · exact n2 h'
    · exact i6 h'.symm
    · exact (hW.n3 _ h').2.2.2.1 rfl
  · rintro (h' | h' | h')
    · exact n3 h'
    · exact i7 h'.symm
    · exact (hW.n3 _ h').2.2.2.2 rfl
  · rintro (h' | h' | h')
    · exact n4 h'
    · exact hEm h'.symm
    · exact (hq _ h').1 rfl
  · rintro b (h' | h' | h')
    · have := h.fl b h'; omega
    · have := hW.lt.2.1; omega
    · have := hW.q.lt h'; omega
theorem _root_.Go.SlAt.block {w : World} {v : Value} {L : List Ms} {g : Nat} (h : SlAt 79 20 Ms.cells w v L (some g)) : ∃ cur, w.heap[g]? = some (.cells cur 79 (0, 0)) := by
  rcases h with ⟨_, h, _⟩ | ⟨g', cap, cur, ho, _, hg, _⟩
  · cases h
  · cases ho; exact ⟨cur, hg⟩
theorem take_after {w W4 w5 W6 : World} {p : Value} {H : Hom} {hb ib bb mb wb eb : Nat} {k : WkS} {vo vq v0 : Value} {ol oq : Option Nat} {i0 x : Int} {m : Ms} {G F : Nat → Prop} (h : HomAt w p H hb ib bb mb F) (hE4 : Ext w W4)
    (hW : WkAt w5 wb eb hb ib bb k vo vq (.map (some mb)) ol oq) (hk5 : ∀ b, b < w.heap.size → b ≠ bb → w5.heap[b]? = W4.heap[b]?) (hC : Chg G W4 w5) (hT : TkBox w5 w.heap.size m v0 i0)
    (hEA : w.heap.size + 1 + 1 < eb) (h6 : ∀ b, b ≠ mb → W6.heap[b]? = w5.heap[b]?) (him : W6.imap mb .u32) (hbm : W6.imapB mb .u32) (hg6 : ∀ y, W6.mapGet mb .u32 y = if x = y then some (.pointer (some ⟨eb, 0, none⟩)) else w5.mapGet mb .u32 y)
    (hos : W6.os = w5.os ∧ W6.tape = w5.tape ∧ W6.output = w5.output ∧ W6.heap.size = w5.heap.size) (hx : (k.line : Int) = x) :
    SlAt 79 20 Ms.cells ((W6.setCell ⟨w.heap.size + 1, 0, none⟩ vo).setCell ⟨w.heap.size + 1 + 1, 0, none⟩ (.int .i64 0)) vo k.out ol ∧
    HomAt ((W6.setCell ⟨w.heap.size + 1, 0, none⟩ vo).setCell ⟨w.heap.size + 1 + 1, 0, none⟩ (.int .i64 0)) p (H.put k) hb ib bb mb (FAft F eb oq) ∧
    Chg (fun b => b = bb ∨ b = mb) w ((W6.setCell ⟨w.heap.size + 1, 0, none⟩ vo).setCell ⟨w.heap.size + 1 + 1, 0, none⟩ (.int .i64 0)) := by
  obtain ⟨l1, l2, l3, l4⟩ := h.lt
  have hf : ∀ b, b ≠ mb → b ≠ w.heap.size + 1 → b ≠ w.heap.size + 1 + 1 → ((W6.setCell ⟨w.heap.size + 1, 0, none⟩ vo).setCell ⟨w.heap.size + 1 + 1, 0, none⟩ (.int .i64 0)).heap[b]? = w5.heap[b]? := fun b h1 h2 h3 => by
    rw [heap_setCell_other _ _ _ _ h3, heap_setCell_other _ _ _ _ h2, h6 b h1]
  have hmf : ((W6.setCell ⟨w.heap.size + 1, 0, none⟩ vo).setCell ⟨w.heap.size + 1 + 1, 0, none⟩ (.int .i64 0)).heap[mb]? = W6.heap[mb]? := by
    rw [heap_setCell_other _ _ _ _ (show mb ≠ w.heap.size + 1 + 1 by omega), heap_setCell_other _ _ _ _ (show mb ≠ w.heap.size + 1 by omega)]
  have hk : ∀ b, b < w.heap.size → b ≠ bb → w5.heap[b]? = w.heap[b]? := fun b h1 h2 => (hk5 b h1 h2).trans (hE4.block b h1)
  obtain ⟨m1, m2, m3, m4, m5⟩ := h.ne
  refine ⟨hW.out.keep fun g hg => ?_, hom_after h hW hk (Nat.le_refl _) ⟨by omega, by omega⟩ (by omega) hT.h1 hT.h2 hf (by rw [← hos.2.2.2]; simp [World.setCell]) (Nat.le_trans hE4.size hC.size) ((World.imap_of_block hmf).2 him) (World.imapB_of_block hmf hbm) (fun y => ?_), ?_⟩
  · subst hg
    obtain ⟨cur, hc⟩ := hW.out.block
    refine hf g (fun e => ?_) (fun e => ?_) (fun e => ?_)
    · subst e
      obtain ⟨es, clock, e3, -⟩ := h.im
      rw [hk _ l4 (Ne.symm m5), e3] at hc; cases hc
    · subst e; rw [hT.h1] at hc; cases hc
    · subst e; rw [hT.h2] at hc; cases hc
  · rw [World.mapGet_of_block hmf, hg6 y, hx]
  · obtain ⟨o1, o2, o3, o4⟩ := hos
    refine ⟨o1.trans (hC.os.trans hE4.os), o2.trans (hC.tape.trans hE4.tape), o3.trans (hC.output.trans hE4.output), ?_, fun b hb hn => ?_⟩
    · have := hC.size
      have := hE4.size
      simp only [World.setCell, Array.size_modify]
      omega
    · rw [hf b (fun e => hn (.inr e)) (by omega) (by omega), hk b hb fun e => hn (.inl e)]
theorem _root_.Go.WkS.asked_line (k : WkS) (m : Ms) : (k.asked m).line = k.line := by
  unfold WkS.asked WkS.begun WkS.gets WkS.getm WkS.put
  repeat' split
  all_goals rfl
/-- What Take leaves. -/
def TookPost (w : World) (p : Value) (hb ib bb mb : Nat) (F : Nat → Prop) (H' : Hom) (out : List Ms) (e : Ending) (w' : World) : Prop :=
  ∃ v o F', e = .returned (.tuple #[v, .int .i64 0]) ∧ SlAt 79 20 Ms.cells w' v out o ∧ HomAt w' p H' hb ib bb mb F' ∧ (∀ b, F' b → F b ∨ w.heap.size ≤ b) ∧ Chg (fun b => b = bb ∨ b = mb) w w'
theorem ext_map6 (W : World) (a b c d e f : Value) : Ext W (((((((W.alloc (.map #[] 0)).mapPut W.heap.size .i64 1 a).mapPut W.heap.size .i64 2 b).mapPut W.heap.size .i64 3 c).mapPut W.heap.size .i64 11 d).mapPut W.heap.size .i64 12 e).mapPut W.heap.size .i64 13 f) := by
  iterate 6 refine Ext.mapPut ?_ _ _ _ _ (Nat.le_refl _)
  exact (Ext.refl _).alloc _
theorem work_start {w w3 : World} {p : Value} {H : Hom} {hb ib bb mb : Nat} {F : Nat → Prop} (h : HomAt w p H hb ib bb mb F) (hE : Ext w w3) (x : Nat) (hx : x < H.mem.length) {v : Value} {o3 : Option Nat}
    (hs3 : SlAt 79 20 Ms.cells w3 v (H.get x).q o3) (hf3 : ∀ g, o3 = some g → w.heap.size ≤ g) :
    ∃ oq, WkAt ((w3.alloc (.cells ((H.get x).cells v) 84)).alloc (.cells #[.slice none 0 0, .pointer (some ⟨w3.heap.size, 0, none⟩), .pointer (some ⟨hb, 0, none⟩), .int .u32 x] 189)) (w3.heap.size + 1) w3.heap.size hb ib bb ⟨H.mem, H.get x, [], x⟩ (.slice none 0 0) v (.map (some mb)) none oq ∧
      (∀ g, oq = some g → o3 = some g) ∧ ∀ g, o3 = some g → g ≠ w3.heap.size + 1 ∧ g ≠ w3.heap.size ∧ g ≠ hb ∧ g ≠ ib ∧ g ≠ bb ∧ (none : Option Nat) ≠ some g := by
  have hE4 : Ext w3 ((w3.alloc (.cells ((H.get x).cells v) 84)).alloc (.cells #[.slice none 0 0, .pointer (some ⟨w3.heap.size, 0, none⟩), .pointer (some ⟨hb, 0, none⟩), .int .u32 x] 189)) := ((Ext.refl w3).alloc _).alloc _
  have hh := h.ext (hE.trans hE4)
  obtain ⟨l1, l2, l3, l4⟩ := h.lt
  have hs := hE.size
  obtain ⟨m1, m2, m3, m4, m5⟩ := h.ne
  obtain ⟨oq, hq, hoq⟩ := QAt.of (hs3.ext hE4)
  have hn : ∀ g, o3 = some g → g < w3.heap.size ∧ w.heap.size ≤ g := fun g hg => ⟨hs3.lt hg, hf3 g hg⟩
  refine ⟨oq, ⟨?_, SlAt.nil _ _, ?_, hq, hh.hH, hh.img, hx, ?_, by simp, fun g hg => ?_⟩, hoq, fun g hg => ?_⟩
  · have := heap_alloc_new (w3.alloc (.cells ((H.get x).cells v) 84)) (.cells #[.slice none 0 0, .pointer (some ⟨w3.heap.size, 0, none⟩), .pointer (some ⟨hb, 0, none⟩), .int .u32 x] 189)
    simpa using this
  · rw [Below.heap_alloc _ _ _ (by simp)]
    exact heap_alloc_new w3 _
  · have := h.img.ne
    refine ⟨by omega, by omega, by omega, by omega, by omega, by omega, by omega, m1, m2⟩
  · obtain ⟨g1, g2⟩ := hn g (hoq g hg)
    exact ⟨by omega, by omega, by omega, by omega, by omega⟩
  · obtain ⟨g1, g2⟩ := hn g hg
    exact ⟨by omega, by omega, by omega, by omega, by omega, by simp⟩
end Go.Proofs
/- The home, walked: receivers that are nil. -/
namespace Go.Proofs
open Go.RowKit
set_option maxRecDepth 100000 in
set_option maxHeartbeats 400000 in
theorem take_zero (m : Ms) (w : World) (b : Nat) (hb : w.cell? ⟨b, 0, none⟩ = some (.pointer none)) (hbl : b < w.heap.size) : Calls Try.prog 48 #[.pointer (some ⟨b, 0, none⟩), .agg m.cells] w fun e w' => e = .returned (.tuple #[.slice none 0 0, .int .i64 1]) ∧ Ext w w' := by
  have hmf : ∀ (fn : Fn) (first cap : Array Value) (w : World), (Instr.makeFunc fn first cap).run Try.prog w = .ok (.func fn first cap) w := fun _ _ _ _ => rfl
  have hE0 : Ext w (((w.alloc (.cells m.cells 79)).alloc (.cells #[.slice none 0 0] 70)).alloc (.cells #[.int .i64 0] 45)) := (((Ext.refl w).alloc _).alloc _).alloc _
  have hc := (hE0.cell hbl (o := 0)).trans hb
  go_enter_defers Try.func48, Try.ntmps48
  go_wp2_with (go_at_call 99; refine (hnone_zero _ b hc).mono ?_; rintro e w1 ⟨rfl, rfl⟩)
  refine ⟨_, resCC rfl _ _ ⟨w.heap.size + 1, 0, none⟩ ⟨w.heap.size + 1 + 1, 0, none⟩ (.slice none 0 0) (.int .i64 1) rfl rfl ?_ ?_, rfl, (((Ext.refl w).alloc _).alloc _).alloc _⟩
  · simp [go_sem]
  · simp [go_sem]
set_option maxRecDepth 100000 in
theorem hcopy_nil (w : World) : Calls Try.prog 54 #[.pointer none] w fun e w' => e = .returned (.pointer none) ∧ w = w' := by
  go_enter Try.func54, Try.ntmps54
  go_wp2_with (go_at_call 99; refine (hnone_nil _).mono ?_; rintro e w1 ⟨rfl, rfl⟩)
  go_ret
  exact ⟨rfl, rfl⟩
set_option maxRecDepth 100000 in
theorem hidle_nil (w : World) : Calls Try.prog 53 #[.pointer none] w fun e w' => e = .returned (.bool false) ∧ Ext w w' := by
  go_enter Try.func53, Try.ntmps53
  go_wp2_with (go_at_call 99; refine (hnone_nil _).mono ?_; rintro e w1 ⟨rfl, rfl⟩)
  (try simp only [Exit.inBlock, Exit.then])
  refine bodyPost_ret (resC rfl _ _ ⟨w.heap.size, 0, none⟩ (.bool false) rfl ?_) rfl ⟨rfl, (Ext.refl w).alloc _⟩
  simp [go_sem]
end Go.Proofs
