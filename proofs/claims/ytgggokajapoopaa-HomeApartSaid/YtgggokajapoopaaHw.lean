/- Texts in one: Hw, Hg. -/
import Derived.Test.YtgggokajapoopaaHs
import Derived.Test.YtgggokajapoopaaHb
import Derived.BigRegion
/- The home's work, walked: write, put, gets, getm. -/
namespace Go
open Go.RowKit Go.Proofs
def WkS.send (k : WkS) (kind to : Int) (y : Bool) : WkS := { k with out := k.out ++ [k.msg kind to y] }
def WkS.write (k : WkS) : WkS :=
  let k2 := ({ k with e := k.e.own k.e.asks } : WkS).send 10 k.e.asks true
  { k2 with e := { k2.e with told := true } }
def WkS.put (k : WkS) (m : Ms) : WkS :=
  (if k.e.owner = m.frm then { k with mem := k.mem.set k.line m.b, e := { k.e with owner := -1 } } else k).send 7 m.frm false
def WkS.busied (k : WkS) (m : Ms) (waits : Int) (told : Bool) : WkS := { k with e := k.e.busied m waits told }
def En.setShare (e : En) (i : Int) (b : Bool) : En :=
  if i = 0 then { e with s0 := b } else if i = 1 then { e with s1 := b } else if i = 2 then { e with s2 := b } else { e with s3 := b }
section
variable {w : World} {wb eb hb ib bb : Nat} {k : WkS} {vo vq vm : Value} {ol oq : Option Nat}
theorem StepW.ofE {e' : En} {w' : World} (h : WkAt w' wb eb hb ib bb { k with e := e' } vo vq vm ol oq) (hc : Chg (WkF wb eb bb ol) w w') : StepW w wb eb hb ib bb { k with e := e' } vm ol oq w' :=
  ⟨vo, vq, ol, oq, h, hc, .inl rfl, .inl rfl⟩
theorem StepW.refl (h : WkAt w wb eb hb ib bb k vo vq vm ol oq) : StepW w wb eb hb ib bb k vm ol oq w := ⟨vo, vq, ol, oq, h, Chg.refl _ _, .inl rfl, .inl rfl⟩
/-- One step behind another. -/
theorem StepW.next {w1 w2 : World} {k2 : WkS} {ol1 oq1 : Option Nat} (hc : Chg (WkF wb eb bb ol) w w1) (ho : ol1 = ol ∨ ∃ g, ol1 = some g ∧ w.heap.size ≤ g) (hq : oq1 = oq ∨ oq1 = none) (h2 : StepW w1 wb eb hb ib bb k2 vm ol1 oq1 w2) : StepW w wb eb hb ib bb k2 vm ol oq w2 := by
  obtain ⟨vo2, vq2, ol2, oq2, h, c2, o2, q2⟩ := h2
  have hs := hc.size
  refine ⟨vo2, vq2, ol2, oq2, h, hc.trans c2 (WkF.sub ho), ?_, ?_⟩
  · rcases o2 with rfl | ⟨g, hg, hle⟩
    · exact ho
    · exact .inr ⟨g, hg, by omega⟩
  · rcases q2 with rfl | rfl
    · exact hq
    · exact .inr rfl
/-- Memory that is only made. -/
theorem StepW.before {w1 w2 : World} {k2 : WkS} (hE : Ext w w1) (h2 : StepW w1 wb eb hb ib bb k2 vm ol oq w2) : StepW w wb eb hb ib bb k2 vm ol oq w2 :=
  StepW.next (hE.chg _) (.inl rfl) (.inl rfl) h2
/-- All that is read. -/
theorem WkAt.all (h : WkAt w wb eb hb ib bb k vo vq vm ol oq) :
    w.cell? ⟨wb, 1, none⟩ = some (.pointer (some ⟨eb, 0, none⟩)) ∧ w.cell? ⟨wb, 2, none⟩ = some (.pointer (some ⟨hb, 0, none⟩)) ∧ w.cell? ⟨wb, 3, none⟩ = some (.int .u32 k.line) ∧ w.cell? ⟨hb, 0, none⟩ = some (.pointer (some ⟨ib, 0, none⟩)) ∧
    w.cell? ⟨eb, 0, none⟩ = some (.int .i64 k.e.owner) ∧ w.cell? ⟨eb, 5, none⟩ = some (.bool k.e.busy) ∧ w.cell? ⟨eb, 6, none⟩ = some (.int .i64 k.e.asks) ∧ w.cell? ⟨eb, 7, none⟩ = some (.int .i64 k.e.kind) ∧ w.cell? ⟨eb, 8, none⟩ = some (.int .i64 k.e.waits) ∧ w.cell? ⟨eb, 9, none⟩ = some (.bool k.e.told) ∧ w.cell? ⟨eb, 10, none⟩ = some vq := by
  obtain ⟨f1, f2, f3, f4⟩ := h.facts
  exact ⟨f1, f2, f3, f4, (h.cell 0).trans rfl, (h.cell 5).trans rfl, (h.cell 6).trans rfl, (h.cell 7).trans rfl, (h.cell 8).trans rfl, (h.cell 9).trans rfl, (h.cell 10).trans rfl⟩
/-- One cell of the entry is put anew. -/
theorem WkAt.put1 (h : WkAt w wb eb hb ib bb k vo vq vm ol oq) (j : Nat) (v : Value) (e : En) (hc : (k.e.cells vq).setIfInBounds j v = e.cells vq) (hq : e.q = k.e.q) :
    WkAt (w.setCell ⟨eb, j, none⟩ v) wb eb hb ib bb { k with e := e } vo vq vm ol oq ∧ Chg (WkF wb eb bb ol) w (w.setCell ⟨eb, j, none⟩ v) := by
  have h1 := heap_setCell_same _ eb j _ 84 v h.hE
  rw [hc] at h1
  exact h.entry hq (fun b hb => heap_setCell_other _ _ _ _ hb) ⟨rfl, rfl, rfl, by simp [World.setCell]⟩ h1
/-- The line's bytes are put anew. -/
theorem WkAt.wrote {w' : World} {x : B16} (h : WkAt w wb eb hb ib bb k vo vq vm ol oq) (hi : ImgAt w' (.pointer (some ⟨ib, 0, none⟩)) (k.mem.set k.line x) ib bb) (hc : Chg (fun b => b = bb) w w') :
    WkAt w' wb eb hb ib bb { k with mem := k.mem.set k.line x } vo vq vm ol oq ∧ Chg (WkF wb eb bb ol) w w' := by
  obtain ⟨l1, l2, l3, l4, l5⟩ := h.lt
  obtain ⟨m1, m2, m3, m4, m5, m6, m7, m8, m9⟩ := h.n1
  have hk : ∀ b, b < w.heap.size → b ≠ bb → w'.heap[b]? = w.heap[b]? := fun b h1 h2 => hc.block b h1 h2
  refine ⟨⟨(hk _ l1 m4).trans h.hW, h.out.keep fun b hb => hk b ?_ (h.n2 b hb).2.2.2.2.1, (hk _ l2 m7).trans h.hE, h.q.keep fun b hb => hk b (h.q.lt hb) (h.n3 b hb).2.2.2.2, (hk _ l3 m9).trans h.hH, hi, ?_, h.n1, h.n2, h.n3⟩, (Chg.refl _ _).trans hc fun _ _ h => .inr (.inr (.inl h))⟩
  · exact h.out.lt hb
  · rw [List.length_set]; exact h.line
end
end Go
namespace Go.Proofs
open Go.RowKit
variable {w : World} {wb eb hb ib bb : Nat} {k : WkS} {vo vq vm : Value} {ol oq : Option Nat}
theorem send_any (kind to : Int) (y : Bool) (h : WkAt w wb eb hb ib bb k vo vq vm ol oq) (hol : k.out.length ≤ 1000) :
    Calls Try.prog 147 #[.pointer (some ⟨wb, 0, none⟩), .int .i64 kind, .int .i64 to, .bool y] w fun e w' => e = .returned (.tuple #[]) ∧ StepW w wb eb hb ib bb (k.send kind to y) vm ol oq w' := by
  cases y
  · exact send_plain kind to h hol
  · exact send_bytes kind to h hol
set_option maxRecDepth 100000 in
set_option maxHeartbeats 400000 in
theorem write_any (h : WkAt w wb eb hb ib bb k vo vq vm ol oq) (hol : k.out.length ≤ 1000) :
    Calls Try.prog 145 #[.pointer (some ⟨wb, 0, none⟩)] w fun e w' => e = .returned (.tuple #[]) ∧ StepW w wb eb hb ib bb k.write vm ol oq w' := by
  obtain ⟨f1, -, -, -, -, -, c6, -⟩ := h.all
  have H := Lib.hid h
  clear h
  go_enter Try.func145, Try.ntmps145
  go_wp2_with (first
    | (go_at_call 146; refine (own_any _ H.out).mono ?_; rintro e w1 ⟨rfl, h1, hc1⟩; clear f1 c6; obtain ⟨f1, -, -, -, -, -, c6, -⟩ := h1.all; have H1 := Lib.hid h1; clear h1)
    | (go_at_call 147; refine (send_any _ _ true H1.out hol).mono ?_; rintro e w2 ⟨rfl, vo2, vq2, ol2, oq2, h2, hc2, ho2, hq2⟩; clear f1 c6; obtain ⟨f1, -⟩ := h2.all; have c9 : w2.cell? ⟨eb, 9, none⟩ = _ := h2.all.2.2.2.2.2.2.2.2.2.1; have g9 := h2.fr 9; have H2 := Lib.hid h2; clear h2))
  go_end0
  obtain ⟨h3, hc3⟩ := H2.out.put1 9 (.bool true) { (({ k with e := k.e.own k.e.asks } : WkS).send 10 k.e.asks true).e with told := true } rfl rfl
  exact ⟨rfl, StepW.next hc1 (.inl rfl) (.inl rfl) (StepW.next hc2 ho2 hq2 (StepW.ofE h3 hc3))⟩
end Go.Proofs
/- The home's work, walked: gets. -/
namespace Go
open Go.RowKit Go.Proofs
def WkS.left (k : WkS) (m : Ms) : WkS := { k with e := k.e.leave m.frm }
def WkS.gets (k : WkS) (m : Ms) : WkS :=
  if 0 ≤ (k.left m).e.owner then ((k.left m).send 4 (k.left m).e.owner false).busied m 1 false
  else if 0 < ((k.left m).e.others m.frm).length then (({ k.left m with e := (k.left m).e.setShare m.frm true } : WkS).send 8 m.frm true).busied m 0 true
  else (({ k.left m with e := (k.left m).e.own m.frm } : WkS).send 9 m.frm true).busied m 0 true
/-- Between two steps upon a message that lies boxed at A. -/
structure Mid (w W : World) (wb eb hb ib bb A : Nat) (m : Ms) (k : WkS) (vo vq vm : Value) (ol oq ol' oq' : Option Nat) : Prop where
  at' : WkAt W wb eb hb ib bb k vo vq vm ol' oq'
  chg : Chg (WkF wb eb bb ol) w W
  o : ol' = ol ∨ ∃ g, ol' = some g ∧ w.heap.size ≤ g
  q : oq' = oq ∨ oq' = none
  box : MsBox W A m
  ap : A ≠ wb ∧ A ≠ eb ∧ A ≠ bb ∧ ol' ≠ some A
section
variable {w W W' : World} {wb eb hb ib bb A : Nat} {m : Ms} {k k' : WkS} {vo vq vm : Value} {ol oq ol' oq' : Option Nat}
theorem Mid.start (h : WkAt w wb eb hb ib bb k vo vq vm ol oq) (m : Ms) : Mid w (w.alloc (.cells m.cells 79)) wb eb hb ib bb w.heap.size m k vo vq vm ol oq ol oq := by
  obtain ⟨l1, l2, l3, l4, l5⟩ := h.lt
  exact ⟨h.ext ((Ext.refl w).alloc _), ((Ext.refl w).alloc _).chg _, .inl rfl, .inl rfl, MsBox.start w m, by omega, by omega, by omega, fun e => by have := h.out.lt e; omega⟩
theorem Mid.ext (h : Mid w W wb eb hb ib bb A m k vo vq vm ol oq ol' oq') (hE : Ext W W') : Mid w W' wb eb hb ib bb A m k vo vq vm ol oq ol' oq' :=
  ⟨h.at'.ext hE, h.chg.ext hE, h.o, h.q, h.box.ext hE, h.ap⟩
theorem Mid.next {vo2 vq2 : Value} {ol2 oq2 : Option Nat} (h : Mid w W wb eb hb ib bb A m k vo vq vm ol oq ol' oq') (h2 : WkAt W' wb eb hb ib bb k' vo2 vq2 vm ol2 oq2) (hc : Chg (WkF wb eb bb ol') W W')
    (ho : ol2 = ol' ∨ ∃ g, ol2 = some g ∧ W.heap.size ≤ g) (hq : oq2 = oq' ∨ oq2 = none) : Mid w W' wb eb hb ib bb A m k' vo2 vq2 vm ol oq ol2 oq2 := by
  have hs := h.chg.size
  have hA := h.box.lt
  obtain ⟨a1, a2, a3, a4⟩ := h.ap
  refine ⟨h2, h.chg.trans hc (WkF.sub h.o), ?_, ?_, h.box.keep (hc.block _ hA ?_), a1, a2, a3, ?_⟩
  · rcases ho with rfl | ⟨g, hg, hle⟩
    · exact h.o
    · exact .inr ⟨g, hg, by omega⟩
  · rcases hq with rfl | rfl
    · exact h.q
    · exact .inr rfl
  · rintro (h1 | h1 | h1 | h1)
    · exact a1 h1
    · exact a2 h1
    · exact a3 h1
    · exact a4 h1
  · rcases ho with rfl | ⟨g, hg, hle⟩
    · exact a4
    · rw [hg]; intro e; cases e; omega
theorem Mid.stepW (h : Mid w W wb eb hb ib bb A m k vo vq vm ol oq ol' oq') (s : StepW W wb eb hb ib bb k' vm ol' oq' W') : ∃ vo2 vq2 ol2 oq2, Mid w W' wb eb hb ib bb A m k' vo2 vq2 vm ol oq ol2 oq2 := by
  obtain ⟨vo2, vq2, ol2, oq2, h2, hc, ho, hq⟩ := s
  exact ⟨vo2, vq2, ol2, oq2, h.next h2 hc ho hq⟩
theorem Mid.stepE {e' : En} (h : Mid w W wb eb hb ib bb A m k vo vq vm ol oq ol' oq') (h2 : WkAt W' wb eb hb ib bb { k with e := e' } vo vq vm ol' oq') (hc : Chg (WkF wb eb bb ol') W W') : ∃ vo2 vq2 ol2 oq2, Mid w W' wb eb hb ib bb A m { k with e := e' } vo2 vq2 vm ol oq ol2 oq2 :=
  h.stepW (StepW.ofE h2 hc)
theorem Mid.done (h : Mid w W wb eb hb ib bb A m k vo vq vm ol oq ol' oq') : StepW w wb eb hb ib bb k vm ol oq W := ⟨vo, vq, ol', oq', h.at', h.chg, h.o, h.q⟩
end
end Go
namespace Go.Proofs
open Go.RowKit
variable {w : World} {wb eb hb ib bb : Nat} {k : WkS} {vo vq vm : Value} {ol oq : Option Nat}
set_option maxRecDepth 100000 in
set_option maxHeartbeats 400000 in
theorem gets_owned (m : Ms) (h : WkAt w wb eb hb ib bb k vo vq vm ol oq) (hol : k.out.length ≤ 1000) (ho : 0 ≤ (k.left m).e.owner) :
    Calls Try.prog 156 #[.pointer (some ⟨wb, 0, none⟩), .agg m.cells] w fun e w' => e = .returned (.tuple #[]) ∧ StepW w wb eb hb ib bb (k.gets m) vm ol oq w' := by
  have hG : k.gets m = ((k.left m).send 4 (k.left m).e.owner false).busied m 1 false := by unfold WkS.gets; rw [if_pos ho]
  have hm := Mid.start h m
  obtain ⟨bk, bf, bt, bl, bb', ba, blt⟩ := hm.box
  rw [hG]
  have M0 := Lib.hid hm
  have ho' : (0 ≤ (k.e.leave m.frm).owner) = True := eq_true ho
  clear hG h hm ho
  go_enter Try.func156, Try.ntmps156
  go_wp2_with (first
    | (go_at_call 162; refine (leave_any _ M0.out.at').mono ?_; rintro e w1 ⟨rfl, h1, hc1⟩; obtain ⟨vo1, vq1, ol1, oq1, hm⟩ := M0.out.stepE h1 hc1; clear h1 hc1 bk bf bt bl bb' ba blt; obtain ⟨bk, bf, bt, bl, bb', ba, blt⟩ := hm.box; obtain ⟨f1, -, -, -, c0, -⟩ := hm.at'.all; have M1 := Lib.hid hm; clear hm)
    | (go_at_call 147; refine (send_any _ _ false M1.out.at' hol).mono ?_; rintro e w2 ⟨rfl, s2⟩; obtain ⟨vo2, vq2, ol2, oq2, hm⟩ := M1.out.stepW s2; clear s2 bk bf bt bl bb' ba blt f1 c0; obtain ⟨bk, bf, bt, bl, bb', ba, blt⟩ := hm.box; have M2 := Lib.hid hm; clear hm)
    | (go_at_call 163; refine (busy_any m _ _ M2.out.at').mono ?_; rintro e w3 ⟨rfl, h3, hc3⟩; obtain ⟨vo3, vq3, ol3, oq3, hm⟩ := M2.out.stepE h3 hc3; have M3 := Lib.hid hm; clear hm))
  go_end0
  exact ⟨rfl, M3.out.done⟩
theorem En.setShare_at (e : En) (v : Value) (i : Nat) (hi : i < 4) (b : Bool) : (e.cells v).setIfInBounds (1 + i) (.bool b) = (e.setShare (i : Int) b).cells v := by
  have h : i = 0 ∨ i = 1 ∨ i = 2 ∨ i = 3 := by omega
  rcases h with rfl | rfl | rfl | rfl <;> rfl
theorem En.setShare_q (e : En) (i : Int) (b : Bool) : (e.setShare i b).q = e.q := by
  unfold En.setShare; split <;> (try split) <;> (try split) <;> rfl
theorem _root_.Go.WkAt.shares {w : World} {wb eb hb ib bb : Nat} {k : WkS} {vo vq vm : Value} {ol oq : Option Nat} (h : WkAt w wb eb hb ib bb k vo vq vm ol oq) (i : Nat) (hi : i < 4) : w.cell? ⟨eb, 1 + i, none⟩ = some (.bool (k.e.share i)) := by
  rw [h.cell]
  have h : i = 0 ∨ i = 1 ∨ i = 2 ∨ i = 3 := by omega
  rcases h with rfl | rfl | rfl | rfl <;> rfl
set_option maxRecDepth 100000 in
set_option maxHeartbeats 400000 in
theorem gets_lone (m : Ms) (h : WkAt w wb eb hb ib bb k vo vq vm ol oq) (hol : k.out.length ≤ 1000) (ho : ¬ 0 ≤ (k.left m).e.owner) (hs : ¬ 0 < ((k.left m).e.others m.frm).length) :
    Calls Try.prog 156 #[.pointer (some ⟨wb, 0, none⟩), .agg m.cells] w fun e w' => e = .returned (.tuple #[]) ∧ StepW w wb eb hb ib bb (k.gets m) vm ol oq w' := by
  have hG : k.gets m = (({ k.left m with e := (k.left m).e.own m.frm } : WkS).send 9 m.frm true).busied m 0 true := by unfold WkS.gets; rw [if_neg ho, if_neg hs]
  have hm := Mid.start h m
  obtain ⟨bk, bf, bt, bl, bb', ba, blt⟩ := hm.box
  rw [hG]
  have M0 := Lib.hid hm
  have ho' : (0 ≤ (k.e.leave m.frm).owner) = False := eq_false ho
  have hs' : (0 < ((k.e.leave m.frm).others m.frm).length) = False := eq_false hs
  have HS := Lib.hid hs'
  clear hG h hm ho hs hs'
  go_enter Try.func156, Try.ntmps156
  go_wp2_with (first
    | (go_at_call 162; refine (leave_any _ M0.out.at').mono ?_; rintro e w1 ⟨rfl, h1, hc1⟩; obtain ⟨vo1, vq1, ol1, oq1, hm⟩ := M0.out.stepE h1 hc1; clear h1 hc1 bk bf bt bl bb' ba blt; obtain ⟨bk, bf, bt, bl, bb', ba, blt⟩ := hm.box; obtain ⟨f1, -, -, -, c0, -⟩ := hm.at'.all; have M1 := Lib.hid hm; clear hm)
    | (go_at_call 164; refine (others_any _ M1.out.at').mono ?_; rintro e w2 ⟨v2, o2, rfl, hE2, hs2, -⟩; have hm := M1.out.ext hE2; obtain ⟨a2, cap2, rfl, -⟩ := hs2.row encI_ok; clear hE2 hs2 bk bf bt bl bb' ba blt f1 c0; obtain ⟨bk, bf, bt, bl, bb', ba, blt⟩ := hm.box; have M2 := Lib.hid hm; clear hm; have hs' := HS.out)
    | (go_at_call 146; refine (own_any _ M2.out.at').mono ?_; rintro e w3 ⟨rfl, h3, hc3⟩; obtain ⟨vo3, vq3, ol3, oq3, hm⟩ := M2.out.stepE h3 hc3; clear h3 hc3 bk bf bt bl bb' ba blt; obtain ⟨bk, bf, bt, bl, bb', ba, blt⟩ := hm.box; have M3 := Lib.hid hm; clear hm)
    | (go_at_call 147; refine (send_any _ _ true M3.out.at' hol).mono ?_; rintro e w4 ⟨rfl, s4⟩; obtain ⟨vo4, vq4, ol4, oq4, hm⟩ := M3.out.stepW s4; clear s4 bk bf bt bl bb' ba blt; obtain ⟨bk, bf, bt, bl, bb', ba, blt⟩ := hm.box; have M4 := Lib.hid hm; clear hm)
    | (go_at_call 163; refine (busy_any m _ _ M4.out.at').mono ?_; rintro e w5 ⟨rfl, h5, hc5⟩; obtain ⟨vo5, vq5, ol5, oq5, hm⟩ := M4.out.stepE h5 hc5; have M5 := Lib.hid hm; clear hm))
  go_end0
  exact ⟨rfl, M5.out.done⟩
set_option maxRecDepth 100000 in
set_option maxHeartbeats 400000 in
theorem gets_shared (m : Ms) (h : WkAt w wb eb hb ib bb k vo vq vm ol oq) (hol : k.out.length ≤ 1000) (ho : ¬ 0 ≤ (k.left m).e.owner) (hs : 0 < ((k.left m).e.others m.frm).length) (r : Nat) (hr : m.frm = (r : Int)) (hr4 : r < 4) :
    Calls Try.prog 156 #[.pointer (some ⟨wb, 0, none⟩), .agg m.cells] w fun e w' => e = .returned (.tuple #[]) ∧ StepW w wb eb hb ib bb (k.gets m) vm ol oq w' := by
  have hG : k.gets m = (({ k.left m with e := (k.left m).e.setShare m.frm true } : WkS).send 8 m.frm true).busied m 0 true := by unfold WkS.gets; rw [if_neg ho, if_pos hs]
  have hm := Mid.start h m
  obtain ⟨bk, bf, bt, bl, bb', ba, blt⟩ := hm.box
  rw [hG]
  have M0 := Lib.hid hm
  have ho' : (0 ≤ (k.e.leave m.frm).owner) = False := eq_false ho
  have hs' : (0 < ((k.e.leave m.frm).others m.frm).length) = True := eq_true hs
  have HS := Lib.hid hs'
  have HR := Lib.hid hr
  clear hG h hm ho hs hs' hr
  go_enter Try.func156, Try.ntmps156
  go_wp2_with (first
    | (go_at_call 162; refine (leave_any _ M0.out.at').mono ?_; rintro e w1 ⟨rfl, h1, hc1⟩; obtain ⟨vo1, vq1, ol1, oq1, hm⟩ := M0.out.stepE h1 hc1; clear h1 hc1 bk bf bt bl bb' ba blt; obtain ⟨bk, bf, bt, bl, bb', ba, blt⟩ := hm.box; obtain ⟨f1, -, -, -, c0, -⟩ := hm.at'.all; have M1 := Lib.hid hm; clear hm)
    | (go_at_call 164; refine (others_any _ M1.out.at').mono ?_; rintro e w2 ⟨v2, o2, rfl, hE2, hs2, -⟩; have hm := M1.out.ext hE2; obtain ⟨a2, cap2, rfl, -⟩ := hs2.row encI_ok; clear hE2 hs2 bk bf bt bl bb' ba blt f1 c0; obtain ⟨bk, bf, bt, bl, bb', ba, blt⟩ := hm.box; have M2 := Lib.hid hm; clear hm; have hs' := HS.out))
  clear bk bt bl bb' ba
  obtain ⟨f1, -⟩ := M2.out.at'.all
  have cs := M2.out.at'.shares r hr4
  have gs := M2.out.at'.fr (1 + r)
  have hne : w.heap.size ≠ eb := M2.out.ap.2.1
  rw [HR.out] at bf
  go_region
  obtain ⟨h3, hc3⟩ := M2.out.at'.put1 (1 + r) (.bool true) ((k.e.leave m.frm).setShare m.frm true) (by rw [HR.out]; exact En.setShare_at _ _ _ hr4 _) (En.setShare_q _ _ _)
  obtain ⟨vo3, vq3, ol3, oq3, hm3⟩ := M2.out.stepE h3 hc3
  have hm := hm3.ext (Ext.refl _).drew
  clear h3 hc3 hm3 bf cs gs f1 hne
  generalize (w2.setCell ⟨eb, 1 + r, none⟩ (.bool true)).drew = W3 at *
  obtain ⟨bk, bf, bt, bl, bb', ba, blt⟩ := hm.box
  have M3 := Lib.hid hm
  clear hm
  go_wp2_with (first
    | (go_at_call 147; refine (send_any _ _ true M3.out.at' hol).mono ?_; rintro e w4 ⟨rfl, s4⟩; obtain ⟨vo4, vq4, ol4, oq4, hm⟩ := M3.out.stepW s4; clear s4 bk bf bt bl bb' ba blt; obtain ⟨bk, bf, bt, bl, bb', ba, blt⟩ := hm.box; have M4 := Lib.hid hm; clear hm)
    | (go_at_call 163; refine (busy_any m _ _ M4.out.at').mono ?_; rintro e w5 ⟨rfl, h5, hc5⟩; obtain ⟨vo5, vq5, ol5, oq5, hm⟩ := M4.out.stepE h5 hc5; have M5 := Lib.hid hm; clear hm))
  go_end0
  exact ⟨rfl, M5.out.done⟩
theorem gets_any (m : Ms) (h : WkAt w wb eb hb ib bb k vo vq vm ol oq) (hol : k.out.length ≤ 1000) (hr : 0 ≤ m.frm ∧ m.frm < 4) :
    Calls Try.prog 156 #[.pointer (some ⟨wb, 0, none⟩), .agg m.cells] w fun e w' => e = .returned (.tuple #[]) ∧ StepW w wb eb hb ib bb (k.gets m) vm ol oq w' := by
  by_cases ho : 0 ≤ (k.left m).e.owner
  · exact gets_owned m h hol ho
  · by_cases hs : 0 < ((k.left m).e.others m.frm).length
    · exact gets_shared m h hol ho hs m.frm.toNat (by omega) (by omega)
    · exact gets_lone m h hol ho hs
end Go.Proofs
