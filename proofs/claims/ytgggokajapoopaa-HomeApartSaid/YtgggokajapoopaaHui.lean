import Derived.Test.YtgggokajapoopaaHw
import Derived.Test.YtgggokajapoopaaImb
/- The home's work, walked: put. -/
namespace Go
open Go.Proofs
open Go.RowKit
theorem Mid.wrote {w W W' : World} {wb eb hb ib bb A : Nat} {m : Ms} {k : WkS} {vo vq vm : Value} {ol oq ol' oq' : Option Nat} {x : B16} (h : Mid w W wb eb hb ib bb A m k vo vq vm ol oq ol' oq') (hi : ImgAt W' (.pointer (some ⟨ib, 0, none⟩)) (k.mem.set k.line x) ib bb) (hc : Chg (fun b => b = bb) W W') :
    Mid w W' wb eb hb ib bb A m { k with mem := k.mem.set k.line x } vo vq vm ol oq ol' oq' := by
  obtain ⟨h1, hc1⟩ := h.at'.wrote hi hc
  obtain ⟨a1, a2, a3, a4⟩ := h.ap
  exact ⟨h1, h.chg.trans hc1 (WkF.sub h.o), h.o, h.q, h.box.keep (hc.block _ h.box.lt fun e => a3 e), h.ap⟩
end Go
namespace Go.Proofs
open Go.RowKit
variable {w : World} {wb eb hb ib bb : Nat} {k : WkS} {vo vq vm : Value} {ol oq : Option Nat}
set_option maxRecDepth 100000 in
set_option maxHeartbeats 4000000 in
theorem wput_mine (m : Ms) (h : WkAt w wb eb hb ib bb k vo vq vm ol oq) (hol : k.out.length ≤ 1000) (hq : k.e.owner = m.frm) :
    Calls Try.prog 158 #[.pointer (some ⟨wb, 0, none⟩), .agg m.cells] w fun e w' => e = .returned (.tuple #[]) ∧ StepW w wb eb hb ib bb (k.put m) vm ol oq w' := by
  have hd : (k.e.owner == m.frm) = true := by simp [hq]
  have hm := Mid.start h m
  obtain ⟨bk, bf, bt, bl, bb', ba, blt⟩ := hm.box
  obtain ⟨f1, f2, f3, f4, c0, -⟩ := hm.at'.all
  have hP : k.put m = ({ k with mem := k.mem.set k.line m.b, e := { k.e with owner := -1 } } : WkS).send 7 m.frm false := by unfold WkS.put; rw [if_pos hq]
  rw [hP]
  have M0 := Lib.hid hm
  clear h hm hq hP bk bt bl ba
  go_enter Try.func158, Try.ntmps158
  go_wp2_with fail
  generalize hW0 : w.alloc (.cells m.cells 79) = W0 at *
  go_quiet (fail)
  go_wp2_with fail
  go_region_with (go_at_call 144; refine (imgSet_any _ _ _ _ _ m.b _ (M0.out.at'.img.ext ((Ext.refl W0).drewN _)) M0.out.at'.line).mono ?_; rintro e w1 ⟨rfl, hi1, hc1⟩; have hm := (M0.out.ext ((Ext.refl W0).drewN _)).wrote hi1 hc1; clear hi1 hc1 f1 f2 f3 f4 c0 bf bb'; obtain ⟨f1, -, -, -, c0, -⟩ := hm.at'.all; have g0 := hm.at'.fr 0; have bf := hm.box.f; have hne : w.heap.size ≠ eb := hm.ap.2.1; have M1 := Lib.hid hm; clear hm)
  all_goals
    go_wp2_with (go_at_call 147; (have hm := M1.out.at'.put1 0 (.int .i64 (-1)) { k.e with owner := -1 } rfl rfl); obtain ⟨h2, hc2⟩ := hm; obtain ⟨vo2, vq2, ol2, oq2, hm⟩ := M1.out.stepE h2 hc2; clear h2 hc2; have M2 := Lib.hid hm; refine (send_any _ _ false hm.at' hol).mono ?_; rintro e w3 ⟨rfl, s3⟩; obtain ⟨vo3, vq3, ol3, oq3, hm3⟩ := M2.out.stepW s3; clear hm s3; have M3 := Lib.hid hm3; clear hm3)
    go_end0
    exact ⟨rfl, M3.out.done⟩
set_option maxRecDepth 100000 in
set_option maxHeartbeats 400000 in
theorem wput_else (m : Ms) (h : WkAt w wb eb hb ib bb k vo vq vm ol oq) (hol : k.out.length ≤ 1000) (hq : k.e.owner ≠ m.frm) :
    Calls Try.prog 158 #[.pointer (some ⟨wb, 0, none⟩), .agg m.cells] w fun e w' => e = .returned (.tuple #[]) ∧ StepW w wb eb hb ib bb (k.put m) vm ol oq w' := by
  have hd : (k.e.owner == m.frm) = false := by simp [hq]
  have hm := Mid.start h m
  obtain ⟨bk, bf, bt, bl, bb', ba, blt⟩ := hm.box
  obtain ⟨f1, f2, f3, f4, c0, -⟩ := hm.at'.all
  have hP : k.put m = k.send 7 m.frm false := by unfold WkS.put; rw [if_neg hq]
  rw [hP]
  have M0 := Lib.hid hm
  clear h hm hq hP bk bt bl ba
  go_enter Try.func158, Try.ntmps158
  go_wp2_with fail
  generalize hW0 : w.alloc (.cells m.cells 79) = W0 at *
  go_quiet (fail)
  go_wp2_with (go_at_call 147; (have hm := M0.out.ext ((Ext.refl W0).drewN nq)); refine (send_any _ _ false hm.at' hol).mono ?_; rintro e w3 ⟨rfl, s3⟩; obtain ⟨vo3, vq3, ol3, oq3, hm3⟩ := hm.stepW s3; clear hm s3; have M3 := Lib.hid hm3; clear hm3)
  go_end0
  exact ⟨rfl, M3.out.done⟩
end Go.Proofs
/- Texts in one: Ht, Hi. -/
/- The home's work, walked: getm. -/
namespace Go
open Go.RowKit Go.Proofs
def WkS.drops (k : WkS) (l : List Int) : WkS := { k with out := k.out ++ l.map fun n => k.msg 6 n false }
theorem WkS.drops_nil (k : WkS) : k.drops [] = k := by simp [WkS.drops]
theorem WkS.drops_snoc (k : WkS) (l : List Int) (n : Int) : (k.drops l).send 6 n false = k.drops (l ++ [n]) := by
  unfold WkS.drops WkS.send
  simp [WkS.msg]
def WkS.getm (k : WkS) (m : Ms) : WkS :=
  if 0 ≤ (k.left m).e.owner then ((k.left m).send 5 (k.left m).e.owner false).busied m 1 false
  else if ((k.left m).e.others m.frm).length = 0 then (((k.left m).drops ((k.left m).e.others m.frm)).busied m ((k.left m).e.others m.frm).length false).write
  else ((k.left m).drops ((k.left m).e.others m.frm)).busied m ((k.left m).e.others m.frm).length false
theorem En.others_le (e : En) (r : Int) : (e.others r).length ≤ 4 := e.othersTo_len r 4
end Go
namespace Go.Proofs
open Go.RowKit
variable {w : World} {wb eb hb ib bb : Nat} {k : WkS} {vo vq vm : Value} {ol oq : Option Nat}
set_option maxRecDepth 100000 in
set_option maxHeartbeats 400000 in
theorem getm_owned (m : Ms) (h : WkAt w wb eb hb ib bb k vo vq vm ol oq) (hol : k.out.length ≤ 900) (ho : 0 ≤ (k.left m).e.owner) :
    Calls Try.prog 157 #[.pointer (some ⟨wb, 0, none⟩), .agg m.cells] w fun e w' => e = .returned (.tuple #[]) ∧ StepW w wb eb hb ib bb (k.getm m) vm ol oq w' := by
  have hG : k.getm m = ((k.left m).send 5 (k.left m).e.owner false).busied m 1 false := by unfold WkS.getm; rw [if_pos ho]
  have hm := Mid.start h m
  obtain ⟨bk, bf, bt, bl, bb', ba, blt⟩ := hm.box
  rw [hG]
  have M0 := Lib.hid hm
  have ho' : (0 ≤ (k.e.leave m.frm).owner) = True := eq_true ho
  have hol' : k.out.length ≤ 1000 := by omega
  clear hG h hm ho hol
  go_enter Try.func157, Try.ntmps157
  go_wp2_with (first
    | (go_at_call 162; refine (leave_any _ M0.out.at').mono ?_; rintro e w1 ⟨rfl, h1, hc1⟩; obtain ⟨vo1, vq1, ol1, oq1, hm⟩ := M0.out.stepE h1 hc1; clear h1 hc1 bk bf bt bl bb' ba blt; obtain ⟨bk, bf, bt, bl, bb', ba, blt⟩ := hm.box; obtain ⟨f1, -, -, -, c0, -⟩ := hm.at'.all; have M1 := Lib.hid hm; clear hm)
    | (go_at_call 147; refine (send_any _ _ false M1.out.at' hol').mono ?_; rintro e w2 ⟨rfl, s2⟩; obtain ⟨vo2, vq2, ol2, oq2, hm⟩ := M1.out.stepW s2; clear s2 bk bf bt bl bb' ba blt f1 c0; obtain ⟨bk, bf, bt, bl, bb', ba, blt⟩ := hm.box; have M2 := Lib.hid hm; clear hm)
    | (go_at_call 163; refine (busy_any m _ _ M2.out.at').mono ?_; rintro e w3 ⟨rfl, h3, hc3⟩; obtain ⟨vo3, vq3, ol3, oq3, hm⟩ := M2.out.stepE h3 hc3; have M3 := Lib.hid hm; clear hm))
  (try simp only [Exit.inBlock, Exit.then])
  refine bodyPost_ret (results_none rfl _ _ _) rfl ?_
  exact ⟨rfl, M3.out.done⟩
set_option maxRecDepth 100000 in
set_option maxHeartbeats 400000 in
theorem getm_free (m : Ms) (h : WkAt w wb eb hb ib bb k vo vq vm ol oq) (hol : k.out.length ≤ 900) (ho : ¬ 0 ≤ (k.left m).e.owner) :
    Calls Try.prog 157 #[.pointer (some ⟨wb, 0, none⟩), .agg m.cells] w fun e w' => e = .returned (.tuple #[]) ∧ StepW w wb eb hb ib bb (k.getm m) vm ol oq w' := by
  have hm := Mid.start h m
  obtain ⟨bk, bf, bt, bl, bb', ba, blt⟩ := hm.box
  have HG : Hid (k.getm m = if ((k.left m).e.others m.frm).length = 0 then (((k.left m).drops ((k.left m).e.others m.frm)).busied m ((k.left m).e.others m.frm).length false).write
    else ((k.left m).drops ((k.left m).e.others m.frm)).busied m ((k.left m).e.others m.frm).length false) := by unfold Hid WkS.getm; rw [if_neg ho]
  have M0 := Lib.hid hm
  have ho' : (0 ≤ (k.e.leave m.frm).owner) = False := eq_false ho
  clear h hm ho
  go_enter Try.func157, Try.ntmps157
  go_wp2_with (first
    | (go_at_call 162; refine (leave_any _ M0.out.at').mono ?_; rintro e w1 ⟨rfl, h1, hc1⟩; obtain ⟨vo1, vq1, ol1, oq1, hm⟩ := M0.out.stepE h1 hc1; clear h1 hc1 bk bf bt bl bb' ba blt; obtain ⟨bk, bf, bt, bl, bb', ba, blt⟩ := hm.box; obtain ⟨f1, -, -, -, c0, -⟩ := hm.at'.all; have M1 := Lib.hid hm; clear hm)
    | (go_at_call 164; refine (others_any _ M1.out.at').mono ?_; rintro e w2 ⟨v2, o2, rfl, hE2, hs2, hfr⟩; have hm := M1.out.ext hE2; obtain ⟨a2, cap2, rfl, -⟩ := hs2.row encI_ok; have HF : Hid (∀ g, o2 = some g → w1.heap.size ≤ g) := hfr; clear hE2 bk bf bt bl bb' ba blt f1 c0 hfr; obtain ⟨bk, bf, bt, bl, bb', ba, blt⟩ := hm.box; have M2 := Lib.hid hm; have HS := Lib.hid hs2; clear hm hs2))
  go_loopw [6, 37] (fun _ i wr => ∃ j : Nat, j ≤ ((k.e.leave m.frm).others m.frm).length ∧ i = .int .i64 j ∧ ∃ vo' vq' ol' oq', Mid w wr wb eb hb ib bb w.heap.size m ((k.left m).drops (((k.e.leave m.frm).others m.frm).take j)) vo' vq' vm ol oq ol' oq' ∧ SlAt 3 1 encI wr (.slice a2 ((k.e.leave m.frm).others m.frm).length cap2) ((k.e.leave m.frm).others m.frm) o2 ∧ ∀ g, o2 = some g → g ≠ wb ∧ g ≠ eb ∧ g ≠ bb ∧ ol' ≠ some g) (fun _ i _ => ((k.e.leave m.frm).others m.frm).length - (intOf i).toNat)
  case atStart =>
    refine ⟨0, Nat.zero_le _, rfl, vo1, vq1, ol1, oq1, by rw [List.take_zero, WkS.drops_nil]; exact M2.out, HS.out, fun g hg => ?_⟩
    have hl := M1.out.at'.lt
    have hg' := HF.out g hg
    refine ⟨by omega, by omega, by omega, fun e => ?_⟩
    have := M1.out.at'.out.lt e
    omega
  case round =>
    obtain ⟨j, hj, rfl, vo3, vq3, ol3, oq3, hm, hs3, hg3⟩ := hrel
    obtain ⟨ck, cf, ct, cl, cb, ca, clt⟩ := hm.box
    have hle4 := (k.e.leave m.frm).others_le m.frm
    by_cases hlt : j < ((k.e.leave m.frm).others m.frm).length
    · obtain ⟨x, hx⟩ : ∃ x, ((k.e.leave m.frm).others m.frm)[j]? = some x := ⟨_, List.getElem?_eq_getElem hlt⟩
      obtain ⟨aa, cc, eq, hrow⟩ := hs3.row encI_ok
      cases eq
      obtain ⟨b, off, rfl, hcell⟩ := hrow.cell hx (j := 0) (by omega)
      have hc0 : wr.cell? ⟨b, off + j, none⟩ = some (.int .i64 x) := by
        rw [Nat.mul_one, Nat.add_zero] at hcell
        exact hcell
      have hji : (j : Int) < (((k.e.leave m.frm).others m.frm).length : Int) := by omega
      have HTK : Hid (((k.e.leave m.frm).others m.frm).take (j + 1) = ((k.e.leave m.frm).others m.frm).take j ++ [x]) := by
        unfold Hid; rw [List.take_add_one, hx]; rfl
      have hout : ((k.left m).drops (((k.e.leave m.frm).others m.frm).take j)).out.length ≤ 1000 := by
        show (k.out ++ _).length ≤ 1000
        simp; omega
      have M3 := Lib.hid hm
      have HS3 := Lib.hid hs3
      have HG3 := Lib.hid hg3
      clear hx hrow hcell hm hs3 hg3 bk bf bt bl bb' ba
      go_wp2_with (go_at_call 147; refine (send_any _ _ false M3.out.at' hout).mono ?_; rintro e w4 ⟨rfl, vo4, vq4, ol4, oq4, h4, hc4, ho4, hq4⟩)
      go_roundw
      case rel =>
        have hm5 := M3.out.next h4 hc4 ho4 hq4
        refine ⟨j + 1, by omega, by go_num, vo4, vq4, ol4, oq4, ?_, ?_, ?_⟩
        · rw [HTK.out, ← WkS.drops_snoc]; exact hm5
        · refine HS3.out.keep fun b' hb' => hc4.block _ (HS3.out.lt hb') ?_
          obtain ⟨g1, g2, g3, g4⟩ := HG3.out b' hb'
          rintro (h | h | h | h)
          · exact g1 h
          · exact g2 h
          · exact g3 h
          · exact g4 h
        · intro g hg
          obtain ⟨g1, g2, g3, g4⟩ := HG3.out g hg
          have hgl := HS3.out.lt hg
          refine ⟨g1, g2, g3, ?_⟩
          rcases ho4 with rfl | ⟨g', hg', hle⟩
          · exact g4
          · rw [hg']; intro e; cases e; omega
      case measure => simp [intOf]; omega
    · have hjj : j = ((k.e.leave m.frm).others m.frm).length := by omega
      subst hjj
      rw [List.take_length] at hm
      have M3 := Lib.hid hm
      clear hm hs3 hg3 bk bf bt bl bb' ba
      by_cases hz : ((k.e.leave m.frm).others m.frm).length = 0
      · have hzi : (((((k.e.leave m.frm).others m.frm).length : Nat) : Int) == 0) = true := by simp [hz]
        have HP : Hid (k.getm m = (((k.left m).drops ((k.left m).e.others m.frm)).busied m ((k.left m).e.others m.frm).length false).write) := by
          unfold Hid; rw [HG.out]; exact if_pos hz
        have hout : ((k.left m).drops ((k.e.leave m.frm).others m.frm)).out.length ≤ 1000 := by
          show (k.out ++ _).length ≤ 1000
          simp; omega
        clear hz HG
        go_wp2_with (first
          | (go_at_call 163; refine (busy_any m _ _ M3.out.at').mono ?_; rintro e w5 ⟨rfl, h5, hc5⟩; obtain ⟨vo5, vq5, ol5, oq5, hm⟩ := M3.out.stepE h5 hc5; have M5 := Lib.hid hm; clear hm)
          | (go_at_call 145; refine (write_any M5.out.at' hout).mono ?_; rintro e w6 ⟨rfl, s6⟩; obtain ⟨vo6, vq6, ol6, oq6, hm⟩ := M5.out.stepW s6; have M6 := Lib.hid hm; clear hm))
        go_end0
        rw [HP.out]
        exact ⟨rfl, M6.out.done⟩
      · have hzi : (((((k.e.leave m.frm).others m.frm).length : Nat) : Int) == 0) = false := by rw [beq_eq_false_iff_ne]; omega
        have HP : Hid (k.getm m = ((k.left m).drops ((k.left m).e.others m.frm)).busied m ((k.left m).e.others m.frm).length false) := by
          unfold Hid; rw [HG.out]; exact if_neg hz
        clear hz HG
        go_wp2_with (first
          | (go_at_call 163; refine (busy_any m _ _ M3.out.at').mono ?_; rintro e w5 ⟨rfl, h5, hc5⟩; obtain ⟨vo5, vq5, ol5, oq5, hm⟩ := M3.out.stepE h5 hc5; have M5 := Lib.hid hm; clear hm))
        go_end0
        rw [HP.out]
        exact ⟨rfl, M5.out.done⟩
theorem getm_any (m : Ms) (h : WkAt w wb eb hb ib bb k vo vq vm ol oq) (hol : k.out.length ≤ 900) :
    Calls Try.prog 157 #[.pointer (some ⟨wb, 0, none⟩), .agg m.cells] w fun e w' => e = .returned (.tuple #[]) ∧ StepW w wb eb hb ib bb (k.getm m) vm ol oq w' := by
  by_cases ho : 0 ≤ (k.left m).e.owner
  · exact getm_owned m h hol ho
  · exact getm_free m h hol ho
end Go.Proofs
/- The home's work, walked: begin. -/
namespace Go
open Go.RowKit Go.Proofs
def WkS.begun (k : WkS) (m : Ms) : WkS := if m.kind = 1 then k.gets m else if m.kind = 2 then k.getm m else k.put m
/-- A request of a cache. -/
def Ms.asking (m : Ms) : Prop := (m.kind = 1 ∨ m.kind = 2 ∨ m.kind = 3) ∧ 0 ≤ m.frm ∧ m.frm < 4
end Go
namespace Go.Proofs
open Go.RowKit
variable {w : World} {wb eb hb ib bb : Nat} {k : WkS} {vo vq vm : Value} {ol oq : Option Nat}
theorem wput_any (m : Ms) (h : WkAt w wb eb hb ib bb k vo vq vm ol oq) (hol : k.out.length ≤ 1000) :
    Calls Try.prog 158 #[.pointer (some ⟨wb, 0, none⟩), .agg m.cells] w fun e w' => e = .returned (.tuple #[]) ∧ StepW w wb eb hb ib bb (k.put m) vm ol oq w' := by
  by_cases hq : k.e.owner = m.frm
  · exact wput_mine m h hol hq
  · exact wput_else m h hol hq
theorem mid_map {W0 : World} {A : Nat} {m : Ms} {ol' oq' : Option Nat} (h : Mid w W0 wb eb hb ib bb A m k vo vq vm ol oq ol' oq') (a b c : Value) (hs : W0.heap.size = A + 1) :
    Mid w ((((W0.alloc (.map #[] 0)).mapPut (A + 1) .i64 1 a).mapPut (A + 1) .i64 2 b).mapPut (A + 1) .i64 3 c) wb eb hb ib bb A m k vo vq vm ol oq ol' oq' := by
  refine h.ext ?_
  refine Ext.mapPut (Ext.mapPut (Ext.mapPut ((Ext.refl _).alloc _) _ _ _ _ ?_) _ _ _ _ ?_) _ _ _ _ ?_ <;> omega
set_option maxRecDepth 100000 in
set_option maxHeartbeats 400000 in
theorem begin1 (m : Ms) (h : WkAt w wb eb hb ib bb k vo vq vm ol oq) (hol : k.out.length ≤ 900) (hk : m.kind = 1) (hr : 0 ≤ m.frm ∧ m.frm < 4) :
    Calls Try.prog 142 #[.pointer (some ⟨wb, 0, none⟩), .agg m.cells] w fun e w' => e = .returned (.tuple #[]) ∧ StepW w wb eb hb ib bb (k.begun m) vm ol oq w' := by
  have hG : k.begun m = k.gets m := by unfold WkS.begun; rw [if_pos hk]
  rw [hG]
  have hm := Mid.start h m
  have hol' : k.out.length ≤ 1000 := by omega
  obtain ⟨bk, bf, bt, bl, bb', ba, blt⟩ := hm.box
  have M0 := Lib.hid hm
  rw [hk] at bk
  clear h hm hG
  have hmm := @run_makeMap Try.prog
  go_enter Try.func142, Try.ntmps142
  go_wp2_with (go_at_call 156; have M1 := Lib.hid (mid_map M0.out (.func (.func 156) #[.pointer (some ⟨wb, 0, none⟩)] #[]) (.func (.func 157) #[.pointer (some ⟨wb, 0, none⟩)] #[]) (.func (.func 158) #[.pointer (some ⟨wb, 0, none⟩)] #[]) (by simp)); refine (gets_any m M1.out.at' hol' hr).mono ?_; rintro e w2 ⟨rfl, s2⟩; obtain ⟨vo2, vq2, ol2, oq2, hm⟩ := M1.out.stepW s2)
  go_end0
  exact ⟨rfl, hm.done⟩
set_option maxRecDepth 100000 in
set_option maxHeartbeats 400000 in
theorem begin2 (m : Ms) (h : WkAt w wb eb hb ib bb k vo vq vm ol oq) (hol : k.out.length ≤ 900) (hk : m.kind = 2) (_ : 0 ≤ m.frm ∧ m.frm < 4) :
    Calls Try.prog 142 #[.pointer (some ⟨wb, 0, none⟩), .agg m.cells] w fun e w' => e = .returned (.tuple #[]) ∧ StepW w wb eb hb ib bb (k.begun m) vm ol oq w' := by
  have hG : k.begun m = k.getm m := by unfold WkS.begun; rw [if_neg (by omega), if_pos hk]
  rw [hG]
  have hm := Mid.start h m
  have hol' : k.out.length ≤ 1000 := by omega
  obtain ⟨bk, bf, bt, bl, bb', ba, blt⟩ := hm.box
  have M0 := Lib.hid hm
  rw [hk] at bk
  clear h hm hG
  have hmm := @run_makeMap Try.prog
  go_enter Try.func142, Try.ntmps142
  go_wp2_with (go_at_call 157; have M1 := Lib.hid (mid_map M0.out (.func (.func 156) #[.pointer (some ⟨wb, 0, none⟩)] #[]) (.func (.func 157) #[.pointer (some ⟨wb, 0, none⟩)] #[]) (.func (.func 158) #[.pointer (some ⟨wb, 0, none⟩)] #[]) (by simp)); refine (getm_any m M1.out.at' hol).mono ?_; rintro e w2 ⟨rfl, s2⟩; obtain ⟨vo2, vq2, ol2, oq2, hm⟩ := M1.out.stepW s2)
  go_end0
  exact ⟨rfl, hm.done⟩
set_option maxRecDepth 100000 in
set_option maxHeartbeats 400000 in
theorem begin3 (m : Ms) (h : WkAt w wb eb hb ib bb k vo vq vm ol oq) (hol : k.out.length ≤ 900) (hk : m.kind = 3) (_ : 0 ≤ m.frm ∧ m.frm < 4) :
    Calls Try.prog 142 #[.pointer (some ⟨wb, 0, none⟩), .agg m.cells] w fun e w' => e = .returned (.tuple #[]) ∧ StepW w wb eb hb ib bb (k.begun m) vm ol oq w' := by
  have hG : k.begun m = k.put m := by unfold WkS.begun; rw [if_neg (by omega), if_neg (by omega)]
  rw [hG]
  have hm := Mid.start h m
  have hol' : k.out.length ≤ 1000 := by omega
  obtain ⟨bk, bf, bt, bl, bb', ba, blt⟩ := hm.box
  have M0 := Lib.hid hm
  rw [hk] at bk
  clear h hm hG
  have hmm := @run_makeMap Try.prog
  go_enter Try.func142, Try.ntmps142
  go_wp2_with (go_at_call 158; have M1 := Lib.hid (mid_map M0.out (.func (.func 156) #[.pointer (some ⟨wb, 0, none⟩)] #[]) (.func (.func 157) #[.pointer (some ⟨wb, 0, none⟩)] #[]) (.func (.func 158) #[.pointer (some ⟨wb, 0, none⟩)] #[]) (by simp)); refine (wput_any m M1.out.at' hol').mono ?_; rintro e w2 ⟨rfl, s2⟩; obtain ⟨vo2, vq2, ol2, oq2, hm⟩ := M1.out.stepW s2)
  go_end0
  exact ⟨rfl, hm.done⟩
theorem begin_any (m : Ms) (h : WkAt w wb eb hb ib bb k vo vq vm ol oq) (hol : k.out.length ≤ 900) (hr : m.asking) :
    Calls Try.prog 142 #[.pointer (some ⟨wb, 0, none⟩), .agg m.cells] w fun e w' => e = .returned (.tuple #[]) ∧ StepW w wb eb hb ib bb (k.begun m) vm ol oq w' := by
  obtain ⟨hk | hk | hk, hr⟩ := hr
  · exact begin1 m h hol hk hr
  · exact begin2 m h hol hk hr
  · exact begin3 m h hol hk hr
end Go.Proofs
