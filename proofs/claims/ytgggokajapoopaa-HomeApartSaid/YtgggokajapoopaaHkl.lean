import Derived.Test.YtgggokajapoopaaHw
import Derived.BigQuiet
import Derived.StillTail
import Derived.Test.YtgggokajapoopaaHui
import Derived.Test.YtgggokajapoopaaHd
/- The home's work, walked: must, back: a region whose last operation is a call. -/
namespace Go
theorem quiet_still {P : Program} {ops : Array Oper} {w : World} {Q : Act → Prop} : ∀ (l : List Oper) (a : Act), wpQuiet P ops (fun w' => w' = w) Q l a → wpStill P ops w Q l a
  | [], _, h => h
  | o :: rest, a, h => by
    unfold wpStill
    unfold wpQuiet at h
    split
    · rename_i hw
      rw [if_pos hw] at h
      obtain ⟨v, h1, h2⟩ := h
      have h1 := h1 w rfl
      have h2 := quiet_still rest _ h2
      unfold Oper.quietAt Oper.quietUpon at h1
      unfold Oper.still Oper.stillUpon
      split at h1
      · rename_i u w' he
        obtain ⟨e1, e2⟩ := h1
        subst e2
        rw [he]
        exact ⟨e1, h2⟩
      · rename_i w' he
        obtain ⟨e1, e2⟩ := h1
        subst e2
        rw [he]
        exact ⟨e1, h2⟩
      · rename_i f args w' he
        obtain ⟨e1, e2⟩ := h1
        rw [he]
        exact ⟨e1, v, e2, h2⟩
      · exact h1.elim
    · rename_i hw
      rw [if_neg hw] at h
      exact quiet_still rest _ h
end Go
namespace Go.Proofs
open Go.RowKit
/-- What is given up with. -/
def strayed : List PanicEntry := [{ v := .iface 182 (.agg #[.int .i64 220]), recovered := false }]
set_option maxRecDepth 100000 in
set_option maxHeartbeats 1000000 in
theorem must_true (w : World) : Calls Try.prog 143 #[.bool true, .int .i64 220] w fun e w' => e = .returned (.tuple #[]) ∧ w' = w := by
  go_enter Try.func143, Try.ntmps143
  go_wp2_with fail
  go_end0
  exact ⟨rfl, rfl⟩
set_option maxRecDepth 100000 in
set_option maxHeartbeats 1000000 in
theorem must_false (w : World) : Calls Try.prog 143 #[.bool false, .int .i64 220] w fun e w' => e = .panicked strayed ∧ w' = w := by
  go_enter Try.func143, Try.ntmps143
  go_wp2_with fail
  exact ⟨rfl, rfl, rfl⟩
variable {w : World} {wb eb hb ib bb : Nat} {k : WkS} {vo vq vm : Value} {ol oq : Option Nat}
set_option maxRecDepth 100000 in
set_option maxHeartbeats 1000000 in
theorem back_no1 (m : Ms) (h : WkAt w wb eb hb ib bb k vo vq vm ol oq) (h1 : k.e.busy = false) :
    Calls Try.prog 105 #[.pointer (some ⟨wb, 0, none⟩), .agg m.cells] w fun e w' => e = .panicked strayed ∧ Ext w w' := by
  have hm := Mid.start h m
  obtain ⟨f1, -, -, -, c0, c5, c6, c7, c8, c9, -⟩ := hm.at'.all
  have bf := hm.box.f
  rw [h1] at c5
  have hE0 : Ext w (w.alloc (.cells m.cells 79)) := (Ext.refl w).alloc _
  clear h hm
  go_enter Try.func105, Try.ntmps105
  go_wp2_with fail
  generalize hW0 : w.alloc (.cells m.cells 79) = W0 at *
  clear hW0
  refine wp_region_still_tail 29 (by kernel_rfl) (by kernel_rfl) (quiet_still _ _ ?_)
  simp only [List.take_succ_cons, List.take_zero, List.drop_succ_cons, List.drop_zero]
  repeat (go_big_quiet_step (fail))
  refine wpQuiet_nil ?_
  change wpList _ _ _ _ _ W0.drew
  go_wp2_with (go_at_call 143; refine (must_false _).mono ?_; rintro e w2 ⟨rfl, rfl⟩)
  exact ⟨rfl, rfl, hE0.drew⟩
set_option maxRecDepth 100000 in
set_option maxHeartbeats 1000000 in
theorem back_no2 (m : Ms) (h : WkAt w wb eb hb ib bb k vo vq vm ol oq) (h1 : k.e.busy = true) (h2 : ¬ 0 < k.e.waits) :
    Calls Try.prog 105 #[.pointer (some ⟨wb, 0, none⟩), .agg m.cells] w fun e w' => e = .panicked strayed ∧ Ext w w' := by
  have hm := Mid.start h m
  obtain ⟨f1, -, -, -, c0, c5, c6, c7, c8, c9, -⟩ := hm.at'.all
  have bf := hm.box.f
  rw [h1] at c5
  have hd : decide (0 < k.e.waits) = false := by simpa using h2
  have hE0 : Ext w (w.alloc (.cells m.cells 79)) := (Ext.refl w).alloc _
  clear h hm
  go_enter Try.func105, Try.ntmps105
  go_wp2_with fail
  generalize hW0 : w.alloc (.cells m.cells 79) = W0 at *
  clear hW0
  refine wp_region_still_tail 29 (by kernel_rfl) (by kernel_rfl) (quiet_still _ _ ?_)
  simp only [List.take_succ_cons, List.take_zero, List.drop_succ_cons, List.drop_zero]
  repeat (go_big_quiet_step (fail))
  refine wpQuiet_nil ?_
  change wpList _ _ _ _ _ W0.drew
  go_wp2_with (go_at_call 143; refine (must_false _).mono ?_; rintro e w2 ⟨rfl, rfl⟩)
  exact ⟨rfl, rfl, hE0.drew⟩
set_option maxRecDepth 100000 in
set_option maxHeartbeats 1000000 in
theorem back_no3 (m : Ms) (h : WkAt w wb eb hb ib bb k vo vq vm ol oq) (h1 : k.e.busy = true) (h2 : 0 < k.e.waits) (h3 : k.e.owner ≠ m.frm) :
    Calls Try.prog 105 #[.pointer (some ⟨wb, 0, none⟩), .agg m.cells] w fun e w' => e = .panicked strayed ∧ Ext w w' := by
  have hm := Mid.start h m
  obtain ⟨f1, -, -, -, c0, c5, c6, c7, c8, c9, -⟩ := hm.at'.all
  have bf := hm.box.f
  rw [h1] at c5
  have hd : decide (0 < k.e.waits) = true := by simpa using h2
  have hq : (k.e.owner == m.frm) = false := by simpa using h3
  have hE0 : Ext w (w.alloc (.cells m.cells 79)) := (Ext.refl w).alloc _
  clear h hm
  go_enter Try.func105, Try.ntmps105
  go_wp2_with fail
  generalize hW0 : w.alloc (.cells m.cells 79) = W0 at *
  clear hW0
  refine wp_region_still_tail 29 (by kernel_rfl) (by kernel_rfl) (quiet_still _ _ ?_)
  simp only [List.take_succ_cons, List.take_zero, List.drop_succ_cons, List.drop_zero]
  repeat (go_big_quiet_step (fail))
  refine wpQuiet_nil ?_
  change wpList _ _ _ _ _ W0.drew
  go_wp2_with (go_at_call 143; refine (must_false _).mono ?_; rintro e w2 ⟨rfl, rfl⟩)
  exact ⟨rfl, rfl, hE0.drew⟩
set_option maxRecDepth 100000 in
set_option maxHeartbeats 1000000 in
theorem done_no1 (m : Ms) (h : WkAt w wb eb hb ib bb k vo vq vm ol oq) (h1 : k.e.busy = false) :
    Calls Try.prog 107 #[.pointer (some ⟨wb, 0, none⟩), .agg m.cells] w fun e w' => e = .panicked strayed ∧ Ext w w' := by
  have hm := Mid.start h m
  obtain ⟨f1, -, -, -, c0, c5, c6, c7, c8, c9, -⟩ := hm.at'.all
  have bf := hm.box.f
  rw [h1] at c5
  have hE0 : Ext w (w.alloc (.cells m.cells 79)) := (Ext.refl w).alloc _
  clear h hm
  go_enter Try.func107, Try.ntmps107
  go_wp2_with fail
  generalize hW0 : w.alloc (.cells m.cells 79) = W0 at *
  clear hW0
  refine wp_region_still_tail 28 (by kernel_rfl) (by kernel_rfl) (quiet_still _ _ ?_)
  simp only [List.take_succ_cons, List.take_zero, List.drop_succ_cons, List.drop_zero]
  repeat (go_big_quiet_step (fail))
  refine wpQuiet_nil ?_
  change wpList _ _ _ _ _ W0.drew
  go_wp2_with (go_at_call 143; refine (must_false _).mono ?_; rintro e w2 ⟨rfl, rfl⟩)
  exact ⟨rfl, rfl, hE0.drew⟩
set_option maxRecDepth 100000 in
set_option maxHeartbeats 1000000 in
theorem done_no2 (m : Ms) (h : WkAt w wb eb hb ib bb k vo vq vm ol oq) (h1 : k.e.busy = true) (h2 : k.e.told = false) :
    Calls Try.prog 107 #[.pointer (some ⟨wb, 0, none⟩), .agg m.cells] w fun e w' => e = .panicked strayed ∧ Ext w w' := by
  have hm := Mid.start h m
  obtain ⟨f1, -, -, -, c0, c5, c6, c7, c8, c9, -⟩ := hm.at'.all
  have bf := hm.box.f
  rw [h1] at c5
  rw [h2] at c9
  have hE0 : Ext w (w.alloc (.cells m.cells 79)) := (Ext.refl w).alloc _
  clear h hm
  go_enter Try.func107, Try.ntmps107
  go_wp2_with fail
  generalize hW0 : w.alloc (.cells m.cells 79) = W0 at *
  clear hW0
  refine wp_region_still_tail 28 (by kernel_rfl) (by kernel_rfl) (quiet_still _ _ ?_)
  simp only [List.take_succ_cons, List.take_zero, List.drop_succ_cons, List.drop_zero]
  repeat (go_big_quiet_step (fail))
  refine wpQuiet_nil ?_
  change wpList _ _ _ _ _ W0.drew
  go_wp2_with (go_at_call 143; refine (must_false _).mono ?_; rintro e w2 ⟨rfl, rfl⟩)
  exact ⟨rfl, rfl, hE0.drew⟩
set_option maxRecDepth 100000 in
set_option maxHeartbeats 1000000 in
theorem done_no3 (m : Ms) (h : WkAt w wb eb hb ib bb k vo vq vm ol oq) (h1 : k.e.busy = true) (h2 : k.e.told = true) (h3 : k.e.asks ≠ m.frm) :
    Calls Try.prog 107 #[.pointer (some ⟨wb, 0, none⟩), .agg m.cells] w fun e w' => e = .panicked strayed ∧ Ext w w' := by
  have hm := Mid.start h m
  obtain ⟨f1, -, -, -, c0, c5, c6, c7, c8, c9, -⟩ := hm.at'.all
  have bf := hm.box.f
  rw [h1] at c5
  rw [h2] at c9
  have hq : (k.e.asks == m.frm) = false := by simpa using h3
  have hE0 : Ext w (w.alloc (.cells m.cells 79)) := (Ext.refl w).alloc _
  clear h hm
  go_enter Try.func107, Try.ntmps107
  go_wp2_with fail
  generalize hW0 : w.alloc (.cells m.cells 79) = W0 at *
  clear hW0
  refine wp_region_still_tail 28 (by kernel_rfl) (by kernel_rfl) (quiet_still _ _ ?_)
  simp only [List.take_succ_cons, List.take_zero, List.drop_succ_cons, List.drop_zero]
  repeat (go_big_quiet_step (fail))
  refine wpQuiet_nil ?_
  change wpList _ _ _ _ _ W0.drew
  go_wp2_with (go_at_call 143; refine (must_false _).mono ?_; rintro e w2 ⟨rfl, rfl⟩)
  exact ⟨rfl, rfl, hE0.drew⟩
end Go.Proofs
/- The home's work, walked: back. -/
namespace Go.Proofs
open Go.RowKit
variable {w : World} {wb eb hb ib bb : Nat} {k : WkS} {vo vq vm : Value} {ol oq : Option Nat}
set_option maxRecDepth 100000 in
set_option maxHeartbeats 2000000 in
theorem back_getm (m : Ms) (h : WkAt w wb eb hb ib bb k vo vq vm ol oq) (hol : k.out.length ≤ 900) (h1 : k.e.busy = true) (h2 : 0 < k.e.waits) (h3 : k.e.owner = m.frm) (h4 : k.e.kind = 2) :
    Calls Try.prog 105 #[.pointer (some ⟨wb, 0, none⟩), .agg m.cells] w fun e w' => e = .returned (.tuple #[]) ∧ StepW w wb eb hb ib bb (k.back m) vm ol oq w' := by
  have hB : k.back m = ({ k with mem := k.mem.set k.line m.b, e := { k.e with waits := 0 } } : WkS).write := by unfold WkS.back; rw [if_pos h4]
  rw [hB]
  have hm := Mid.start h m
  have hol' : k.out.length ≤ 1000 := by omega
  obtain ⟨f1, f2, f3, f4, c0, c5, c6, c7, c8, c9, -⟩ := hm.at'.all
  have bf := hm.box.f
  have bbs := hm.box.bs
  rw [h1] at c5
  have hd : decide (0 < k.e.waits) = true := by simpa using h2
  have hq : (k.e.owner == m.frm) = true := by simpa using h3
  have hk : (k.e.kind == 2) = true := by simpa using h4
  have M0 := Lib.hid hm
  clear h hm hB
  go_enter Try.func105, Try.ntmps105
  go_wp2_with fail
  generalize hW0 : w.alloc (.cells m.cells 79) = W0 at *
  clear hW0
  refine wp_region_still_tail 29 (by kernel_rfl) (by kernel_rfl) (quiet_still _ _ ?_)
  simp only [List.take_succ_cons, List.take_zero, List.drop_succ_cons, List.drop_zero]
  repeat (go_big_quiet_step (fail))
  refine wpQuiet_nil ?_
  change wpList _ _ _ _ _ W0.drew
  go_wp2_with (go_at_call 143; refine (must_true _).mono ?_; rintro e w2 ⟨rfl, rfl⟩)
  have M1 := Lib.hid (M0.out.ext (Ext.refl W0).drew)
  clear f1 f2 f3 f4 c0 c5 c6 c7 c8 c9 bf bbs M0
  generalize W0.drew = W1 at *
  obtain ⟨f1, f2, f3, f4, c0, c5, c6, c7, c8, c9, -⟩ := M1.out.at'.all
  have bf := M1.out.box.f
  have bbs := M1.out.box.bs
  refine wp_region_still_tail 13 (by kernel_rfl) (by kernel_rfl) (quiet_still _ _ ?_)
  simp only [List.take_succ_cons, List.take_zero, List.drop_succ_cons, List.drop_zero]
  repeat (go_big_quiet_step (fail))
  refine wpQuiet_nil ?_
  change wpList _ _ _ _ _ W1.drew
  go_wp2_with (first
    | (go_at_call 144; refine (imgSet_any _ _ _ _ _ m.b _ (M1.out.ext (Ext.refl W1).drew).at'.img M1.out.at'.line).mono ?_; rintro e w2 ⟨rfl, hi2, hc2⟩; have hm := (M1.out.ext (Ext.refl W1).drew).wrote hi2 hc2; clear hi2 hc2 f1 f2 f3 f4 c0 c5 c6 c7 c8 c9 bf bbs; obtain ⟨f1, f2, f3, f4, c0, c5, c6, c7, c8, c9, -⟩ := hm.at'.all; have g8 := hm.at'.fr 8; have M2 := Lib.hid hm; clear hm)
    | (go_at_call 145; (have hm := M2.out.at'.put1 8 (.int .i64 0) { k.e with waits := 0 } rfl rfl); obtain ⟨h3, hc3⟩ := hm; obtain ⟨vo3, vq3, ol3, oq3, hm⟩ := M2.out.stepE h3 hc3; clear h3 hc3; have M3 := Lib.hid hm; refine (write_any hm.at' hol').mono ?_; rintro e w4 ⟨rfl, s4⟩; obtain ⟨vo4, vq4, ol4, oq4, hm4⟩ := M3.out.stepW s4; clear hm s4; have M4 := Lib.hid hm4; clear hm4))
  (try simp only [Exit.inBlock, Exit.then])
  refine bodyPost_ret (results_none rfl _ _ _) rfl ?_
  exact ⟨rfl, M4.out.done⟩
theorem _root_.Go.En.setShare_asks (e : En) (i : Int) (b : Bool) : (e.setShare i b).asks = e.asks := by
  unfold En.setShare; split <;> (try split) <;> (try split) <;> rfl
set_option maxRecDepth 100000 in
set_option maxHeartbeats 2000000 in
theorem back_gets (m : Ms) (h : WkAt w wb eb hb ib bb k vo vq vm ol oq) (hol : k.out.length ≤ 900) (h1 : k.e.busy = true) (h2 : 0 < k.e.waits) (h3 : k.e.owner = m.frm) (h4 : k.e.kind ≠ 2) (r s : Nat) (hr : m.frm = (r : Int)) (hr4 : r < 4) (hs : k.e.asks = (s : Int)) (hs4 : s < 4) (hrs : r ≠ s) :
    Calls Try.prog 105 #[.pointer (some ⟨wb, 0, none⟩), .agg m.cells] w fun e w' => e = .returned (.tuple #[]) ∧ StepW w wb eb hb ib bb (k.back m) vm ol oq w' := by
  have hB : k.back m = (let k4 := ({ k with mem := k.mem.set k.line m.b, e := ((({ k.e with waits := 0 } : En).own (-1)).setShare m.frm true).setShare k.e.asks true } : WkS).send 8 k.e.asks true; { k4 with e := { k4.e with told := true } }) := by unfold WkS.back; rw [if_neg h4]
  rw [hB]
  have hm := Mid.start h m
  have hol' : k.out.length ≤ 1000 := by omega
  obtain ⟨f1, f2, f3, f4, c0, c5, c6, c7, c8, c9, -⟩ := hm.at'.all
  have bf := hm.box.f
  have bbs := hm.box.bs
  rw [h1] at c5
  have hd : decide (0 < k.e.waits) = true := by simpa using h2
  have hq : (k.e.owner == m.frm) = true := by simpa using h3
  have hk : (k.e.kind == 2) = false := by simpa using h4
  have HR := Lib.hid hr
  have HS := Lib.hid hs
  have M0 := Lib.hid hm
  clear h hm hB hr hs
  go_enter Try.func105, Try.ntmps105
  go_wp2_with fail
  generalize hW0 : w.alloc (.cells m.cells 79) = W0 at *
  clear hW0
  refine wp_region_still_tail 29 (by kernel_rfl) (by kernel_rfl) (quiet_still _ _ ?_)
  simp only [List.take_succ_cons, List.take_zero, List.drop_succ_cons, List.drop_zero]
  repeat (go_big_quiet_step (fail))
  refine wpQuiet_nil ?_
  change wpList _ _ _ _ _ W0.drew
  go_wp2_with (go_at_call 143; refine (must_true _).mono ?_; rintro e w2 ⟨rfl, rfl⟩)
  have M1 := Lib.hid (M0.out.ext (Ext.refl W0).drew)
  clear f1 f2 f3 f4 c0 c5 c6 c7 c8 c9 bf bbs M0
  generalize W0.drew = W1 at *
  obtain ⟨f1, f2, f3, f4, c0, c5, c6, c7, c8, c9, -⟩ := M1.out.at'.all
  have bf := M1.out.box.f
  have bbs := M1.out.box.bs
  refine wp_region_still_tail 13 (by kernel_rfl) (by kernel_rfl) (quiet_still _ _ ?_)
  simp only [List.take_succ_cons, List.take_zero, List.drop_succ_cons, List.drop_zero]
  repeat (go_big_quiet_step (fail))
  refine wpQuiet_nil ?_
  change wpList _ _ _ _ _ W1.drew
  go_wp2_with (first
    | (go_at_call 144; refine (imgSet_any _ _ _ _ _ m.b _ (M1.out.ext (Ext.refl W1).drew).at'.img M1.out.at'.line).mono ?_; rintro e w2 ⟨rfl, hi2, hc2⟩; have hm := (M1.out.ext (Ext.refl W1).drew).wrote hi2 hc2; clear hi2 hc2 f1 f2 f3 f4 c0 c5 c6 c7 c8 c9 bf bbs; obtain ⟨f1, f2, f3, f4, c0, c5, c6, c7, c8, c9, -⟩ := hm.at'.all; have g8 := hm.at'.fr 8; have M2 := Lib.hid hm; clear hm)
    | (go_at_call 146; (have hm := M2.out.at'.put1 8 (.int .i64 0) { k.e with waits := 0 } rfl rfl); obtain ⟨h3, hc3⟩ := hm; obtain ⟨vo3, vq3, ol3, oq3, hm⟩ := M2.out.stepE h3 hc3; clear h3 hc3; have M3 := Lib.hid hm; refine (own_any (-1) hm.at').mono ?_; rintro e w4 ⟨rfl, h4', hc4⟩; obtain ⟨vo4, vq4, ol4, oq4, hm4⟩ := M3.out.stepE h4' hc4; clear hm h4' hc4; have M4 := Lib.hid hm4; clear hm4))
  clear f1 f2 f3 f4 c0 c5 c6 c7 c8 c9 g8
  obtain ⟨f1, f2, f3, f4, c0, c5, c6, c7, c8, c9, -⟩ := M4.out.at'.all
  have bf := M4.out.box.f
  rw [HR.out] at bf
  have c6' : w4.cell? ⟨eb, 6, none⟩ = some (.int .i64 (s : Int)) := c6.trans (by show some (Value.int .i64 k.e.asks) = _; rw [HS.out])
  clear c6
  have cs := M4.out.at'.shares r hr4
  have cs' := M4.out.at'.shares s hs4
  have gs := M4.out.at'.fr (1 + r)
  have gs' := M4.out.at'.fr (1 + s)
  have hne : w.heap.size ≠ eb := M4.out.ap.2.1
  have hne2 : wb ≠ eb := M4.out.at'.n1.1
  go_region
  obtain ⟨h5, hc5⟩ := M4.out.at'.put1 (1 + r) (.bool true) ((({ k.e with waits := 0 } : En).own (-1)).setShare m.frm true) (by rw [HR.out]; exact En.setShare_at _ _ _ hr4 _) (En.setShare_q _ _ _)
  obtain ⟨vo5, vq5, ol5, oq5, hm5⟩ := M4.out.stepE h5 hc5
  have M5 := Lib.hid hm5
  obtain ⟨h6, hc6⟩ := M5.out.at'.put1 (1 + s) (.bool true) (((({ k.e with waits := 0 } : En).own (-1)).setShare m.frm true).setShare k.e.asks true) (by rw [HS.out]; exact En.setShare_at _ _ _ hs4 _) (En.setShare_q _ _ _)
  obtain ⟨vo6, vq6, ol6, oq6, hm6⟩ := M5.out.stepE h6 hc6
  have hm := hm6.ext (Ext.refl _).drew
  clear h5 hc5 hm5 h6 hc6 hm6 bf cs cs' gs gs' f1 f2 f3 f4 c0 c5 c6' c7 c8 c9 hne hne2
  generalize ((w4.setCell ⟨eb, 1 + r, none⟩ (.bool true)).setCell ⟨eb, 1 + s, none⟩ (.bool true)).drew = W6 at *
  obtain ⟨f1, -, -, -, -, -, c6o, -⟩ := hm.at'.all
  have c6 : W6.cell? ⟨eb, 6, none⟩ = some (.int .i64 k.e.asks) := c6o.trans (congrArg (fun z => some (Value.int .i64 z)) ((En.setShare_asks _ _ _).trans (En.setShare_asks _ _ _)))
  clear c6o
  have M6 := Lib.hid hm
  clear hm
  go_wp2_with (go_at_call 147; refine (send_any _ _ true M6.out.at' hol').mono ?_; rintro e w7 ⟨rfl, s7⟩; obtain ⟨vo7, vq7, ol7, oq7, hm⟩ := M6.out.stepW s7; clear s7 f1 c6; obtain ⟨f1, -⟩ := hm.at'.all; have c9 : w7.cell? ⟨eb, 9, none⟩ = _ := hm.at'.all.2.2.2.2.2.2.2.2.2.1; have g9 := hm.at'.fr 9; have M7 := Lib.hid hm; clear hm)
  go_end0
  obtain ⟨h8, hc8⟩ := M7.out.at'.put1 9 (.bool true) { (({ k with mem := k.mem.set k.line m.b, e := ((({ k.e with waits := 0 } : En).own (-1)).setShare m.frm true).setShare k.e.asks true } : WkS).send 8 k.e.asks true).e with told := true } rfl rfl
  obtain ⟨vo8, vq8, ol8, oq8, hm8⟩ := M7.out.stepE h8 hc8
  exact ⟨rfl, hm8.done⟩
theorem back_any (m : Ms) (h : WkAt w wb eb hb ib bb k vo vq vm ol oq) (hol : k.out.length ≤ 900) {x : Int} (hk : EnW k.e x) (hr : 0 ≤ m.frm ∧ m.frm < 4) (hm : k.e.mayBack m = true) :
    Calls Try.prog 105 #[.pointer (some ⟨wb, 0, none⟩), .agg m.cells] w fun e w' => e = .returned (.tuple #[]) ∧ StepW w wb eb hb ib bb (k.back m) vm ol oq w' := by
  simp only [En.mayBack, Bool.and_eq_true, decide_eq_true_eq, beq_iff_eq] at hm
  obtain ⟨⟨h1, h2⟩, h3⟩ := hm
  obtain ⟨a1, a2, -⟩ := hk.asks h1
  by_cases h4 : k.e.kind = 2
  · exact back_getm m h hol h1 h2 h3 h4
  · have hf := hk.far (by omega)
    exact back_gets m h hol h1 h2 h3 h4 m.frm.toNat k.e.asks.toNat (by omega) (by omega) (by omega) (by omega) (by omega)
theorem back_no (m : Ms) (h : WkAt w wb eb hb ib bb k vo vq vm ol oq) (hm : k.e.mayBack m = false) :
    Calls Try.prog 105 #[.pointer (some ⟨wb, 0, none⟩), .agg m.cells] w fun e w' => e = .panicked strayed ∧ Ext w w' := by
  cases h1 : k.e.busy with
  | false => exact back_no1 m h h1
  | true =>
    by_cases h2 : 0 < k.e.waits
    · refine back_no3 m h h1 h2 fun h3 => ?_
      simp [En.mayBack, h1, h2, h3] at hm
    · exact back_no2 m h h1 h2
end Go.Proofs
