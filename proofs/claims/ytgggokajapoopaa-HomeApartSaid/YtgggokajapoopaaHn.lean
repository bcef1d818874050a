/- The home's work, walked: ack. -/
import Derived.Test.YtgggokajapoopaaHkl
namespace Go.Proofs
open Go.RowKit
variable {w : World} {wb eb hb ib bb : Nat} {k : WkS} {vo vq vm : Value} {ol oq : Option Nat}
set_option maxRecDepth 100000 in
set_option maxHeartbeats 1000000 in
theorem ack_no1 (m : Ms) (h : WkAt w wb eb hb ib bb k vo vq vm ol oq) (r : Nat) (_hr : m.frm = (r : Int)) (hr4 : r < 4) (h1 : k.e.busy = false) :
    Calls Try.prog 106 #[.pointer (some ⟨wb, 0, none⟩), .agg m.cells] w fun e w' => e = .panicked strayed ∧ Ext w w' := by
  have hm := Mid.start h m
  obtain ⟨f1, -, -, -, c0, c5, c6, c7, c8, c9, -⟩ := hm.at'.all
  have bf := hm.box.f
  have cs := hm.at'.shares r hr4
  rw [h1] at c5
  have hE0 : Ext w (w.alloc (.cells m.cells 79)) := (Ext.refl w).alloc _
  clear h hm
  go_enter Try.func106, Try.ntmps106
  go_wp2_with fail
  generalize hW0 : w.alloc (.cells m.cells 79) = W0 at *
  clear hW0
  refine wp_region_still_tail 51 (by kernel_rfl) (by kernel_rfl) (quiet_still _ _ ?_)
  simp only [List.take_succ_cons, List.take_zero, List.drop_succ_cons, List.drop_zero]
  repeat (go_big_quiet_step (fail))
  refine wpQuiet_nil ?_
  change wpList _ _ _ _ _ W0.drew
  go_wp2_with (go_at_call 143; refine (must_false _).mono ?_; rintro e w2 ⟨rfl, rfl⟩)
  exact ⟨rfl, rfl, hE0.drew⟩
set_option maxRecDepth 100000 in
set_option maxHeartbeats 1000000 in
theorem ack_no2 (m : Ms) (h : WkAt w wb eb hb ib bb k vo vq vm ol oq) (r : Nat) (_hr : m.frm = (r : Int)) (hr4 : r < 4) (h1 : k.e.busy = true) (h2 : ¬ 0 < k.e.waits) :
    Calls Try.prog 106 #[.pointer (some ⟨wb, 0, none⟩), .agg m.cells] w fun e w' => e = .panicked strayed ∧ Ext w w' := by
  have hm := Mid.start h m
  obtain ⟨f1, -, -, -, c0, c5, c6, c7, c8, c9, -⟩ := hm.at'.all
  have bf := hm.box.f
  have cs := hm.at'.shares r hr4
  rw [h1] at c5
  have hd : decide (0 < k.e.waits) = false := by simpa using h2
  have hE0 : Ext w (w.alloc (.cells m.cells 79)) := (Ext.refl w).alloc _
  clear h hm
  go_enter Try.func106, Try.ntmps106
  go_wp2_with fail
  generalize hW0 : w.alloc (.cells m.cells 79) = W0 at *
  clear hW0
  refine wp_region_still_tail 51 (by kernel_rfl) (by kernel_rfl) (quiet_still _ _ ?_)
  simp only [List.take_succ_cons, List.take_zero, List.drop_succ_cons, List.drop_zero]
  repeat (go_big_quiet_step (fail))
  refine wpQuiet_nil ?_
  change wpList _ _ _ _ _ W0.drew
  go_wp2_with (go_at_call 143; refine (must_false _).mono ?_; rintro e w2 ⟨rfl, rfl⟩)
  exact ⟨rfl, rfl, hE0.drew⟩
set_option maxRecDepth 100000 in
set_option maxHeartbeats 1000000 in
theorem ack_no3 (m : Ms) (h : WkAt w wb eb hb ib bb k vo vq vm ol oq) (r : Nat) (_hr : m.frm = (r : Int)) (hr4 : r < 4) (h1 : k.e.busy = true) (h2 : 0 < k.e.waits) (h3 : ¬ k.e.owner < 0) :
    Calls Try.prog 106 #[.pointer (some ⟨wb, 0, none⟩), .agg m.cells] w fun e w' => e = .panicked strayed ∧ Ext w w' := by
  have hm := Mid.start h m
  obtain ⟨f1, -, -, -, c0, c5, c6, c7, c8, c9, -⟩ := hm.at'.all
  have bf := hm.box.f
  have cs := hm.at'.shares r hr4
  rw [h1] at c5
  have hd : decide (0 < k.e.waits) = true := by simpa using h2
  have ho : decide (k.e.owner < 0) = false := by simpa using h3
  have hE0 : Ext w (w.alloc (.cells m.cells 79)) := (Ext.refl w).alloc _
  clear h hm
  go_enter Try.func106, Try.ntmps106
  go_wp2_with fail
  generalize hW0 : w.alloc (.cells m.cells 79) = W0 at *
  clear hW0
  refine wp_region_still_tail 51 (by kernel_rfl) (by kernel_rfl) (quiet_still _ _ ?_)
  simp only [List.take_succ_cons, List.take_zero, List.drop_succ_cons, List.drop_zero]
  repeat (go_big_quiet_step (fail))
  refine wpQuiet_nil ?_
  change wpList _ _ _ _ _ W0.drew
  go_wp2_with (go_at_call 143; refine (must_false _).mono ?_; rintro e w2 ⟨rfl, rfl⟩)
  exact ⟨rfl, rfl, hE0.drew⟩
set_option maxRecDepth 100000 in
set_option maxHeartbeats 1000000 in
theorem ack_no4 (m : Ms) (h : WkAt w wb eb hb ib bb k vo vq vm ol oq) (r : Nat) (hr : m.frm = (r : Int)) (hr4 : r < 4) (h1 : k.e.busy = true) (h2 : 0 < k.e.waits) (h3 : k.e.owner < 0) (h4 : k.e.share r = false) :
    Calls Try.prog 106 #[.pointer (some ⟨wb, 0, none⟩), .agg m.cells] w fun e w' => e = .panicked strayed ∧ Ext w w' := by
  have hm := Mid.start h m
  obtain ⟨f1, -, -, -, c0, c5, c6, c7, c8, c9, -⟩ := hm.at'.all
  have bf := hm.box.f
  have cs := hm.at'.shares r hr4
  rw [hr] at bf
  rw [h1] at c5
  have hd : decide (0 < k.e.waits) = true := by simpa using h2
  have ho : decide (k.e.owner < 0) = true := by simpa using h3
  rw [h4] at cs
  have hE0 : Ext w (w.alloc (.cells m.cells 79)) := (Ext.refl w).alloc _
  clear h hm
  go_enter Try.func106, Try.ntmps106
  go_wp2_with fail
  generalize hW0 : w.alloc (.cells m.cells 79) = W0 at *
  clear hW0
  refine wp_region_still_tail 51 (by kernel_rfl) (by kernel_rfl) (quiet_still _ _ ?_)
  simp only [List.take_succ_cons, List.take_zero, List.drop_succ_cons, List.drop_zero]
  repeat (go_big_quiet_step (fail))
  refine wpQuiet_nil ?_
  change wpList _ _ _ _ _ W0.drew
  go_wp2_with (go_at_call 143; refine (must_false _).mono ?_; rintro e w2 ⟨rfl, rfl⟩)
  exact ⟨rfl, rfl, hE0.drew⟩
set_option maxRecDepth 100000 in
set_option maxHeartbeats 1000000 in
theorem ack_no5 (m : Ms) (h : WkAt w wb eb hb ib bb k vo vq vm ol oq) (r : Nat) (hr : m.frm = (r : Int)) (hr4 : r < 4) (h1 : k.e.busy = true) (h2 : 0 < k.e.waits) (h3 : k.e.owner < 0) (h4 : k.e.share r = true) (h5 : (r : Int) = k.e.asks) :
    Calls Try.prog 106 #[.pointer (some ⟨wb, 0, none⟩), .agg m.cells] w fun e w' => e = .panicked strayed ∧ Ext w w' := by
  have hm := Mid.start h m
  obtain ⟨f1, -, -, -, c0, c5, c6, c7, c8, c9, -⟩ := hm.at'.all
  have bf := hm.box.f
  have cs := hm.at'.shares r hr4
  rw [hr] at bf
  rw [h1] at c5
  have hd : decide (0 < k.e.waits) = true := by simpa using h2
  have ho : decide (k.e.owner < 0) = true := by simpa using h3
  rw [h4] at cs
  have hq : ((r : Int) != k.e.asks) = false := by simpa using h5
  have hE0 : Ext w (w.alloc (.cells m.cells 79)) := (Ext.refl w).alloc _
  clear h hm h5
  go_enter Try.func106, Try.ntmps106
  go_wp2_with fail
  generalize hW0 : w.alloc (.cells m.cells 79) = W0 at *
  clear hW0
  refine wp_region_still_tail 51 (by kernel_rfl) (by kernel_rfl) (quiet_still _ _ ?_)
  simp only [List.take_succ_cons, List.take_zero, List.drop_succ_cons, List.drop_zero]
  repeat (go_big_quiet_step (fail))
  refine wpQuiet_nil ?_
  change wpList _ _ _ _ _ W0.drew
  go_wp2_with (go_at_call 143; refine (must_false _).mono ?_; rintro e w2 ⟨rfl, rfl⟩)
  exact ⟨rfl, rfl, hE0.drew⟩
theorem ack_mid {W : World} {A : Nat} {m : Ms} {ol' oq' : Option Nat} {vo' vq' : Value} (M : Mid w W wb eb hb ib bb A m k vo' vq' vm ol oq ol' oq') (r : Nat) (hr : m.frm = (r : Int)) (hr4 : r < 4) :
    ∃ vo3 vq3 ol3 oq3, Mid w (W.setCell ⟨eb, 1 + r, none⟩ (.bool false)).drew wb eb hb ib bb A m { k with e := k.e.setShare m.frm false } vo3 vq3 vm ol oq ol3 oq3 := by
  obtain ⟨h3, hc3⟩ := M.at'.put1 (1 + r) (.bool false) (k.e.setShare m.frm false) (by rw [hr]; exact En.setShare_at _ _ _ hr4 _) (En.setShare_q _ _ _)
  obtain ⟨vo3, vq3, ol3, oq3, hm3⟩ := M.stepE h3 hc3
  exact ⟨vo3, vq3, ol3, oq3, hm3.ext (Ext.refl _).drew⟩
theorem ack_mid2 {W : World} {A : Nat} {m : Ms} {ol' oq' : Option Nat} {vo' vq' : Value} (M : Mid w W wb eb hb ib bb A m { k with e := k.e.setShare m.frm false } vo' vq' vm ol oq ol' oq') :
    ∃ vo3 vq3 ol3 oq3, Mid w (W.setCell ⟨eb, 8, none⟩ (.int .i64 (k.e.waits - 1))) wb eb hb ib bb A m { k with e := { k.e.setShare m.frm false with waits := k.e.waits - 1 } } vo3 vq3 vm ol oq ol3 oq3 := by
  obtain ⟨h3, hc3⟩ := M.at'.put1 8 (.int .i64 (k.e.waits - 1)) { k.e.setShare m.frm false with waits := k.e.waits - 1 } rfl rfl
  exact M.stepE h3 hc3
set_option maxRecDepth 100000 in
set_option maxHeartbeats 2000000 in
theorem ack_last (m : Ms) (h : WkAt w wb eb hb ib bb k vo vq vm ol oq) (hol : k.out.length ≤ 900) (r : Nat) (hr : m.frm = (r : Int)) (hr4 : r < 4) (h1 : k.e.busy = true) (h2 : 0 < k.e.waits) (h2' : k.e.waits ≤ 4) (h3 : k.e.owner < 0) (h4 : k.e.share r = true) (h5 : (r : Int) ≠ k.e.asks) (h6 : k.e.waits - 1 = 0) :
    Calls Try.prog 106 #[.pointer (some ⟨wb, 0, none⟩), .agg m.cells] w fun e w' => e = .returned (.tuple #[]) ∧ StepW w wb eb hb ib bb (k.ack m) vm ol oq w' := by
  have hB : k.ack m = ({ k with e := { k.e.setShare m.frm false with waits := k.e.waits - 1 } } : WkS).write := by unfold WkS.ack; rw [if_pos h6]
  rw [hB]
  have hm := Mid.start h m
  have hol' : k.out.length ≤ 1000 := by omega
  obtain ⟨f1, -, -, -, c0, c5, c6, c7, c8, c9, -⟩ := hm.at'.all
  have bf := hm.box.f
  have cs := hm.at'.shares r hr4
  rw [hr] at bf
  rw [h1] at c5
  have hd : decide (0 < k.e.waits) = true := by simpa using h2
  have ho : decide (k.e.owner < 0) = true := by simpa using h3
  rw [h4] at cs
  have hq : ((r : Int) != k.e.asks) = true := by simpa using h5
  have HR := Lib.hid hr
  have HW6 := Lib.hid h6
  have M0 := Lib.hid hm
  clear h hm hB hr h6
  go_enter Try.func106, Try.ntmps106
  go_wp2_with fail
  generalize hW0 : w.alloc (.cells m.cells 79) = W0 at *
  clear hW0
  refine wp_region_still_tail 51 (by kernel_rfl) (by kernel_rfl) (quiet_still _ _ ?_)
  simp only [List.take_succ_cons, List.take_zero, List.drop_succ_cons, List.drop_zero]
  repeat (go_big_quiet_step (fail))
  refine wpQuiet_nil ?_
  change wpList _ _ _ _ _ W0.drew
  go_wp2_with (go_at_call 143; refine (must_true _).mono ?_; rintro e w2 ⟨rfl, rfl⟩)
  have M1 := Lib.hid (M0.out.ext (Ext.refl W0).drew)
  clear f1 c0 c5 c6 c7 c8 c9 bf cs M0
  generalize W0.drew = W1 at *
  obtain ⟨f1, -⟩ := M1.out.at'.all
  have bf := M1.out.box.f
  rw [HR.out] at bf
  have cs := M1.out.at'.shares r hr4
  have gs := M1.out.at'.fr (1 + r)
  have hne : w.heap.size ≠ eb := M1.out.ap.2.1
  go_region
  obtain ⟨vo3, vq3, ol3, oq3, hm⟩ := ack_mid M1.out r HR.out hr4
  clear bf cs gs f1 hne
  generalize (W1.setCell ⟨eb, 1 + r, none⟩ (.bool false)).drew = W3 at *
  obtain ⟨f1, -, -, -, -, -, -, -, c8o, -⟩ := hm.at'.all
  have c8 : W3.cell? ⟨eb, 8, none⟩ = some (.int .i64 k.e.waits) := c8o.trans (congrArg (fun z => some (Value.int .i64 z)) (En.setShare_parts _ _ _).2.2.2.2.1)
  have g8 := hm.at'.fr 8
  have hne2 : wb ≠ eb := hm.at'.n1.1
  have hz : (k.e.waits - 1 == 0) = true := by rw [HW6.out]; rfl
  have M3 := Lib.hid hm
  clear hm c8o
  go_wp2_with (go_at_call 145; (have hm := ack_mid2 M3.out); obtain ⟨vo4, vq4, ol4, oq4, hm⟩ := hm; have M4 := Lib.hid hm; refine (write_any hm.at' hol').mono ?_; rintro e w5 ⟨rfl, s5⟩; obtain ⟨vo5, vq5, ol5, oq5, hm5⟩ := M4.out.stepW s5; clear hm s5; have M5 := Lib.hid hm5; clear hm5)
  go_end0
  exact ⟨rfl, M5.out.done⟩
set_option maxRecDepth 100000 in
set_option maxHeartbeats 2000000 in
theorem ack_more (m : Ms) (h : WkAt w wb eb hb ib bb k vo vq vm ol oq) (r : Nat) (hr : m.frm = (r : Int)) (hr4 : r < 4) (h1 : k.e.busy = true) (h2 : 0 < k.e.waits) (h2' : k.e.waits ≤ 4) (h3 : k.e.owner < 0) (h4 : k.e.share r = true) (h5 : (r : Int) ≠ k.e.asks) (h6 : k.e.waits - 1 ≠ 0) :
    Calls Try.prog 106 #[.pointer (some ⟨wb, 0, none⟩), .agg m.cells] w fun e w' => e = .returned (.tuple #[]) ∧ StepW w wb eb hb ib bb (k.ack m) vm ol oq w' := by
  have hB : k.ack m = ({ k with e := { k.e.setShare m.frm false with waits := k.e.waits - 1 } } : WkS) := by unfold WkS.ack; rw [if_neg h6]
  rw [hB]
  have hm := Mid.start h m
  obtain ⟨f1, -, -, -, c0, c5, c6, c7, c8, c9, -⟩ := hm.at'.all
  have bf := hm.box.f
  have cs := hm.at'.shares r hr4
  rw [hr] at bf
  rw [h1] at c5
  have hd : decide (0 < k.e.waits) = true := by simpa using h2
  have ho : decide (k.e.owner < 0) = true := by simpa using h3
  rw [h4] at cs
  have hq : ((r : Int) != k.e.asks) = true := by simpa using h5
  have HR := Lib.hid hr
  have HW6 := Lib.hid h6
  have M0 := Lib.hid hm
  clear h hm hB hr h6
  go_enter Try.func106, Try.ntmps106
  go_wp2_with fail
  generalize hW0 : w.alloc (.cells m.cells 79) = W0 at *
  clear hW0
  refine wp_region_still_tail 51 (by kernel_rfl) (by kernel_rfl) (quiet_still _ _ ?_)
  simp only [List.take_succ_cons, List.take_zero, List.drop_succ_cons, List.drop_zero]
  repeat (go_big_quiet_step (fail))
  refine wpQuiet_nil ?_
  change wpList _ _ _ _ _ W0.drew
  go_wp2_with (go_at_call 143; refine (must_true _).mono ?_; rintro e w2 ⟨rfl, rfl⟩)
  have M1 := Lib.hid (M0.out.ext (Ext.refl W0).drew)
  clear f1 c0 c5 c6 c7 c8 c9 bf cs M0
  generalize W0.drew = W1 at *
  obtain ⟨f1, -⟩ := M1.out.at'.all
  have bf := M1.out.box.f
  rw [HR.out] at bf
  have cs := M1.out.at'.shares r hr4
  have gs := M1.out.at'.fr (1 + r)
  have hne : w.heap.size ≠ eb := M1.out.ap.2.1
  go_region
  obtain ⟨vo3, vq3, ol3, oq3, hm⟩ := ack_mid M1.out r HR.out hr4
  clear bf cs gs f1 hne
  generalize (W1.setCell ⟨eb, 1 + r, none⟩ (.bool false)).drew = W3 at *
  obtain ⟨f1, -, -, -, -, -, -, -, c8o, -⟩ := hm.at'.all
  have c8 : W3.cell? ⟨eb, 8, none⟩ = some (.int .i64 k.e.waits) := c8o.trans (congrArg (fun z => some (Value.int .i64 z)) (En.setShare_parts _ _ _).2.2.2.2.1)
  have g8 := hm.at'.fr 8
  have hne2 : wb ≠ eb := hm.at'.n1.1
  have hz : (k.e.waits - 1 == 0) = false := by rw [beq_eq_false_iff_ne]; exact HW6.out
  have M3 := Lib.hid hm
  clear hm c8o
  go_wp2_with fail
  go_end0
  obtain ⟨vo4, vq4, ol4, oq4, hm⟩ := ack_mid2 M3.out
  exact ⟨rfl, hm.done⟩
theorem ack_any (m : Ms) (h : WkAt w wb eb hb ib bb k vo vq vm ol oq) (hol : k.out.length ≤ 900) {x : Int} (hk : EnW k.e x) (hr : 0 ≤ m.frm ∧ m.frm < 4) (hm : k.e.mayAck m = true) :
    Calls Try.prog 106 #[.pointer (some ⟨wb, 0, none⟩), .agg m.cells] w fun e w' => e = .returned (.tuple #[]) ∧ StepW w wb eb hb ib bb (k.ack m) vm ol oq w' := by
  simp only [En.mayAck, Bool.and_eq_true, decide_eq_true_eq, bne_iff_ne, ne_eq] at hm
  obtain ⟨⟨⟨⟨h1, h2⟩, h3⟩, h4⟩, h5⟩ := hm
  have hn := hk.nn
  by_cases h6 : k.e.waits - 1 = 0
  · exact ack_last m h hol m.frm.toNat (by omega) (by omega) h1 h2 hn.2 h3 h4 (by omega) h6
  · exact ack_more m h m.frm.toNat (by omega) (by omega) h1 h2 hn.2 h3 h4 (by omega) h6
theorem ack_no (m : Ms) (h : WkAt w wb eb hb ib bb k vo vq vm ol oq) (hr : 0 ≤ m.frm ∧ m.frm < 4) (hm : k.e.mayAck m = false) :
    Calls Try.prog 106 #[.pointer (some ⟨wb, 0, none⟩), .agg m.cells] w fun e w' => e = .panicked strayed ∧ Ext w w' := by
  have hr1 : m.frm = ((m.frm.toNat : Nat) : Int) := by omega
  have hr4 : m.frm.toNat < 4 := by omega
  cases h1 : k.e.busy with
  | false => exact ack_no1 m h _ hr1 hr4 h1
  | true =>
    by_cases h2 : 0 < k.e.waits
    · by_cases h3 : k.e.owner < 0
      · cases h4 : k.e.share m.frm.toNat with
        | false => exact ack_no4 m h _ hr1 hr4 h1 h2 h3 h4
        | true =>
          by_cases h5 : ((m.frm.toNat : Nat) : Int) = k.e.asks
          · exact ack_no5 m h _ hr1 hr4 h1 h2 h3 h4 h5
          · exfalso
            have h5' : m.frm ≠ k.e.asks := by omega
            simp [En.mayAck, h1, h2, h3, h4, h5'] at hm
      · exact ack_no3 m h _ hr1 hr4 h1 h2 h3
    · exact ack_no2 m h _ hr1 hr4 h1 h2
end Go.Proofs
