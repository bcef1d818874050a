import Derived.Test.YtgggokajapoopaaHc
/- The home, walked: Take of a message of kind 11, over the contract of its method, which gives up. -/
namespace Go.Proofs
open Go.RowKit
set_option maxRecDepth 100000 in
set_option maxHeartbeats 2000000 in
theorem take_p11 {F : Nat → Prop} (w : World) (p : Value) (H : Hom) (hb ib bb mb : Nat) (h : HomAt w p H hb ib bb mb F) (m : Ms) (hm : m.may = true) (ht : m.to = 4) (hl : ¬ (H.mem.length : Int) ≤ m.line) (hk : m.kind = 11) (x : Nat) (hx : m.line = (x : Int)) (hql : (H.get x).q.length ≤ 900) (hcall : ∀ W wb eb vq oq, WkAt W wb eb hb ib bb (WkS.of H x) (.slice none 0 0) vq (.map (some mb)) none oq →
      Calls Try.prog 105 #[.pointer (some ⟨wb, 0, none⟩), .agg m.cells] W fun e w' => e = .panicked strayed ∧ Ext W w') :
    Calls Try.prog 48 #[p, .agg m.cells] w fun e w' => e = .returned (.tuple #[.slice none 0 0, .int .i64 220]) ∧ Ext w w' := by
  have hmf : ∀ (fn : Fn) (first cap : Array Value) (w : World), (Instr.makeFunc fn first cap).run Try.prog w = .ok (.func fn first cap) w := fun _ _ _ _ => rfl
  have hmm := @run_makeMap Try.prog
  obtain ⟨rfl⟩ := h.p
  have hE0 : Ext w (((w.alloc (.cells m.cells 79)).alloc (.cells #[.slice none 0 0] 70)).alloc (.cells #[.int .i64 0] 45)) := (((Ext.refl w).alloc _).alloc _).alloc _
  have HH := Lib.hid h
  have HE0 := Lib.hid hE0
  have hck := chk_of hm
  have hto : (m.to != 4) = false := by simpa using ht
  have hwr : wrap64 (x : Int) = x := by unfold wrap64; have := m.ok; omega
  have hl' : ((H.mem.length : Int) ≤ (x : Int)) = False := eq_false (by omega)
  have hld : decide ((H.mem.length : Int) ≤ (x : Int)) = false := by simp; omega
  have hxl : x < H.mem.length := by omega
  have HX := Lib.hid hx
  have HT := Lib.hid (TkBox.start w m (.slice none 0 0) 0)
  have hag := HT.out.box.ag
  have HCALL := Lib.hid hcall
  clear h hm hE0 ht hl hx hcall
  go_enter_defers Try.func48, Try.ntmps48
  go_wp2_with (first
    | (go_at_call 99; refine (hnone_any _ _ _ _ _ _ _ (HH.out.ext HE0.out)).mono ?_; rintro e w1 ⟨rfl, rfl⟩)
    | (go_at_call 101; refine (check_any m _).mono ?_; rintro e w2 ⟨rfl, hE2⟩; rw [hck]; have hT2 := HT.out.ext hE2; obtain ⟨d1, d2, d3, d4⟩ := hT2.facts; have bt := hT2.box.t; have bl := hT2.box.l; rw [HX.out] at bl; have HE2 := Lib.hid (HE0.out.trans hE2); have HT2 := Lib.hid hT2; clear hE2 hag hT2))
  go_quiet ((go_at_call 46; refine Calls.quiet_of_same ((hlines_any _ _ _ _ _ _ _ (HH.out.ext (HE2.out.trans ((Ext.refl _).drewN _)))).mono (fun e w' h => ⟨h.1, h.2.symm⟩))))
  go_upto_region 10 with (first
    | (go_at_call 103; refine (hof_any _ _ _ _ _ _ _ (HH.out.ext (HE2.out.trans ((Ext.refl _).drewN _))) x (Nat.le_trans hql (by decide))).mono ?_; rintro r w3 ⟨v3, o3, rfl, hE3, hs3, hf3⟩; have hT3 := HT2.out.ext (((Ext.refl w2).drewN nq).trans hE3); have HE3 := Lib.hid (HE2.out.trans (((Ext.refl w2).drewN nq).trans hE3)); have HE23 := Lib.hid (((Ext.refl w2).drewN nq).trans hE3); obtain ⟨a3, c3, rfl, -⟩ := hs3.row Ms.okCells; clear d1 d2 d3 d4 bt bl hE3; obtain ⟨d1, d2, d3, d4⟩ := hT3.facts; have bl := hT3.box.l; rw [HX.out] at bl; have bk := hT3.box.k; rw [hk] at bk; have ba := hT3.box.ag; have blt := hT3.box.lt; have HS3 := Lib.hid hs3; have HF3 := Lib.hid hf3; have HT3 := Lib.hid hT3; have hpa := World.putAgg_alloc_at w3 enNil ((H.get x).cells (.slice a3 (H.get x).q.length c3)) 84 w3.heap.size rfl rfl; unfold enNil at hpa; clear hs3 hf3 hT3))
  obtain ⟨oq, hW, hoq, hn⟩ := work_start HH.out HE3.out x hxl HS3.out (fun g hg => Nat.le_trans HE2.out.size (show w2.heap.size ≤ g from HF3.out g hg))
  have hE4 : Ext w3 ((w3.alloc (.cells ((H.get x).cells (.slice a3 (H.get x).q.length c3)) 84)).alloc (.cells #[.slice none 0 0, .pointer (some ⟨w3.heap.size, 0, none⟩), .pointer (some ⟨hb, 0, none⟩), .int .u32 x] 189)) := ((Ext.refl w3).alloc _).alloc _
  have hT4 := HT3.out.ext hE4
  have hs4 := HS3.out.ext hE4
  have hE34 := HE3.out.trans hE4
  have HE34 := Lib.hid hE4
  have hszw := HE3.out.size
  clear d1 d2 d3 d4 bk bl ba hpa
  generalize hW4 : (w3.alloc (.cells ((H.get x).cells (.slice a3 (H.get x).q.length c3)) 84)).alloc (.cells #[.slice none 0 0, .pointer (some ⟨w3.heap.size, 0, none⟩), .pointer (some ⟨hb, 0, none⟩), .int .u32 x] 189) = W4 at *
  clear hW4
  have bk := hT4.box.k
  rw [hk] at bk
  have ba := hT4.box.ag
  have blt4 := hT4.box.lt
  have HE4 := Lib.hid hE34
  have HS4 := Lib.hid hs4
  have HT4 := Lib.hid hT4
  have HW4 := Lib.hid hW
  have HN4 := Lib.hid hn
  have HOQ := Lib.hid hoq
  clear hE4 hT4 hs4 hE34 hW hn hoq
  have HREQ := Lib.hid (fun W (hE : Ext W4 W) => HCALL.out W _ _ _ _ (HW4.out.ext hE))
  go_wp2_with (go_at_call 105; refine (HREQ.out _ (ext_map6 _ _ _ _ _ _ _)).mono ?_; rintro e w5 ⟨rfl, s5⟩; have S5 := Lib.hid ((ext_map6 _ _ _ _ _ _ _).trans s5); clear s5)
  obtain ⟨d1, d2, d3, d4⟩ := (HT4.out.ext S5.out).facts
  unfold strayed
  refine leaves_cons (f := 102) (args := #[.pointer (some ⟨w.heap.size + 1, 0, none⟩), .pointer (some ⟨w.heap.size + 1 + 1, 0, none⟩)]) (by simp) (by simp [go_sem]) ?_
  refine (recov_stop (w.heap.size + 1) (w.heap.size + 1 + 1) none 0 0 0 220 [] w5 d1 d2 d3 d4 (by have := (HT4.out.ext S5.out).lt; omega) (HT4.out.ext S5.out).lt (by omega)).mono ?_
  rintro e u' w'' ⟨rfl, rfl, rfl⟩
  obtain ⟨e1, e2, e3⟩ := stop_facts (A := w.heap.size) (n := 220) (o := .cells #[.int .i64 220] 182) d1 d3 (HE4.out.trans S5.out)
  generalize (((w5.setCell ⟨w.heap.size + 1, 0, none⟩ (.slice none 0 0)).setCell ⟨w.heap.size + 1 + 1, 0, none⟩ (.int .i64 220)).alloc (.cells #[.int .i64 220] 182)).drew = W7 at *
  simp [Leaves, settle, results, Try.results48, go_sem, e1, e2]
  exact e3
end Go.Proofs
/- The home, walked: Take of a message of kind 12, over the contract of its method, which gives up. -/
namespace Go.Proofs
open Go.RowKit
set_option maxRecDepth 100000 in
set_option maxHeartbeats 2000000 in
theorem take_p12 {F : Nat → Prop} (w : World) (p : Value) (H : Hom) (hb ib bb mb : Nat) (h : HomAt w p H hb ib bb mb F) (m : Ms) (hm : m.may = true) (ht : m.to = 4) (hl : ¬ (H.mem.length : Int) ≤ m.line) (hk : m.kind = 12) (x : Nat) (hx : m.line = (x : Int)) (hql : (H.get x).q.length ≤ 900) (hcall : ∀ W wb eb vq oq, WkAt W wb eb hb ib bb (WkS.of H x) (.slice none 0 0) vq (.map (some mb)) none oq →
      Calls Try.prog 106 #[.pointer (some ⟨wb, 0, none⟩), .agg m.cells] W fun e w' => e = .panicked strayed ∧ Ext W w') :
    Calls Try.prog 48 #[p, .agg m.cells] w fun e w' => e = .returned (.tuple #[.slice none 0 0, .int .i64 220]) ∧ Ext w w' := by
  have hmf : ∀ (fn : Fn) (first cap : Array Value) (w : World), (Instr.makeFunc fn first cap).run Try.prog w = .ok (.func fn first cap) w := fun _ _ _ _ => rfl
  have hmm := @run_makeMap Try.prog
  obtain ⟨rfl⟩ := h.p
  have hE0 : Ext w (((w.alloc (.cells m.cells 79)).alloc (.cells #[.slice none 0 0] 70)).alloc (.cells #[.int .i64 0] 45)) := (((Ext.refl w).alloc _).alloc _).alloc _
  have HH := Lib.hid h
  have HE0 := Lib.hid hE0
  have hck := chk_of hm
  have hto : (m.to != 4) = false := by simpa using ht
  have hwr : wrap64 (x : Int) = x := by unfold wrap64; have := m.ok; omega
  have hl' : ((H.mem.length : Int) ≤ (x : Int)) = False := eq_false (by omega)
  have hld : decide ((H.mem.length : Int) ≤ (x : Int)) = false := by simp; omega
  have hxl : x < H.mem.length := by omega
  have HX := Lib.hid hx
  have HT := Lib.hid (TkBox.start w m (.slice none 0 0) 0)
  have hag := HT.out.box.ag
  have HCALL := Lib.hid hcall
  clear h hm hE0 ht hl hx hcall
  go_enter_defers Try.func48, Try.ntmps48
  go_wp2_with (first
    | (go_at_call 99; refine (hnone_any _ _ _ _ _ _ _ (HH.out.ext HE0.out)).mono ?_; rintro e w1 ⟨rfl, rfl⟩)
    | (go_at_call 101; refine (check_any m _).mono ?_; rintro e w2 ⟨rfl, hE2⟩; rw [hck]; have hT2 := HT.out.ext hE2; obtain ⟨d1, d2, d3, d4⟩ := hT2.facts; have bt := hT2.box.t; have bl := hT2.box.l; rw [HX.out] at bl; have HE2 := Lib.hid (HE0.out.trans hE2); have HT2 := Lib.hid hT2; clear hE2 hag hT2))
  go_quiet ((go_at_call 46; refine Calls.quiet_of_same ((hlines_any _ _ _ _ _ _ _ (HH.out.ext (HE2.out.trans ((Ext.refl _).drewN _)))).mono (fun e w' h => ⟨h.1, h.2.symm⟩))))
  go_upto_region 10 with (first
    | (go_at_call 103; refine (hof_any _ _ _ _ _ _ _ (HH.out.ext (HE2.out.trans ((Ext.refl _).drewN _))) x (Nat.le_trans hql (by decide))).mono ?_; rintro r w3 ⟨v3, o3, rfl, hE3, hs3, hf3⟩; have hT3 := HT2.out.ext (((Ext.refl w2).drewN nq).trans hE3); have HE3 := Lib.hid (HE2.out.trans (((Ext.refl w2).drewN nq).trans hE3)); have HE23 := Lib.hid (((Ext.refl w2).drewN nq).trans hE3); obtain ⟨a3, c3, rfl, -⟩ := hs3.row Ms.okCells; clear d1 d2 d3 d4 bt bl hE3; obtain ⟨d1, d2, d3, d4⟩ := hT3.facts; have bl := hT3.box.l; rw [HX.out] at bl; have bk := hT3.box.k; rw [hk] at bk; have ba := hT3.box.ag; have blt := hT3.box.lt; have HS3 := Lib.hid hs3; have HF3 := Lib.hid hf3; have HT3 := Lib.hid hT3; have hpa := World.putAgg_alloc_at w3 enNil ((H.get x).cells (.slice a3 (H.get x).q.length c3)) 84 w3.heap.size rfl rfl; unfold enNil at hpa; clear hs3 hf3 hT3))
  obtain ⟨oq, hW, hoq, hn⟩ := work_start HH.out HE3.out x hxl HS3.out (fun g hg => Nat.le_trans HE2.out.size (show w2.heap.size ≤ g from HF3.out g hg))
  have hE4 : Ext w3 ((w3.alloc (.cells ((H.get x).cells (.slice a3 (H.get x).q.length c3)) 84)).alloc (.cells #[.slice none 0 0, .pointer (some ⟨w3.heap.size, 0, none⟩), .pointer (some ⟨hb, 0, none⟩), .int .u32 x] 189)) := ((Ext.refl w3).alloc _).alloc _
  have hT4 := HT3.out.ext hE4
  have hs4 := HS3.out.ext hE4
  have hE34 := HE3.out.trans hE4
  have HE34 := Lib.hid hE4
  have hszw := HE3.out.size
  clear d1 d2 d3 d4 bk bl ba hpa
  generalize hW4 : (w3.alloc (.cells ((H.get x).cells (.slice a3 (H.get x).q.length c3)) 84)).alloc (.cells #[.slice none 0 0, .pointer (some ⟨w3.heap.size, 0, none⟩), .pointer (some ⟨hb, 0, none⟩), .int .u32 x] 189) = W4 at *
  clear hW4
  have bk := hT4.box.k
  rw [hk] at bk
  have ba := hT4.box.ag
  have blt4 := hT4.box.lt
  have HE4 := Lib.hid hE34
  have HS4 := Lib.hid hs4
  have HT4 := Lib.hid hT4
  have HW4 := Lib.hid hW
  have HN4 := Lib.hid hn
  have HOQ := Lib.hid hoq
  clear hE4 hT4 hs4 hE34 hW hn hoq
  have HREQ := Lib.hid (fun W (hE : Ext W4 W) => HCALL.out W _ _ _ _ (HW4.out.ext hE))
  go_wp2_with (go_at_call 106; refine (HREQ.out _ (ext_map6 _ _ _ _ _ _ _)).mono ?_; rintro e w5 ⟨rfl, s5⟩; have S5 := Lib.hid ((ext_map6 _ _ _ _ _ _ _).trans s5); clear s5)
  obtain ⟨d1, d2, d3, d4⟩ := (HT4.out.ext S5.out).facts
  unfold strayed
  refine leaves_cons (f := 102) (args := #[.pointer (some ⟨w.heap.size + 1, 0, none⟩), .pointer (some ⟨w.heap.size + 1 + 1, 0, none⟩)]) (by simp) (by simp [go_sem]) ?_
  refine (recov_stop (w.heap.size + 1) (w.heap.size + 1 + 1) none 0 0 0 220 [] w5 d1 d2 d3 d4 (by have := (HT4.out.ext S5.out).lt; omega) (HT4.out.ext S5.out).lt (by omega)).mono ?_
  rintro e u' w'' ⟨rfl, rfl, rfl⟩
  obtain ⟨e1, e2, e3⟩ := stop_facts (A := w.heap.size) (n := 220) (o := .cells #[.int .i64 220] 182) d1 d3 (HE4.out.trans S5.out)
  generalize (((w5.setCell ⟨w.heap.size + 1, 0, none⟩ (.slice none 0 0)).setCell ⟨w.heap.size + 1 + 1, 0, none⟩ (.int .i64 220)).alloc (.cells #[.int .i64 220] 182)).drew = W7 at *
  simp [Leaves, settle, results, Try.results48, go_sem, e1, e2]
  exact e3
end Go.Proofs
/- The home, walked: Take of a message of kind 13, over the contract of its method, which gives up. -/
namespace Go.Proofs
open Go.RowKit
set_option maxRecDepth 100000 in
set_option maxHeartbeats 2000000 in
theorem take_p13 {F : Nat → Prop} (w : World) (p : Value) (H : Hom) (hb ib bb mb : Nat) (h : HomAt w p H hb ib bb mb F) (m : Ms) (hm : m.may = true) (ht : m.to = 4) (hl : ¬ (H.mem.length : Int) ≤ m.line) (hk : m.kind = 13) (x : Nat) (hx : m.line = (x : Int)) (hql : (H.get x).q.length ≤ 900) (hcall : ∀ W wb eb vq oq, WkAt W wb eb hb ib bb (WkS.of H x) (.slice none 0 0) vq (.map (some mb)) none oq →
      Calls Try.prog 107 #[.pointer (some ⟨wb, 0, none⟩), .agg m.cells] W fun e w' => e = .panicked strayed ∧ Ext W w') :
    Calls Try.prog 48 #[p, .agg m.cells] w fun e w' => e = .returned (.tuple #[.slice none 0 0, .int .i64 220]) ∧ Ext w w' := by
  have hmf : ∀ (fn : Fn) (first cap : Array Value) (w : World), (Instr.makeFunc fn first cap).run Try.prog w = .ok (.func fn first cap) w := fun _ _ _ _ => rfl
  have hmm := @run_makeMap Try.prog
  obtain ⟨rfl⟩ := h.p
  have hE0 : Ext w (((w.alloc (.cells m.cells 79)).alloc (.cells #[.slice none 0 0] 70)).alloc (.cells #[.int .i64 0] 45)) := (((Ext.refl w).alloc _).alloc _).alloc _
  have HH := Lib.hid h
  have HE0 := Lib.hid hE0
  have hck := chk_of hm
  have hto : (m.to != 4) = false := by simpa using ht
  have hwr : wrap64 (x : Int) = x := by unfold wrap64; have := m.ok; omega
  have hl' : ((H.mem.length : Int) ≤ (x : Int)) = False := eq_false (by omega)
  have hld : decide ((H.mem.length : Int) ≤ (x : Int)) = false := by simp; omega
  have hxl : x < H.mem.length := by omega
  have HX := Lib.hid hx
  have HT := Lib.hid (TkBox.start w m (.slice none 0 0) 0)
  have hag := HT.out.box.ag
  have HCALL := Lib.hid hcall
  clear h hm hE0 ht hl hx hcall
  go_enter_defers Try.func48, Try.ntmps48
  go_wp2_with (first
    | (go_at_call 99; refine (hnone_any _ _ _ _ _ _ _ (HH.out.ext HE0.out)).mono ?_; rintro e w1 ⟨rfl, rfl⟩)
    | (go_at_call 101; refine (check_any m _).mono ?_; rintro e w2 ⟨rfl, hE2⟩; rw [hck]; have hT2 := HT.out.ext hE2; obtain ⟨d1, d2, d3, d4⟩ := hT2.facts; have bt := hT2.box.t; have bl := hT2.box.l; rw [HX.out] at bl; have HE2 := Lib.hid (HE0.out.trans hE2); have HT2 := Lib.hid hT2; clear hE2 hag hT2))
  go_quiet ((go_at_call 46; refine Calls.quiet_of_same ((hlines_any _ _ _ _ _ _ _ (HH.out.ext (HE2.out.trans ((Ext.refl _).drewN _)))).mono (fun e w' h => ⟨h.1, h.2.symm⟩))))
  go_upto_region 10 with (first
    | (go_at_call 103; refine (hof_any _ _ _ _ _ _ _ (HH.out.ext (HE2.out.trans ((Ext.refl _).drewN _))) x (Nat.le_trans hql (by decide))).mono ?_; rintro r w3 ⟨v3, o3, rfl, hE3, hs3, hf3⟩; have hT3 := HT2.out.ext (((Ext.refl w2).drewN nq).trans hE3); have HE3 := Lib.hid (HE2.out.trans (((Ext.refl w2).drewN nq).trans hE3)); have HE23 := Lib.hid (((Ext.refl w2).drewN nq).trans hE3); obtain ⟨a3, c3, rfl, -⟩ := hs3.row Ms.okCells; clear d1 d2 d3 d4 bt bl hE3; obtain ⟨d1, d2, d3, d4⟩ := hT3.facts; have bl := hT3.box.l; rw [HX.out] at bl; have bk := hT3.box.k; rw [hk] at bk; have ba := hT3.box.ag; have blt := hT3.box.lt; have HS3 := Lib.hid hs3; have HF3 := Lib.hid hf3; have HT3 := Lib.hid hT3; have hpa := World.putAgg_alloc_at w3 enNil ((H.get x).cells (.slice a3 (H.get x).q.length c3)) 84 w3.heap.size rfl rfl; unfold enNil at hpa; clear hs3 hf3 hT3))
  obtain ⟨oq, hW, hoq, hn⟩ := work_start HH.out HE3.out x hxl HS3.out (fun g hg => Nat.le_trans HE2.out.size (show w2.heap.size ≤ g from HF3.out g hg))
  have hE4 : Ext w3 ((w3.alloc (.cells ((H.get x).cells (.slice a3 (H.get x).q.length c3)) 84)).alloc (.cells #[.slice none 0 0, .pointer (some ⟨w3.heap.size, 0, none⟩), .pointer (some ⟨hb, 0, none⟩), .int .u32 x] 189)) := ((Ext.refl w3).alloc _).alloc _
  have hT4 := HT3.out.ext hE4
  have hs4 := HS3.out.ext hE4
  have hE34 := HE3.out.trans hE4
  have HE34 := Lib.hid hE4
  have hszw := HE3.out.size
  clear d1 d2 d3 d4 bk bl ba hpa
  generalize hW4 : (w3.alloc (.cells ((H.get x).cells (.slice a3 (H.get x).q.length c3)) 84)).alloc (.cells #[.slice none 0 0, .pointer (some ⟨w3.heap.size, 0, none⟩), .pointer (some ⟨hb, 0, none⟩), .int .u32 x] 189) = W4 at *
  clear hW4
  have bk := hT4.box.k
  rw [hk] at bk
  have ba := hT4.box.ag
  have blt4 := hT4.box.lt
  have HE4 := Lib.hid hE34
  have HS4 := Lib.hid hs4
  have HT4 := Lib.hid hT4
  have HW4 := Lib.hid hW
  have HN4 := Lib.hid hn
  have HOQ := Lib.hid hoq
  clear hE4 hT4 hs4 hE34 hW hn hoq
  have HREQ := Lib.hid (fun W (hE : Ext W4 W) => HCALL.out W _ _ _ _ (HW4.out.ext hE))
  go_wp2_with (go_at_call 107; refine (HREQ.out _ (ext_map6 _ _ _ _ _ _ _)).mono ?_; rintro e w5 ⟨rfl, s5⟩; have S5 := Lib.hid ((ext_map6 _ _ _ _ _ _ _).trans s5); clear s5)
  obtain ⟨d1, d2, d3, d4⟩ := (HT4.out.ext S5.out).facts
  unfold strayed
  refine leaves_cons (f := 102) (args := #[.pointer (some ⟨w.heap.size + 1, 0, none⟩), .pointer (some ⟨w.heap.size + 1 + 1, 0, none⟩)]) (by simp) (by simp [go_sem]) ?_
  refine (recov_stop (w.heap.size + 1) (w.heap.size + 1 + 1) none 0 0 0 220 [] w5 d1 d2 d3 d4 (by have := (HT4.out.ext S5.out).lt; omega) (HT4.out.ext S5.out).lt (by omega)).mono ?_
  rintro e u' w'' ⟨rfl, rfl, rfl⟩
  obtain ⟨e1, e2, e3⟩ := stop_facts (A := w.heap.size) (n := 220) (o := .cells #[.int .i64 220] 182) d1 d3 (HE4.out.trans S5.out)
  generalize (((w5.setCell ⟨w.heap.size + 1, 0, none⟩ (.slice none 0 0)).setCell ⟨w.heap.size + 1 + 1, 0, none⟩ (.int .i64 220)).alloc (.cells #[.int .i64 220] 182)).drew = W7 at *
  simp [Leaves, settle, results, Try.results48, go_sem, e1, e2]
  exact e3
end Go.Proofs
