import Derived.Test.YtgggokajapoopaaHv
/- The home, walked: Take of a message of kind 1, over the contract of its method. -/
namespace Go.Proofs
open Go.RowKit
set_option maxRecDepth 100000 in
set_option maxHeartbeats 2000000 in
theorem take_k1 {F : Nat → Prop} (w : World) (p : Value) (H : Hom) (hb ib bb mb : Nat) (h : HomAt w p H hb ib bb mb F) (m : Ms) (hm : m.may = true) (ht : m.to = 4) (hl : ¬ (H.mem.length : Int) ≤ m.line) (hk : m.kind = 1) (x : Nat) (hx : m.line = (x : Int)) (hql : (H.get x).q.length ≤ 900) (k' : WkS) (hk' : k'.line = x)
    (hcall : ∀ W wb eb vq oq os, WkAt W wb eb hb ib bb (WkS.of H x) (.slice none 0 0) vq (.map (some mb)) none oq → SlAt 79 20 Ms.cells W vq (H.get x).q os → (∀ g, os = some g → g ≠ wb ∧ g ≠ eb ∧ g ≠ hb ∧ g ≠ ib ∧ g ≠ bb ∧ (none : Option Nat) ≠ some g) →
      Calls Try.prog 104 #[.pointer (some ⟨wb, 0, none⟩), .agg m.cells] W fun e w' => e = .returned (.tuple #[]) ∧ StepT W wb eb hb ib bb k' (.map (some mb)) none oq os w') :
    Calls Try.prog 48 #[p, .agg m.cells] w (TookPost w p hb ib bb mb F (H.put k') k'.out) := by
  have hmf : ∀ (fn : Fn) (first cap : Array Value) (w : World), (Instr.makeFunc fn first cap).run Try.prog w = .ok (.func fn first cap) w := fun _ _ _ _ => rfl
  have hmm := @run_makeMap Try.prog
  obtain ⟨rfl⟩ := h.p
  have hE0 : Ext w (((w.alloc (.cells m.cells 79)).alloc (.cells #[.slice none 0 0] 70)).alloc (.cells #[.int .i64 0] 45)) := (((Ext.refl w).alloc _).alloc _).alloc _
  have HH := Lib.hid h
  have HE0 := Lib.hid hE0
  have hck := chk_of hm
  have hto : (m.to != 4) = false := by simpa using ht
  have hwr : wrap64 (x : Int) = x := by unfold wrap64; have := m.ok; omega
  have hl' : ((H.mem.length : Int) ≤ (x : Int)) = False := eq_false (by omega)
  have hld : decide ((H.mem.length : Int) ≤ (x : Int)) = false := by simp; omega
  have hxl : x < H.mem.length := by omega
  have HX := Lib.hid hx
  have HT := Lib.hid (TkBox.start w m (.slice none 0 0) 0)
  have hag := HT.out.box.ag
  have HCALL := Lib.hid hcall
  clear h hm hE0 ht hl hx hcall
  have HKL := Lib.hid hk'
  clear hk'
  go_enter_defers Try.func48, Try.ntmps48
  go_wp2_with (first
    | (go_at_call 99; refine (hnone_any _ _ _ _ _ _ _ (HH.out.ext HE0.out)).mono ?_; rintro e w1 ⟨rfl, rfl⟩)
    | (go_at_call 101; refine (check_any m _).mono ?_; rintro e w2 ⟨rfl, hE2⟩; rw [hck]; have hT2 := HT.out.ext hE2; obtain ⟨d1, d2, d3, d4⟩ := hT2.facts; have bt := hT2.box.t; have bl := hT2.box.l; rw [HX.out] at bl; have HE2 := Lib.hid (HE0.out.trans hE2); have HT2 := Lib.hid hT2; clear hE2 hag hT2))
  go_quiet ((go_at_call 46; refine Calls.quiet_of_same ((hlines_any _ _ _ _ _ _ _ (HH.out.ext (HE2.out.trans ((Ext.refl _).drewN _)))).mono (fun e w' h => ⟨h.1, h.2.symm⟩))))
  go_upto_region 10 with (first
    | (go_at_call 103; refine (hof_any _ _ _ _ _ _ _ (HH.out.ext (HE2.out.trans ((Ext.refl _).drewN _))) x (Nat.le_trans hql (by decide))).mono ?_; rintro r w3 ⟨v3, o3, rfl, hE3, hs3, hf3⟩; have hT3 := HT2.out.ext (((Ext.refl w2).drewN nq).trans hE3); have HE3 := Lib.hid (HE2.out.trans (((Ext.refl w2).drewN nq).trans hE3)); have HE23 := Lib.hid (((Ext.refl w2).drewN nq).trans hE3); obtain ⟨a3, c3, rfl, -⟩ := hs3.row Ms.okCells; clear d1 d2 d3 d4 bt bl hE3; obtain ⟨d1, d2, d3, d4⟩ := hT3.facts; have bl := hT3.box.l; rw [HX.out] at bl; have bk := hT3.box.k; rw [hk] at bk; have ba := hT3.box.ag; have blt := hT3.box.lt; have HS3 := Lib.hid hs3; have HF3 := Lib.hid hf3; have HT3 := Lib.hid hT3; have hpa := World.putAgg_alloc_at w3 enNil ((H.get x).cells (.slice a3 (H.get x).q.length c3)) 84 w3.heap.size rfl rfl; unfold enNil at hpa; clear hs3 hf3 hT3))
  obtain ⟨oq, hW, hoq, hn⟩ := work_start HH.out HE3.out x hxl HS3.out (fun g hg => Nat.le_trans HE2.out.size (show w2.heap.size ≤ g from HF3.out g hg))
  have hE4 : Ext w3 ((w3.alloc (.cells ((H.get x).cells (.slice a3 (H.get x).q.length c3)) 84)).alloc (.cells #[.slice none 0 0, .pointer (some ⟨w3.heap.size, 0, none⟩), .pointer (some ⟨hb, 0, none⟩), .int .u32 x] 189)) := ((Ext.refl w3).alloc _).alloc _
  have hT4 := HT3.out.ext hE4
  have hs4 := HS3.out.ext hE4
  have hE34 := HE3.out.trans hE4
  have HE34 := Lib.hid hE4
  have hszw := HE3.out.size
  clear d1 d2 d3 d4 bk bl ba hpa
  generalize hW4 : (w3.alloc (.cells ((H.get x).cells (.slice a3 (H.get x).q.length c3)) 84)).alloc (.cells #[.slice none 0 0, .pointer (some ⟨w3.heap.size, 0, none⟩), .pointer (some ⟨hb, 0, none⟩), .int .u32 x] 189) = W4 at *
  clear hW4
  have bk := hT4.box.k
  rw [hk] at bk
  have ba := hT4.box.ag
  have blt4 := hT4.box.lt
  have HE4 := Lib.hid hE34
  have HS4 := Lib.hid hs4
  have HT4 := Lib.hid hT4
  have HW4 := Lib.hid hW
  have HN4 := Lib.hid hn
  have HOQ := Lib.hid hoq
  clear hE4 hT4 hs4 hE34 hW hn hoq
  have HREQ := Lib.hid (fun W (hE : Ext W4 W) => HCALL.out W _ _ _ _ _ (HW4.out.ext hE) (HS4.out.ext hE) HN4.out)
  go_wp2_with (go_at_call 104; refine (HREQ.out _ (ext_map6 _ _ _ _ _ _ _)).mono ?_; rintro e w5 ⟨rfl, s5⟩; have S5 := Lib.hid (StepT.before (ext_map6 _ _ _ _ _ _ _) s5); clear s5)
  obtain ⟨vo5, vq5, ol5, oq5, hW5, hC5, hQ5⟩ := S5.out
  obtain ⟨ao5, co5, n5, rfl⟩ : ∃ a c n, vo5 = .slice a n c := by
    obtain ⟨a, c, h, -⟩ := hW5.out.row Ms.okCells
    exact ⟨a, c, _, h⟩
  obtain ⟨l1, l2, l3, l4⟩ := HH.out.lt
  have hw2 := HE2.out.size
  have hT2l := HT2.out.lt
  have hw23 : w2.heap.size ≤ w3.heap.size := HE23.out.size
  have hw34 := HE34.out.size
  have hfr : ∀ g, o3 = some g → w2.heap.size ≤ g := fun g hg => HF3.out g hg
  have hk5 : ∀ b, b < w2.heap.size → b ≠ bb → w5.heap[b]? = W4.heap[b]? := fun b h1 h2 => hC5.block b (by omega) (by
    rintro ((e | e | e | e) | e)
    · omega
    · omega
    · exact h2 e
    · cases e
    · have := hfr b e; omega)
  have hT5 : TkBox w5 w.heap.size m (.slice none 0 0) 0 := HT4.out.keep fun b hb => hk5 b (by omega) (by omega)
  have him5 : w5.imap mb .u32 := (World.imap_of_block (hk5 mb (by omega) (Ne.symm HH.out.ne.2.2.2.2))).2 ((HH.out.ext HE4.out).im)
  have HBM5 := Lib.hid (World.imapB_of_block (hk5 mb (by omega) (Ne.symm HH.out.ne.2.2.2.2)) (HH.out.ext HE4.out).bm)
  have bl5 := hT5.box.l
  rw [HX.out] at bl5
  obtain ⟨d1, d2, d3, d4⟩ := hT5.facts
  obtain ⟨e1, -⟩ := hW5.all
  have e0 : w5.cell? ⟨w3.heap.size + 1, 0, none⟩ = some (.slice ao5 n5 co5) := by rw [cell_of_row w5 (w3.heap.size + 1) 0 _ 189 (0, 0) hW5.hW]; rfl
  have e2 : w5.cell? ⟨hb, 1, none⟩ = some (.map (some mb)) := by rw [cell_of_row w5 hb 1 _ 106 (0, 0) hW5.hH]; rfl
  have HW5 := Lib.hid hW5
  have HK5 := Lib.hid hk5
  have HT5 := Lib.hid hT5
  have HC5 := Lib.hid hC5
  have HFR := Lib.hid hfr
  have HQ5 : Hid (∀ g, oq5 = some g → w.heap.size ≤ g) := fun g hg => by
    rcases hQ5 g hg with h | h | h
    · have := hfr g (HOQ.out g h); omega
    · have := hfr g h; omega
    · omega
  clear hW5 hC5 hk5 hT5 hfr bk ba hQ5
  go_region
  have him5' : w5.drew.imap mb .u32 := him5
  have h6 : ∀ b, b ≠ mb → (w5.drew.mapPut mb .u32 (x : Int) (.pointer (some ⟨w3.heap.size, 0, none⟩))).heap[b]? = w5.heap[b]? := fun b hb => World.mapPut_other _ _ _ _ hb
  have him6 : (w5.drew.mapPut mb .u32 (x : Int) (.pointer (some ⟨w3.heap.size, 0, none⟩))).imap mb .u32 := by rw [World.imap_mapPut]; exact him5'
  have hbm6 : (w5.drew.mapPut mb .u32 (x : Int) (.pointer (some ⟨w3.heap.size, 0, none⟩))).imapB mb .u32 := World.imapB_mapPut (w := w5.drew) (World.imapB_of_block (w := w5) (w' := w5.drew) rfl HBM5.out) _ _
  have hg6 : ∀ y, (w5.drew.mapPut mb .u32 (x : Int) (.pointer (some ⟨w3.heap.size, 0, none⟩))).mapGet mb .u32 y = if (x : Int) = y then some (.pointer (some ⟨w3.heap.size, 0, none⟩)) else w5.mapGet mb .u32 y := fun y => World.mapGet_mapPut_same _ mb .u32 x y _ him5'
  have hos6 : (w5.drew.mapPut mb .u32 (x : Int) (.pointer (some ⟨w3.heap.size, 0, none⟩))).os = w5.os ∧ (w5.drew.mapPut mb .u32 (x : Int) (.pointer (some ⟨w3.heap.size, 0, none⟩))).tape = w5.tape ∧ (w5.drew.mapPut mb .u32 (x : Int) (.pointer (some ⟨w3.heap.size, 0, none⟩))).output = w5.output ∧ (w5.drew.mapPut mb .u32 (x : Int) (.pointer (some ⟨w3.heap.size, 0, none⟩))).heap.size = w5.heap.size := ⟨rfl, rfl, rfl, World.size_mapPut _ _ _ _ _⟩
  generalize w5.drew.mapPut mb .u32 (x : Int) (.pointer (some ⟨w3.heap.size, 0, none⟩)) = W6 at *
  have hT6 := HT5.out.keep (W' := W6) fun b hb => h6 b (by omega)
  clear d1 d2 d3 d4
  obtain ⟨d1, d2, d3, d4⟩ := hT6.facts
  have e0' : W6.cell? ⟨w3.heap.size + 1, 0, none⟩ = some (.slice ao5 n5 co5) := (World.cell?_of_block (w := w5) (a := ⟨w3.heap.size + 1, 0, none⟩) (h6 (w3.heap.size + 1) (by omega))).trans e0
  have H6 := Lib.hid h6
  have HIM6 := Lib.hid him6
  have HBM6 := Lib.hid hbm6
  have HG6 := Lib.hid hg6
  have HOS6 := Lib.hid hos6
  have HT6 := Lib.hid hT6
  clear h6 him6 hbm6 hg6 hos6 hT6 e0 e1 e2 bl5 him5 him5'
  go_wp2_with fail
  refine leaves_cons (f := 102) (args := #[.pointer (some ⟨w.heap.size + 1, 0, none⟩), .pointer (some ⟨w.heap.size + 1 + 1, 0, none⟩)]) (by simp) (by simp [go_sem]) ?_
  refine (recov_idle _ _ _).mono ?_
  rintro e u' w'' ⟨rfl, rfl, rfl⟩
  refine ⟨_, resCC rfl _ _ ⟨w.heap.size + 1, 0, none⟩ ⟨w.heap.size + 1 + 1, 0, none⟩ (.slice ao5 n5 co5) (.int .i64 0) rfl rfl ?_ ?_, ?_⟩
  · simp [go_sem, d1]
  · simp [go_sem, d3]
  · obtain ⟨x1, x2, x3⟩ := take_after HH.out HE4.out HW5.out (fun b h1 h2 => HK5.out b (by omega) h2) HC5.out HT5.out (by omega) H6.out HIM6.out HBM6.out HG6.out HOS6.out (by rw [HKL.out])
    refine ⟨_, ol5, _, rfl, x1, x2, ?_, x3⟩
    rintro b (h | h | h)
    · exact .inl h
    · exact .inr (by omega)
    · exact .inr (HQ5.out b h)
end Go.Proofs
/- The home, walked: Take of a message of kind 2, over the contract of its method. -/
namespace Go.Proofs
open Go.RowKit
set_option maxRecDepth 100000 in
set_option maxHeartbeats 2000000 in
theorem take_k2 {F : Nat → Prop} (w : World) (p : Value) (H : Hom) (hb ib bb mb : Nat) (h : HomAt w p H hb ib bb mb F) (m : Ms) (hm : m.may = true) (ht : m.to = 4) (hl : ¬ (H.mem.length : Int) ≤ m.line) (hk : m.kind = 2) (x : Nat) (hx : m.line = (x : Int)) (hql : (H.get x).q.length ≤ 900) (k' : WkS) (hk' : k'.line = x)
    (hcall : ∀ W wb eb vq oq os, WkAt W wb eb hb ib bb (WkS.of H x) (.slice none 0 0) vq (.map (some mb)) none oq → SlAt 79 20 Ms.cells W vq (H.get x).q os → (∀ g, os = some g → g ≠ wb ∧ g ≠ eb ∧ g ≠ hb ∧ g ≠ ib ∧ g ≠ bb ∧ (none : Option Nat) ≠ some g) →
      Calls Try.prog 104 #[.pointer (some ⟨wb, 0, none⟩), .agg m.cells] W fun e w' => e = .returned (.tuple #[]) ∧ StepT W wb eb hb ib bb k' (.map (some mb)) none oq os w') :
    Calls Try.prog 48 #[p, .agg m.cells] w (TookPost w p hb ib bb mb F (H.put k') k'.out) := by
  have hmf : ∀ (fn : Fn) (first cap : Array Value) (w : World), (Instr.makeFunc fn first cap).run Try.prog w = .ok (.func fn first cap) w := fun _ _ _ _ => rfl
  have hmm := @run_makeMap Try.prog
  obtain ⟨rfl⟩ := h.p
  have hE0 : Ext w (((w.alloc (.cells m.cells 79)).alloc (.cells #[.slice none 0 0] 70)).alloc (.cells #[.int .i64 0] 45)) := (((Ext.refl w).alloc _).alloc _).alloc _
  have HH := Lib.hid h
  have HE0 := Lib.hid hE0
  have hck := chk_of hm
  have hto : (m.to != 4) = false := by simpa using ht
  have hwr : wrap64 (x : Int) = x := by unfold wrap64; have := m.ok; omega
  have hl' : ((H.mem.length : Int) ≤ (x : Int)) = False := eq_false (by omega)
  have hld : decide ((H.mem.length : Int) ≤ (x : Int)) = false := by simp; omega
  have hxl : x < H.mem.length := by omega
  have HX := Lib.hid hx
  have HT := Lib.hid (TkBox.start w m (.slice none 0 0) 0)
  have hag := HT.out.box.ag
  have HCALL := Lib.hid hcall
  clear h hm hE0 ht hl hx hcall
  have HKL := Lib.hid hk'
  clear hk'
  go_enter_defers Try.func48, Try.ntmps48
  go_wp2_with (first
    | (go_at_call 99; refine (hnone_any _ _ _ _ _ _ _ (HH.out.ext HE0.out)).mono ?_; rintro e w1 ⟨rfl, rfl⟩)
    | (go_at_call 101; refine (check_any m _).mono ?_; rintro e w2 ⟨rfl, hE2⟩; rw [hck]; have hT2 := HT.out.ext hE2; obtain ⟨d1, d2, d3, d4⟩ := hT2.facts; have bt := hT2.box.t; have bl := hT2.box.l; rw [HX.out] at bl; have HE2 := Lib.hid (HE0.out.trans hE2); have HT2 := Lib.hid hT2; clear hE2 hag hT2))
  go_quiet ((go_at_call 46; refine Calls.quiet_of_same ((hlines_any _ _ _ _ _ _ _ (HH.out.ext (HE2.out.trans ((Ext.refl _).drewN _)))).mono (fun e w' h => ⟨h.1, h.2.symm⟩))))
  go_upto_region 10 with (first
    | (go_at_call 103; refine (hof_any _ _ _ _ _ _ _ (HH.out.ext (HE2.out.trans ((Ext.refl _).drewN _))) x (Nat.le_trans hql (by decide))).mono ?_; rintro r w3 ⟨v3, o3, rfl, hE3, hs3, hf3⟩; have hT3 := HT2.out.ext (((Ext.refl w2).drewN nq).trans hE3); have HE3 := Lib.hid (HE2.out.trans (((Ext.refl w2).drewN nq).trans hE3)); have HE23 := Lib.hid (((Ext.refl w2).drewN nq).trans hE3); obtain ⟨a3, c3, rfl, -⟩ := hs3.row Ms.okCells; clear d1 d2 d3 d4 bt bl hE3; obtain ⟨d1, d2, d3, d4⟩ := hT3.facts; have bl := hT3.box.l; rw [HX.out] at bl; have bk := hT3.box.k; rw [hk] at bk; have ba := hT3.box.ag; have blt := hT3.box.lt; have HS3 := Lib.hid hs3; have HF3 := Lib.hid hf3; have HT3 := Lib.hid hT3; have hpa := World.putAgg_alloc_at w3 enNil ((H.get x).cells (.slice a3 (H.get x).q.length c3)) 84 w3.heap.size rfl rfl; unfold enNil at hpa; clear hs3 hf3 hT3))
  obtain ⟨oq, hW, hoq, hn⟩ := work_start HH.out HE3.out x hxl HS3.out (fun g hg => Nat.le_trans HE2.out.size (show w2.heap.size ≤ g from HF3.out g hg))
  have hE4 : Ext w3 ((w3.alloc (.cells ((H.get x).cells (.slice a3 (H.get x).q.length c3)) 84)).alloc (.cells #[.slice none 0 0, .pointer (some ⟨w3.heap.size, 0, none⟩), .pointer (some ⟨hb, 0, none⟩), .int .u32 x] 189)) := ((Ext.refl w3).alloc _).alloc _
  have hT4 := HT3.out.ext hE4
  have hs4 := HS3.out.ext hE4
  have hE34 := HE3.out.trans hE4
  have HE34 := Lib.hid hE4
  have hszw := HE3.out.size
  clear d1 d2 d3 d4 bk bl ba hpa
  generalize hW4 : (w3.alloc (.cells ((H.get x).cells (.slice a3 (H.get x).q.length c3)) 84)).alloc (.cells #[.slice none 0 0, .pointer (some ⟨w3.heap.size, 0, none⟩), .pointer (some ⟨hb, 0, none⟩), .int .u32 x] 189) = W4 at *
  clear hW4
  have bk := hT4.box.k
  rw [hk] at bk
  have ba := hT4.box.ag
  have blt4 := hT4.box.lt
  have HE4 := Lib.hid hE34
  have HS4 := Lib.hid hs4
  have HT4 := Lib.hid hT4
  have HW4 := Lib.hid hW
  have HN4 := Lib.hid hn
  have HOQ := Lib.hid hoq
  clear hE4 hT4 hs4 hE34 hW hn hoq
  have HREQ := Lib.hid (fun W (hE : Ext W4 W) => HCALL.out W _ _ _ _ _ (HW4.out.ext hE) (HS4.out.ext hE) HN4.out)
  go_wp2_with (go_at_call 104; refine (HREQ.out _ (ext_map6 _ _ _ _ _ _ _)).mono ?_; rintro e w5 ⟨rfl, s5⟩; have S5 := Lib.hid (StepT.before (ext_map6 _ _ _ _ _ _ _) s5); clear s5)
  obtain ⟨vo5, vq5, ol5, oq5, hW5, hC5, hQ5⟩ := S5.out
  obtain ⟨ao5, co5, n5, rfl⟩ : ∃ a c n, vo5 = .slice a n c := by
    obtain ⟨a, c, h, -⟩ := hW5.out.row Ms.okCells
    exact ⟨a, c, _, h⟩
  obtain ⟨l1, l2, l3, l4⟩ := HH.out.lt
  have hw2 := HE2.out.size
  have hT2l := HT2.out.lt
  have hw23 : w2.heap.size ≤ w3.heap.size := HE23.out.size
  have hw34 := HE34.out.size
  have hfr : ∀ g, o3 = some g → w2.heap.size ≤ g := fun g hg => HF3.out g hg
  have hk5 : ∀ b, b < w2.heap.size → b ≠ bb → w5.heap[b]? = W4.heap[b]? := fun b h1 h2 => hC5.block b (by omega) (by
    rintro ((e | e | e | e) | e)
    · omega
    · omega
    · exact h2 e
    · cases e
    · have := hfr b e; omega)
  have hT5 : TkBox w5 w.heap.size m (.slice none 0 0) 0 := HT4.out.keep fun b hb => hk5 b (by omega) (by omega)
  have him5 : w5.imap mb .u32 := (World.imap_of_block (hk5 mb (by omega) (Ne.symm HH.out.ne.2.2.2.2))).2 ((HH.out.ext HE4.out).im)
  have HBM5 := Lib.hid (World.imapB_of_block (hk5 mb (by omega) (Ne.symm HH.out.ne.2.2.2.2)) (HH.out.ext HE4.out).bm)
  have bl5 := hT5.box.l
  rw [HX.out] at bl5
  obtain ⟨d1, d2, d3, d4⟩ := hT5.facts
  obtain ⟨e1, -⟩ := hW5.all
  have e0 : w5.cell? ⟨w3.heap.size + 1, 0, none⟩ = some (.slice ao5 n5 co5) := by rw [cell_of_row w5 (w3.heap.size + 1) 0 _ 189 (0, 0) hW5.hW]; rfl
  have e2 : w5.cell? ⟨hb, 1, none⟩ = some (.map (some mb)) := by rw [cell_of_row w5 hb 1 _ 106 (0, 0) hW5.hH]; rfl
  have HW5 := Lib.hid hW5
  have HK5 := Lib.hid hk5
  have HT5 := Lib.hid hT5
  have HC5 := Lib.hid hC5
  have HFR := Lib.hid hfr
  have HQ5 : Hid (∀ g, oq5 = some g → w.heap.size ≤ g) := fun g hg => by
    rcases hQ5 g hg with h | h | h
    · have := hfr g (HOQ.out g h); omega
    · have := hfr g h; omega
    · omega
  clear hW5 hC5 hk5 hT5 hfr bk ba hQ5
  go_region
  have him5' : w5.drew.imap mb .u32 := him5
  have h6 : ∀ b, b ≠ mb → (w5.drew.mapPut mb .u32 (x : Int) (.pointer (some ⟨w3.heap.size, 0, none⟩))).heap[b]? = w5.heap[b]? := fun b hb => World.mapPut_other _ _ _ _ hb
  have him6 : (w5.drew.mapPut mb .u32 (x : Int) (.pointer (some ⟨w3.heap.size, 0, none⟩))).imap mb .u32 := by rw [World.imap_mapPut]; exact him5'
  have hbm6 : (w5.drew.mapPut mb .u32 (x : Int) (.pointer (some ⟨w3.heap.size, 0, none⟩))).imapB mb .u32 := World.imapB_mapPut (w := w5.drew) (World.imapB_of_block (w := w5) (w' := w5.drew) rfl HBM5.out) _ _
  have hg6 : ∀ y, (w5.drew.mapPut mb .u32 (x : Int) (.pointer (some ⟨w3.heap.size, 0, none⟩))).mapGet mb .u32 y = if (x : Int) = y then some (.pointer (some ⟨w3.heap.size, 0, none⟩)) else w5.mapGet mb .u32 y := fun y => World.mapGet_mapPut_same _ mb .u32 x y _ him5'
  have hos6 : (w5.drew.mapPut mb .u32 (x : Int) (.pointer (some ⟨w3.heap.size, 0, none⟩))).os = w5.os ∧ (w5.drew.mapPut mb .u32 (x : Int) (.pointer (some ⟨w3.heap.size, 0, none⟩))).tape = w5.tape ∧ (w5.drew.mapPut mb .u32 (x : Int) (.pointer (some ⟨w3.heap.size, 0, none⟩))).output = w5.output ∧ (w5.drew.mapPut mb .u32 (x : Int) (.pointer (some ⟨w3.heap.size, 0, none⟩))).heap.size = w5.heap.size := ⟨rfl, rfl, rfl, World.size_mapPut _ _ _ _ _⟩
  generalize w5.drew.mapPut mb .u32 (x : Int) (.pointer (some ⟨w3.heap.size, 0, none⟩)) = W6 at *
  have hT6 := HT5.out.keep (W' := W6) fun b hb => h6 b (by omega)
  clear d1 d2 d3 d4
  obtain ⟨d1, d2, d3, d4⟩ := hT6.facts
  have e0' : W6.cell? ⟨w3.heap.size + 1, 0, none⟩ = some (.slice ao5 n5 co5) := (World.cell?_of_block (w := w5) (a := ⟨w3.heap.size + 1, 0, none⟩) (h6 (w3.heap.size + 1) (by omega))).trans e0
  have H6 := Lib.hid h6
  have HIM6 := Lib.hid him6
  have HBM6 := Lib.hid hbm6
  have HG6 := Lib.hid hg6
  have HOS6 := Lib.hid hos6
  have HT6 := Lib.hid hT6
  clear h6 him6 hbm6 hg6 hos6 hT6 e0 e1 e2 bl5 him5 him5'
  go_wp2_with fail
  refine leaves_cons (f := 102) (args := #[.pointer (some ⟨w.heap.size + 1, 0, none⟩), .pointer (some ⟨w.heap.size + 1 + 1, 0, none⟩)]) (by simp) (by simp [go_sem]) ?_
  refine (recov_idle _ _ _).mono ?_
  rintro e u' w'' ⟨rfl, rfl, rfl⟩
  refine ⟨_, resCC rfl _ _ ⟨w.heap.size + 1, 0, none⟩ ⟨w.heap.size + 1 + 1, 0, none⟩ (.slice ao5 n5 co5) (.int .i64 0) rfl rfl ?_ ?_, ?_⟩
  · simp [go_sem, d1]
  · simp [go_sem, d3]
  · obtain ⟨x1, x2, x3⟩ := take_after HH.out HE4.out HW5.out (fun b h1 h2 => HK5.out b (by omega) h2) HC5.out HT5.out (by omega) H6.out HIM6.out HBM6.out HG6.out HOS6.out (by rw [HKL.out])
    refine ⟨_, ol5, _, rfl, x1, x2, ?_, x3⟩
    rintro b (h | h | h)
    · exact .inl h
    · exact .inr (by omega)
    · exact .inr (HQ5.out b h)
end Go.Proofs
/- The home, walked: Take of a message of kind 3, over the contract of its method. -/
namespace Go.Proofs
open Go.RowKit
set_option maxRecDepth 100000 in
set_option maxHeartbeats 2000000 in
theorem take_k3 {F : Nat → Prop} (w : World) (p : Value) (H : Hom) (hb ib bb mb : Nat) (h : HomAt w p H hb ib bb mb F) (m : Ms) (hm : m.may = true) (ht : m.to = 4) (hl : ¬ (H.mem.length : Int) ≤ m.line) (hk : m.kind = 3) (x : Nat) (hx : m.line = (x : Int)) (hql : (H.get x).q.length ≤ 900) (k' : WkS) (hk' : k'.line = x)
    (hcall : ∀ W wb eb vq oq os, WkAt W wb eb hb ib bb (WkS.of H x) (.slice none 0 0) vq (.map (some mb)) none oq → SlAt 79 20 Ms.cells W vq (H.get x).q os → (∀ g, os = some g → g ≠ wb ∧ g ≠ eb ∧ g ≠ hb ∧ g ≠ ib ∧ g ≠ bb ∧ (none : Option Nat) ≠ some g) →
      Calls Try.prog 104 #[.pointer (some ⟨wb, 0, none⟩), .agg m.cells] W fun e w' => e = .returned (.tuple #[]) ∧ StepT W wb eb hb ib bb k' (.map (some mb)) none oq os w') :
    Calls Try.prog 48 #[p, .agg m.cells] w (TookPost w p hb ib bb mb F (H.put k') k'.out) := by
  have hmf : ∀ (fn : Fn) (first cap : Array Value) (w : World), (Instr.makeFunc fn first cap).run Try.prog w = .ok (.func fn first cap) w := fun _ _ _ _ => rfl
  have hmm := @run_makeMap Try.prog
  obtain ⟨rfl⟩ := h.p
  have hE0 : Ext w (((w.alloc (.cells m.cells 79)).alloc (.cells #[.slice none 0 0] 70)).alloc (.cells #[.int .i64 0] 45)) := (((Ext.refl w).alloc _).alloc _).alloc _
  have HH := Lib.hid h
  have HE0 := Lib.hid hE0
  have hck := chk_of hm
  have hto : (m.to != 4) = false := by simpa using ht
  have hwr : wrap64 (x : Int) = x := by unfold wrap64; have := m.ok; omega
  have hl' : ((H.mem.length : Int) ≤ (x : Int)) = False := eq_false (by omega)
  have hld : decide ((H.mem.length : Int) ≤ (x : Int)) = false := by simp; omega
  have hxl : x < H.mem.length := by omega
  have HX := Lib.hid hx
  have HT := Lib.hid (TkBox.start w m (.slice none 0 0) 0)
  have hag := HT.out.box.ag
  have HCALL := Lib.hid hcall
  clear h hm hE0 ht hl hx hcall
  have HKL := Lib.hid hk'
  clear hk'
  go_enter_defers Try.func48, Try.ntmps48
  go_wp2_with (first
    | (go_at_call 99; refine (hnone_any _ _ _ _ _ _ _ (HH.out.ext HE0.out)).mono ?_; rintro e w1 ⟨rfl, rfl⟩)
    | (go_at_call 101; refine (check_any m _).mono ?_; rintro e w2 ⟨rfl, hE2⟩; rw [hck]; have hT2 := HT.out.ext hE2; obtain ⟨d1, d2, d3, d4⟩ := hT2.facts; have bt := hT2.box.t; have bl := hT2.box.l; rw [HX.out] at bl; have HE2 := Lib.hid (HE0.out.trans hE2); have HT2 := Lib.hid hT2; clear hE2 hag hT2))
  go_quiet ((go_at_call 46; refine Calls.quiet_of_same ((hlines_any _ _ _ _ _ _ _ (HH.out.ext (HE2.out.trans ((Ext.refl _).drewN _)))).mono (fun e w' h => ⟨h.1, h.2.symm⟩))))
  go_upto_region 10 with (first
    | (go_at_call 103; refine (hof_any _ _ _ _ _ _ _ (HH.out.ext (HE2.out.trans ((Ext.refl _).drewN _))) x (Nat.le_trans hql (by decide))).mono ?_; rintro r w3 ⟨v3, o3, rfl, hE3, hs3, hf3⟩; have hT3 := HT2.out.ext (((Ext.refl w2).drewN nq).trans hE3); have HE3 := Lib.hid (HE2.out.trans (((Ext.refl w2).drewN nq).trans hE3)); have HE23 := Lib.hid (((Ext.refl w2).drewN nq).trans hE3); obtain ⟨a3, c3, rfl, -⟩ := hs3.row Ms.okCells; clear d1 d2 d3 d4 bt bl hE3; obtain ⟨d1, d2, d3, d4⟩ := hT3.facts; have bl := hT3.box.l; rw [HX.out] at bl; have bk := hT3.box.k; rw [hk] at bk; have ba := hT3.box.ag; have blt := hT3.box.lt; have HS3 := Lib.hid hs3; have HF3 := Lib.hid hf3; have HT3 := Lib.hid hT3; have hpa := World.putAgg_alloc_at w3 enNil ((H.get x).cells (.slice a3 (H.get x).q.length c3)) 84 w3.heap.size rfl rfl; unfold enNil at hpa; clear hs3 hf3 hT3))
  obtain ⟨oq, hW, hoq, hn⟩ := work_start HH.out HE3.out x hxl HS3.out (fun g hg => Nat.le_trans HE2.out.size (show w2.heap.size ≤ g from HF3.out g hg))
  have hE4 : Ext w3 ((w3.alloc (.cells ((H.get x).cells (.slice a3 (H.get x).q.length c3)) 84)).alloc (.cells #[.slice none 0 0, .pointer (some ⟨w3.heap.size, 0, none⟩), .pointer (some ⟨hb, 0, none⟩), .int .u32 x] 189)) := ((Ext.refl w3).alloc _).alloc _
  have hT4 := HT3.out.ext hE4
  have hs4 := HS3.out.ext hE4
  have hE34 := HE3.out.trans hE4
  have HE34 := Lib.hid hE4
  have hszw := HE3.out.size
  clear d1 d2 d3 d4 bk bl ba hpa
  generalize hW4 : (w3.alloc (.cells ((H.get x).cells (.slice a3 (H.get x).q.length c3)) 84)).alloc (.cells #[.slice none 0 0, .pointer (some ⟨w3.heap.size, 0, none⟩), .pointer (some ⟨hb, 0, none⟩), .int .u32 x] 189) = W4 at *
  clear hW4
  have bk := hT4.box.k
  rw [hk] at bk
  have ba := hT4.box.ag
  have blt4 := hT4.box.lt
  have HE4 := Lib.hid hE34
  have HS4 := Lib.hid hs4
  have HT4 := Lib.hid hT4
  have HW4 := Lib.hid hW
  have HN4 := Lib.hid hn
  have HOQ := Lib.hid hoq
  clear hE4 hT4 hs4 hE34 hW hn hoq
  have HREQ := Lib.hid (fun W (hE : Ext W4 W) => HCALL.out W _ _ _ _ _ (HW4.out.ext hE) (HS4.out.ext hE) HN4.out)
  go_wp2_with (go_at_call 104; refine (HREQ.out _ (ext_map6 _ _ _ _ _ _ _)).mono ?_; rintro e w5 ⟨rfl, s5⟩; have S5 := Lib.hid (StepT.before (ext_map6 _ _ _ _ _ _ _) s5); clear s5)
  obtain ⟨vo5, vq5, ol5, oq5, hW5, hC5, hQ5⟩ := S5.out
  obtain ⟨ao5, co5, n5, rfl⟩ : ∃ a c n, vo5 = .slice a n c := by
    obtain ⟨a, c, h, -⟩ := hW5.out.row Ms.okCells
    exact ⟨a, c, _, h⟩
  obtain ⟨l1, l2, l3, l4⟩ := HH.out.lt
  have hw2 := HE2.out.size
  have hT2l := HT2.out.lt
  have hw23 : w2.heap.size ≤ w3.heap.size := HE23.out.size
  have hw34 := HE34.out.size
  have hfr : ∀ g, o3 = some g → w2.heap.size ≤ g := fun g hg => HF3.out g hg
  have hk5 : ∀ b, b < w2.heap.size → b ≠ bb → w5.heap[b]? = W4.heap[b]? := fun b h1 h2 => hC5.block b (by omega) (by
    rintro ((e | e | e | e) | e)
    · omega
    · omega
    · exact h2 e
    · cases e
    · have := hfr b e; omega)
  have hT5 : TkBox w5 w.heap.size m (.slice none 0 0) 0 := HT4.out.keep fun b hb => hk5 b (by omega) (by omega)
  have him5 : w5.imap mb .u32 := (World.imap_of_block (hk5 mb (by omega) (Ne.symm HH.out.ne.2.2.2.2))).2 ((HH.out.ext HE4.out).im)
  have HBM5 := Lib.hid (World.imapB_of_block (hk5 mb (by omega) (Ne.symm HH.out.ne.2.2.2.2)) (HH.out.ext HE4.out).bm)
  have bl5 := hT5.box.l
  rw [HX.out] at bl5
  obtain ⟨d1, d2, d3, d4⟩ := hT5.facts
  obtain ⟨e1, -⟩ := hW5.all
  have e0 : w5.cell? ⟨w3.heap.size + 1, 0, none⟩ = some (.slice ao5 n5 co5) := by rw [cell_of_row w5 (w3.heap.size + 1) 0 _ 189 (0, 0) hW5.hW]; rfl
  have e2 : w5.cell? ⟨hb, 1, none⟩ = some (.map (some mb)) := by rw [cell_of_row w5 hb 1 _ 106 (0, 0) hW5.hH]; rfl
  have HW5 := Lib.hid hW5
  have HK5 := Lib.hid hk5
  have HT5 := Lib.hid hT5
  have HC5 := Lib.hid hC5
  have HFR := Lib.hid hfr
  have HQ5 : Hid (∀ g, oq5 = some g → w.heap.size ≤ g) := fun g hg => by
    rcases hQ5 g hg with h | h | h
    · have := hfr g (HOQ.out g h); omega
    · have := hfr g h; omega
    · omega
  clear hW5 hC5 hk5 hT5 hfr bk ba hQ5
  go_region
  have him5' : w5.drew.imap mb .u32 := him5
  have h6 : ∀ b, b ≠ mb → (w5.drew.mapPut mb .u32 (x : Int) (.pointer (some ⟨w3.heap.size, 0, none⟩))).heap[b]? = w5.heap[b]? := fun b hb => World.mapPut_other _ _ _ _ hb
  have him6 : (w5.drew.mapPut mb .u32 (x : Int) (.pointer (some ⟨w3.heap.size, 0, none⟩))).imap mb .u32 := by rw [World.imap_mapPut]; exact him5'
  have hbm6 : (w5.drew.mapPut mb .u32 (x : Int) (.pointer (some ⟨w3.heap.size, 0, none⟩))).imapB mb .u32 := World.imapB_mapPut (w := w5.drew) (World.imapB_of_block (w := w5) (w' := w5.drew) rfl HBM5.out) _ _
  have hg6 : ∀ y, (w5.drew.mapPut mb .u32 (x : Int) (.pointer (some ⟨w3.heap.size, 0, none⟩))).mapGet mb .u32 y = if (x : Int) = y then some (.pointer (some ⟨w3.heap.size, 0, none⟩)) else w5.mapGet mb .u32 y := fun y => World.mapGet_mapPut_same _ mb .u32 x y _ him5'
  have hos6 : (w5.drew.mapPut mb .u32 (x : Int) (.pointer (some ⟨w3.heap.size, 0, none⟩))).os = w5.os ∧ (w5.drew.mapPut mb .u32 (x : Int) (.pointer (some ⟨w3.heap.size, 0, none⟩))).tape = w5.tape ∧ (w5.drew.mapPut mb .u32 (x : Int) (.pointer (some ⟨w3.heap.size, 0, none⟩))).output = w5.output ∧ (w5.drew.mapPut mb .u32 (x : Int) (.pointer (some ⟨w3.heap.size, 0, none⟩))).heap.size = w5.heap.size := ⟨rfl, rfl, rfl, World.size_mapPut _ _ _ _ _⟩
  generalize w5.drew.mapPut mb .u32 (x : Int) (.pointer (some ⟨w3.heap.size, 0, none⟩)) = W6 at *
  have hT6 := HT5.out.keep (W' := W6) fun b hb => h6 b (by omega)
  clear d1 d2 d3 d4
  obtain ⟨d1, d2, d3, d4⟩ := hT6.facts
  have e0' : W6.cell? ⟨w3.heap.size + 1, 0, none⟩ = some (.slice ao5 n5 co5) := (World.cell?_of_block (w := w5) (a := ⟨w3.heap.size + 1, 0, none⟩) (h6 (w3.heap.size + 1) (by omega))).trans e0
  have H6 := Lib.hid h6
  have HIM6 := Lib.hid him6
  have HBM6 := Lib.hid hbm6
  have HG6 := Lib.hid hg6
  have HOS6 := Lib.hid hos6
  have HT6 := Lib.hid hT6
  clear h6 him6 hbm6 hg6 hos6 hT6 e0 e1 e2 bl5 him5 him5'
  go_wp2_with fail
  refine leaves_cons (f := 102) (args := #[.pointer (some ⟨w.heap.size + 1, 0, none⟩), .pointer (some ⟨w.heap.size + 1 + 1, 0, none⟩)]) (by simp) (by simp [go_sem]) ?_
  refine (recov_idle _ _ _).mono ?_
  rintro e u' w'' ⟨rfl, rfl, rfl⟩
  refine ⟨_, resCC rfl _ _ ⟨w.heap.size + 1, 0, none⟩ ⟨w.heap.size + 1 + 1, 0, none⟩ (.slice ao5 n5 co5) (.int .i64 0) rfl rfl ?_ ?_, ?_⟩
  · simp [go_sem, d1]
  · simp [go_sem, d3]
  · obtain ⟨x1, x2, x3⟩ := take_after HH.out HE4.out HW5.out (fun b h1 h2 => HK5.out b (by omega) h2) HC5.out HT5.out (by omega) H6.out HIM6.out HBM6.out HG6.out HOS6.out (by rw [HKL.out])
    refine ⟨_, ol5, _, rfl, x1, x2, ?_, x3⟩
    rintro b (h | h | h)
    · exact .inl h
    · exact .inr (by omega)
    · exact .inr (HQ5.out b h)
end Go.Proofs
