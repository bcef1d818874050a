/- HomeApart, walked. -/
import Derived.Test.YtgggokajapoopaaHqp
import Derived.Test.YtgggokajapoopaaGb
import Derived.Test.YtgggokajapoopaaHtz
import Derived.Test.YtgggokajapoopaaHy
import Derived.Deep.Cut
import Derived.Deep.DeepCutAuto
namespace Go
open Go.RowKit Go.Proofs
/-- A queue's copy lies in none of the blocks that a message changes. -/
theorem SlAt.off_home {w : World} {p : Value} {H : Hom} {hb ib bb mb : Nat} {F : Nat → Prop} (h : HomAt w p H hb ib bb mb F) {v : Value} {L : List Ms} {o : Option Nat} (hs : SlAt 79 20 Ms.cells w v L o) : ∀ g, o = some g → ¬ (g = bb ∨ g = mb) := by
  rintro g rfl hg
  rcases hs with ⟨-, hs, -⟩ | ⟨g', cap, cur, ho, -, hb', -⟩
  · cases hs
  · cases ho
    rcases hg with rfl | rfl
    · obtain ⟨v, -, hB⟩ := h.img.hI
      rcases bytesAt_iff.1 hB with ⟨-, hs, -⟩ | ⟨g2, cap2, cur2, ho2, -, hb2, -⟩
      · cases hs
      · cases ho2
        rw [hb'] at hb2
        simp at hb2
    · obtain ⟨es, clock, hm, -⟩ := h.im
      rw [hm] at hb'
      cases hb'
end Go
namespace Go.Proofs
open Go.RowKit
set_option maxRecDepth 100000 in
set_option maxHeartbeats 400000 in
theorem mod51 (pick : Int) (n : Nat) (w : World) (h1 : 1 ≤ n) (h2 : n ≤ 1000) : Calls Try.prog 51 #[.int .i64 pick, .int .i64 n] w fun e w' => e = .returned (.int .i64 (choice pick n : Nat)) ∧ w' = w := by
  have hT := tmod_cases pick (n := n) (by omega)
  have hl := choice_lt pick (n := n) (by omega)
  have HL := Lib.hid hl
  have HT := Lib.hid hT
  generalize choice pick n = c at *
  generalize hm : pick.tmod (n : Int) = m at *
  clear hT
  by_cases hneg : m < 0
  · have hm' : m = (c : Int) - n := by rcases HT.out with h | h <;> omega
    have hw : IntKind.i64.wrap (m + (n : Int)) = m + (n : Int) := IntWalk.i64_in _ (by omega)
    go_enter Try.func51, Try.ntmps51
    go_wp2_with fail
    go_ret
    exact ⟨ret_int (by omega), rfl⟩
  · have hm' : m = (c : Int) := by rcases HT.out with h | h <;> omega
    go_enter Try.func51, Try.ntmps51
    go_wp2_with fail
    go_ret
    exact ⟨ret_int (by omega), rfl⟩
/-- What holds between two messages. -/
def AptInv (w : World) (n : Nat) (hb ib bb mb : Nat) (k : Nat) (wr : World) : Prop :=
  ∃ H F, HomAt wr (.pointer (some ⟨hb, 0, none⟩)) H hb ib bb mb F ∧ HomOk H k ∧ H.mem.length = n ∧ Ext w wr
theorem AptInv.ext {w wr w' : World} {n hb ib bb mb k : Nat} (h : AptInv w n hb ib bb mb k wr) (hE : Ext wr w') : AptInv w n hb ib bb mb k w' := by
  obtain ⟨H, F, h1, h2, h3, h4⟩ := h
  exact ⟨H, F, h1.ext hE, h2, h3, h4.trans hE⟩
variable {w : World} {M : List Int} {ab al : Option Addr} {cb cl : Nat} {L : List Ms}
set_option maxRecDepth 100000 in
set_option maxHeartbeats 1000000 in
theorem lawHomeApart_bad (h : sizeOk M.length = false) : Calls Try.prog 12 #[.slice ab M.length cb, .slice al L.length cl] w fun e w' => e = .returned (.bool true) ∧ Ext w w' := by
  have H := Lib.hid h
  have h2 := twos_ok none none 0 0 0 0
  clear h
  go_enter Try.func12, Try.ntmps12
  go_wp2_with (first
    | (go_at_call 45; refine (made_bad _ _ _ _ H.out).mono ?_; unfold rhNil; rintro e w1 ⟨rfl, hE1⟩; have HE1 := Lib.hid hE1; clear hE1)
    | (go_at_call 47; refine (known_any _).mono ?_; rintro e w2 ⟨rfl, hE2⟩; have HE2 := Lib.hid hE2; clear hE2))
  go_ret
  exact ⟨rfl, (HE1.out.trans ((Ext.refl _).alloc _)).trans HE2.out⟩
set_option maxRecDepth 100000 in
set_option maxHeartbeats 1000000 in
theorem lawHomeApart_long (h : sizeOk M.length = true) (hM : Row 1 encB w ab M) (ls : List B16) (hls : bytesOf ls = M) (hl : 128 < M.length) : Calls Try.prog 12 #[.slice ab M.length cb, .slice al L.length cl] w fun e w' => e = .returned (.bool true) ∧ Ext w w' := by
  have H := Lib.hid h
  have HM := Lib.hid hM
  have HLS := Lib.hid hls
  have HL := Lib.hid hl
  have h2 := twos_ok none none 0 0 0 0
  clear h hM hls hl
  go_enter Try.func12, Try.ntmps12
  go_wp2_with (first
    | (go_at_call 45; refine (made_long M _ _ _ H.out HM.out ls HLS.out HL.out).mono ?_; unfold rhNil; rintro e w1 ⟨rfl, hE1⟩; have HE1 := Lib.hid hE1; clear hE1)
    | (go_at_call 47; refine (known_any _).mono ?_; rintro e w9 ⟨rfl, hE9⟩; have HE9 := Lib.hid hE9; clear hE9))
  go_ret
  exact ⟨rfl, (HE1.out.trans ((Ext.refl _).alloc _)).trans HE9.out⟩
set_option maxRecDepth 100000 in
set_option maxHeartbeats 1000000 in
theorem lawHomeApart_many (h : sizeOk M.length = true) (hM : Row 1 encB w ab M) (ls : List B16) (hls : bytesOf ls = M) (h128 : M.length ≤ 128) (h40 : 40 < L.length) : Calls Try.prog 12 #[.slice ab M.length cb, .slice al L.length cl] w fun e w' => e = .returned (.bool true) ∧ Ext w w' := by
  have H := Lib.hid h
  have HM := Lib.hid hM
  have HLS := Lib.hid hls
  have hd : decide ((40 : Int) < ((L.length : Nat) : Int)) = true := by simp; omega
  clear h hM hls h40
  go_enter Try.func12, Try.ntmps12
  go_wp2_with (first
    | (go_at_call 45; refine (made_any M _ _ _ H.out HM.out ls HLS.out h128).mono ?_; rintro e w1 ⟨hb, ib, bb, mb, v1, rfl, hE1, hh1, l1, l2, l3, l4, hr1⟩; obtain ⟨rab, rnb, rcb, rae, rne, rce, rfl, -, -⟩ := rh_shape hr1; have h2 := twos_ok rab rae rnb rcb rne rce; have HE1 := Lib.hid hE1; have HH1 := Lib.hid (hh1.ext ((Ext.refl w1).alloc (.cells #[.slice rab rnb rcb, .slice rae rne rce] 74))); clear hE1 hh1 hr1)
    | (go_at_call 47; refine (known_any _).mono ?_; rintro e w9 ⟨rfl, hE9⟩; have HE9 := Lib.hid hE9; clear hE9))
  go_ret
  exact ⟨rfl, (HE1.out.trans ((Ext.refl _).alloc _)).trans HE9.out⟩
theorem took_no {H H1 : Hom} {m : Ms} {out : List Ms} {no : Int} (h : H.took m = (H1, out, no)) : no = 0 ∨ H1 = H := by
  unfold Hom.took at h
  split at h
  · cases h; exact .inr rfl
  · split at h
    · cases h; exact .inr rfl
    · split at h
      · cases h; exact .inl rfl
      · cases h; exact .inr rfl
/-- What the law asks of an entry: as bits. -/
theorem apart_bits {e : En} {x : Int} (h : EnOk e x) : (decide ((0 : Int) ≤ e.owner) = true → e.s0 = false ∧ e.s1 = false ∧ e.s2 = false ∧ e.s3 = false) ∧ decide (e.owner < -1) = false ∧ decide ((4 : Int) ≤ e.owner) = false ∧
    (e.busy = false → (e.waits != 0) = false ∧ e.told = false ∧ e.q = []) := by
  have ho := h.w.own
  refine ⟨fun h1 => h.w.apart (by simpa using h1), by simp; omega, by simp; omega, fun hb => ?_⟩
  obtain ⟨a, b⟩ := h.w.idle hb
  exact ⟨by simp [a], b, h.rest hb⟩
set_option maxRecDepth 100000 in
set_option maxHeartbeats 40000000 in
theorem lawHomeApart_main (h : sizeOk M.length = true) (hM : Row 1 encB w ab M) (ls : List B16) (hls : bytesOf ls = M) (h128 : M.length ≤ 128) (h40 : L.length ≤ 40) (hL : Row 20 Ms.cells w al L) : Calls Try.prog 12 #[.slice ab M.length cb, .slice al L.length cl] w fun e w' => e = .returned (.bool true) ∧ Ext w w' := by
  have hlen := length_bytesOf ls
  rw [hls] at hlen
  have hs16 := sizeOk_cases h
  have hlen2 : 1 ≤ ls.length ∧ ls.length ≤ 8 := by omega
  have H := Lib.hid h
  have HM := Lib.hid hM
  have HLS := Lib.hid hls
  have HL := Lib.hid hL
  have hd : decide ((40 : Int) < ((L.length : Nat) : Int)) = false := by simp; omega
  clear h hM hls hL hlen hs16
  go_enter Try.func12, Try.ntmps12
  go_wp2_with (first
    | (go_at_call 45; refine (made_any M _ _ _ H.out HM.out ls HLS.out h128).mono ?_; rintro e w1 ⟨hb, ib, bb, mb, v1, rfl, hE1, hh1, l1, l2, l3, l4, hr1⟩; obtain ⟨rab, rnb, rcb, rae, rne, rce, rfl, -, -⟩ := rh_shape hr1; have h2 := twos_ok rab rae rnb rcb rne rce; have HE1 := Lib.hid hE1; have HH1 := Lib.hid (hh1.ext ((Ext.refl w1).alloc (.cells #[.slice rab rnb rcb, .slice rae rne rce] 74))); clear hE1 hh1 hr1))
  have START : Hid (AptInv w ls.length hb ib bb mb 0 (w1.alloc (.cells #[.slice rab rnb rcb, .slice rae rne rce] 74))) := ⟨_, _, HH1.out, HomOk.new (by omega), rfl, HE1.out.alloc _⟩
  have LT : Hid (w.heap.size ≤ bb ∧ w.heap.size ≤ mb) := ⟨l2, l3⟩
  clear HH1 HE1 l1 l2 l3 l4 h2
  generalize w1.alloc (.cells #[.slice rab rnb rcb, .slice rae rne rce] 74) = W1 at *
  generalize hN : ls.length = n at *
  clear hN
  go_loopw [8] (fun i wr => ∃ k : Nat, k ≤ L.length ∧ i = .int .i64 k ∧ AptInv w n hb ib bb mb k wr) (fun i _ => L.length - (intOf i).toNat)
  case atStart => exact ⟨0, Nat.zero_le _, rfl, START.out⟩
  case round =>
    obtain ⟨k, hk, rfl, hI⟩ := hrel
    obtain ⟨G, F, g1, g2, g3, g4⟩ := hI
    by_cases hlt : k < L.length
    · obtain ⟨m, hm⟩ : ∃ m, L[k]? = some m := ⟨L[k], by simp [hlt]⟩
      have HMM := Lib.hid hm
      have hki : (k : Int) < (L.length : Int) := by omega
      have hk0 : (0 : Int) ≤ (k : Int) := by omega
      have hmok := m.ok
      have hq8 : m.line.tmod 8 = m.line % 8 := Int.tmod_eq_emod_of_nonneg hmok.1
      obtain ⟨x, hx⟩ : ∃ x, x = choice (m.line % 8) n := ⟨_, rfl⟩
      have hxn : x < n := by rw [hx]; exact choice_lt _ (by omega)
      have hw32 : IntKind.u32.wrap (x : Int) = (x : Int) := by unfold IntKind.wrap; simp [IntKind.bits, IntKind.signed]; omega
      have HX := Lib.hid hx
      have HG1 := Lib.hid g1
      have HG2 := Lib.hid g2
      have HG3 := Lib.hid g3
      have HG4 := Lib.hid g4
      have HG2q : Hid (∀ z, (G.get z).q.length ≤ 1000) := fun z => Nat.le_trans (g2.q z) (by omega)
      clear hm g1 g2 g3 g4 hx hmok
      go_wp2_with (go_at_call 54; refine (hcopy_any _ _ G hb ib bb mb HG1.out HG2q.out).mono ?_; rintro e w2 ⟨hb', ib', bb', mb', F', rfl, hE2, hh2, l1, l2, l3, l4, l5⟩; have HE2 := Lib.hid hE2; have HH2 := Lib.hid hh2; have LL := Lib.hid (And.intro l1 (And.intro l2 (And.intro l3 (And.intro l4 l5)))); clear hE2 hh2 l1 l2 l3 l4 l5)
      obtain ⟨b1, off1, rfl, hg1⟩ := (HL.out.ext (HG4.out.trans HE2.out)) k m HMM.out
      have hc3 := (Ms.sub hg1).2.2.2.1
      have HMG := Lib.hid hg1
      clear hg1
      go_quiet ((first
        | (go_at_call 46; refine Calls.quiet_of_same ((hlines_any _ _ _ _ _ _ _ (HG1.out.ext (HE2.out.trans ((Ext.refl _).drewN _)))).mono (fun e w' h => ⟨h.1.trans (by rw [HG3.out]), h.2.symm⟩)))
        | (go_at_call 51; refine Calls.quiet_of_same ((mod51 _ n _ (by omega) (by omega)).mono (fun e w' h => ⟨h.1.trans (by rw [← HX.out]), h.2⟩)))))
      have hE2d := HE2.out.trans ((Ext.refl w2).drewN nq)
      have hh2d := HH2.out.ext ((Ext.refl w2).drewN nq)
      have hmgd := (((Ext.refl w2).drewN nq).agg (World.agg?_lt HMG.out)).trans HMG.out
      have HE2' := Lib.hid hE2d
      have HH2' := Lib.hid hh2d
      clear hE2d hh2d hc3 HH2 HE2 HMG
      generalize w2.drewN nq = W2 at *
      obtain ⟨lb1, lb2, lb3, lb4⟩ := HG1.out.lt
      have hxi : (0 : Int) ≤ (x : Int) ∧ (x : Int) < 4294967296 := by omega
      have hxg : (x : Int) < (G.mem.length : Int) := by rw [HG3.out]; omega
      have HXI := Lib.hid hxi
      have HXG := Lib.hid hxg
      obtain ⟨en, hen⟩ : ∃ en, en = G.get x := ⟨_, rfl⟩
      have hqn : en.q.length ≤ 100000 := by rw [hen]; exact Nat.le_trans (HG2q.out _) (by omega)
      have HEN := Lib.hid hen
      obtain ⟨H1, out, no, hT⟩ : ∃ H1 out no, G.took m = (H1, out, no) := ⟨_, _, _, rfl⟩
      have hok1 := HG2.out.took m
      rw [hT] at hok1
      have hno := took_no hT
      have HT := Lib.hid hT
      have HOK1 := Lib.hid hok1
      have HNO := Lib.hid hno
      clear hxi hxg hen hT hok1 hno hw32 hq8
      have mk1 : Hid (Ext w wr) := HG4
      go_wp2_with (first
        | (go_at_call 49; have mk3 := mk2; clear mk2 mk3; refine (hentry_any _ _ G _ _ _ _ HC4.out x HXI.out (Int.not_le.2 HXG.out) (HG2q.out _)).mono ?_; rw [← HEN.out]; rintro e w5 ⟨v5, o5, rfl, hE5, hs5⟩; obtain ⟨a5, c5, rfl, hr5⟩ := hs5.row Ms.okCells; have hag5 := World.agg?_alloc_at w5 (en.cells (.slice a5 en.q.length c5)) 84 w5.heap.size 11 rfl (En.cells_size _ _); have hE5a := hE5.alloc (.cells (en.cells (.slice a5 en.q.length c5)) 84); have HE5 := Lib.hid hE5a; have hag4' := (hE5a.agg (World.agg?_lt hag4)).trans hag4; have HR3 := Lib.hid (HR4.out.ext hE5a); have HR5 := Lib.hid (hr5.ext ((Ext.refl w5).alloc (.cells (en.cells (.slice a5 en.q.length c5)) 84))); clear hE5 hs5 hr5 hE5a hag4)
        | (go_at_call 49; have mk3 := mk1; clear mk1 mk3; refine (hentry_any _ _ G _ _ _ _ HH2'.out x HXI.out (Int.not_le.2 HXG.out) (HG2q.out _)).mono ?_; rw [← HEN.out]; rintro e w3 ⟨v3, o3, rfl, hE3, hs3⟩; obtain ⟨a3, c3, rfl, hr3⟩ := hs3.row Ms.okCells; have hag3 := World.agg?_alloc_at w3 (en.cells (.slice a3 en.q.length c3)) 84 w3.heap.size 11 rfl (En.cells_size _ _); have hE3a := hE3.alloc (.cells (en.cells (.slice a3 en.q.length c3)) 84); have HE3 := Lib.hid hE3a; have HS3 := Lib.hid (hs3.ext ((Ext.refl w3).alloc (.cells (en.cells (.slice a3 en.q.length c3)) 84))); have hmg3 := (hE3a.agg (World.agg?_lt hmgd)).trans hmgd; have hlt3 : w3.heap.size < (w3.alloc (.cells (en.cells (.slice a3 en.q.length c3)) 84)).heap.size := (by simp); have hle3 := hE3.size; have hle2 := HE2'.out.size; clear hE3 hs3 hr3 hE3a)
        | (go_at_call 48; refine (take_any (HG1.out.ext (HE2'.out.trans HE3.out)) m HG2.out (by omega)).mono ?_; rw [HT.out]; rintro e w4 ⟨v4, o4, F4, rfl, hs4, hh4, hf4, hc4⟩; have hag4 := (World.agg?_of_block (w' := w4) (a := ⟨w3.heap.size, 0, none⟩) (n := 11) (hc4.block _ hlt3 (by simp only; omega))).trans hag3; have HS4 := Lib.hid (HS3.out.keep fun g hg => hc4.block g (HS3.out.lt hg) (SlAt.off_home (HG1.out.ext (HE2'.out.trans HE3.out)) HS3.out g hg)); have HR4 : Hid (Row 20 Ms.cells w4 a3 en.q) := (by obtain ⟨a', c', e, hr⟩ := HS4.out.row Ms.okCells; cases e; exact hr); have HC4 := Lib.hid ((HH2'.out.ext HE3.out).chg hc4 (fun b hb hbb => by obtain ⟨l1, l2, l3, l4, l5⟩ := LL.out; rcases hb with rfl | rfl | rfl | rfl | hb <;> first | omega | (have := l5 b hb; omega))); have HH4 := Lib.hid hh4; have mk2 : Hid (Ext w wr) := HG4; have HE4 : Hid (Ext w w4) := Ext.of_chg (HG4.out.trans (HE2'.out.trans HE3.out)) hc4 (by have := LT.out; rintro b (rfl | rfl) <;> omega); clear hs4 hh4 hf4 hc4 hag3 hmg3 hlt3)
        | (go_at_call 50; refine (rsame_entry en a3 a5 c3 c5 _ HR3.out HR5.out hqn).mono ?_; rintro e w6 ⟨rfl, hE6⟩; have hag6 := (hE6.agg (World.agg?_lt hag4')).trans hag4'; have HE6 := Lib.hid (HE5.out.trans hE6); have HR6 := Lib.hid (HR3.out.ext hE6); clear hE6 hag4' hag5))
      obtain ⟨en1, hen1⟩ : ∃ en1, en1 = H1.get x := ⟨_, rfl⟩
      refine (hentry_any _ _ H1 _ _ _ _ (HH4.out.ext HE6.out) x HXI.out (by rw [HOK1.out.2, HG3.out]; omega) (Nat.le_trans (HOK1.out.1.q _) (by omega))).mono ?_
      rw [← hen1]
      rintro e w7 ⟨v7, o7, rfl, hE7, hs7⟩
      obtain ⟨a7, c7, rfl, hr7⟩ := hs7.row Ms.okCells
      have HE67 := Lib.hid hE7
      have HR7c := Lib.hid hr7
      clear hE7 hs7 hr7
      have HAG6 := Lib.hid hag6
      have HEN1 := Lib.hid hen1
      clear hag6 hen1
      go_upto_region 15 with fail
      have hb7 := heap_alloc_new w7 (.cells (en1.cells (.slice a7 en1.q.length c7)) 84)
      have hag7 := World.agg?_alloc_at w7 (en1.cells (.slice a7 en1.q.length c7)) 84 w7.heap.size 11 rfl (En.cells_size _ _)
      have hE7a := HE67.out.alloc (.cells (en1.cells (.slice a7 en1.q.length c7)) 84)
      have HR7 := Lib.hid (HR6.out.ext hE7a)
      have HR7b := Lib.hid (HR7c.out.ext ((Ext.refl w7).alloc (.cells (en1.cells (.slice a7 en1.q.length c7)) 84)))
      have hag7b : (w7.alloc (.cells (en1.cells (.slice a7 en1.q.length c7)) 84)).agg? ⟨w3.heap.size, 0, none⟩ 11 = some (en.cells (.slice a3 en.q.length c3)) := (hE7a.agg (World.agg?_lt HAG6.out)).trans HAG6.out
      have hcell : ∀ i v, (en1.cells (.slice a7 en1.q.length c7))[i]? = some v → (w7.alloc (.cells (en1.cells (.slice a7 en1.q.length c7)) 84)).cell? ⟨w7.heap.size, i, none⟩ = some v := fun i v h => (cell_of_row _ _ i _ 84 (0, 0) hb7).trans h
      have d0 := hcell 0 (.int .i64 en1.owner) rfl
      have d1 := hcell 1 (.bool en1.s0) rfl
      have d2 := hcell 2 (.bool en1.s1) rfl
      have d3 := hcell 3 (.bool en1.s2) rfl
      have d4 := hcell 4 (.bool en1.s3) rfl
      have d5 := hcell 5 (.bool en1.busy) rfl
      have d8 := hcell 8 (.int .i64 en1.waits) rfl
      have d9 := hcell 9 (.bool en1.told) rfl
      have d10 := hcell 10 (.slice a7 en1.q.length c7) rfl
      have hok := HOK1.out.1.ok x
      rw [← HEN1.out] at hok
      obtain ⟨b1', b2', b3', b4'⟩ := apart_bits hok
      have hnew : (en1 = en ∧ (no != 0) = true) ∨ (no != 0) = false := by
        by_cases h0 : no = 0
        · exact .inr (by simp [h0])
        · refine .inl ⟨?_, by simp [h0]⟩
          rcases HNO.out with h | h
          · exact absurd h h0
          · rw [HEN1.out, h, ← HEN.out]
      have REL : Hid (AptInv w n hb ib bb mb (k + 1) (w7.alloc (.cells (en1.cells (.slice a7 en1.q.length c7)) 84))) :=
        ⟨H1, F4, HH4.out.ext (HE6.out.trans hE7a), HOK1.out.1, HOK1.out.2.trans HG3.out, HE4.out.trans (HE6.out.trans hE7a)⟩
      have own : (decide ((0 : Int) ≤ en1.owner) = true ∧ en1.s0 = false ∧ en1.s1 = false ∧ en1.s2 = false ∧ en1.s3 = false) ∨ (decide ((0 : Int) ≤ en1.owner) = false ∧ (en1.s0 = true ∨ (en1.s0 = false ∧ (en1.s1 = true ∨ (en1.s1 = false ∧ (en1.s2 = true ∨ (en1.s2 = false ∧ (en1.s3 = true ∨ en1.s3 = false)))))))) := by
        cases ho : decide ((0 : Int) ≤ en1.owner) with
        | true => exact .inl ⟨rfl, b1' ho⟩
        | false => refine .inr ⟨rfl, ?_⟩; cases en1.s0 <;> cases en1.s1 <;> cases en1.s2 <;> cases en1.s3 <;> simp
      clear hb7 hE7a hcell hok HEN1 b1'
      generalize w7.alloc (.cells (en1.cells (.slice a7 en1.q.length c7)) 84) = W7 at *
      have bz : en1.busy = true ∨ (en1.busy = false ∧ (en1.waits != 0) = false ∧ en1.told = false ∧ en1.q = []) := by
        cases hz : en1.busy with
        | true => exact .inl rfl
        | false => exact .inr ⟨rfl, b4' hz⟩
      clear b4'
      go_cut [19] (fun s19 wx => (∃ b, s19 = .bool b ∧ (decide ((0 : Int) ≤ en1.owner) = true → b = false)) ∧ wx = W7)
      case first =>
        rcases own with ⟨o, e0, e1, e2, e3⟩ | ⟨o, e0 | ⟨e0, e1 | ⟨e1, e2 | ⟨e2, e3 | e3⟩⟩⟩⟩ <;> rw [e0] at d1 <;> (try rw [e1] at d2) <;> (try rw [e2] at d3) <;> (try rw [e3] at d4)
        all_goals
          go_wp2_with fail
          go_meet
          exact ⟨⟨_, rfl, by first | (intro _; rfl) | (intro h; rw [o] at h; cases h)⟩, rfl⟩
      case rest =>
        obtain ⟨⟨b, rfl, hbo⟩, rfl⟩ := hcut
        clear d1 d2 d3 d4 own
        rcases bz with z0 | ⟨z0, z1, z2, z3⟩ <;> rw [z0] at d5 <;> (try rw [z2] at d9) <;> (try rw [z3] at d10) <;> (try clear z3)
        all_goals
          cases o : decide ((0 : Int) ≤ en1.owner) with
          | true =>
            have hbf := hbo o
            subst hbf
            clear hbo
            rcases hnew with ⟨rfl, hn⟩ | hn
            · go_wp2_with (go_at_call 50; refine (rsame_entry en1 a3 a7 c3 c7 _ HR7.out HR7b.out hqn).mono ?_; rintro e w8 ⟨rfl, hE8⟩; have REL8 := Lib.hid (REL.out.ext hE8); clear hE8)
              go_roundw
              case rel => exact ⟨k + 1, by omega, by go_num, REL8.out⟩
              case measure => simp [intOf]; omega
            · go_wp2_with fail
              go_roundw
              case rel => exact ⟨k + 1, by omega, by go_num, REL.out⟩
              case measure => simp [intOf]; omega
          | false =>
            clear hbo
            rcases hnew with ⟨rfl, hn⟩ | hn
            · go_wp2_with (go_at_call 50; refine (rsame_entry en1 a3 a7 c3 c7 _ HR7.out HR7b.out hqn).mono ?_; rintro e w8 ⟨rfl, hE8⟩; have REL8 := Lib.hid (REL.out.ext hE8); clear hE8)
              go_roundw
              case rel => exact ⟨k + 1, by omega, by go_num, REL8.out⟩
              case measure => simp [intOf]; omega
            · go_wp2_with fail
              go_roundw
              case rel => exact ⟨k + 1, by omega, by go_num, REL.out⟩
              case measure => simp [intOf]; omega
    · have hkk : k = L.length := by omega
      subst hkk
      go_wp2_with (go_at_call 47; refine (known_any _).mono ?_; rintro e w9 ⟨rfl, hE9⟩; have HE9 := Lib.hid hE9; clear hE9)
      go_ret
      exact ⟨rfl, g4.trans HE9.out⟩
theorem lines_of' {M : List Int} (h : sizeOk M.length = true) (hb : ∀ b ∈ M, 0 ≤ b ∧ b < 256) : ∃ ls, bytesOf ls = M ∧ M.length = 16 * ls.length := by
  obtain ⟨ls, h1, h2⟩ := bytes_chunk (M.length / 16) M (by have := sizeOk_cases h; omega) hb
  exact ⟨ls, h1, by rw [h2]; have := sizeOk_cases h; omega⟩
theorem lawHomeApart (M : List Int) (ab : Option Addr) (cb : Nat) (L : List Ms) (al : Option Addr) (cl : Nat) (w : World) (hM : Row 1 encB w ab M) (hb : ∀ b ∈ M, 0 ≤ b ∧ b < 256) (hL : Row 20 Ms.cells w al L) :
    Calls Try.prog 12 #[.slice ab M.length cb, .slice al L.length cl] w fun e w' => e = .returned (.bool true) ∧ Ext w w' := by
  cases h : sizeOk M.length with
  | false => exact lawHomeApart_bad h
  | true =>
    obtain ⟨ls, hls, hlen⟩ := lines_of' h hb
    by_cases h128 : 128 < M.length
    · exact lawHomeApart_long h hM ls hls h128
    · by_cases h40 : 40 < L.length
      · exact lawHomeApart_many h hM ls hls (by omega) h40
      · exact lawHomeApart_main h hM ls hls (by omega) (by omega) hL
end Go.Proofs
