/- The law LinesCopies, walked: a line that is dropped behind the copy. -/
import Derived.Test.YtgggokajapoopaaLCop
namespace Go.Proofs
open Go.RowKit Go.Shelf
attribute [local go_sem] Oper.semAt_some
set_option maxRecDepth 100000 in
set_option maxHeartbeats 2000000 in
theorem lawCopies_drop (n k : Nat) (M : List Act10) (a : Option Addr) (cap : Nat) (x : Act10) (w : World) (hM : Row 19 Act10.cells w a M) (hn : pow2 n = true) (hk1 : 1 ≤ k) (hk8 : k ≤ 8) (hr : right n k = true) (hl : M.length ≤ 100) (hw0 : x.what ≠ 0) :
    Calls Try.prog 9 #[.int .i64 n, .int .i64 k, .slice a M.length cap, .agg x.cells] w fun e w' => e = .returned (.bool true) ∧ Ext w w' := by
  have hl' : decide ((100 : Int) < (M.length : Int)) = false := by simp; omega
  obtain ⟨xa0, xa1, xag, xlt⟩ := RmBox.start w x
  have xwh : (w.alloc (.cells x.cells 57)).cell? ⟨w.heap.size, 0, none⟩ = some (.int .i64 x.what) := by
    have h := World.agg?_alloc_at w x.cells 57 w.heap.size 19 rfl x.cells_size
    simpa using (Act10.sub h).1
  have HX := Lib.hid (RmBox.start w x)
  have HXW := Lib.hid xwh
  have HM : Hid (∀ ob, Row 19 Act10.cells (w.alloc ob) a M) := fun ob => hM.ext ((Ext.refl w).alloc ob)
  have HN := Lib.hid hn
  have hn' : 1 ≤ n ∧ n ≤ 64 := by simp only [pow2, Bool.or_eq_true, beq_iff_eq] at hn; omega
  clear hM hn
  refine calls_of_wp_m Try.func9 rfl ?_
  simp only [Try.ntmps9, List.size_toArray, List.length_cons, List.length_nil, Nat.reduceAdd, Nat.reduceSub, Array.replicate_succ, Array.replicate_zero, List.push_toArray, List.append_toArray, List.nil_append, List.cons_append]
  go_wp2_with (go_at_call 24; refine (right_is _ _ _ hr _).mono ?_; rintro e w' ⟨rfl, rfl⟩)
  refine (played_arg n k M a cap _ HN.out hk1 hk8 (HM.out _) (by omega)).mono ?_
  rintro e w1 ⟨p, v, c, ⟨rs, rw', L⟩, F, o, rfl, hE1, hat, ⟨vs, rfl, hs⟩, hrel, hrs, hrw, hfr, hfo⟩
  dsimp only at hrs hrw
  subst hrs hrw
  obtain ⟨pa, rfl⟩ : ∃ pa, p = .pointer pa := by obtain ⟨B, _, _, _, rfl, _⟩ := hat; exact ⟨_, rfl⟩
  have hs' := hs
  obtain ⟨a2, c2, rfl, -⟩ := hs.row Ln.okCells
  have hAw : w.heap.size < w1.heap.size := by have := hE1.size; simp at this; omega
  have HW : Hid (∀ W, Ext w1 W → RmBox W w.heap.size x ∧ W.cell? ⟨w.heap.size, 0, none⟩ = some (.int .i64 x.what)) := fun W hE => ⟨(HX.out.ext hE1).ext hE, (hE.cell hAw).trans ((hE1.cell (by simp)).trans HXW.out)⟩
  have HAT := Lib.hid hat
  have HS := Lib.hid hs'
  have HQ := Lib.hid hrel
  have HFR := Lib.hid hfr
  have HFO := Lib.hid hfo
  clear hat hs hs' hrel hfr hfo xa0 xa1 xag xlt xwh
  go_wp2_with fail
  have hEa := (Ext.refl w1).alloc (.cells #[.int .i64 n, .int .i64 k, .slice a2 L.length c2] 28)
  refine (copy_any _ c F _ (HAT.out.ext hEa)).mono ?_
  rintro e w2 ⟨pd, F2, rfl, hE2, hcp, hf2⟩
  obtain ⟨pdd, rfl⟩ : ∃ pdd, pd = .pointer pdd := by obtain ⟨B, _, _, _, rfl, _⟩ := hcp; exact ⟨_, rfl⟩
  have HCP := Lib.hid hcp
  have HF2 := Lib.hid hf2
  clear hcp hf2
  go_wp2_with fail
  refine (all_any _ c F _ (HAT.out.ext (hEa.trans hE2))).mono ?_
  rintro e w3 ⟨Bx, q, F3, rfl, hE3, hB1, hB2, hBq, hf3, hall⟩
  have HALL := Lib.hid hall
  have HBq := Lib.hid hBq
  have HF3 := Lib.hid hf3
  clear hall hBq hf3
  go_wp2_with fail
  refine (same_any _ _ c c F F2 _ (HAT.out.ext ((hEa.trans hE2).trans hE3)) (HCP.out.ext hE3)).mono ?_
  rintro e w4 ⟨rfl, hE4⟩
  rw [sameB_self]
  obtain ⟨hbx, hbw⟩ := HW.out w4 (((hEa.trans hE2).trans hE3).trans hE4)
  have HB3 : Hid (Box3 w4 w1.heap.size (.int .i64 n) (.int .i64 k) (.slice a2 L.length c2)) := by
    have h : Box3 (w1.alloc (.cells #[.int .i64 n, .int .i64 k, .slice a2 L.length c2] 28)) w1.heap.size (.int .i64 n) (.int .i64 k) (.slice a2 L.length c2) := heap_alloc_new _ _
    exact h.keep (((hE2.trans hE3).trans hE4).block _ h.facts.2.2.2.2.2.2)
  obtain ⟨y0, y1, y2, yf0, yf1, yf2, ylt⟩ := HB3.out.facts
  have hbx' := hbx
  obtain ⟨xa0, xa1, xag, xlt⟩ := hbx
  have hlw : w.heap.size + 1 ≤ w1.heap.size := by have := hE1.size; simp at this; omega
  have hl2 : w1.heap.size + 1 ≤ w2.heap.size := by have := hE2.size; simp at this; omega
  have hl34 : w3.heap.size ≤ w4.heap.size := hE4.size
  have hC0 : Cop w (w4.alloc (.cells #[.int .i64 n, .int .i64 k, .slice a2 L.length c2] 28)) (.pointer pa) (.pointer pdd) q w1.heap.size w4.heap.size Bx c c ⟨n, k, L⟩ ⟨n, k, L⟩ F F2 F3 o o (.slice a2 L.length c2) (.slice a2 L.length c2) := by
    have e1 := (((hEa.trans hE2).trans hE3).trans hE4).alloc (.cells #[.int .i64 n, .int .i64 k, .slice a2 L.length c2] 28)
    refine ⟨(((Ext.refl w).alloc _).trans hE1).trans e1, HAT.out.ext e1, HCP.out.ext ((hE3.trans hE4).alloc _), LinesAt.ext HALL.out (hE4.alloc _), ((hE4.alloc _).cell hB2).trans HBq.out, by simp; omega, ?_, heap_alloc_new _ _, HS.out.ext e1, HS.out.ext e1⟩
    exact HB3.out.keep (((Ext.refl w4).alloc _).block _ ylt)
  have hF0 : CopF w w1.heap.size w4.heap.size Bx w1.heap.size F F2 F3 o o := by
    refine ⟨fun b hb => ⟨?_, HAT.out.lt hb⟩, fun b hb => ⟨?_, ?_⟩, fun b hb => ⟨?_, ?_⟩, fun g hg => ⟨(HFO.out g hg).2, ?_⟩, fun g hg => ⟨(HFO.out g hg).2, ?_⟩, ?_⟩
    · have := HFR.out b hb; simp at this; omega
    · have := HF2.out b hb; simp at this; omega
    · have := HCP.out.lt hb; have := hE3.size; omega
    · have := HF3.out b hb; omega
    · have := HF3.out b hb; omega
    · have := HS.out.lt hg; omega
    · have := HS.out.lt hg; omega
    · omega
  have HC0 := Lib.hid hC0
  have HF0 := Lib.hid hF0
  have HWX : Hid (RmBox (w4.alloc (.cells #[.int .i64 n, .int .i64 k, .slice a2 L.length c2] 28)) w.heap.size x) := hbx'.ext ((Ext.refl w4).alloc _)
  have hsh : L.length ≤ 512 := HQ.out.short
  have hFN : Hid (∀ b, F b → b ≠ w4.heap.size) := fun b hb => by have := HAT.out.lt hb; omega
  have hXD : w.heap.size ≠ w4.heap.size := by omega
  have hXD2 : w1.heap.size ≠ w4.heap.size := by omega
  have hXF : Hid (¬ F w.heap.size) := fun hf => by have := HFR.out _ hf; simp at this; omega
  clear hC0 hF0 HB3 HALL HBq HF3 HCP HF2 HS HAT HFR HFO hbx'
  go_wp2_with fail
  obtain ⟨⟨hx0, hx1⟩, -⟩ := x.line.ok
  refine (rdrop_any _ ⟨n, k, L⟩ o x.line.num _ ⟨_, rfl, HC0.out.set⟩ (show L.length ≤ 1000 by omega)).mono ?_
  rintro e w5 ⟨v5, o5, rfl, ⟨vs5, rfl, hs5⟩, hE5, ho5⟩
  obtain ⟨hd1, hd2⟩ := HQ.out.drop x.line.num
  obtain ⟨hC1, hF1⟩ := HC0.out.ref HF0.out hFN.out hE5 hs5 (.inr ho5)
  dsimp only [Rf.drop] at hd1 hC1 hF1 hs5 ⊢
  generalize hqq : (L.filter fun l => l.num != x.line.num) = L' at *
  obtain ⟨a5, c5, rfl, -⟩ := hs5.row Ln.okCells
  try dsimp only at hC1 hF1 ⊢
  have HC1 := Lib.hid hC1
  have HF1 := Lib.hid hF1
  have HD1 := Lib.hid hd1
  obtain ⟨n0, n1, n2, nf0, nf1, nf2, nlt⟩ := (HC0.out.nx.keep (hE5.block _ (by simp)) : Box3 w5 w4.heap.size _ _ _).facts
  dsimp only at n0 n1 n2
  clear xa0 xa1 xag xlt hbw
  obtain ⟨xa0, xa1, xag, xlt⟩ := HWX.out.ext hE5
  clear hs5 hC1 hF1 hd1 hd2 hqq y0 y1 y2 yf0 yf1 yf2
  go_wp2_with fail
  clear n0 n1 n2 nf0 nf1 nf2 nlt xa0 xa1 xag xlt
  refine (drop_any _ c F x.line.num _ HC1.out.at_ hx0 hx1).mono ?_
  rintro e w6 ⟨rfl, F6, h6, hC6, hS6⟩
  have HC := Lib.hid (HC1.out.chg HF1.out hC6 h6)
  clear h6 hC6 hS6 HC1 HF1 HC0 HF0
  generalize hcc : (c.drop x.line.num).1 = c6 at *
  go_wp2_with fail
  obtain ⟨i0, hi, hz0, hz1, hz2⟩ := info_parts Try.info39
  have hGG : ∀ b, (b = Bx ∨ F3 b) → b ≠ w6.heap.size ∧ b < (w6.alloc (.cells #[.slice none 0 0] 26)).heap.size := fun b hb => by
    have hlt : b < w6.heap.size := by
      rcases hb with rfl | hb
      · exact HC.out.bl
      · exact HC.out.all.lt hb
    simp; omega
  have hC7 := HC.out.keep ((Ext.refl w6).alloc (.cells #[.slice none 0 0] 26))
  have HC7 := Lib.hid hC7
  have hw2 : w6.heap.size < (w6.alloc (.cells #[.slice none 0 0] 26)).heap.size := by simp
  have hstart : AllInv w6 (w6.alloc (.cells #[.slice none 0 0] 26)) [] (w6.alloc (.cells #[.slice none 0 0] 26)) := ⟨.slice none 0 0, none, ⟨by simp [go_sem], by simp [go_sem]⟩, SlAt.nil _ _, by simp, (Ext.refl w6).alloc _, Nat.le_refl _⟩
  have hflc : (flatO (some c)).length ≤ 1000 := Nat.le_trans HQ.out.ok.flat_le (by decide)
  generalize hW7 : w6.alloc (.cells #[.slice none 0 0] 26) = W7 at *
  refine wp_range_box (b := 16) Bx (fun b => b = Bx ∨ F3 b) F3 q (some c) rfl hC7.bq hC7.bl (.inl rfl) hC7.all (fun b hb => .inr hb) (fun b hb => (hGG b hb).2)
    (AllInv w6 W7) (fun _ _ _ => False) (allInv_own w6 W7 (by omega)) (fun _ _ _ _ _ hs _ _ => hs) hstart ?assign ?body ?done ?stop (fun pre W h => by obtain ⟨_, _, _, _, _, _, h⟩ := h; exact h)
  case assign =>
    intro l pre x W K hI hW hK
    gi_wp2
    exact hK _ _ rfl rfl
  case body =>
    rintro l pre x Bo W hl' - ⟨v, o, ⟨h1, h2⟩, h3, h4, h5, h6⟩ hBo hag hWW hlen
    obtain ⟨a0, cap0, rfl, -⟩ := h3.row Ln.okCells
    have hlt : w6.heap.size < W.heap.size := by omega
    have hBl : Bo < W.heap.size := World.agg?_lt hag
    have hpl : pre.length ≤ 1000 := by omega
    have hne : o ≠ some w6.heap.size := fun e => by have := h4 _ e; omega
    have HN := Lib.hid hne
    have H4 := Lib.hid h4
    have H3 := Lib.hid (fun ob => h3.ext ((Ext.refl W).alloc ob))
    clear hne h4
    gi_wp2_with (gi_at_builtin; refine wpListIn_append_sl rfl (.tmp 80) (.tmp 82) 26 rfl i0 _ Try.underlying26 hi hz0 hz1 (by rfl) (by decide) (by rw [hz2]; decide) Ln.okCells _ _ o (H3.out _) _ _ [x] (Row_alloc_one Ln.okCells W x 39) rfl rfl (by simp; omega) ?_; intro v' o' w' k1 k2 k3; obtain ⟨a', cap', rfl, -⟩ := k1.row Ln.okCells; obtain ⟨c1, c2⟩ := grownBy_cell k2 (b := w6.heap.size) (by simp; omega) HN.out 0)
    have e : pre.length + 1 = (pre ++ [x]).length := by simp
    rw [e]
    exact all_round2 hGG hw2 h3 H4.out h5 h6 k1 k2 k3 ⟨_, c1.trans ((World.cell?_alloc_past _ _ _ hlt).trans h1)⟩ (c2.trans ((World.frozen?_alloc_past _ _ _ hlt).trans h2))
  case stop =>
    intro D c pre W _ _ h _
    exact h.elim
  case done =>
    rintro D W9 hD ⟨v, ov, ⟨h1, h2⟩, h3, h4, h5, h6⟩ hK
    go_wp2_with fail
    have HCW := Lib.hid (HC.out.keep h5)
    have h3' := h3
    obtain ⟨am, cm, rfl, -⟩ := h3.row Ln.okCells
    have HMS := Lib.hid h3'
    have hMl : w6.heap.size < W9.heap.size := World.block_lt_of_cell? W9 _ h1
    have hC8 := HCW.out.keep ((Ext.refl W9).alloc (.cells #[.int .i64 0] 3))
    have i1 : (W9.alloc (.cells #[.int .i64 0] 3)).cell? ⟨W9.heap.size, 0, none⟩ = some (.int .i64 0) := by simp [go_sem]
    have i2 : (W9.alloc (.cells #[.int .i64 0] 3)).frozen? ⟨W9.heap.size, 0, none⟩ = false := by simp [go_sem]
    have i3 : Below W9.heap.size W9 (W9.alloc (.cells #[.int .i64 0] 3)) := (Below.refl _ _).alloc (Nat.le_refl _) _
    have hW98 : W9.heap.size ≤ (W9.alloc (.cells #[.int .i64 0] 3)).heap.size := by simp
    clear h3 h3'
    generalize hW8 : W9.alloc (.cells #[.int .i64 0] 3) = W8 at *
    clear hW8
    refine wp_range_skip Bx (fun b => b = Bx ∨ F3 b) F3 q (some c) rfl hC8.bq hC8.bl (.inl rfl) hC8.all (fun b hb => .inr hb) (fun b hb => by rcases hb with rfl | hb; exact hC8.bl; exact hC8.all.lt hb)
      (fun pre X => pre = [] ∧ (X.cell? ⟨W9.heap.size, 0, none⟩ = some (.int .i64 0) ∧ X.frozen? ⟨W9.heap.size, 0, none⟩ = false) ∧ Below W9.heap.size W9 X)
      (fun cc pre X => (cc = Code.exit 2 ∧ pre ≠ []) ∧ (X.cell? ⟨W9.heap.size, 0, none⟩ = some (.int .i64 1) ∧ X.frozen? ⟨W9.heap.size, 0, none⟩ = false) ∧ Below W9.heap.size W9 X)
      (own_cell _ _ _ _ _ hW98) (fun cc => own_cell _ _ _ _ _ hW98) ⟨rfl, ⟨i1, i2⟩, i3⟩ ?body2 ?done2 ?stop2
    case body2 =>
      rintro l pre x X hl' - ⟨rfl, ⟨q1, q2⟩, hB⟩ hlen
      gi_wp2
      exact ⟨(KeepsOthers.setCell _ _ _).from _, ⟨rfl, by simp⟩, ⟨World.cell?_setCell_same' _ _ _ (by rw [q1]; rfl), by rw [World.frozen?_setCell]; exact q2⟩, hB.setCell (p := ⟨W9.heap.size, 0, none⟩) (Nat.le_refl _) _⟩
    case' done2 =>
      rintro D2 X hD2 ⟨hp, ⟨q1, q2⟩, hB⟩ hK2
      obtain ⟨u, hu, q3⟩ : ∃ u : Int, u = min 1 (c.flat.length : Int) ∧ X.cell? ⟨W9.heap.size, 0, none⟩ = some (.int .i64 u) := ⟨0, by rw [show c.flat = [] from hp]; rfl, q1⟩
      clear hp q1
      go_wp2_with fail
    case' stop2 =>
      rintro D2 cc pre X hD2 hpp ⟨⟨rfl, hp⟩, ⟨q1, q2⟩, hB⟩ hK2
      have hfl1 : 1 ≤ c.flat.length := by
        cases pre with
        | nil => exact absurd rfl hp
        | cons y ys => have := hpp.length_le; simp [flatO] at this; omega
      obtain ⟨u, hu, q3⟩ : ∃ u : Int, u = min 1 (c.flat.length : Int) ∧ X.cell? ⟨W9.heap.size, 0, none⟩ = some (.int .i64 u) := ⟨1, by omega, q1⟩
      clear hp q1 hpp
      gi_wp2
      go_wp2_with fail
    all_goals
      have HU := Lib.hid hu
      have hCX := HCW.out.keep hB
      have HCX := Lib.hid hCX
      have hmx := (hB.cell (p := ⟨w6.heap.size, 0, none⟩) hMl).trans h1
      obtain ⟨n0, n1, n2, nf0, nf1, nf2, nlt⟩ := hCX.nx.facts
      obtain ⟨d0, d1, d2, df0, df1, df2, dlt⟩ := hCX.box.facts
      have hMl2 : w6.heap.size < X.heap.size := Nat.lt_of_lt_of_le hMl hB.size
      have hOl : W9.heap.size < X.heap.size := World.block_lt_of_cell? X _ q3
      dsimp only at n0 n1 n2 d0 d1 d2
      have hsl : L'.length ≤ 1000 := by have := HD1.out.short; dsimp only at this; omega
      have hsl2 : L.length ≤ 1000 := by omega
      have HB := Lib.hid hB
      have HMX := Lib.hid hmx
      have HOX := Lib.hid q3
      have HMZ := Lib.hid (HMS.out.ext hB)
      have tokA : True := trivial
      obtain ⟨sb, hsb⟩ : ∃ sb, sb = decide ((⟨n, k, L'⟩ : Rf).all = (⟨n, k, L⟩ : Rf).all) := ⟨_, rfl⟩
      have HSB := Lib.hid hsb
      clear hu hCX hB h1 h2 i1 i2 i3 hC8 hsb q2 nf0 nf1 nf2 df0 df1 df2
      go_region_held3 (fun W => Ext X W ∧ W.cell? ⟨w4.heap.size, 0, none⟩ = some (.int .i64 n) ∧ W.cell? ⟨w4.heap.size, 1, none⟩ = some (.int .i64 k) ∧ W.cell? ⟨w4.heap.size, 2, none⟩ = some (.slice a5 L'.length c5) ∧ W.cell? ⟨w1.heap.size, 0, none⟩ = some (.int .i64 n) ∧ W.cell? ⟨w1.heap.size, 1, none⟩ = some (.int .i64 k) ∧ W.cell? ⟨w1.heap.size, 2, none⟩ = some (.slice a2 L.length c2) ∧ W.cell? ⟨w6.heap.size, 0, none⟩ = some (.slice am c.flat.length cm) ∧ W.cell? ⟨W9.heap.size, 0, none⟩ = some (.int .i64 u))
        ((first | exact keepC nlt dlt hMl2 hOl (by assumption) (by assumption) | exact ⟨(Ext.refl X).drew, n0, n1, n2, d0, d1, d2, hmx, q3⟩))
        (first | (go_at_call 44; have _t := tokA; refine (rall_any _ ⟨n, k, L'⟩ o5 _ ⟨_, rfl, (HCX.out.keep (heldC (N := w4.heap.size) (D := w1.heap.size) (Mb := w6.heap.size) (O := W9.heap.size) (a := .int .i64 n) (b := .int .i64 k) (c := .slice a5 L'.length c5) (d := .int .i64 n) (e := .int .i64 k) (f := .slice a2 L.length c2) (m := .slice am c.flat.length cm) (u := .int .i64 u) (by assumption))).set'⟩ (by dsimp only; omega) hsl).mono ?_; rintro e w44 ⟨v44, o44, rfl, hE44, hs44, -⟩; obtain ⟨a44, c44, rfl, hrow44⟩ := hs44.row Ln.okCells; have HR44 := Lib.hid hrow44; clear hs44 hrow44 tokA)
               | (go_at_call 44; refine (rall_any _ ⟨n, k, L⟩ o _ ⟨_, rfl, (HCX.out.keep (heldC (N := w4.heap.size) (D := w1.heap.size) (Mb := w6.heap.size) (O := W9.heap.size) (a := .int .i64 n) (b := .int .i64 k) (c := .slice a5 L'.length c5) (d := .int .i64 n) (e := .int .i64 k) (f := .slice a2 L.length c2) (m := .slice am c.flat.length cm) (u := .int .i64 u) (by assumption))).set⟩ (by dsimp only; omega) hsl2).mono ?_; rintro e w45 ⟨v45, o45, rfl, hE45, hs45, -⟩; obtain ⟨a45, c45, rfl, hrow45⟩ := hs45.row Ln.okCells; have HR45 := Lib.hid hrow45; clear hs45 hrow45)
               | (go_at_call 43; refine (rsame_any _ _ _ _ _ _ _ (HR44.out.ext hE45) HR45.out (Rf.all_short HD1.out)).mono ?_; rintro e w43 ⟨rfl, hE43⟩; rw [← HSB.out]))
      rename_i hH
      have hEX := hH.1
      have HEX := Lib.hid hEX
      have hkm0 : 0 ≤ k % 8 ∧ k % 8 < 8 := by omega
      clear hH HR44 HR45 n0 n1 n2 d0 d1 d2 hmx q3 hEX hE43 hE44 hE45
      go_wp2_with fail
      rw [show ((k : Int) % 8 + 1) = ((k % 8 + 1 : Nat) : Int) by omega]
      refine (new_any n (k % 8 + 1) _ HN.out (by omega) (by omega)).mono ?_
      rintro e w10 ⟨p10, rfl, hE10, F10, h10, -⟩
      obtain ⟨pb, rfl⟩ : ∃ pb, p10 = .pointer pb := by obtain ⟨B, _, _, _, rfl, _⟩ := h10; exact ⟨_, rfl⟩
      have H10 := Lib.hid h10
      clear h10
      go_wp2_with fail
      refine (new_any n k _ HN.out hk1 hk8).mono ?_
      rintro e w11 ⟨p11, rfl, hE11, F11, h11, -⟩
      obtain ⟨pc, rfl⟩ : ∃ pc, p11 = .pointer pc := by obtain ⟨B, _, _, _, rfl, _⟩ := h11; exact ⟨_, rfl⟩
      have H11 := Lib.hid h11
      have H10' := Lib.hid (H10.out.ext hE11)
      clear h11 H10
      go_wp2_with fail
      have hCY := HCX.out.keep ((HEX.out.trans hE10).trans hE11)
      have hmx := (((HEX.out.trans hE10).trans hE11).cell (b := w6.heap.size) (o := 0) hMl2).trans HMX.out
      have hox := (((HEX.out.trans hE10).trans hE11).cell (b := W9.heap.size) (o := 0) hOl).trans HOX.out
      have HCY := Lib.hid hCY
      obtain ⟨n0, n1, n2, nf0, nf1, nf2, nlt'⟩ := hCY.nx.facts
      obtain ⟨d0, d1, d2, df0, df1, df2, dlt'⟩ := hCY.box.facts
      dsimp only at n0 n1 n2 d0 d1 d2
      have hMl3 : w6.heap.size < w11.heap.size := World.block_lt_of_cell? w11 _ hmx
      have hOl3 : W9.heap.size < w11.heap.size := World.block_lt_of_cell? w11 _ hox
      have HMY : Hid (∀ W, Ext w11 W → SetAt W (.slice am c.flat.length cm) c.flat ov) := fun W hE => (HMZ.out.ext ((HEX.out.trans hE10).trans hE11)).ext hE
      have HSB2 : Hid (sameB c6 c = sb) := by
        have := HD1.out.same HQ.out rfl rfl
        unfold Hid
        rw [this, HSB.out]
      have HSB3 : Hid (sameB c c6 = sb) := by
        have := HQ.out.same HD1.out rfl rfl
        unfold Hid
        rw [this, HSB.out]
        exact decide_eq_decide.2 eq_comm
      have HFL : Hid (c.flat = (⟨n, k, L⟩ : Rf).all) := HQ.out.flat
      have htm : (k : Int).tmod 8 = (k : Int) % 8 := Int.tmod_eq_emod_of_nonneg (by omega)
      have hwr : IntKind.i64.wrap ((k : Int) % 8 + 1) = (k : Int) % 8 + 1 := IntWalk.i64_in _ (by omega)
      have hne8 : ((k : Int) % 8 + 1 == (k : Int)) = false := by simp; omega
      have HSW : Hid (sameB ⟨k % 8 + 1, List.replicate n []⟩ ⟨k, List.replicate n []⟩ = false) := sameB_ways (by dsimp only; omega)
      have hmin : min 1 (c.flat.length : Int) = u := HU.out.symm
      have hsbb : (sb == sb) = true := by simp
      have tokB : True := trivial
      have tokC : True := trivial
      have tokD : True := trivial
      clear hCY nf0 nf1 nf2 df0 df1 df2 nlt dlt
      obtain ⟨XX, hXX⟩ : ∃ XX, XX = w11 := ⟨_, rfl⟩
      have HXX := Lib.hid hXX
      clear hXX
      go_region_held3 (fun W => Ext w11 W ∧ W.cell? ⟨w4.heap.size, 0, none⟩ = some (.int .i64 n) ∧ W.cell? ⟨w4.heap.size, 1, none⟩ = some (.int .i64 k) ∧ W.cell? ⟨w4.heap.size, 2, none⟩ = some (.slice a5 L'.length c5) ∧ W.cell? ⟨w1.heap.size, 0, none⟩ = some (.int .i64 n) ∧ W.cell? ⟨w1.heap.size, 1, none⟩ = some (.int .i64 k) ∧ W.cell? ⟨w1.heap.size, 2, none⟩ = some (.slice a2 L.length c2) ∧ W.cell? ⟨w6.heap.size, 0, none⟩ = some (.slice am c.flat.length cm) ∧ W.cell? ⟨W9.heap.size, 0, none⟩ = some (.int .i64 u))
        ((first | exact keepC nlt' dlt' hMl3 hOl3 (by assumption) (by first | assumption | exact Ext.refl _) | exact ⟨(Ext.refl w11).drew, n0, n1, n2, d0, d1, d2, hmx, hox⟩))
        (first | (go_at_call 44; refine (rall_any _ ⟨n, k, L⟩ o _ ⟨_, rfl, (HCY.out.keep (heldC (N := w4.heap.size) (D := w1.heap.size) (Mb := w6.heap.size) (O := W9.heap.size) (a := .int .i64 n) (b := .int .i64 k) (c := .slice a5 L'.length c5) (d := .int .i64 n) (e := .int .i64 k) (f := .slice a2 L.length c2) (m := .slice am c.flat.length cm) (u := .int .i64 u) (by assumption))).set⟩ (by dsimp only; omega) hsl2).mono ?_; rintro e w45 ⟨v45, o45, rfl, hE45, hs45, -⟩; obtain ⟨a45, c45, rfl, hrow45⟩ := hs45.row Ln.okCells; have HR45 := Lib.hid hrow45; clear hs45 hrow45)
               | (go_at_call 43; refine (rsame_true _ _ _ _ _ _ _ ((slAt_row_eq (HMY.out _ (heldC (N := w4.heap.size) (D := w1.heap.size) (Mb := w6.heap.size) (O := W9.heap.size) (a := .int .i64 n) (b := .int .i64 k) (c := .slice a5 L'.length c5) (d := .int .i64 n) (e := .int .i64 k) (f := .slice a2 L.length c2) (m := .slice am c.flat.length cm) (u := .int .i64 u) (by assumption))))) HR45.out (Nat.le_trans HQ.out.ok.flat_le (by decide)) HFL.out).mono ?_; rintro e w43 ⟨rfl, hE43⟩)
               | (go_at_call 27; have _t := tokB; refine (is_any _ _ F2 _ ⟨n, k, L⟩ o _ (HCY.out.keep (heldC (N := w4.heap.size) (D := w1.heap.size) (Mb := w6.heap.size) (O := W9.heap.size) (a := .int .i64 n) (b := .int .i64 k) (c := .slice a5 L'.length c5) (d := .int .i64 n) (e := .int .i64 k) (f := .slice a2 L.length c2) (m := .slice am c.flat.length cm) (u := .int .i64 u) (by assumption))).cp ⟨_, rfl, (HCY.out.keep (heldC (N := w4.heap.size) (D := w1.heap.size) (Mb := w6.heap.size) (O := W9.heap.size) (a := .int .i64 n) (b := .int .i64 k) (c := .slice a5 L'.length c5) (d := .int .i64 n) (e := .int .i64 k) (f := .slice a2 L.length c2) (m := .slice am c.flat.length cm) (u := .int .i64 u) (by assumption))).set⟩ HQ.out).mono ?_; rintro e w27 ⟨rfl, hE27⟩; clear tokB)
               | (go_at_call 27; refine (is_any _ _ F6 _ ⟨n, k, L'⟩ o5 _ (HCY.out.keep (heldC (N := w4.heap.size) (D := w1.heap.size) (Mb := w6.heap.size) (O := W9.heap.size) (a := .int .i64 n) (b := .int .i64 k) (c := .slice a5 L'.length c5) (d := .int .i64 n) (e := .int .i64 k) (f := .slice a2 L.length c2) (m := .slice am c.flat.length cm) (u := .int .i64 u) (by assumption))).at_ ⟨_, rfl, (HCY.out.keep (heldC (N := w4.heap.size) (D := w1.heap.size) (Mb := w6.heap.size) (O := W9.heap.size) (a := .int .i64 n) (b := .int .i64 k) (c := .slice a5 L'.length c5) (d := .int .i64 n) (e := .int .i64 k) (f := .slice a2 L.length c2) (m := .slice am c.flat.length cm) (u := .int .i64 u) (by assumption))).set'⟩ HD1.out).mono ?_; rintro e w28 ⟨rfl, hE28⟩)
               | (go_at_call 41; have _t := tokC; refine (same_any _ _ c6 c F6 F2 _ (HCY.out.keep (heldC (N := w4.heap.size) (D := w1.heap.size) (Mb := w6.heap.size) (O := W9.heap.size) (a := .int .i64 n) (b := .int .i64 k) (c := .slice a5 L'.length c5) (d := .int .i64 n) (e := .int .i64 k) (f := .slice a2 L.length c2) (m := .slice am c.flat.length cm) (u := .int .i64 u) (by assumption))).at_ (HCY.out.keep (heldC (N := w4.heap.size) (D := w1.heap.size) (Mb := w6.heap.size) (O := W9.heap.size) (a := .int .i64 n) (b := .int .i64 k) (c := .slice a5 L'.length c5) (d := .int .i64 n) (e := .int .i64 k) (f := .slice a2 L.length c2) (m := .slice am c.flat.length cm) (u := .int .i64 u) (by assumption))).cp).mono ?_; rintro e w41 ⟨rfl, hE41⟩; rw [HSB2.out]; clear tokC)
               | (go_at_call 41; have _t := tokD; refine (same_any _ _ c c6 F2 F6 _ (HCY.out.keep (heldC (N := w4.heap.size) (D := w1.heap.size) (Mb := w6.heap.size) (O := W9.heap.size) (a := .int .i64 n) (b := .int .i64 k) (c := .slice a5 L'.length c5) (d := .int .i64 n) (e := .int .i64 k) (f := .slice a2 L.length c2) (m := .slice am c.flat.length cm) (u := .int .i64 u) (by assumption))).cp (HCY.out.keep (heldC (N := w4.heap.size) (D := w1.heap.size) (Mb := w6.heap.size) (O := W9.heap.size) (a := .int .i64 n) (b := .int .i64 k) (c := .slice a5 L'.length c5) (d := .int .i64 n) (e := .int .i64 k) (f := .slice a2 L.length c2) (m := .slice am c.flat.length cm) (u := .int .i64 u) (by assumption))).at_).mono ?_; rintro e w42 ⟨rfl, hE42⟩; rw [HSB3.out]; clear tokD)
               | (go_at_call 41; refine (same_any _ _ ⟨k % 8 + 1, List.replicate n []⟩ ⟨k, List.replicate n []⟩ F10 F11 _ (H10'.out.ext (heldC (N := w4.heap.size) (D := w1.heap.size) (Mb := w6.heap.size) (O := W9.heap.size) (a := .int .i64 n) (b := .int .i64 k) (c := .slice a5 L'.length c5) (d := .int .i64 n) (e := .int .i64 k) (f := .slice a2 L.length c2) (m := .slice am c.flat.length cm) (u := .int .i64 u) (by assumption))) (H11.out.ext (heldC (N := w4.heap.size) (D := w1.heap.size) (Mb := w6.heap.size) (O := W9.heap.size) (a := .int .i64 n) (b := .int .i64 k) (c := .slice a5 L'.length c5) (d := .int .i64 n) (e := .int .i64 k) (f := .slice a2 L.length c2) (m := .slice am c.flat.length cm) (u := .int .i64 u) (by assumption)))).mono ?_; rintro e w49 ⟨rfl, hE49⟩; rw [HSW.out])
               | (go_at_call 25; refine (works_any _).mono ?_; rintro e w25 ⟨rfl, hE25⟩))
      rename_i hH2
      have hEf : Ext X w25 := ((HEX.out.trans hE10).trans hE11).trans hH2.1
      have HEF := Lib.hid hEf
      have HEW := Lib.hid (HCX.out.ext)
      clear hH2 hEf hE10 hE11 HEX htm hwr hne8 hmin hsbb n0 n1 n2 d0 d1 d2 hmx hox hE45 hE43 hE27 hE28 hE41 hE42 hE49 hE25
      go_wp2_with fail
      have hDl : D < W9.heap.size := (Array.getElem?_eq_some_iff.1 hK).1
      have hDX : D < X.heap.size := Nat.lt_of_lt_of_le hDl HB.out.size
      have hDX2 : D2 < X.heap.size := (Array.getElem?_eq_some_iff.1 hK2).1
      have hne : D ≠ D2 := by omega
      have hs1 := HC.out.ext.size
      have hKf2 : w25.heap[D2]? = some (.deferred (some [])) := (HEF.out.block _ hDX2).trans hK2
      have hKf : (w25.putObj D2 (.deferred none)).heap[D]? = some (.deferred (some [])) := by
        rw [World.putObj_heap_other hne, HEF.out.block _ hDX, HB.out.block _ hDl]
        exact hK
      refine ⟨by simp, .inl ⟨_, _, rfl, run_takeDeferred hKf2, ?_⟩⟩
      refine ⟨by simp, .inl ⟨_, _, rfl, run_takeDeferred hKf, ?_⟩⟩
      exact ⟨_, results_tmp rfl _ _ _, rfl, ((HEW.out.trans HEF.out).putObj _ _ (by omega)).putObj _ _ (by omega)⟩
theorem lawCopies (s ways : Int) (M : List Act10) (a : Option Addr) (cap : Nat) (x : Act10) (w : World) (hM : Row 19 Act10.cells w a M) :
    Calls Try.prog 9 #[.int .i64 s, .int .i64 ways, .slice a M.length cap, .agg x.cells] w fun e w' => e = .returned (.bool true) ∧ Ext w w' := by
  by_cases hg : right s ways = true ∧ M.length ≤ 100
  · obtain ⟨hr, hl⟩ := hg
    obtain ⟨n, k, rfl, rfl, hn, hk1, hk8⟩ := right_split hr
    by_cases hw0 : x.what = 0
    · exact lawCopies_put n k M a cap x w hM hn hk1 hk8 hr hl hw0
    · exact lawCopies_drop n k M a cap x w hM hn hk1 hk8 hr hl hw0
  · have hg' : right s ways = false ∨ right s ways = true ∧ 100 < M.length := by
      cases hr : right s ways
      · exact .inl rfl
      · exact .inr ⟨rfl, by simp [hr] at hg; omega⟩
    clear hM hg
    rcases hg' with hr | ⟨hr, hl⟩
    · go_enter Try.func9, Try.ntmps9
      go_wp2_with (go_at_call 24; refine (right_is _ _ _ hr _).mono ?_; rintro e w' ⟨rfl, rfl⟩)
      refine (works_any _).mono ?_
      rintro e w3 ⟨rfl, hE3⟩
      go_wp2_with fail
      go_ret
      exact ⟨rfl, ((Ext.refl w).alloc _).trans hE3⟩
    · have hl' : decide ((100 : Int) < (M.length : Int)) = true := by simp; omega
      go_enter Try.func9, Try.ntmps9
      go_wp2_with (go_at_call 24; refine (right_is _ _ _ hr _).mono ?_; rintro e w' ⟨rfl, rfl⟩)
      refine (works_any _).mono ?_
      rintro e w3 ⟨rfl, hE3⟩
      go_wp2_with fail
      go_ret
      exact ⟨rfl, ((Ext.refl w).alloc _).trans hE3⟩
end Go.Proofs
