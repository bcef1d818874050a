/- The document's lines, walked: Put, where the line is new. -/
import Derived.Test.YtgggokajapoopaaR3
namespace Go.Proofs
open Go.RowKit
theorem keepS {w1 W W' : World} {n : Nat} {s ways : Int} {vs : Value} {x : Int} (hlt : n + 1 + 1 < w1.heap.size)
    (h : Ext w1 W ∧ W.cell? ⟨n, 0, none⟩ = some (.int .i64 s) ∧ W.cell? ⟨n, 1, none⟩ = some (.int .i64 ways) ∧ W.cell? ⟨n, 2, none⟩ = some vs ∧ W.cell? ⟨n + 1, 0, none⟩ = some (.int .u32 x)) (hE : Ext W W') :
    Ext w1 W' ∧ W'.cell? ⟨n, 0, none⟩ = some (.int .i64 s) ∧ W'.cell? ⟨n, 1, none⟩ = some (.int .i64 ways) ∧ W'.cell? ⟨n, 2, none⟩ = some vs ∧ W'.cell? ⟨n + 1, 0, none⟩ = some (.int .u32 x) := by
  obtain ⟨h1, h2, h3, h4, h5⟩ := h
  have hs := h1.size
  exact ⟨h1.trans hE, (hE.cell (by omega)).trans h2, (hE.cell (by omega)).trans h3, (hE.cell (by omega)).trans h4, (hE.cell (by omega)).trans h5⟩
theorem heldE {w1 W : World} {n : Nat} {s ways : Int} {vs : Value} {x : Int}
    (h : Ext w1 W ∧ W.cell? ⟨n, 0, none⟩ = some (.int .i64 s) ∧ W.cell? ⟨n, 1, none⟩ = some (.int .i64 ways) ∧ W.cell? ⟨n, 2, none⟩ = some vs ∧ W.cell? ⟨n + 1, 0, none⟩ = some (.int .u32 x)) : Ext w1 W := h.1
theorem grown_fresh2 {w1 W w' : World} {o o' : Option Nat} (ho : ∀ g, o = some g → w1.heap.size ≤ g) (k2 : W.grownBy w' o) (k3 : o' = o ∨ ∃ g, o' = some g ∧ W.heap.size ≤ g) (hE : Ext w1 W) : Ext w1 w' ∧ ∀ g, o' = some g → w1.heap.size ≤ g := by
  refine ⟨Ext.of_grown hE k2 ho, fun g hg => ?_⟩
  rcases k3 with h | ⟨g', h, h'⟩
  · exact ho g (h ▸ hg)
  · rw [hg] at h; cases h; exact Nat.le_trans hE.size h'
theorem grown_fresh {w1 W w' : World} {o' : Option Nat} (k2 : W.grownBy w' (some w1.heap.size)) (k3 : o' = some w1.heap.size ∨ ∃ g, o' = some g ∧ W.heap.size ≤ g) (hE : Ext w1 W) : Ext w1 w' ∧ ∀ g, o' = some g → w1.heap.size ≤ g :=
  grown_fresh2 (fun g hg => by cases hg; exact Nat.le_refl _) k2 k3 hE
set_option maxRecDepth 100000 in
set_option maxHeartbeats 400000 in
theorem rput_full (s ways : Int) (L : List Ln) (a : Option Addr) (cap : Nat) (l : Ln) (w : World) (hss : 1 ≤ s ∧ s ≤ 64) (hs1 : 1 ≤ l.st) (hs3 : l.st ≤ 3) (hL : Row 18 Ln.cells w a L) (hlen : L.length ≤ 1000) (HI : Hid (idxOf l.num L = -1))
    (hf : decide (ways ≤ ((L.filter fun x => x.num % s == l.num % s).length : Int)) = true) :
    Calls Try.prog 33 #[.agg #[.int .i64 s, .int .i64 ways, .slice a L.length cap], .agg l.cells] w fun e w' => e = .returned (.tuple #[.agg #[.int .i64 s, .int .i64 ways, .slice a L.length cap], .int .i64 200]) ∧ Ext w w' := by
  have h0 := l.ok.1.1
  have h4 := l.ok.1.2
  have HR : Hid (∀ w1, Ext w w1 → Row 18 Ln.cells w1 a L) := fun w1 h => hL.ext h
  clear hL
  obtain ⟨hss1, hss2⟩ := hss
  go_enter Try.func33, Try.ntmps33
  go_wp2_with fail
  refine (rfind_any s ways L a cap l.num _ (HR.out _ ((((Ext.refl w).alloc _).alloc _).alloc _)) hlen).mono ?_
  rintro e w1 ⟨rfl, hE⟩
  rw [HI.out]
  have hX := (Boxes.start w s ways (.slice a L.length cap) l).ext hE
  have HX := Lib.hid hX
  obtain ⟨xa0, xa1, xa2, xaf, xb0, xbs, xc0, xc1, xc2, xf0, xf1, xf2, xcs, xcl, xlt⟩ := hX
  have hE0 : Ext w w1 := ((((Ext.refl w).alloc _).alloc _).alloc _).trans hE
  clear hE
  go_wp2_with fail
  have hlt1 : w.heap.size + 1 < w1.heap.size := by omega
  have hlt0 : w.heap.size < w1.heap.size := by omega
  go_region_held3 (fun W => Ext w1 W ∧ W.cell? ⟨w.heap.size, 0, none⟩ = some (.int .i64 s) ∧ W.cell? ⟨w.heap.size, 1, none⟩ = some (.int .i64 ways) ∧ W.cell? ⟨w.heap.size, 2, none⟩ = some (.slice a L.length cap) ∧ W.cell? ⟨w.heap.size + 1, 0, none⟩ = some (.int .u32 l.num))
    ((first | exact keepS xlt (by assumption) (by assumption) | exact ⟨(Ext.refl w1).drew, xa0, xa1, xa2, xb0⟩))
    (first | (go_at_call 90; refine (rset_any s ways _ l.num _ hss1 hss2 h0 h4).mono ?_; rintro e w' ⟨rfl, hE'⟩)
           | (go_at_call 89; refine (rof_any s ways _ L a cap _ hss1 hss2 (HR.out _ (hE0.trans (heldE (n := w.heap.size) (s := s) (ways := ways) (vs := .slice a L.length cap) (x := l.num) (by assumption)))) hlen).mono ?_; rintro e w' ⟨v', o', rfl, hE', hs', -⟩; obtain ⟨a', cap', rfl, -⟩ := hs'.row Ln.okCells; clear hs'))
  rename_i hH
  have hE1 : Ext w1 w' := hH.1
  clear hH
  clear xa0 xa1 xa2 xaf xb0 xbs xc0 xc1 xc2 xf0 xf1 xf2 xcs xcl
  have hX := HX.out.ext hE1
  have HX2 := Lib.hid hX
  obtain ⟨xa0, xa1, xa2, xaf, xb0, xbs, xc0, xc1, xc2, xf0, xf1, xf2, xcs, xcl, ylt⟩ := hX
  go_wp2_with fail
  refine bodyPost_ret (resCT rfl _ _ ⟨w.heap.size + 1 + 1, 0, none⟩ _ rfl (run_loadVar28 _ _ _ _ _ (by simp [go_sem, *] <;> rfl) (by simp [go_sem, *] <;> rfl) (by simp [go_sem, *] <;> rfl))) rfl ⟨rfl, ?_⟩
  have := hE0.size
  exact (((hE0.trans hE1).setCell _ _ (by simp only; omega)).setCell _ _ (by simp only; omega)).setCell _ _ (by simp only; omega)
set_option maxRecDepth 100000 in
set_option maxHeartbeats 400000 in
theorem rput_new (s ways : Int) (L : List Ln) (a : Option Addr) (cap : Nat) (l : Ln) (w : World) (hss : 1 ≤ s ∧ s ≤ 64) (hs1 : 1 ≤ l.st) (hs3 : l.st ≤ 3) (hL : Row 18 Ln.cells w a L) (hlen : L.length ≤ 1000) (HI : Hid (idxOf l.num L = -1))
    (hf : decide (ways ≤ ((L.filter fun x => x.num % s == l.num % s).length : Int)) = false) :
    Calls Try.prog 33 #[.agg #[.int .i64 s, .int .i64 ways, .slice a L.length cap], .agg l.cells] w (RfPost w none ⟨s, ways, L ++ [l]⟩ 0) := by
  obtain ⟨i0, hi, hz0, hz1, hz2⟩ := info_parts Try.info39
  have h0 := l.ok.1.1
  have h4 := l.ok.1.2
  have HR : Hid (∀ w1, Ext w w1 → Row 18 Ln.cells w1 a L) := fun w1 h => hL.ext h
  clear hL
  obtain ⟨hss1, hss2⟩ := hss
  go_enter Try.func33, Try.ntmps33
  go_wp2_with fail
  refine (rfind_any s ways L a cap l.num _ (HR.out _ ((((Ext.refl w).alloc _).alloc _).alloc _)) hlen).mono ?_
  rintro e w1 ⟨rfl, hE⟩
  rw [HI.out]
  have hX := (Boxes.start w s ways (.slice a L.length cap) l).ext hE
  have HX := Lib.hid hX
  obtain ⟨xa0, xa1, xa2, xaf, xb0, xbs, xc0, xc1, xc2, xf0, xf1, xf2, xcs, xcl, xlt⟩ := hX
  have hE0 : Ext w w1 := ((((Ext.refl w).alloc _).alloc _).alloc _).trans hE
  clear hE
  go_wp2_with fail
  have hlt1 : w.heap.size + 1 < w1.heap.size := by omega
  have hlt0 : w.heap.size < w1.heap.size := by omega
  go_region_held3 (fun W => Ext w1 W ∧ W.cell? ⟨w.heap.size, 0, none⟩ = some (.int .i64 s) ∧ W.cell? ⟨w.heap.size, 1, none⟩ = some (.int .i64 ways) ∧ W.cell? ⟨w.heap.size, 2, none⟩ = some (.slice a L.length cap) ∧ W.cell? ⟨w.heap.size + 1, 0, none⟩ = some (.int .u32 l.num))
    ((first | exact keepS xlt (by assumption) (by assumption) | exact ⟨(Ext.refl w1).drew, xa0, xa1, xa2, xb0⟩))
    (first | (go_at_call 90; refine (rset_any s ways _ l.num _ hss1 hss2 h0 h4).mono ?_; rintro e w' ⟨rfl, hE'⟩)
           | (go_at_call 89; refine (rof_any s ways _ L a cap _ hss1 hss2 (HR.out _ (hE0.trans (heldE (n := w.heap.size) (s := s) (ways := ways) (vs := .slice a L.length cap) (x := l.num) (by assumption)))) hlen).mono ?_; rintro e w' ⟨v', o', rfl, hE', hs', -⟩; obtain ⟨a', cap', rfl, -⟩ := hs'.row Ln.okCells; clear hs'))
  rename_i hH
  have hE1 : Ext w1 w' := hH.1
  clear hH
  clear xa0 xa1 xa2 xaf xb0 xbs xc0 xc1 xc2 xf0 xf1 xf2 xcs xcl
  have hX := HX.out.ext hE1
  have HX2 := Lib.hid hX
  obtain ⟨xa0, xa1, xa2, xaf, xb0, xbs, xc0, xc1, xc2, xf0, xf1, xf2, xcs, xcl, ylt⟩ := hX
  have hE2 := hE0.trans hE1
  clear hE0 hE1 HX hlt1 hlt0 xlt
  have hlt1 : w.heap.size + 1 < w'.heap.size := by omega
  have hlt0 : w.heap.size < w'.heap.size := by omega
  have HE := Lib.hid (hE2.alloc (.cells #[] 39))
  go_wp2_with first
    | (at_builtin; refine wpList_append_sl rfl (.tmp 36) (.tmp 38) 26 rfl i0 _ Try.underlying26 hi hz0 hz1 (by rfl) (by decide) (by rw [hz2]; decide) Ln.okCells _ [] _ (emptySet _) _ _ L (HR.out _ HE.out) rfl rfl (by simp; omega) ?_; intro v1 o1 w2 k1 k2 k3; obtain ⟨hE3, hfr1⟩ := grown_fresh (w1 := w') k2 k3 ((Ext.refl w').alloc _); clear k2 k3; rw [List.nil_append] at k1; obtain ⟨a1, c1, rfl, -⟩ := k1.row Ln.okCells; have hX := HX2.out.ext hE3; obtain ⟨ya0, ya1, ya2, yaf, yb0, ybs, yc0, yc1, yc2, yf0, yf1, yf2, ycs, ycl, ylt⟩ := hX; have HK : Hid (∀ ob, SetAt (w2.alloc ob) (.slice a1 L.length c1) L o1) := fun ob => k1.ext ((Ext.refl w2).alloc ob); clear k1)
    | (at_builtin; refine wpList_append_sl rfl (.tmp 46) (.tmp 48) 26 rfl i0 _ Try.underlying26 hi hz0 hz1 (by rfl) (by decide) (by rw [hz2]; decide) Ln.okCells _ L o1 (HK.out _) _ _ [l] (Row_alloc_one Ln.okCells w2 l 39) rfl rfl (by simp; omega) ?_; intro v4 o4 w4 k1 k2 k3; obtain ⟨hE4, hfr4⟩ := grown_fresh2 (w1 := w') hfr1 k2 k3 (hE3.alloc _); clear k2 k3; obtain ⟨a4, c4, rfl, -⟩ := k1.row Ln.okCells; have hX := HX2.out.ext hE4; obtain ⟨za0, za1, za2, zaf, zb0, zbs, zc0, zc1, zc2, zf0, zf1, zf2, zcs, zcl, zlt⟩ := hX; have HK4 := Lib.hid k1; clear k1)
  refine bodyPost_ret (resCT rfl _ _ ⟨w.heap.size + 1 + 1, 0, none⟩ _ rfl (run_loadVar28 _ _ _ _ _ (by simp [go_sem, *] <;> rfl) (by simp [go_sem, *] <;> rfl) (by simp [go_sem, *] <;> rfl))) rfl ⟨_, o4, rfl, ⟨_, rfl, ?_⟩, ?_, .inr fun g' hg' => ?_⟩
  · have e : L.length + 1 = (L ++ [l]).length := by simp
    rw [e]
    refine HK4.out.keep fun b hb => ?_
    have := hfr4 b hb
    rw [heap_setCell_other _ _ _ _ (by simp only; omega), heap_setCell_other _ _ _ _ (by simp only; omega), heap_setCell_other _ _ _ _ (by simp only; omega), heap_setCell_other _ _ _ _ (by simp only; omega)]
  · have := hE2.size
    exact ((((hE2.trans hE4).setCell _ _ (by simp)).setCell _ _ (by simp only; omega)).setCell _ _ (by simp only; omega)).setCell _ _ (by simp only; omega)
  · exact Nat.le_trans hE2.size (hfr4 g' hg')
/-- The document's Put. -/
theorem rput_any (v : Value) (r : Rf) (o : Option Nat) (l : Ln) (w : World) (h : RfAt w v r o) (h1 : 1 ≤ r.sets ∧ r.sets ≤ 64) (hl : r.L.length ≤ 1000) :
    Calls Try.prog 33 #[v, .agg l.cells] w (RfPost w o (r.put l).1 (r.put l).2) := by
  obtain ⟨vs, rfl, hs⟩ := h
  obtain ⟨s, ways, L⟩ := r
  have hs' := hs
  obtain ⟨a, cap, rfl, hr⟩ := hs.row Ln.okCells
  simp only at h1 hl hs' hr ⊢
  by_cases hst : l.st < 1 ∨ 3 < l.st
  · refine (rput_arg s ways L a cap l w hst).mono ?_
    rintro e w' ⟨rfl, hE⟩
    simp only [Rf.put, hst, if_true]
    exact ⟨_, o, rfl, ⟨_, rfl, hs'.ext hE⟩, hE, .inl rfl⟩
  · cases hidx : L.findIdx? (·.num == l.num) with
    | some j =>
      have HI : Hid (idxOf l.num L = (j : Int)) := by unfold Hid idxOf; rw [hidx]
      obtain ⟨hj, h1, _⟩ := List.findIdx?_eq_some_iff_getElem.1 hidx
      refine (rput_there s ways L a cap l w (by omega) (by omega) hr hl j HI hj).mono ?_
      rintro e w' ⟨v', o', h1, h2, h3, h4⟩
      simp only [Rf.put, hst, if_false, hidx]
      exact ⟨v', o', h1, h2, h3, .inr (by rcases h4 with rfl | h4; simp; exact h4)⟩
    | none =>
      have HI : Hid (idxOf l.num L = -1) := by unfold Hid idxOf; rw [hidx]
      by_cases hf : ways ≤ ((L.filter fun x => x.num % s == l.num % s).length : Int)
      · refine (rput_full s ways L a cap l w h1 (by omega) (by omega) hr hl HI (by simpa using hf)).mono ?_
        rintro e w' ⟨rfl, hE⟩
        simp only [Rf.put, hst, if_false, hidx, Rf.of, ge_iff_le, hf, if_true]
        exact ⟨_, o, rfl, ⟨_, rfl, hs'.ext hE⟩, hE, .inl rfl⟩
      · refine (rput_new s ways L a cap l w h1 (by omega) (by omega) hr hl HI (by simpa using hf)).mono ?_
        rintro e w' ⟨v', o', h1, h2, h3, h4⟩
        simp only [Rf.put, hst, if_false, hidx, Rf.of, ge_iff_le, hf]
        exact ⟨v', o', h1, h2, h3, .inr (by rcases h4 with rfl | h4; simp; exact h4)⟩
end Go.Proofs
