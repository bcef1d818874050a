import Derived.Test.YtgggokajapoopaaRa
/- The document's lines, walked: Put, where the line is new. -/
namespace Go.Proofs
open Go.RowKit
theorem keepS {w1 W W' : World} {n : Nat} {s ways : Int} {vs : Value} {x : Int} (hlt : n + 1 + 1 < w1.heap.size)
    (h : Ext w1 W ∧ W.cell? ⟨n, 0, none⟩ = some (.int .i64 s) ∧ W.cell? ⟨n, 1, none⟩ = some (.int .i64 ways) ∧ W.cell? ⟨n, 2, none⟩ = some vs ∧ W.cell? ⟨n + 1, 0, none⟩ = some (.int .u32 x)) (hE : Ext W W') :
    Ext w1 W' ∧ W'.cell? ⟨n, 0, none⟩ = some (.int .i64 s) ∧ W'.cell? ⟨n, 1, none⟩ = some (.int .i64 ways) ∧ W'.cell? ⟨n, 2, none⟩ = some vs ∧ W'.cell? ⟨n + 1, 0, none⟩ = some (.int .u32 x) := by
  obtain ⟨h1, h2, h3, h4, h5⟩ := h
  have hs := h1.size
  exact ⟨h1.trans hE, (hE.cell (by omega)).trans h2, (hE.cell (by omega)).trans h3, (hE.cell (by omega)).trans h4, (hE.cell (by omega)).trans h5⟩
theorem heldE {w1 W : World} {n : Nat} {s ways : Int} {vs : Value} {x : Int}
    (h : Ext w1 W ∧ W.cell? ⟨n, 0, none⟩ = some (.int .i64 s) ∧ W.cell? ⟨n, 1, none⟩ = some (.int .i64 ways) ∧ W.cell? ⟨n, 2, none⟩ = some vs ∧ W.cell? ⟨n + 1, 0, none⟩ = some (.int .u32 x)) : Ext w1 W := h.1
theorem grown_fresh2 {w1 W w' : World} {o o' : Option Nat} (ho : ∀ g, o = some g → w1.heap.size ≤ g) (k2 : W.grownBy w' o) (k3 : o' = o ∨ ∃ g, o' = some g ∧ W.heap.size ≤ g) (hE : Ext w1 W) : Ext w1 w' ∧ ∀ g, o' = some g → w1.heap.size ≤ g := by
  refine ⟨Ext.of_grown hE k2 ho, fun g hg => ?_⟩
  rcases k3 with h | ⟨g', h, h'⟩
  · exact ho g (h ▸ hg)
  · rw [hg] at h; cases h; exact Nat.le_trans hE.size h'
theorem grown_fresh {w1 W w' : World} {o' : Option Nat} (k2 : W.grownBy w' (some w1.heap.size)) (k3 : o' = some w1.heap.size ∨ ∃ g, o' = some g ∧ W.heap.size ≤ g) (hE : Ext w1 W) : Ext w1 w' ∧ ∀ g, o' = some g → w1.heap.size ≤ g :=
  grown_fresh2 (fun g hg => by cases hg; exact Nat.le_refl _) k2 k3 hE
set_option maxRecDepth 100000 in
set_option maxHeartbeats 400000 in
theorem rput_full (s ways : Int) (L : List Ln) (a : Option Addr) (cap : Nat) (l : Ln) (w : World) (hss : 1 ≤ s ∧ s ≤ 64) (hs1 : 1 ≤ l.st) (hs3 : l.st ≤ 3) (hL : Row 18 Ln.cells w a L) (hlen : L.length ≤ 1000) (HI : Hid (idxOf l.num L = -1))
    (hf : decide (ways ≤ ((L.filter fun x => x.num % s == l.num % s).length : Int)) = true) :
    Calls Try.prog 33 #[.agg #[.int .i64 s, .int .i64 ways, .slice a L.length cap], .agg l.cells] w fun e w' => e = .returned (.tuple #[.agg #[.int .i64 s, .int .i64 ways, .slice a L.length cap], .int .i64 200]) ∧ Ext w w' := by
  have h0 := l.ok.1.1
  have h4 := l.ok.1.2
  have HR : Hid (∀ w1, Ext w w1 → Row 18 Ln.cells w1 a L) := fun w1 h => hL.ext h
  clear hL
  obtain ⟨hss1, hss2⟩ := hss
  go_enter Try.func33, Try.ntmps33
  go_wp2_with fail
  refine (rfind_any s ways L a cap l.num _ (HR.out _ ((((Ext.refl w).alloc _).alloc _).alloc _)) hlen).mono ?_
  rintro e w1 ⟨rfl, hE⟩
  rw [HI.out]
  have hX := (Boxes.start w s ways (.slice a L.length cap) l).ext hE
  have HX := Lib.hid hX
  obtain ⟨xa0, xa1, xa2, xaf, xb0, xbs, xc0, xc1, xc2, xf0, xf1, xf2, xcs, xcl, xlt⟩ := hX
  have hE0 : Ext w w1 := ((((Ext.refl w).alloc _).alloc _).alloc _).trans hE
  clear hE
  go_wp2_with fail
  have hlt1 : w.heap.size + 1 < w1.heap.size := by omega
  have hlt0 : w.heap.size < w1.heap.size := by omega
  go_region_held3 (fun W => Ext w1 W ∧ W.cell? ⟨w.heap.size, 0, none⟩ = some (.int .i64 s) ∧ W.cell? ⟨w.heap.size, 1, none⟩ = some (.int .i64 ways) ∧ W.cell? ⟨w.heap.size, 2, none⟩ = some (.slice a L.length cap) ∧ W.cell? ⟨w.heap.size + 1, 0, none⟩ = some (.int .u32 l.num))
    ((first | exact keepS xlt (by assumption) (by assumption) | exact ⟨(Ext.refl w1).drew, xa0, xa1, xa2, xb0⟩))
    (first | (go_at_call 90; refine (rset_any s ways _ l.num _ hss1 hss2 h0 h4).mono ?_; rintro e w' ⟨rfl, hE'⟩)
           | (go_at_call 89; refine (rof_any s ways _ L a cap _ hss1 hss2 (HR.out _ (hE0.trans (heldE (n := w.heap.size) (s := s) (ways := ways) (vs := .slice a L.length cap) (x := l.num) (by assumption)))) hlen).mono ?_; rintro e w' ⟨v', o', rfl, hE', hs', -⟩; obtain ⟨a', cap', rfl, -⟩ := hs'.row Ln.okCells; clear hs'))
  rename_i hH
  have hE1 : Ext w1 w' := hH.1
  clear hH
  clear xa0 xa1 xa2 xaf xb0 xbs xc0 xc1 xc2 xf0 xf1 xf2 xcs xcl
  have hX := HX.out.ext hE1
  have HX2 := Lib.hid hX
  obtain ⟨xa0, xa1, xa2, xaf, xb0, xbs, xc0, xc1, xc2, xf0, xf1, xf2, xcs, xcl, ylt⟩ := hX
  go_wp2_with fail
  refine bodyPost_ret (resCT rfl _ _ ⟨w.heap.size + 1 + 1, 0, none⟩ _ rfl (run_loadVar28 _ _ _ _ _ (by simp [go_sem, *] <;> rfl) (by simp [go_sem, *] <;> rfl) (by simp [go_sem, *] <;> rfl))) rfl ⟨rfl, ?_⟩
  have := hE0.size
  exact (((hE0.trans hE1).setCell _ _ (by simp only; omega)).setCell _ _ (by simp only; omega)).setCell _ _ (by simp only; omega)
set_option maxRecDepth 100000 in
set_option maxHeartbeats 400000 in
theorem rput_new (s ways : Int) (L : List Ln) (a : Option Addr) (cap : Nat) (l : Ln) (w : World) (hss : 1 ≤ s ∧ s ≤ 64) (hs1 : 1 ≤ l.st) (hs3 : l.st ≤ 3) (hL : Row 18 Ln.cells w a L) (hlen : L.length ≤ 1000) (HI : Hid (idxOf l.num L = -1))
    (hf : decide (ways ≤ ((L.filter fun x => x.num % s == l.num % s).length : Int)) = false) :
    Calls Try.prog 33 #[.agg #[.int .i64 s, .int .i64 ways, .slice a L.length cap], .agg l.cells] w (RfPost w none ⟨s, ways, L ++ [l]⟩ 0) := by
  obtain ⟨i0, hi, hz0, hz1, hz2⟩ := info_parts Try.info39
  have h0 := l.ok.1.1
  have h4 := l.ok.1.2
  have HR : Hid (∀ w1, Ext w w1 → Row 18 Ln.cells w1 a L) := fun w1 h => hL.ext h
  clear hL
  obtain ⟨hss1, hss2⟩ := hss
  go_enter Try.func33, Try.ntmps33
  go_wp2_with fail
  refine (rfind_any s ways L a cap l.num _ (HR.out _ ((((Ext.refl w).alloc _).alloc _).alloc _)) hlen).mono ?_
  rintro e w1 ⟨rfl, hE⟩
  rw [HI.out]
  have hX := (Boxes.start w s ways (.slice a L.length cap) l).ext hE
  have HX := Lib.hid hX
  obtain ⟨xa0, xa1, xa2, xaf, xb0, xbs, xc0, xc1, xc2, xf0, xf1, xf2, xcs, xcl, xlt⟩ := hX
  have hE0 : Ext w w1 := ((((Ext.refl w).alloc _).alloc _).alloc _).trans hE
  clear hE
  go_wp2_with fail
  have hlt1 : w.heap.size + 1 < w1.heap.size := by omega
  have hlt0 : w.heap.size < w1.heap.size := by omega
  go_region_held3 (fun W => Ext w1 W ∧ W.cell? ⟨w.heap.size, 0, none⟩ = some (.int .i64 s) ∧ W.cell? ⟨w.heap.size, 1, none⟩ = some (.int .i64 ways) ∧ W.cell? ⟨w.heap.size, 2, none⟩ = some (.slice a L.length cap) ∧ W.cell? ⟨w.heap.size + 1, 0, none⟩ = some (.int .u32 l.num))
    ((first | exact keepS xlt (by assumption) (by assumption) | exact ⟨(Ext.refl w1).drew, xa0, xa1, xa2, xb0⟩))
    (first | (go_at_call 90; refine (rset_any s ways _ l.num _ hss1 hss2 h0 h4).mono ?_; rintro e w' ⟨rfl, hE'⟩)
           | (go_at_call 89; refine (rof_any s ways _ L a cap _ hss1 hss2 (HR.out _ (hE0.trans (heldE (n := w.heap.size) (s := s) (ways := ways) (vs := .slice a L.length cap) (x := l.num) (by assumption)))) hlen).mono ?_; rintro e w' ⟨v', o', rfl, hE', hs', -⟩; obtain ⟨a', cap', rfl, -⟩ := hs'.row Ln.okCells; clear hs'))
  rename_i hH
  have hE1 : Ext w1 w' := hH.1
  clear hH
  clear xa0 xa1 xa2 xaf xb0 xbs xc0 xc1 xc2 xf0 xf1 xf2 xcs xcl
  have hX := HX.out.ext hE1
  have HX2 := Lib.hid hX
  obtain ⟨xa0, xa1, xa2, xaf, xb0, xbs, xc0, xc1, xc2, xf0, xf1, xf2, xcs, xcl, ylt⟩ := hX
  have hE2 := hE0.trans hE1
  clear hE0 hE1 HX hlt1 hlt0 xlt
  have hlt1 : w.heap.size + 1 < w'.heap.size := by omega
  have hlt0 : w.heap.size < w'.heap.size := by omega
  have HE := Lib.hid (hE2.alloc (.cells #[] 39))
  go_wp2_with first
    | (at_builtin; refine wpList_append_sl rfl (.tmp 36) (.tmp 38) 26 rfl i0 _ Try.underlying26 hi hz0 hz1 (by rfl) (by decide) (by rw [hz2]; decide) Ln.okCells _ [] _ (emptySet _) _ _ L (HR.out _ HE.out) rfl rfl (by simp; omega) ?_; intro v1 o1 w2 k1 k2 k3; obtain ⟨hE3, hfr1⟩ := grown_fresh (w1 := w') k2 k3 ((Ext.refl w').alloc _); clear k2 k3; rw [List.nil_append] at k1; obtain ⟨a1, c1, rfl, -⟩ := k1.row Ln.okCells; have hX := HX2.out.ext hE3; obtain ⟨ya0, ya1, ya2, yaf, yb0, ybs, yc0, yc1, yc2, yf0, yf1, yf2, ycs, ycl, ylt⟩ := hX; have HK : Hid (∀ ob, SetAt (w2.alloc ob) (.slice a1 L.length c1) L o1) := fun ob => k1.ext ((Ext.refl w2).alloc ob); clear k1)
    | (at_builtin; refine wpList_append_sl rfl (.tmp 46) (.tmp 48) 26 rfl i0 _ Try.underlying26 hi hz0 hz1 (by rfl) (by decide) (by rw [hz2]; decide) Ln.okCells _ L o1 (HK.out _) _ _ [l] (Row_alloc_one Ln.okCells w2 l 39) rfl rfl (by simp; omega) ?_; intro v4 o4 w4 k1 k2 k3; obtain ⟨hE4, hfr4⟩ := grown_fresh2 (w1 := w') hfr1 k2 k3 (hE3.alloc _); clear k2 k3; obtain ⟨a4, c4, rfl, -⟩ := k1.row Ln.okCells; have hX := HX2.out.ext hE4; obtain ⟨za0, za1, za2, zaf, zb0, zbs, zc0, zc1, zc2, zf0, zf1, zf2, zcs, zcl, zlt⟩ := hX; have HK4 := Lib.hid k1; clear k1)
  refine bodyPost_ret (resCT rfl _ _ ⟨w.heap.size + 1 + 1, 0, none⟩ _ rfl (run_loadVar28 _ _ _ _ _ (by simp [go_sem, *] <;> rfl) (by simp [go_sem, *] <;> rfl) (by simp [go_sem, *] <;> rfl))) rfl ⟨_, o4, rfl, ⟨_, rfl, ?_⟩, ?_, .inr fun g' hg' => ?_⟩
  · have e : L.length + 1 = (L ++ [l]).length := by simp
    rw [e]
    refine HK4.out.keep fun b hb => ?_
    have := hfr4 b hb
    rw [heap_setCell_other _ _ _ _ (by simp only; omega), heap_setCell_other _ _ _ _ (by simp only; omega), heap_setCell_other _ _ _ _ (by simp only; omega), heap_setCell_other _ _ _ _ (by simp only; omega)]
  · have := hE2.size
    exact ((((hE2.trans hE4).setCell _ _ (by simp)).setCell _ _ (by simp only; omega)).setCell _ _ (by simp only; omega)).setCell _ _ (by simp only; omega)
  · exact Nat.le_trans hE2.size (hfr4 g' hg')
/-- The document's Put. -/
theorem rput_any (v : Value) (r : Rf) (o : Option Nat) (l : Ln) (w : World) (h : RfAt w v r o) (h1 : 1 ≤ r.sets ∧ r.sets ≤ 64) (hl : r.L.length ≤ 1000) :
    Calls Try.prog 33 #[v, .agg l.cells] w (RfPost w o (r.put l).1 (r.put l).2) := by
  obtain ⟨vs, rfl, hs⟩ := h
  obtain ⟨s, ways, L⟩ := r
  have hs' := hs
  obtain ⟨a, cap, rfl, hr⟩ := hs.row Ln.okCells
  simp only at h1 hl hs' hr ⊢
  by_cases hst : l.st < 1 ∨ 3 < l.st
  · refine (rput_arg s ways L a cap l w hst).mono ?_
    rintro e w' ⟨rfl, hE⟩
    simp only [Rf.put, hst, if_true]
    exact ⟨_, o, rfl, ⟨_, rfl, hs'.ext hE⟩, hE, .inl rfl⟩
  · cases hidx : L.findIdx? (·.num == l.num) with
    | some j =>
      have HI : Hid (idxOf l.num L = (j : Int)) := by unfold Hid idxOf; rw [hidx]
      obtain ⟨hj, h1, _⟩ := List.findIdx?_eq_some_iff_getElem.1 hidx
      refine (rput_there s ways L a cap l w (by omega) (by omega) hr hl j HI hj).mono ?_
      rintro e w' ⟨v', o', h1, h2, h3, h4⟩
      simp only [Rf.put, hst, if_false, hidx]
      exact ⟨v', o', h1, h2, h3, .inr (by rcases h4 with rfl | h4; simp; exact h4)⟩
    | none =>
      have HI : Hid (idxOf l.num L = -1) := by unfold Hid idxOf; rw [hidx]
      by_cases hf : ways ≤ ((L.filter fun x => x.num % s == l.num % s).length : Int)
      · refine (rput_full s ways L a cap l w h1 (by omega) (by omega) hr hl HI (by simpa using hf)).mono ?_
        rintro e w' ⟨rfl, hE⟩
        simp only [Rf.put, hst, if_false, hidx, Rf.of, ge_iff_le, hf, if_true]
        exact ⟨_, o, rfl, ⟨_, rfl, hs'.ext hE⟩, hE, .inl rfl⟩
      · refine (rput_new s ways L a cap l w h1 (by omega) (by omega) hr hl HI (by simpa using hf)).mono ?_
        rintro e w' ⟨v', o', h1, h2, h3, h4⟩
        simp only [Rf.put, hst, if_false, hidx, Rf.of, ge_iff_le, hf]
        exact ⟨v', o', h1, h2, h3, .inr (by rcases h4 with rfl | h4; simp; exact h4)⟩
end Go.Proofs
/- The document's lines, walked: Drop. -/
namespace Go
def Rf.drop (r : Rf) (n : Int) : Rf := { r with L := r.L.filter fun l => l.num != n }
def RfPost1 (w : World) (r : Rf) (e : Ending) (w' : World) : Prop :=
  ∃ v' o', e = .returned v' ∧ RfAt w' v' r o' ∧ Ext w w' ∧ ∀ g, o' = some g → w.heap.size ≤ g
end Go
namespace Go.Proofs
open Go.RowKit
/-- The two boxes of Drop: the document's cache, and the result. -/
structure Boxes2 (W : World) (n : Nat) (s ways : Int) (vs : Value) : Prop where
  a0 : W.cell? ⟨n, 0, none⟩ = some (.int .i64 s)
  a1 : W.cell? ⟨n, 1, none⟩ = some (.int .i64 ways)
  a2 : W.cell? ⟨n, 2, none⟩ = some vs
  af : W.frozen? ⟨n, 2, none⟩ = false
  c0 : W.cell? ⟨n + 1, 0, none⟩ = some (.int .i64 0)
  c1 : W.cell? ⟨n + 1, 1, none⟩ = some (.int .i64 0)
  c2 : W.cell? ⟨n + 1, 2, none⟩ = some (.slice none 0 0)
  f0 : W.frozen? ⟨n + 1, 0, none⟩ = false
  f1 : W.frozen? ⟨n + 1, 1, none⟩ = false
  f2 : W.frozen? ⟨n + 1, 2, none⟩ = false
  lt : n + 1 < W.heap.size
theorem Boxes2.ext {W W' : World} {n : Nat} {s ways : Int} {vs : Value} (h : Boxes2 W n s ways vs) (hE : Ext W W') : Boxes2 W' n s ways vs := by
  have h1 := h.lt
  obtain ⟨r1, r2, r3, r5, r4⟩ := hE.rules
  exact ⟨(r1 _ _ (by omega)).trans h.a0, (r1 _ _ (by omega)).trans h.a1, (r1 _ _ (by omega)).trans h.a2, (r2 _ _ (by omega)).trans h.af,
    (r1 _ _ (by omega)).trans h.c0, (r1 _ _ (by omega)).trans h.c1, (r1 _ _ (by omega)).trans h.c2, (r2 _ _ (by omega)).trans h.f0, (r2 _ _ (by omega)).trans h.f1, (r2 _ _ (by omega)).trans h.f2, by omega⟩
/-- The world of Drop behind its beginning. -/
def dropW (w : World) (s ways : Int) (vs : Value) : World := (w.alloc (.cells #[.int .i64 s, .int .i64 ways, vs] 28)).alloc (.cells #[.int .i64 0, .int .i64 0, .slice none 0 0] 28)
theorem Boxes2.start (w : World) (s ways : Int) (vs : Value) : Boxes2 (dropW w s ways vs) w.heap.size s ways vs := by
  unfold dropW
  constructor <;> simp [go_sem]
theorem ext_dropW (w : World) (s ways : Int) (vs : Value) : Ext w (dropW w s ways vs) := ((Ext.refl w).alloc _).alloc _
theorem size_dropW (w : World) (s ways : Int) (vs : Value) : (dropW w s ways vs).heap.size = w.heap.size + 2 := by simp [dropW]
set_option maxRecDepth 100000 in
set_option maxHeartbeats 400000 in
theorem rdrop_arg (s ways n : Int) (L : List Ln) (a : Option Addr) (cap : Nat) (w : World) (hL : Row 18 Ln.cells w a L) (hlen : L.length ≤ 1000) :
    Calls Try.prog 37 #[.agg #[.int .i64 s, .int .i64 ways, .slice a L.length cap], .int .u32 n] w (RfPost1 w ⟨s, ways, L.filter fun l => l.num != n⟩) := by
  obtain ⟨i0, hi, hz0, hz1, hz2⟩ := info_parts Try.info39
  go_enter Try.func37, Try.ntmps37
  go_wp2_with fail
  go_loopw [5, 6] (fun v i wr => ∃ k : Nat, k ≤ L.length ∧ i = .int .i64 k ∧ FilInv (dropW w s ways (.slice a L.length cap)) (w.heap.size + 2) ((L.take k).filter fun l => l.num != n) v wr) (fun _ i _ => L.length - (intOf i).toNat)
  case atStart => exact ⟨0, Nat.zero_le _, rfl, none, 0, 0, none, rfl, rfl, SlAt.nil _ _, by simp, Below.refl _ _⟩
  case round =>
    obtain ⟨k, hk, rfl, hI⟩ := hrel
    have HI := Lib.hid hI
    obtain ⟨a1, n1, c1, o, rfl, hn1, hS, hfr, hE0⟩ := hI
    have hE := (ext_dropW w s ways (.slice a L.length cap)).trans hE0
    have hX := (Boxes2.start w s ways (.slice a L.length cap)).ext hE0
    have HX := Lib.hid hX
    obtain ⟨xa0, xa1, xa2, xaf, xc0, xc1, xc2, xf0, xf1, xf2, xlt⟩ := hX
    by_cases hlt : k < L.length
    · obtain ⟨x, hx⟩ : ∃ x, L[k]? = some x := ⟨L[k], by simp [hlt]⟩
      obtain ⟨b, off, rfl, hg⟩ := (hL.ext hE) k x hx
      have hbl : b < wr.heap.size := World.agg?_lt hg
      have hc0 : wr.cell? ⟨b, off + k * 18, none⟩ = some (.int .u32 x.num) := by obtain ⟨_, _, e, h⟩ := (hL.ext hE).cell hx (j := 0) (by omega); cases e; rw [Nat.add_zero] at h; rw [h]; simp [go_sem]
      have hki : (k : Int) < (L.length : Int) := by omega
      by_cases hq : x.num = n
      · have hp : (x.num != n) = false := by simp [hq]
        have HX := Lib.hid hx
        clear hx hn1 hfr hS hE0
        go_wp2_with fail
        go_roundw
        case rel => exact ⟨k + 1, by omega, by go_num, HI.out.skip HX.out hp (Ext.refl _)⟩
        case measure => simp [intOf]; omega
      · have hp : (x.num != n) = true := by simp [hq]
        have HX := Lib.hid hx
        have H1 := Lib.hid hn1
        have HF := Lib.hid hfr
        have hfl : ((L.take k).filter fun l => l.num != n).length ≤ 1000 := Nat.le_trans (List.length_filter_le _ _) (by simp; omega)
        have HS : Hid (∀ w1, Ext wr w1 → SetAt w1 (.slice a1 n1 c1) ((L.take k).filter fun l => l.num != n) o) := fun w1 h => hS.ext h
        have HE := Lib.hid hE0
        have hm : w.heap.size + 2 ≤ wr.heap.size := by omega
        clear hx hn1 hfr hS hE0
        go_wp2_with (at_builtin; refine wpList_append_sl rfl (.tmp 22) (.tmp 28) 26 rfl i0 _ Try.underlying26 hi hz0 hz1 (by rfl) (by decide) (by rw [hz2]; decide) Ln.okCells _ _ o (HS.out _ ((Ext.refl wr).alloc _)) _ _ [x] (Row_alloc_one Ln.okCells wr x 39) rfl rfl (by simp; omega) ?_; intro v' o' w' k1 k2 k3)
        go_roundw
        case rel => exact ⟨k + 1, by omega, by go_num, FilInv.take (Nat.le_of_eq (size_dropW ..)) HF.out HE.out HX.out hp ((Ext.refl wr).alloc _) k1 k2 k3 hm⟩
        case measure => simp [intOf]; omega
    · have hkk : k = L.length := by omega
      subst hkk
      rw [List.take_length] at HI
      clear hS hn1
      go_wp2_with fail
      obtain ⟨a2, n2, c2, o2, e, h2, h3, h4, h5⟩ := HI.out
      cases e
      clear h2
      refine bodyPost_ret (resC rfl _ _ ⟨w.heap.size + 1, 0, none⟩ _ rfl (run_loadVar28 _ _ _ _ _ (by simp [go_sem, *] <;> rfl) (by simp [go_sem, *] <;> rfl) (by simp [go_sem, *] <;> rfl))) rfl ⟨_, o2, rfl, ⟨_, rfl, ?_⟩, ?_, fun g' hg' => ?_⟩
      · show SetAt _ _ (L.filter fun l => l.num != n) o2
        refine h3.keep fun b hb => ?_
        have := h4 b hb
        rw [heap_setCell_other _ _ _ _ (by simp only; omega), heap_setCell_other _ _ _ _ (by simp only; omega), heap_setCell_other _ _ _ _ (by simp only; omega), heap_setCell_other _ _ _ _ (by simp only; omega)]
      · exact (((hE.setCell _ _ (by simp)).setCell _ _ (by simp only; omega)).setCell _ _ (by simp only; omega)).setCell _ _ (by simp only; omega)
      · have := h4 g' hg'; omega
theorem rdrop_any (v : Value) (r : Rf) (o : Option Nat) (n : Int) (w : World) (h : RfAt w v r o) (hl : r.L.length ≤ 1000) :
    Calls Try.prog 37 #[v, .int .u32 n] w (RfPost1 w (r.drop n)) := by
  obtain ⟨vs, rfl, hs⟩ := h
  obtain ⟨s, ways, L⟩ := r
  obtain ⟨a, cap, rfl, hr⟩ := hs.row Ln.okCells
  exact rdrop_arg s ways n L a cap w hr hl
end Go.Proofs
/- The document's lines, walked: Choice, Victim. -/
namespace Go
def Rf.victim (r : Rf) (n : Int) (pick : Int) : Option Ln :=
  match r.L.findIdx? (·.num == n) with
  | some _ => none
  | none => if ((r.of (n % r.sets)).length : Int) < r.ways then none else (r.of (n % r.sets))[choice pick (r.of (n % r.sets)).length]?
end Go
namespace Go.Proofs
open Go.RowKit
set_option maxRecDepth 100000 in
set_option maxHeartbeats 400000 in
theorem choice_any (pick : Int) (n : Nat) (w : World) (h1 : 1 ≤ n) (h2 : n ≤ 1000) : Calls Try.prog 91 #[.int .i64 pick, .int .i64 n] w fun e w' => e = .returned (.int .i64 (choice pick n : Nat)) ∧ w' = w := by
  have hT := tmod_cases pick (n := n) (by omega)
  have hl := choice_lt pick (n := n) (by omega)
  have HL := Lib.hid hl
  have HT := Lib.hid hT
  generalize choice pick n = c at *
  generalize hm : pick.tmod (n : Int) = m at *
  clear hT
  by_cases hneg : m < 0
  · have hm' : m = (c : Int) - n := by rcases HT.out with h | h <;> omega
    have hw : IntKind.i64.wrap (m + (n : Int)) = m + (n : Int) := IntWalk.i64_in _ (by omega)
    go_enter Try.func91, Try.ntmps91
    go_wp2_with fail
    go_ret
    exact ⟨ret_int (by omega), rfl⟩
  · have hm' : m = (c : Int) := by rcases HT.out with h | h <;> omega
    go_enter Try.func91, Try.ntmps91
    go_wp2_with fail
    go_ret
    exact ⟨ret_int (by omega), rfl⟩
theorem keepV {w1 W W' : World} {n : Nat} {s ways : Int} {vs : Value} (hlt : n + 1 < w1.heap.size)
    (h : Ext w1 W ∧ W.cell? ⟨n, 0, none⟩ = some (.int .i64 s) ∧ W.cell? ⟨n, 1, none⟩ = some (.int .i64 ways) ∧ W.cell? ⟨n, 2, none⟩ = some vs) (hE : Ext W W') :
    Ext w1 W' ∧ W'.cell? ⟨n, 0, none⟩ = some (.int .i64 s) ∧ W'.cell? ⟨n, 1, none⟩ = some (.int .i64 ways) ∧ W'.cell? ⟨n, 2, none⟩ = some vs := by
  obtain ⟨h1, h2, h3, h4⟩ := h
  have hs := h1.size
  exact ⟨h1.trans hE, (hE.cell (by omega)).trans h2, (hE.cell (by omega)).trans h3, (hE.cell (by omega)).trans h4⟩
theorem heldV {w1 W : World} {n : Nat} {s ways : Int} {vs : Value}
    (h : Ext w1 W ∧ W.cell? ⟨n, 0, none⟩ = some (.int .i64 s) ∧ W.cell? ⟨n, 1, none⟩ = some (.int .i64 ways) ∧ W.cell? ⟨n, 2, none⟩ = some vs) : Ext w1 W := h.1
/-- The world of Victim behind its beginning. -/
def vicW (w : World) (s ways : Int) (vs : Value) : World := (w.alloc (.cells #[.int .i64 s, .int .i64 ways, vs] 28)).alloc (.cells Ln.zero.cells 39)
structure Boxes3 (W : World) (n : Nat) (s ways : Int) (vs : Value) : Prop where
  a0 : W.cell? ⟨n, 0, none⟩ = some (.int .i64 s)
  a1 : W.cell? ⟨n, 1, none⟩ = some (.int .i64 ways)
  a2 : W.cell? ⟨n, 2, none⟩ = some vs
  cs : W.agg? ⟨n + 1, 0, none⟩ 18 = some Ln.zero.cells
  cl : W.loose (n + 1) = true
  lt : n + 1 < W.heap.size
theorem Boxes3.ext {W W' : World} {n : Nat} {s ways : Int} {vs : Value} (h : Boxes3 W n s ways vs) (hE : Ext W W') : Boxes3 W' n s ways vs := by
  have h1 := h.lt
  obtain ⟨r1, r2, r3, r5, r4⟩ := hE.rules
  exact ⟨(r1 _ _ (by omega)).trans h.a0, (r1 _ _ (by omega)).trans h.a1, (r1 _ _ (by omega)).trans h.a2, (r3 _ _ _ (by omega)).trans h.cs, (r5 _ (by omega)).trans h.cl, by omega⟩
theorem Boxes3.start (w : World) (s ways : Int) (vs : Value) : Boxes3 (vicW w s ways vs) w.heap.size s ways vs := by
  unfold vicW
  constructor <;> simp [go_sem]
theorem ext_vicW (w : World) (s ways : Int) (vs : Value) : Ext w (vicW w s ways vs) := ((Ext.refl w).alloc _).alloc _
set_option maxRecDepth 100000 in
set_option maxHeartbeats 400000 in
theorem rvictim_none (s ways n pick : Int) (L : List Ln) (a : Option Addr) (cap : Nat) (w : World) (hss1 : 1 ≤ s) (hss2 : s ≤ 64) (h0 : 0 ≤ n) (h4 : n < 4294967296) (hL : Row 18 Ln.cells w a L) (hlen : L.length ≤ 1000)
    (i : Int) (HI : Hid (idxOf n L = i)) (hf : (decide (0 ≤ i) = true) ∨ decide (0 ≤ i) = false ∧ decide (((L.filter fun x => x.num % s == n % s).length : Int) < ways) = true) :
    Calls Try.prog 30 #[.agg #[.int .i64 s, .int .i64 ways, .slice a L.length cap], .int .u32 n, .int .i64 pick] w fun e w' => e = .returned (.tuple #[.agg Ln.zero.cells, .bool false]) ∧ Ext w w' := by
  have HR : Hid (∀ w1, Ext w w1 → Row 18 Ln.cells w1 a L) := fun w1 h => hL.ext h
  clear hL
  rcases hf with hf | ⟨hf, hf2⟩
  all_goals
    go_enter Try.func30, Try.ntmps30
    go_wp2_with fail
    obtain ⟨xa0, xa1, xa2, xcs, xcl, xlt⟩ := Boxes3.start w s ways (.slice a L.length cap)
    have HX := Lib.hid (Boxes3.start w s ways (.slice a L.length cap))
    have HEW := Lib.hid (ext_vicW w s ways (.slice a L.length cap))
    change Code.wp _ _ _ _ (vicW w s ways (.slice a L.length cap))
    generalize vicW w s ways (.slice a L.length cap) = w1 at *
    have hlt0 : w.heap.size < w1.heap.size := by omega
    go_region_held3 (fun W => Ext w1 W ∧ W.cell? ⟨w.heap.size, 0, none⟩ = some (.int .i64 s) ∧ W.cell? ⟨w.heap.size, 1, none⟩ = some (.int .i64 ways) ∧ W.cell? ⟨w.heap.size, 2, none⟩ = some (.slice a L.length cap))
      ((first | exact keepV xlt (by assumption) (by assumption) | exact ⟨(Ext.refl w1).drew, xa0, xa1, xa2⟩))
      (first | (go_at_call 90; refine (rset_any s ways _ n _ hss1 hss2 h0 h4).mono ?_; rintro e w' ⟨rfl, hE'⟩)
             | (go_at_call 89; refine (rof_any s ways _ L a cap _ hss1 hss2 (HR.out _ (HEW.out.trans (heldV (n := w.heap.size) (s := s) (ways := ways) (vs := .slice a L.length cap) (by assumption)))) hlen).mono ?_; rintro e w' ⟨v', o', rfl, hE', hs', -⟩; obtain ⟨a', cap', rfl, -⟩ := hs'.row Ln.okCells; clear hs'))
    rename_i hH
    have hE1 : Ext w1 w' := hH.1
    have HE1 := Lib.hid hE1
    clear hH xa0 xa1 xa2 xcs xcl
    obtain ⟨xa0, xa1, xa2, xcs, xcl, ylt⟩ := HX.out.ext hE1
    have hE2 := HEW.out.trans hE1
    clear hE1 xlt hlt0
    go_wp2_with fail
    refine (rfind_any s ways L a cap n _ (HR.out _ hE2) hlen).mono ?_
    rintro e w3 ⟨rfl, hE3⟩
    rw [HI.out]
    clear xa0 xa1 xa2 xcs xcl
    obtain ⟨xa0, xa1, xa2, xcs, xcl, ylt3⟩ := (HX.out.ext HE1.out).ext hE3
    go_wp2_with fail
    refine bodyPost_ret (resCT rfl _ _ ⟨w.heap.size + 1, 0, none⟩ (.agg Ln.zero.cells) rfl (run_loadVar_agg 39 18 Try.isAgg39 Try.sizeOf39 _ _ _ (by simp [go_sem, xcs]))) rfl ⟨rfl, ?_⟩
    exact (hE2.trans hE3).putAgg _ _ (by simp)
set_option maxRecDepth 100000 in
set_option maxHeartbeats 400000 in
theorem rvictim_is (s ways n pick : Int) (L : List Ln) (a : Option Addr) (cap : Nat) (w : World) (hss1 : 1 ≤ s) (hss2 : s ≤ 64) (_ : 1 ≤ ways) (h0 : 0 ≤ n) (h4 : n < 4294967296) (hL : Row 18 Ln.cells w a L) (hlen : L.length ≤ 1000)
    (HI : Hid (idxOf n L = -1)) (hf : decide (((L.filter fun x => x.num % s == n % s).length : Int) < ways) = false)
    (k : Nat) (x : Ln) (HK : Hid (choice pick (L.filter fun x => x.num % s == n % s).length = k)) (hkl : k < (L.filter fun x => x.num % s == n % s).length) (HG : Hid ((L.filter fun x => x.num % s == n % s)[k]? = some x)) :
    Calls Try.prog 30 #[.agg #[.int .i64 s, .int .i64 ways, .slice a L.length cap], .int .u32 n, .int .i64 pick] w fun e w' => e = .returned (.tuple #[.agg x.cells, .bool true]) ∧ Ext w w' := by
  have HR : Hid (∀ w1, Ext w w1 → Row 18 Ln.cells w1 a L) := fun w1 h => hL.ext h
  clear hL
  have hfl : (L.filter fun x => x.num % s == n % s).length ≤ 1000 := Nat.le_trans (List.length_filter_le _ _) hlen
  have hf1 : 1 ≤ (L.filter fun x => x.num % s == n % s).length := by omega
  have hki : (k : Int) < ((L.filter fun x => x.num % s == n % s).length : Int) := by omega
  go_enter Try.func30, Try.ntmps30
  go_wp2_with fail
  obtain ⟨xa0, xa1, xa2, xcs, xcl, xlt⟩ := Boxes3.start w s ways (.slice a L.length cap)
  have HX := Lib.hid (Boxes3.start w s ways (.slice a L.length cap))
  have HEW := Lib.hid (ext_vicW w s ways (.slice a L.length cap))
  change Code.wp _ _ _ _ (vicW w s ways (.slice a L.length cap))
  generalize vicW w s ways (.slice a L.length cap) = w1 at *
  have hlt0 : w.heap.size < w1.heap.size := by omega
  go_region_held3 (fun W => Ext w1 W ∧ W.cell? ⟨w.heap.size, 0, none⟩ = some (.int .i64 s) ∧ W.cell? ⟨w.heap.size, 1, none⟩ = some (.int .i64 ways) ∧ W.cell? ⟨w.heap.size, 2, none⟩ = some (.slice a L.length cap))
    ((first | exact keepV xlt (by assumption) (by assumption) | exact ⟨(Ext.refl w1).drew, xa0, xa1, xa2⟩))
    (first | (go_at_call 90; refine (rset_any s ways _ n _ hss1 hss2 h0 h4).mono ?_; rintro e w' ⟨rfl, hE'⟩)
           | (go_at_call 89; refine (rof_any s ways _ L a cap _ hss1 hss2 (HR.out _ (HEW.out.trans (heldV (n := w.heap.size) (s := s) (ways := ways) (vs := .slice a L.length cap) (by assumption)))) hlen).mono ?_; rintro e w' ⟨v', o', rfl, hE', hs', -⟩; obtain ⟨a', cap', rfl, hrow⟩ := hs'.row Ln.okCells; have HRO := Lib.hid hrow; clear hs' hrow))
  rename_i hH
  have hE1 : Ext w1 w' := hH.1
  have HE1 := Lib.hid hE1
  clear hH xa0 xa1 xa2 xcs xcl
  obtain ⟨xa0, xa1, xa2, xcs, xcl, ylt⟩ := HX.out.ext hE1
  have hE2 := HEW.out.trans hE1
  clear hE1 xlt hlt0
  go_wp2_with fail
  refine (rfind_any s ways L a cap n _ (HR.out _ hE2) hlen).mono ?_
  rintro e w3 ⟨rfl, hE3⟩
  rw [HI.out]
  clear xa0 xa1 xa2 xcs xcl
  obtain ⟨xa0, xa1, xa2, xcs, xcl, ylt3⟩ := (HX.out.ext HE1.out).ext hE3
  obtain ⟨b, off, rfl, hg⟩ := (HRO.out.ext hE3) k x HG.out
  have hbl : b < w3.heap.size := World.agg?_lt hg
  go_wp2_with fail
  refine (choice_any pick _ _ hf1 hfl).mono ?_
  rintro e w4 ⟨rfl, rfl⟩
  rw [HK.out]
  go_wp2_with fail
  refine bodyPost_ret (resCT rfl _ _ ⟨w.heap.size + 1, 0, none⟩ (.agg x.cells) rfl (run_loadVar_agg 39 18 Try.isAgg39 Try.sizeOf39 _ _ _ (by simp [go_sem, xcs]))) rfl ⟨rfl, ?_⟩
  exact (hE2.trans hE3).putAgg _ _ (by simp)
/-- The document's Victim. -/
theorem rvictim_any (v : Value) (r : Rf) (o : Option Nat) (n pick : Int) (w : World) (h : RfAt w v r o) (h1 : 1 ≤ r.sets ∧ r.sets ≤ 64) (hw1 : 1 ≤ r.ways) (h0 : 0 ≤ n) (h4 : n < 4294967296) (hl : r.L.length ≤ 1000) :
    Calls Try.prog 30 #[v, .int .u32 n, .int .i64 pick] w fun e w' => e = .returned (.tuple #[.agg (lnOr (r.victim n pick)).cells, .bool (r.victim n pick).isSome]) ∧ Ext w w' := by
  obtain ⟨vs, rfl, hs⟩ := h
  obtain ⟨s, ways, L⟩ := r
  obtain ⟨a, cap, rfl, hr⟩ := hs.row Ln.okCells
  simp only at h1 hw1 hl hr ⊢
  cases hidx : L.findIdx? (·.num == n) with
  | some j =>
    have hv : (⟨s, ways, L⟩ : Rf).victim n pick = none := by simp only [Rf.victim, hidx]
    rw [hv]
    exact rvictim_none s ways n pick L a cap w h1.1 h1.2 h0 h4 hr hl j (by unfold Hid idxOf; rw [hidx]) (.inl (by simp))
  | none =>
    have HI : Hid (idxOf n L = -1) := by unfold Hid idxOf; rw [hidx]
    by_cases hlt : ((L.filter fun x => x.num % s == n % s).length : Int) < ways
    · have hv : (⟨s, ways, L⟩ : Rf).victim n pick = none := by simp only [Rf.victim, hidx, Rf.of, hlt, if_true]
      rw [hv]
      exact rvictim_none s ways n pick L a cap w h1.1 h1.2 h0 h4 hr hl _ HI (.inr ⟨by simp, by simpa using hlt⟩)
    · have hk := choice_lt pick (n := (L.filter fun x => x.num % s == n % s).length) (by omega)
      have hv : (⟨s, ways, L⟩ : Rf).victim n pick = some ((L.filter fun x => x.num % s == n % s)[choice pick (L.filter fun x => x.num % s == n % s).length]) := by simp [Rf.victim, hidx, Rf.of, hlt]
      rw [hv]
      exact rvictim_is s ways n pick L a cap w h1.1 h1.2 hw1 h0 h4 hr hl HI (by simpa using hlt) _ _ (rfl : choice pick _ = _) hk (List.getElem?_eq_getElem hk)
end Go.Proofs
