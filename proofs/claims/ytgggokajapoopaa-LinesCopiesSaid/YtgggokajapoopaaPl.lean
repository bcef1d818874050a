/- The law's played: a cache and the document's behind any calls. -/
import Derived.Test.YtgggokajapoopaaAct
namespace Go
open Go.RowKit
/-- A box of three cells. -/
def Box3 (W : World) (b : Nat) (x y z : Value) : Prop := W.heap[b]? = some (.cells #[x, y, z] 28 (0, 0))
theorem Box3.facts {W : World} {b : Nat} {x y z : Value} (h : Box3 W b x y z) :
    W.cell? ⟨b, 0, none⟩ = some x ∧ W.cell? ⟨b, 1, none⟩ = some y ∧ W.cell? ⟨b, 2, none⟩ = some z ∧ W.frozen? ⟨b, 0, none⟩ = false ∧ W.frozen? ⟨b, 1, none⟩ = false ∧ W.frozen? ⟨b, 2, none⟩ = false ∧ b < W.heap.size := by
  refine ⟨?_, ?_, ?_, frozen_of_row W b _ _ 28 h, frozen_of_row W b _ _ 28 h, frozen_of_row W b _ _ 28 h, (Array.getElem?_eq_some_iff.1 h).1⟩
  · rw [cell_of_row W b 0 _ 28 (0, 0) h]; rfl
  · rw [cell_of_row W b 1 _ 28 (0, 0) h]; rfl
  · rw [cell_of_row W b 2 _ 28 (0, 0) h]; rfl
theorem Box3.set {W : World} {b : Nat} {x y z : Value} (h : Box3 W b x y z) (x' y' z' : Value) : Box3 (((W.setCell ⟨b, 0, none⟩ x').setCell ⟨b, 1, none⟩ y').setCell ⟨b, 2, none⟩ z') b x' y' z' := by
  have h1 := heap_setCell_same W b 0 _ 28 x' h
  have h2 := heap_setCell_same _ b 1 _ 28 y' h1
  have h3 := heap_setCell_same _ b 2 _ 28 z' h2
  exact h3
theorem Box3.keep {W W' : World} {b : Nat} {x y z : Value} (h : Box3 W b x y z) (hk : W'.heap[b]? = W.heap[b]?) : Box3 W' b x y z := by unfold Box3; rw [hk]; exact h
theorem heap_set3 {W : World} {b j : Nat} (x y z : Value) (h : j ≠ b) : (((W.setCell ⟨b, 0, none⟩ x).setCell ⟨b, 1, none⟩ y).setCell ⟨b, 2, none⟩ z).heap[j]? = W.heap[j]? := by
  rw [heap_setCell_other _ _ _ _ h, heap_setCell_other _ _ _ _ h, heap_setCell_other _ _ _ _ h]
theorem Ext.set3 {a W : World} (h : Ext a W) {b : Nat} (x y z : Value) (hb : a.heap.size ≤ b) : Ext a (((W.setCell ⟨b, 0, none⟩ x).setCell ⟨b, 1, none⟩ y).setCell ⟨b, 2, none⟩ z) :=
  ((h.setCell _ _ hb).setCell _ _ hb).setCell _ _ hb
/-- Between two calls of the script: a cache behind pa, the document's in the box B. A: the box of the result. -/
structure Pair (w W : World) (pa : Value) (A B : Nat) (c : Lns) (r : Rf) (F : Nat → Prop) (o : Option Nat) (vs : Value) : Prop where
  ext : Ext w W
  at_ : LinesAt W pa c F
  box : Box3 W B (.int .i64 r.sets) (.int .i64 r.ways) vs
  set : SetAt W vs r.L o
  boxA : Box3 W A (.int .i64 0) (.int .i64 0) (.slice none 0 0)
  fr : ∀ b, F b → w.heap.size ≤ b ∧ b ≠ A ∧ b ≠ B
  fo : ∀ g, o = some g → w.heap.size ≤ g ∧ g ≠ A ∧ g ≠ B ∧ ¬ F g
  ne : A ≠ B ∧ w.heap.size ≤ A ∧ w.heap.size ≤ B
theorem Pair.lt {w W : World} {pa : Value} {A B : Nat} {c : Lns} {r : Rf} {F : Nat → Prop} {o : Option Nat} {vs : Value} (h : Pair w W pa A B c r F o vs) : A < W.heap.size ∧ B < W.heap.size ∧ (∀ b, F b → b < W.heap.size) ∧ ∀ g, o = some g → g < W.heap.size :=
  ⟨h.boxA.facts.2.2.2.2.2.2, h.box.facts.2.2.2.2.2.2, fun _ hb => h.at_.lt hb, fun _ hg => h.set.lt hg⟩
theorem Pair.keep {w W W' : World} {pa : Value} {A B : Nat} {c : Lns} {r : Rf} {F : Nat → Prop} {o : Option Nat} {vs : Value} (h : Pair w W pa A B c r F o vs) (hE : Ext W W') : Pair w W' pa A B c r F o vs := by
  obtain ⟨h1, h2, -, -⟩ := h.lt
  exact ⟨h.ext.trans hE, h.at_.ext hE, h.box.keep (hE.block _ h2), h.set.ext hE, h.boxA.keep (hE.block _ h1), h.fr, h.fo, h.ne⟩
/-- The document's value is put anew. -/
theorem Pair.ref {w W W' : World} {pa : Value} {A B : Nat} {c : Lns} {r r' : Rf} {F : Nat → Prop} {o o' : Option Nat} {vs vs' : Value} (h : Pair w W pa A B c r F o vs) (hE : Ext W W') (hv : SetAt W' vs' r'.L o') (ho : o' = o ∨ ∀ g, o' = some g → W.heap.size ≤ g) :
    Pair w (((W'.setCell ⟨B, 0, none⟩ (.int .i64 r'.sets)).setCell ⟨B, 1, none⟩ (.int .i64 r'.ways)).setCell ⟨B, 2, none⟩ vs') pa A B c r' F o' vs' := by
  have hk := h.keep hE
  obtain ⟨h1, h2, h3, h4⟩ := h.lt
  have hfo : ∀ g, o' = some g → w.heap.size ≤ g ∧ g ≠ A ∧ g ≠ B ∧ ¬ F g := by
    rcases ho with rfl | ho
    · exact h.fo
    · intro g hg
      have h5 := ho g hg
      have h6 := h.ext.size
      exact ⟨by omega, by omega, by omega, fun hf => by have := h3 g hf; omega⟩
  refine ⟨hk.ext.set3 _ _ _ h.ne.2.2, hk.at_.keep fun b hb => heap_set3 _ _ _ (h.fr b hb).2.2, hk.box.set _ _ _, hv.keep fun b hb => heap_set3 _ _ _ (hfo b hb).2.2.1, hk.boxA.keep (heap_set3 _ _ _ h.ne.1), h.fr, hfo, h.ne⟩
/-- The cache is turned. -/
theorem Pair.chg {w W W' : World} {pa : Value} {A B : Nat} {c c' : Lns} {r : Rf} {F F' : Nat → Prop} {o : Option Nat} {vs : Value} (h : Pair w W pa A B c r F o vs) (hC : Chg F W W') (hS : Sub W F F') (hat : LinesAt W' pa c' F') : Pair w W' pa A B c' r F' o vs := by
  obtain ⟨h1, h2, h3, h4⟩ := h.lt
  have h6 := h.ext.size
  refine ⟨h.ext.of_chg hC fun b hb => (h.fr b hb).1, hat, h.box.keep (hC.block _ h2 fun hf => (h.fr _ hf).2.2 rfl), h.set.keep fun b hb => hC.block _ (h4 b hb) (h.fo b hb).2.2.2, h.boxA.keep (hC.block _ h1 fun hf => (h.fr _ hf).2.1 rfl), ?_, ?_, h.ne⟩
  · intro b hb
    rcases hS b hb with hf | hf
    · exact h.fr b hf
    · exact ⟨by omega, by omega, by omega⟩
  · intro g hg
    obtain ⟨k1, k2, k3, k4⟩ := h.fo g hg
    refine ⟨k1, k2, k3, fun hf => ?_⟩
    rcases hS g hf with hf | hf
    · exact k4 hf
    · have := h4 g hg; omega
end Go
namespace Go.Proofs
open Go.RowKit
/-- What 'played' leaves. -/
def PlayedPost (w : World) (sets ways : Int) (e : Ending) (w' : World) : Prop :=
  ∃ p v c r F o, e = .returned (.tuple #[p, v, .bool true]) ∧ Ext w w' ∧ LinesAt w' p c F ∧ RfAt w' v r o ∧ Rel c r ∧ r.sets = sets ∧ r.ways = ways ∧ (∀ b, F b → w.heap.size ≤ b) ∧ ∀ g, o = some g → w.heap.size ≤ g ∧ ¬ F g
/-- Between two rounds of 'played'. -/
def PlInv (w : World) (pa : Value) (B : Nat) (n ways : Int) (W : World) : Prop :=
  ∃ c r F o vs, Pair w W pa w.heap.size B c r F o vs ∧ Rel c r ∧ r.sets = n ∧ r.ways = ways
theorem plInv_start (w w1 : World) (pa : Value) (n ways : Nat) (F : Nat → Prop) (hn : 1 ≤ n ∧ n ≤ 64) (hw : 1 ≤ ways ∧ ways ≤ 8) (hE : Ext (w.alloc (.cells #[.int .i64 0, .int .i64 0, .slice none 0 0] 28)) w1) (h1 : LinesAt w1 pa ⟨ways, List.replicate n []⟩ F) (hF : ∀ b, F b → (w.alloc (.cells #[.int .i64 0, .int .i64 0, .slice none 0 0] 28)).heap.size ≤ b) :
    PlInv w pa w1.heap.size n ways (w1.alloc (.cells #[.int .i64 n, .int .i64 ways, .slice none 0 0] 28)) := by
  have hs := hE.size
  simp only [World.size_alloc] at hs hF
  refine ⟨_, ⟨n, ways, []⟩, F, none, .slice none 0 0, ⟨(((Ext.refl w).alloc _).trans hE).alloc _, h1.ext ((Ext.refl w1).alloc _), heap_alloc_new _ _, SlAt.nil _ _, ?_, fun b hb => ?_, by simp, by omega⟩, Rel.new n ways hn hw, rfl, rfl⟩
  · unfold Box3
    rw [Below.heap_alloc _ _ _ (by omega), hE.block _ (by simp)]
    exact heap_alloc_new _ _
  · have h2 := hF b hb
    have h3 := h1.lt hb
    exact ⟨by omega, by omega, by omega⟩
theorem Rf.put_sets (r : Rf) (l : Ln) : (r.put l).1.sets = r.sets := by unfold Rf.put; split; rfl; split; rfl; split <;> rfl
theorem Rf.put_ways (r : Rf) (l : Ln) : (r.put l).1.ways = r.ways := by unfold Rf.put; split; rfl; split; rfl; split <;> rfl
theorem played_fin {w W : World} {pa : Value} {B : Nat} {c : Lns} {n ways : Int} {L : List Ln} {F : Nat → Prop} {o : Option Nat} {vs : Value} (h : Pair w W pa w.heap.size B c ⟨n, ways, L⟩ F o vs) (hr : Rel c ⟨n, ways, L⟩) :
    PlayedPost w n ways (.returned (.tuple #[pa, .agg #[.int .i64 n, .int .i64 ways, vs], .bool true])) (((W.setCell ⟨w.heap.size, 0, none⟩ (.int .i64 n)).setCell ⟨w.heap.size, 1, none⟩ (.int .i64 ways)).setCell ⟨w.heap.size, 2, none⟩ vs) :=
  ⟨pa, _, c, ⟨n, ways, L⟩, F, o, rfl, h.ext.set3 _ _ _ (Nat.le_refl _), h.at_.keep fun b hb => heap_set3 _ _ _ (h.fr b hb).2.1, ⟨vs, rfl, h.set.keep fun b hb => heap_set3 _ _ _ (h.fo b hb).2.1⟩, hr, rfl, rfl, fun b hb => (h.fr b hb).1, fun g hg => ⟨(h.fo g hg).1, (h.fo g hg).2.2.2⟩⟩
set_option maxRecDepth 100000 in
set_option maxHeartbeats 400000 in
theorem played_arg (n ways : Nat) (M : List Act10) (a : Option Addr) (cap : Nat) (w : World) (hn : pow2 n = true) (hw1 : 1 ≤ ways) (hw8 : ways ≤ 8) (hM : Row 19 Act10.cells w a M) (hl : M.length ≤ 1000) :
    Calls Try.prog 26 #[.int .i64 n, .int .i64 ways, .slice a M.length cap] w (PlayedPost w n ways) := by
  have hn' : 1 ≤ n ∧ n ≤ 64 := by simp only [pow2, Bool.or_eq_true, beq_iff_eq] at hn; omega
  go_enter Try.func26, Try.ntmps26
  go_wp2_with fail
  refine (new_any n ways _ hn hw1 hw8).mono ?_
  rintro e w1 ⟨p, rfl, hE1, F1, h1, hF1⟩
  obtain ⟨pa, rfl⟩ : ∃ pa, p = .pointer pa := by obtain ⟨B, _, _, _, rfl, _⟩ := h1; exact ⟨_, rfl⟩
  go_wp2_with fail
  have hBn : w.heap.size < w1.heap.size := by have := hE1.size; simp at this; omega
  go_loopw [12] (fun i wr => ∃ k : Nat, k ≤ M.length ∧ i = .int .i64 k ∧ PlInv w (.pointer pa) w1.heap.size n ways wr) (fun i _ => M.length - (intOf i).toNat)
  case atStart => exact ⟨0, Nat.zero_le _, rfl, plInv_start w w1 (.pointer pa) n ways F1 hn' ⟨hw1, hw8⟩ hE1 h1 hF1⟩
  case round =>
    obtain ⟨k, hk, rfl, hI⟩ := hrel
    obtain ⟨c, ⟨rs, rw', L⟩, F, o, vs, hp, hr, hrs, hrw⟩ := hI
    dsimp only at hrs hrw
    subst hrs hrw
    obtain ⟨xb0, xb1, xb2, xf0, xf1, xf2, xlt⟩ := hp.box.facts
    obtain ⟨xa0, xa1, xa2, xg0, xg1, xg2, xlA⟩ := hp.boxA.facts
    have hsh := hr.short
    by_cases hlt : k < M.length
    · obtain ⟨x, hx⟩ : ∃ x, M[k]? = some x := ⟨M[k], by simp [hlt]⟩
      obtain ⟨b, off, rfl, hg⟩ := (hM.ext hp.ext) k x hx
      have hbl : b < wr.heap.size := World.agg?_lt hg
      have hki : (k : Int) < (M.length : Int) := by omega
      obtain ⟨⟨hn0, hn1'⟩, -⟩ := x.line.ok
      have HM := Lib.hid hM
      have HP := Lib.hid hp
      have HQ := Lib.hid hr
      have hp2 := hp.keep ((Ext.refl wr).alloc (.cells x.cells 57))
      have HP2 := Lib.hid hp2
      obtain ⟨a2, c2, rfl, hrow2⟩ := hp2.set.row Ln.okCells
      have HR2 := Lib.hid hrow2
      clear hx hM hp hr hp2 hrow2
      have hA : ∀ W, Ext (wr.alloc (.cells x.cells 57)) W → W.cell? ⟨wr.heap.size, 1, none⟩ = some (.int .u32 x.line.num) ∧ W.agg? ⟨wr.heap.size, 1, none⟩ 18 = some x.line.cells := fun W hE => by
        obtain ⟨r1, r2, r3, r5, r4⟩ := hE.rules
        exact ⟨by rw [r1 _ _ (by simp)]; simp [go_sem], by rw [r3 _ _ _ (by simp)]; simp [go_sem]⟩
      have HA := Lib.hid hA
      have hne : wr.heap.size ≠ w1.heap.size := by omega
      have hne' : w1.heap.size ≠ wr.heap.size := by omega
      clear hA
      by_cases hw0 : x.what = 0
      · go_wp2_with fail
        refine (rput_any _ ⟨n, ways, L⟩ o x.line _ ⟨_, rfl, HP2.out.set⟩ ⟨by dsimp only; omega, by dsimp only; omega⟩ (show L.length ≤ 1000 by omega)).mono ?_
        rintro e w3 ⟨v3, o3, rfl, ⟨vs3, rfl, hs3⟩, hE3, ho3⟩
        obtain ⟨hd1, hd2⟩ := HQ.out.put x.line
        have hqs := Rf.put_sets ⟨n, ways, L⟩ x.line
        have hqw := Rf.put_ways ⟨n, ways, L⟩ x.line
        have hp5 := fun ob => (HP2.out.ref (r' := ((⟨n, ways, L⟩ : Rf).put x.line).1) hE3 hs3 ho3).keep ((Ext.refl _).alloc ob)
        generalize (⟨n, ways, L⟩ : Rf).put x.line = q at *
        dsimp only at hqs hqw
        simp only [hqs, hqw] at hp5 ⊢
        obtain ⟨a4, c4, rfl, -⟩ := hs3.row Ln.okCells
        have HP5 := Lib.hid hp5
        obtain ⟨ya1, ya2⟩ := HA.out w3 hE3
        obtain ⟨yb0, yb1, yb2, yf0, yf1, yf2, ylt⟩ := (HP2.out.keep hE3).box.facts
        have hl3 : wr.heap.size < w3.heap.size := by have := hE3.size; simp at this; omega
        have hne3 : w3.heap.size ≠ w1.heap.size := by omega
        have hne4 : w1.heap.size ≠ w3.heap.size := by omega
        have HD := Lib.hid hd1
        clear hp5 hs3 hd1
        go_wp2_with fail
        refine (put_any _ c F x.line _ (HP5.out _).at_).mono ?_
        rintro e w6 ⟨rfl, F6, h6, hC6, hS6⟩
        rw [hd2]
        go_wp2_with (go_at_call 34; refine (num_any _ _).mono ?_; rintro e w' ⟨rfl, rfl⟩)
        go_roundw
        case rel => exact ⟨k + 1, by omega, by go_num, _, _, F6, o3, _, (HP5.out _).chg hC6 hS6 h6, HD.out, hqs, hqw⟩
        case measure => simp [intOf]; omega
      · go_wp2_with fail
        refine (rfind_any n ways L a2 c2 x.line.num _ HR2.out (by omega)).mono ?_
        rintro e w3 ⟨rfl, hE3⟩
        obtain ⟨ya1, ya2⟩ := HA.out w3 hE3
        obtain ⟨yb0, yb1, yb2, yf0, yf1, yf2, ylt⟩ := (HP2.out.keep hE3).box.facts
        have hl3 : wr.heap.size < w3.heap.size := by have := hE3.size; simp at this; omega
        go_wp2_with fail
        refine (rdrop_any _ ⟨n, ways, L⟩ o x.line.num _ ⟨_, rfl, (HP2.out.keep hE3).set⟩ (show L.length ≤ 1000 by omega)).mono ?_
        rintro e w4 ⟨v4, o4, rfl, ⟨vs4, rfl, hs4⟩, hE4, hf4⟩
        have hp5 := (HP2.out.keep hE3).ref (r' := (⟨n, ways, L⟩ : Rf).drop x.line.num) hE4 hs4 (.inr hf4)
        obtain ⟨a4, c4, rfl, -⟩ := hs4.row Ln.okCells
        have HP5 := Lib.hid hp5
        obtain ⟨za1, za2⟩ := HA.out w4 (hE3.trans hE4)
        obtain ⟨zb0, zb1, zb2, zf0, zf1, zf2, zlt⟩ := (HP2.out.keep (hE3.trans hE4)).box.facts
        have hl4 : wr.heap.size < w4.heap.size := by have := hE4.size; omega
        clear ya1 ya2 yb0 yb1 yb2 yf0 yf1 yf2 ylt hp5 hs4
        go_wp2_with fail
        refine (drop_any _ c F x.line.num _ HP5.out.at_ hn0 hn1').mono ?_
        rintro e w6 ⟨rfl, F6, h6, hC6, hS6⟩
        obtain ⟨hd1, hd2⟩ := HQ.out.drop x.line.num
        rw [hd2]
        dsimp only
        go_wp2_with fail
        go_roundw
        case rel => exact ⟨k + 1, by omega, by go_num, _, _, F6, o4, _, HP5.out.chg hC6 hS6 h6, hd1, rfl, rfl⟩
        case measure => simp [intOf]; omega
    · have hkk : k = M.length := by omega
      subst hkk
      have HP := Lib.hid hp
      have HQ := Lib.hid hr
      obtain ⟨a2, c2, rfl, -⟩ := hp.set.row Ln.okCells
      clear hp hr
      go_wp2_with fail
      go_region_with (go_at_call 34; refine (num_any _ _).mono ?_; rintro e w' ⟨rfl, rfl⟩)
      all_goals
        go_wp2_with fail
        refine bodyPost_ret (resTCT rfl _ _ ⟨w.heap.size, 0, none⟩ _ rfl (run_loadVar28 _ _ _ _ _ (by simp [go_sem, *] <;> rfl) (by simp [go_sem, *] <;> rfl) (by simp [go_sem, *] <;> rfl))) rfl ?_
        exact played_fin (HP.out.keep (Ext.refl wr).drew) HQ.out
end Go.Proofs
