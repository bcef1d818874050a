/- The law LinesCopies, walked. -/
import Derived.Test.YtgggokajapoopaaCopP
import Derived.Test.YtgggokajapoopaaLTells
import Derived.Lib.MinMax
import Derived.Test.YtgggokajapoopaaLRoom
namespace Go
open Go.RowKit Go.Proofs
/-- What LinesCopies keeps: the cache pa (c'), its copy pd and the iterator's own q (c), the document's values in the boxes D (r) and N (r'). -/
structure Cop (w W : World) (pa pd q : Value) (D N Bx : Nat) (c c' : Lns) (r r' : Rf) (F F2 F3 : Nat → Prop) (o o' : Option Nat) (vs vs' : Value) : Prop where
  ext : Ext w W
  at_ : LinesAt W pa c' F
  cp : LinesAt W pd c F2
  all : LinesAt W q c F3
  bq : W.cell? ⟨Bx, 0, none⟩ = some q
  bl : Bx < W.heap.size
  box : Box3 W D (.int .i64 r.sets) (.int .i64 r.ways) vs
  nx : Box3 W N (.int .i64 r'.sets) (.int .i64 r'.ways) vs'
  set : SetAt W vs r.L o
  set' : SetAt W vs' r'.L o'
structure CopF (w : World) (D N Bx m : Nat) (F F2 F3 : Nat → Prop) (o o' : Option Nat) : Prop where
  fr : ∀ b, F b → w.heap.size ≤ b ∧ b < m
  f2 : ∀ b, F2 b → m ≤ b ∧ b ≠ N
  f3 : ∀ b, F3 b → m ≤ b ∧ b ≠ N
  fo : ∀ g, o = some g → ¬ F g ∧ g ≠ N
  fo' : ∀ g, o' = some g → ¬ F g ∧ g ≠ N
  le : m ≤ D ∧ m ≤ Bx ∧ m ≤ N ∧ Bx ≠ N ∧ D ≠ N ∧ w.heap.size ≤ m
section
variable {w W W' : World} {pa pd q : Value} {D N Bx m : Nat} {c c' c2 : Lns} {r r' r2 : Rf} {F F2 F3 F' : Nat → Prop} {o o' o2 : Option Nat} {vs vs' vs2 : Value}
theorem Cop.keep (h : Cop w W pa pd q D N Bx c c' r r' F F2 F3 o o' vs vs') (hE : Ext W W') : Cop w W' pa pd q D N Bx c c' r r' F F2 F3 o o' vs vs' :=
  ⟨h.ext.trans hE, h.at_.ext hE, h.cp.ext hE, h.all.ext hE, (hE.cell h.bl).trans h.bq, Nat.lt_of_lt_of_le h.bl hE.size, h.box.keep (hE.block _ h.box.facts.2.2.2.2.2.2), h.nx.keep (hE.block _ h.nx.facts.2.2.2.2.2.2), h.set.ext hE, h.set'.ext hE⟩
theorem Cop.ref (h : Cop w W pa pd q D N Bx c c' r r' F F2 F3 o o' vs vs') (k : CopF w D N Bx m F F2 F3 o o') (hm : ∀ b, F b → b ≠ N) (hE : Ext W W') (hs : SetAt W' vs2 r2.L o2) (ho : o2 = o ∨ ∀ g, o2 = some g → W.heap.size ≤ g) :
    Cop w (((W'.setCell ⟨N, 0, none⟩ (.int .i64 r2.sets)).setCell ⟨N, 1, none⟩ (.int .i64 r2.ways)).setCell ⟨N, 2, none⟩ vs2) pa pd q D N Bx c c' r r2 F F2 F3 o o2 vs vs2 ∧ CopF w D N Bx m F F2 F3 o o2 := by
  have hk := h.keep hE
  obtain ⟨l1, l2, l3, l4, l5, l6⟩ := k.le
  have hN := h.nx.facts.2.2.2.2.2.2
  have hfo : ∀ g, o2 = some g → ¬ F g ∧ g ≠ N := by
    rcases ho with rfl | ho
    · exact k.fo
    · intro g hg
      have := ho g hg
      exact ⟨fun hf => by have := h.at_.lt hf; omega, by omega⟩
  refine ⟨⟨hk.ext.set3 _ _ _ (by omega), hk.at_.keep fun b hb => heap_set3 _ _ _ (hm b hb), hk.cp.keep fun b hb => heap_set3 _ _ _ (k.f2 b hb).2, hk.all.keep fun b hb => heap_set3 _ _ _ (k.f3 b hb).2, ?_, ?_, hk.box.keep (heap_set3 _ _ _ l5), hk.nx.set _ _ _, hk.set.keep fun b hb => heap_set3 _ _ _ (k.fo b hb).2, hs.keep fun b hb => heap_set3 _ _ _ (hfo b hb).2⟩, ⟨k.fr, k.f2, k.f3, k.fo, hfo, k.le⟩⟩
  · exact (World.cell?_of_block (w := W') (a := ⟨Bx, 0, none⟩) (heap_set3 _ _ _ l4)).trans hk.bq
  · have : (((W'.setCell ⟨N, 0, none⟩ (.int .i64 r2.sets)).setCell ⟨N, 1, none⟩ (.int .i64 r2.ways)).setCell ⟨N, 2, none⟩ vs2).heap.size = W'.heap.size := by simp [World.setCell]
    rw [this]; exact hk.bl
theorem Cop.chg (h : Cop w W pa pd q D N Bx c c' r r' F F2 F3 o o' vs vs') (k : CopF w D N Bx m F F2 F3 o o') (hC : Chg F W W') (hat : LinesAt W' pa c2 F') : Cop w W' pa pd q D N Bx c c2 r r' F' F2 F3 o o' vs vs' := by
  obtain ⟨l1, l2, l3, l4, l5, l6⟩ := k.le
  have nf : ∀ b, m ≤ b → ¬ F b := fun b hb hf => by have := (k.fr b hf).2; omega
  refine ⟨h.ext.of_chg hC fun b hb => (k.fr b hb).1, hat, h.cp.chg hC fun b hb => nf b (k.f2 b hb).1, h.all.chg hC fun b hb => nf b (k.f3 b hb).1, ?_, Nat.lt_of_lt_of_le h.bl hC.size, h.box.keep (hC.block _ h.box.facts.2.2.2.2.2.2 (nf _ l1)), h.nx.keep (hC.block _ h.nx.facts.2.2.2.2.2.2 (nf _ l3)), h.set.keep fun b hb => hC.block _ (h.set.lt hb) (k.fo b hb).1, h.set'.keep fun b hb => hC.block _ (h.set'.lt hb) (k.fo' b hb).1⟩
  exact (World.cell?_of_block (w := W) (a := ⟨Bx, 0, none⟩) (hC.block _ h.bl (nf _ l2))).trans h.bq
end
end Go
namespace Go.Proofs
open Go.RowKit Go.Shelf
attribute [local go_sem] Oper.semAt_some
theorem calls_of_wp_m {f : FuncId} {fn : Func} {c : Code} {args : Array Value} {w : World} {R : Ending → World → Prop} (hf : Try.prog.funcs[f]? = some fn) (hb : fn.body = some c)
    (h : c.wp Try.prog (bodyPostM Fence.wide 3 Try.prog fn R) { tmps := args ++ Array.replicate (fn.ntmps - args.size) undef, defers := [] } w) : Calls Try.prog f args w R :=
  callsIn_wide.1 (callsIn_of_wp_marks (n := 3) hf hb trivial (wpIn_wide.2 h))
/-- A range over the iterator, its variable in a box: what all rounds keep (I), what is left. -/
theorem wp_range_box {g : Operand} {p b : Tmp} {assign body : Code} {Q : Exit → Act → World → Prop} {a : Act} {w : World} (Bx : Nat) (G F' : Nat → Prop) (q : Value) (c : Option Lns)
    (hg : a.eval g = .func (.func 96) #[] #[.pointer (some ⟨Bx, 0, none⟩)]) (hcell : w.cell? ⟨Bx, 0, none⟩ = some q) (hBl : Bx < w.heap.size) (hBG : G Bx) (hat : LAt w q c F') (hFG : ∀ b, F' b → G b) (hG : ∀ b, G b → b < w.heap.size)
    (I : List Ln → World → Prop) (Ix : Code → List Ln → World → Prop) (hI : OwnFrom w.heap.size I) (hIx : ∀ c, OwnFrom w.heap.size (Ix c)) (h0 : I [] w)
    (hassign : ∀ (l : Nat) (pre : List Ln) (x : Ln) (W : World) (K : Act → World → Prop), I pre W → w.heap.size ≤ W.heap.size →
      (∀ Bo W', Bo = W.heap.size → W' = W.alloc (.cells x.cells 39) → K { tmps := (a.tmps.setIfInBounds p (.agg x.cells)).setIfInBounds b (.pointer (some ⟨Bo, 0, none⟩)), defers := [] } W') →
      assign.wpIn (Fence.wide.inRound l) 1 Try.prog (Exit.then K (fun _ _ _ => False)) { tmps := a.tmps.setIfInBounds p (.agg x.cells), defers := [] } W)
    (hbody : ∀ (l : Nat) (pre : List Ln) (x : Ln) (Bo : Nat) (W : World), w.heap.size ≤ l → (∃ r, W.heap[l]? = some (.loop r)) → I pre W → w.heap.size ≤ Bo → W.agg? ⟨Bo, 0, none⟩ 18 = some x.cells → w.heap.size ≤ W.heap.size → pre.length < (flatO c).length →
      body.wpIn (Fence.wide.inRound l) 1 Try.prog (ownPostG w.heap.size (Keep G) I Ix (pre ++ [x]) W) { tmps := (a.tmps.setIfInBounds p (.agg x.cells)).setIfInBounds b (.pointer (some ⟨Bo, 0, none⟩)), defers := [] } W)
    (hdone : ∀ (D : Nat) (W : World), w.heap.size ≤ D → I (flatO c) W → W.heap[D]? = some (.deferred (some [])) → Q .normal { a with defers := { target := .collected D, args := #[] } :: a.defers } W)
    (hstop : ∀ (D : Nat) (c' : Code) (pre : List Ln) (W : World), w.heap.size ≤ D → pre <+: flatO c → Ix c' pre W → W.heap[D]? = some (.deferred (some [])) → c'.wpIn Fence.wide 3 Try.prog Q { a with defers := { target := .collected D, args := #[] } :: a.defers } W)
    (hIw : ∀ pre W, I pre W → w.heap.size ≤ W.heap.size) :
    (Code.rangeFunc g #[p] assign body).wp Try.prog Q a w := by
  refine (wpIn_wide (n := 3)).1 ?_
  refine wpIn_rangeFunc_ownH rfl (by omega) (gf := 96) (lb := #[.pointer (some ⟨Bx, 0, none⟩)]) hg trivial (enters_of Try.func96 (by kernel_rfl) rfl)
    (stops_opt 2 (by omega) Bx G q c F' w hcell hBl hBG hat hFG hG)
    (fun h k => h.trans k) (keep_put hG) (Below.refl _ _) (fun _ => rfl)
    I Ix hI hIx h0
    (fun x a' W => ∃ Bo, w.heap.size ≤ Bo ∧ W.agg? ⟨Bo, 0, none⟩ 18 = some x.cells ∧ a' = { tmps := (a.tmps.setIfInBounds p (.agg x.cells)).setIfInBounds b (.pointer (some ⟨Bo, 0, none⟩)), defers := [] })
    (fun x a' _ A B row ⟨Bo, h1, h2, h3⟩ hg hr => ⟨Bo, h1, agg_kept h2 hg (fun r e => (hr r e).2), h3⟩) ?assign ?body ?done ?stop
  case assign =>
    intro l pre x W K h hK
    have hW := hIw pre W h
    have := hassign l pre x W K h hW fun Bo W' e1 e2 => by
      subst e1 e2
      exact hK _ _ ((KeepsOthers.alloc W _).from _) ((Keep.refl _ W).alloc (fun b hb => Nat.lt_of_lt_of_le (hG b hb) hW) _) (hI _ _ _ none h (World.grownBy_alloc _ _ _) (by simp)) ⟨_, hW, World.agg?_alloc_at W _ _ _ _ rfl (Ln.cells_size x), rfl⟩
    simpa using this
  case body =>
    rintro l pre x a' W hl hr h ⟨Bo, hBo, hag, rfl⟩ hlen
    exact hbody l pre x Bo W hl hr h hBo hag (hIw pre W h) hlen
  case done =>
    rintro D ys W hD rfl h hK
    exact hdone D W hD h hK
  case stop =>
    intro D c' pre W hD hp h hK
    exact hstop D c' pre W hD hp h hK
/-- A range over the iterator whose variable is not read. -/
theorem wp_range_skip {g : Operand} {p : Tmp} {body : Code} {Q : Exit → Act → World → Prop} {a : Act} {w : World} (Bx : Nat) (G F' : Nat → Prop) (q : Value) (c : Option Lns)
    (hg : a.eval g = .func (.func 96) #[] #[.pointer (some ⟨Bx, 0, none⟩)]) (hcell : w.cell? ⟨Bx, 0, none⟩ = some q) (hBl : Bx < w.heap.size) (hBG : G Bx) (hat : LAt w q c F') (hFG : ∀ b, F' b → G b) (hG : ∀ b, G b → b < w.heap.size)
    (I : List Ln → World → Prop) (Ix : Code → List Ln → World → Prop) (hI : OwnFrom w.heap.size I) (hIx : ∀ c, OwnFrom w.heap.size (Ix c)) (h0 : I [] w)
    (hbody : ∀ (l : Nat) (pre : List Ln) (x : Ln) (W : World), w.heap.size ≤ l → (∃ r, W.heap[l]? = some (.loop r)) → I pre W → pre.length < (flatO c).length →
      body.wpIn (Fence.wide.inRound l) 1 Try.prog (ownPostG w.heap.size (Keep G) I Ix (pre ++ [x]) W) { tmps := a.tmps.setIfInBounds p (.agg x.cells), defers := [] } W)
    (hdone : ∀ (D : Nat) (W : World), w.heap.size ≤ D → I (flatO c) W → W.heap[D]? = some (.deferred (some [])) → Q .normal { a with defers := { target := .collected D, args := #[] } :: a.defers } W)
    (hstop : ∀ (D : Nat) (c' : Code) (pre : List Ln) (W : World), w.heap.size ≤ D → pre <+: flatO c → Ix c' pre W → W.heap[D]? = some (.deferred (some [])) → c'.wpIn Fence.wide 3 Try.prog Q { a with defers := { target := .collected D, args := #[] } :: a.defers } W) :
    (Code.rangeFunc g #[p] Code.skip body).wp Try.prog Q a w := by
  refine (wpIn_wide (n := 3)).1 ?_
  refine wpIn_rangeFunc_ownH rfl (by omega) (gf := 96) (lb := #[.pointer (some ⟨Bx, 0, none⟩)]) hg trivial (enters_of Try.func96 (by kernel_rfl) rfl)
    (stops_opt 2 (by omega) Bx G q c F' w hcell hBl hBG hat hFG hG)
    (fun h k => h.trans k) (keep_put hG) (Below.refl _ _) (fun _ => rfl)
    I Ix hI hIx h0
    (fun x a' _ => a' = { tmps := a.tmps.setIfInBounds p (.agg x.cells), defers := [] })
    (fun x a' _ A B row h hg hr => h) ?assign ?body ?done ?stop
  case assign =>
    intro l pre x W K h hK
    refine wpIn_skip ?_
    have := hK { tmps := a.tmps.setIfInBounds p (.agg x.cells), defers := [] } W (KeepsFrom.refl _ _) (Keep.refl _ W) h rfl
    simpa [Exit.then] using this
  case body =>
    rintro l pre x a' W hl hr h rfl hlen
    exact hbody l pre x W hl hr h hlen
  case done =>
    rintro D ys W hD rfl h hK
    exact hdone D W hD h hK
  case stop =>
    intro D c' pre W hD hp h hK
    exact hstop D c' pre W hD hp h hK
theorem Rf.all_short {c : Lns} {r : Rf} (h : Rel c r) : r.all.length ≤ 1000 := by
  have := h.ok.flat_le
  rw [h.flat] at this
  omega
theorem slAt_row_eq {w : World} {a : Option Addr} {n cap : Nat} {L : List Ln} {o : Option Nat} (h : SetAt w (.slice a n cap) L o) : Row 18 Ln.cells w a L := by
  obtain ⟨a', cap', e, hr⟩ := h.row Ln.okCells
  cases e
  exact hr
theorem _root_.Go.Ext.putObj {a W : World} (h : Ext a W) (l : Nat) (o : Obj) (hl : a.heap.size ≤ l) : Ext a (W.putObj l o) :=
  ⟨h.os, h.tape, h.output, by rw [World.putObj_size]; exact h.size, fun k hk => by rw [World.putObj_heap_other (by omega)]; exact h.block k hk⟩
theorem own_cell (B : Nat) (p : List Ln → Prop) (O : Nat) (v : Value) (W : World) (hO : W.heap.size ≤ B) : OwnFrom B (fun pre X => p pre ∧ (X.cell? ⟨O, 0, none⟩ = some v ∧ X.frozen? ⟨O, 0, none⟩ = false) ∧ Below W.heap.size W X) :=
  fun _ _ _ row ⟨h1, ⟨h2, h3⟩, h4⟩ hg hr => ⟨h1, ⟨cell_kept h2 hg (fun r e => (hr r e).2), (frozen_kept h2 hg (fun r e => (hr r e).2)).trans h3⟩, ownFrom_below (β := Unit) (Nat.le_refl _) hO () _ _ row h4 hg hr⟩
theorem keepC {X W W' : World} {N D Mb O : Nat} {a b c d e f m u : Value} (hN : N < X.heap.size) (hD : D < X.heap.size) (hM : Mb < X.heap.size) (hO : O < X.heap.size)
    (h : Ext X W ∧ W.cell? ⟨N, 0, none⟩ = some a ∧ W.cell? ⟨N, 1, none⟩ = some b ∧ W.cell? ⟨N, 2, none⟩ = some c ∧ W.cell? ⟨D, 0, none⟩ = some d ∧ W.cell? ⟨D, 1, none⟩ = some e ∧ W.cell? ⟨D, 2, none⟩ = some f ∧ W.cell? ⟨Mb, 0, none⟩ = some m ∧ W.cell? ⟨O, 0, none⟩ = some u) (hE : Ext W W') :
    Ext X W' ∧ W'.cell? ⟨N, 0, none⟩ = some a ∧ W'.cell? ⟨N, 1, none⟩ = some b ∧ W'.cell? ⟨N, 2, none⟩ = some c ∧ W'.cell? ⟨D, 0, none⟩ = some d ∧ W'.cell? ⟨D, 1, none⟩ = some e ∧ W'.cell? ⟨D, 2, none⟩ = some f ∧ W'.cell? ⟨Mb, 0, none⟩ = some m ∧ W'.cell? ⟨O, 0, none⟩ = some u := by
  obtain ⟨h0, h1, h2, h3, h4, h5, h6, h7, h8⟩ := h
  have hs := h0.size
  exact ⟨h0.trans hE, (hE.cell (by omega)).trans h1, (hE.cell (by omega)).trans h2, (hE.cell (by omega)).trans h3, (hE.cell (by omega)).trans h4, (hE.cell (by omega)).trans h5, (hE.cell (by omega)).trans h6, (hE.cell (by omega)).trans h7, (hE.cell (by omega)).trans h8⟩
theorem heldC {X W : World} {N D Mb O : Nat} {a b c d e f m u : Value}
    (h : Ext X W ∧ W.cell? ⟨N, 0, none⟩ = some a ∧ W.cell? ⟨N, 1, none⟩ = some b ∧ W.cell? ⟨N, 2, none⟩ = some c ∧ W.cell? ⟨D, 0, none⟩ = some d ∧ W.cell? ⟨D, 1, none⟩ = some e ∧ W.cell? ⟨D, 2, none⟩ = some f ∧ W.cell? ⟨Mb, 0, none⟩ = some m ∧ W.cell? ⟨O, 0, none⟩ = some u) : Ext X W := h.1
theorem all_round2 {w w2 : World} {G : Nat → Prop} (hG : ∀ b, G b → b ≠ w.heap.size ∧ b < w2.heap.size) (hw2 : w.heap.size < w2.heap.size) {pre : List Ln} {x : Ln} {W w' : World} {v v' : Value} {o o' : Option Nat} (hs : SetAt W v pre o) (hfr : ∀ g, o = some g → w2.heap.size ≤ g) (hB : Below w.heap.size w W) (hWs : w2.heap.size ≤ W.heap.size)
    (k1 : SetAt w' v' (pre ++ [x]) o') (k2 : (W.alloc (.cells x.cells 39)).grownBy w' o) (k3 : o' = o ∨ ∃ g, o' = some g ∧ (W.alloc (.cells x.cells 39)).heap.size ≤ g) (hc : ∃ u, w'.cell? ⟨w.heap.size, 0, none⟩ = some u) (hf : w'.frozen? ⟨w.heap.size, 0, none⟩ = false) :
    KeepsFrom w2.heap.size W (w'.setCell ⟨w.heap.size, 0, none⟩ v') ∧ Keep G W (w'.setCell ⟨w.heap.size, 0, none⟩ v') ∧ AllInv w w2 (pre ++ [x]) (w'.setCell ⟨w.heap.size, 0, none⟩ v') := by
  obtain ⟨h1, h2, h3⟩ := all_round (G := fun _ => False) (fun _ h => h.elim) hw2 hs hfr hB hWs k1 k2 k3 hc hf
  refine ⟨h1, ⟨h2.size, fun b hb => ?_⟩, h3⟩
  obtain ⟨g1, g2⟩ := hG b hb
  rw [heap_setCell_other _ _ _ _ (by simpa using g1), k2.block b (by rw [World.size_alloc]; omega) (fun e => by have := hfr b e.symm; omega), Below.heap_alloc _ _ _ (by omega)]
set_option maxRecDepth 100000 in
set_option maxHeartbeats 2000000 in
theorem lawCopies_put (n k : Nat) (M : List Act10) (a : Option Addr) (cap : Nat) (x : Act10) (w : World) (hM : Row 19 Act10.cells w a M) (hn : pow2 n = true) (hk1 : 1 ≤ k) (hk8 : k ≤ 8) (hr : right n k = true) (hl : M.length ≤ 100) (hw0 : x.what = 0) :
    Calls Try.prog 9 #[.int .i64 n, .int .i64 k, .slice a M.length cap, .agg x.cells] w fun e w' => e = .returned (.bool true) ∧ Ext w w' := by
  have hl' : decide ((100 : Int) < (M.length : Int)) = false := by simp; omega
  obtain ⟨xa0, xa1, xag, xlt⟩ := RmBox.start w x
  have xwh : (w.alloc (.cells x.cells 57)).cell? ⟨w.heap.size, 0, none⟩ = some (.int .i64 x.what) := by
    have h := World.agg?_alloc_at w x.cells 57 w.heap.size 19 rfl x.cells_size
    simpa using (Act10.sub h).1
  have HX := Lib.hid (RmBox.start w x)
  have HXW := Lib.hid xwh
  have HM : Hid (∀ ob, Row 19 Act10.cells (w.alloc ob) a M) := fun ob => hM.ext ((Ext.refl w).alloc ob)
  have HN := Lib.hid hn
  have hn' : 1 ≤ n ∧ n ≤ 64 := by simp only [pow2, Bool.or_eq_true, beq_iff_eq] at hn; omega
  clear hM hn
  refine calls_of_wp_m Try.func9 rfl ?_
  simp only [Try.ntmps9, List.size_toArray, List.length_cons, List.length_nil, Nat.reduceAdd, Nat.reduceSub, Array.replicate_succ, Array.replicate_zero, List.push_toArray, List.append_toArray, List.nil_append, List.cons_append]
  go_wp2_with (go_at_call 24; refine (right_is _ _ _ hr _).mono ?_; rintro e w' ⟨rfl, rfl⟩)
  refine (played_arg n k M a cap _ HN.out hk1 hk8 (HM.out _) (by omega)).mono ?_
  rintro e w1 ⟨p, v, c, ⟨rs, rw', L⟩, F, o, rfl, hE1, hat, ⟨vs, rfl, hs⟩, hrel, hrs, hrw, hfr, hfo⟩
  dsimp only at hrs hrw
  subst hrs hrw
  obtain ⟨pa, rfl⟩ : ∃ pa, p = .pointer pa := by obtain ⟨B, _, _, _, rfl, _⟩ := hat; exact ⟨_, rfl⟩
  have hs' := hs
  obtain ⟨a2, c2, rfl, -⟩ := hs.row Ln.okCells
  have hAw : w.heap.size < w1.heap.size := by have := hE1.size; simp at this; omega
  have HW : Hid (∀ W, Ext w1 W → RmBox W w.heap.size x ∧ W.cell? ⟨w.heap.size, 0, none⟩ = some (.int .i64 x.what)) := fun W hE => ⟨(HX.out.ext hE1).ext hE, (hE.cell hAw).trans ((hE1.cell (by simp)).trans HXW.out)⟩
  have HAT := Lib.hid hat
  have HS := Lib.hid hs'
  have HQ := Lib.hid hrel
  have HFR := Lib.hid hfr
  have HFO := Lib.hid hfo
  clear hat hs hs' hrel hfr hfo xa0 xa1 xag xlt xwh
  go_wp2_with fail
  have hEa := (Ext.refl w1).alloc (.cells #[.int .i64 n, .int .i64 k, .slice a2 L.length c2] 28)
  refine (copy_any _ c F _ (HAT.out.ext hEa)).mono ?_
  rintro e w2 ⟨pd, F2, rfl, hE2, hcp, hf2⟩
  obtain ⟨pdd, rfl⟩ : ∃ pdd, pd = .pointer pdd := by obtain ⟨B, _, _, _, rfl, _⟩ := hcp; exact ⟨_, rfl⟩
  have HCP := Lib.hid hcp
  have HF2 := Lib.hid hf2
  clear hcp hf2
  go_wp2_with fail
  refine (all_any _ c F _ (HAT.out.ext (hEa.trans hE2))).mono ?_
  rintro e w3 ⟨Bx, q, F3, rfl, hE3, hB1, hB2, hBq, hf3, hall⟩
  have HALL := Lib.hid hall
  have HBq := Lib.hid hBq
  have HF3 := Lib.hid hf3
  clear hall hBq hf3
  go_wp2_with fail
  refine (same_any _ _ c c F F2 _ (HAT.out.ext ((hEa.trans hE2).trans hE3)) (HCP.out.ext hE3)).mono ?_
  rintro e w4 ⟨rfl, hE4⟩
  rw [sameB_self]
  obtain ⟨hbx, hbw⟩ := HW.out w4 (((hEa.trans hE2).trans hE3).trans hE4)
  have HB3 : Hid (Box3 w4 w1.heap.size (.int .i64 n) (.int .i64 k) (.slice a2 L.length c2)) := by
    have h : Box3 (w1.alloc (.cells #[.int .i64 n, .int .i64 k, .slice a2 L.length c2] 28)) w1.heap.size (.int .i64 n) (.int .i64 k) (.slice a2 L.length c2) := heap_alloc_new _ _
    exact h.keep (((hE2.trans hE3).trans hE4).block _ h.facts.2.2.2.2.2.2)
  obtain ⟨y0, y1, y2, yf0, yf1, yf2, ylt⟩ := HB3.out.facts
  have hbx' := hbx
  obtain ⟨xa0, xa1, xag, xlt⟩ := hbx
  have hlw : w.heap.size + 1 ≤ w1.heap.size := by have := hE1.size; simp at this; omega
  have hl2 : w1.heap.size + 1 ≤ w2.heap.size := by have := hE2.size; simp at this; omega
  have hl34 : w3.heap.size ≤ w4.heap.size := hE4.size
  have hC0 : Cop w (w4.alloc (.cells #[.int .i64 n, .int .i64 k, .slice a2 L.length c2] 28)) (.pointer pa) (.pointer pdd) q w1.heap.size w4.heap.size Bx c c ⟨n, k, L⟩ ⟨n, k, L⟩ F F2 F3 o o (.slice a2 L.length c2) (.slice a2 L.length c2) := by
    have e1 := (((hEa.trans hE2).trans hE3).trans hE4).alloc (.cells #[.int .i64 n, .int .i64 k, .slice a2 L.length c2] 28)
    refine ⟨(((Ext.refl w).alloc _).trans hE1).trans e1, HAT.out.ext e1, HCP.out.ext ((hE3.trans hE4).alloc _), LinesAt.ext HALL.out (hE4.alloc _), ((hE4.alloc _).cell hB2).trans HBq.out, by simp; omega, ?_, heap_alloc_new _ _, HS.out.ext e1, HS.out.ext e1⟩
    exact HB3.out.keep (((Ext.refl w4).alloc _).block _ ylt)
  have hF0 : CopF w w1.heap.size w4.heap.size Bx w1.heap.size F F2 F3 o o := by
    refine ⟨fun b hb => ⟨?_, HAT.out.lt hb⟩, fun b hb => ⟨?_, ?_⟩, fun b hb => ⟨?_, ?_⟩, fun g hg => ⟨(HFO.out g hg).2, ?_⟩, fun g hg => ⟨(HFO.out g hg).2, ?_⟩, ?_⟩
    · have := HFR.out b hb; simp at this; omega
    · have := HF2.out b hb; simp at this; omega
    · have := HCP.out.lt hb; have := hE3.size; omega
    · have := HF3.out b hb; omega
    · have := HF3.out b hb; omega
    · have := HS.out.lt hg; omega
    · have := HS.out.lt hg; omega
    · omega
  have HC0 := Lib.hid hC0
  have HF0 := Lib.hid hF0
  have HWX : Hid (RmBox (w4.alloc (.cells #[.int .i64 n, .int .i64 k, .slice a2 L.length c2] 28)) w.heap.size x) := hbx'.ext ((Ext.refl w4).alloc _)
  have hsh : L.length ≤ 512 := HQ.out.short
  have hFN : Hid (∀ b, F b → b ≠ w4.heap.size) := fun b hb => by have := HAT.out.lt hb; omega
  have hXD : w.heap.size ≠ w4.heap.size := by omega
  have hXD2 : w1.heap.size ≠ w4.heap.size := by omega
  have hXF : Hid (¬ F w.heap.size) := fun hf => by have := HFR.out _ hf; simp at this; omega
  clear hC0 hF0 HB3 HALL HBq HF3 HCP HF2 HS HAT HFR HFO hbx'
  go_wp2_with fail
  refine (rput_any _ ⟨n, k, L⟩ o x.line _ ⟨_, rfl, HC0.out.set⟩ ⟨by dsimp only; omega, by dsimp only; omega⟩ (show L.length ≤ 1000 by omega)).mono ?_
  rintro e w5 ⟨v5, o5, rfl, ⟨vs5, rfl, hs5⟩, hE5, ho5⟩
  obtain ⟨hd1, hd2⟩ := HQ.out.put x.line
  have hqs := Rf.put_sets ⟨n, k, L⟩ x.line
  have hqw := Rf.put_ways ⟨n, k, L⟩ x.line
  obtain ⟨hC1, hF1⟩ := HC0.out.ref HF0.out hFN.out hE5 hs5 ho5
  generalize hqq : (⟨n, k, L⟩ : Rf).put x.line = qq at *
  obtain ⟨⟨rs, rw', L'⟩, no⟩ := qq
  dsimp only at hqs hqw hd1 hd2 hC1 hF1 hs5 ⊢
  subst hqs hqw
  obtain ⟨a5, c5, rfl, -⟩ := hs5.row Ln.okCells
  have HC1 := Lib.hid hC1
  have HF1 := Lib.hid hF1
  have HD1 := Lib.hid hd1
  have HD2 := Lib.hid hd2
  obtain ⟨n0, n1, n2, nf0, nf1, nf2, nlt⟩ := (HC0.out.nx.keep (hE5.block _ (by simp)) : Box3 w5 w4.heap.size _ _ _).facts
  dsimp only at n0 n1 n2
  clear xa0 xa1 xag xlt hbw
  obtain ⟨xa0, xa1, xag, xlt⟩ := HWX.out.ext hE5
  clear hs5 hC1 hF1 hd1 hd2 hqq y0 y1 y2 yf0 yf1 yf2
  go_wp2_with fail
  clear n0 n1 n2 nf0 nf1 nf2 nlt xa0 xa1 xag xlt
  refine (put_any _ c F x.line _ HC1.out.at_).mono ?_
  rintro e w6 ⟨rfl, F6, h6, hC6, hS6⟩
  have HC := Lib.hid (HC1.out.chg HF1.out hC6 h6)
  clear h6 hC6 hS6 HC1 HF1 HC0 HF0
  generalize hcc : (c.put x.line).1 = c6 at *
  go_wp2_with fail
  obtain ⟨i0, hi, hz0, hz1, hz2⟩ := info_parts Try.info39
  have hGG : ∀ b, (b = Bx ∨ F3 b) → b ≠ w6.heap.size ∧ b < (w6.alloc (.cells #[.slice none 0 0] 26)).heap.size := fun b hb => by
    have hlt : b < w6.heap.size := by
      rcases hb with rfl | hb
      · exact HC.out.bl
      · exact HC.out.all.lt hb
    simp; omega
  have hC7 := HC.out.keep ((Ext.refl w6).alloc (.cells #[.slice none 0 0] 26))
  have HC7 := Lib.hid hC7
  have hw2 : w6.heap.size < (w6.alloc (.cells #[.slice none 0 0] 26)).heap.size := by simp
  have hstart : AllInv w6 (w6.alloc (.cells #[.slice none 0 0] 26)) [] (w6.alloc (.cells #[.slice none 0 0] 26)) := ⟨.slice none 0 0, none, ⟨by simp [go_sem], by simp [go_sem]⟩, SlAt.nil _ _, by simp, (Ext.refl w6).alloc _, Nat.le_refl _⟩
  have hflc : (flatO (some c)).length ≤ 1000 := Nat.le_trans HQ.out.ok.flat_le (by decide)
  generalize hW7 : w6.alloc (.cells #[.slice none 0 0] 26) = W7 at *
  refine wp_range_box (b := 16) Bx (fun b => b = Bx ∨ F3 b) F3 q (some c) rfl hC7.bq hC7.bl (.inl rfl) hC7.all (fun b hb => .inr hb) (fun b hb => (hGG b hb).2)
    (AllInv w6 W7) (fun _ _ _ => False) (allInv_own w6 W7 (by omega)) (fun _ _ _ _ _ hs _ _ => hs) hstart ?assign ?body ?done ?stop (fun pre W h => by obtain ⟨_, _, _, _, _, _, h⟩ := h; exact h)
  case assign =>
    intro l pre x W K hI hW hK
    gi_wp2
    exact hK _ _ rfl rfl
  case body =>
    rintro l pre x Bo W hl' - ⟨v, o, ⟨h1, h2⟩, h3, h4, h5, h6⟩ hBo hag hWW hlen
    obtain ⟨a0, cap0, rfl, -⟩ := h3.row Ln.okCells
    have hlt : w6.heap.size < W.heap.size := by omega
    have hBl : Bo < W.heap.size := World.agg?_lt hag
    have hpl : pre.length ≤ 1000 := by omega
    have hne : o ≠ some w6.heap.size := fun e => by have := h4 _ e; omega
    have HN := Lib.hid hne
    have H4 := Lib.hid h4
    have H3 := Lib.hid (fun ob => h3.ext ((Ext.refl W).alloc ob))
    clear hne h4
    gi_wp2_with (gi_at_builtin; refine wpListIn_append_sl rfl (.tmp 80) (.tmp 82) 26 rfl i0 _ Try.underlying26 hi hz0 hz1 (by rfl) (by decide) (by rw [hz2]; decide) Ln.okCells _ _ o (H3.out _) _ _ [x] (Row_alloc_one Ln.okCells W x 39) rfl rfl (by simp; omega) ?_; intro v' o' w' k1 k2 k3; obtain ⟨a', cap', rfl, -⟩ := k1.row Ln.okCells; obtain ⟨c1, c2⟩ := grownBy_cell k2 (b := w6.heap.size) (by simp; omega) HN.out 0)
    have e : pre.length + 1 = (pre ++ [x]).length := by simp
    rw [e]
    exact all_round2 hGG hw2 h3 H4.out h5 h6 k1 k2 k3 ⟨_, c1.trans ((World.cell?_alloc_past _ _ _ hlt).trans h1)⟩ (c2.trans ((World.frozen?_alloc_past _ _ _ hlt).trans h2))
  case stop =>
    intro D c pre W _ _ h _
    exact h.elim
  case done =>
    rintro D W9 hD ⟨v, ov, ⟨h1, h2⟩, h3, h4, h5, h6⟩ hK
    go_wp2_with fail
    have HCW := Lib.hid (HC.out.keep h5)
    have h3' := h3
    obtain ⟨am, cm, rfl, -⟩ := h3.row Ln.okCells
    have HMS := Lib.hid h3'
    have hMl : w6.heap.size < W9.heap.size := World.block_lt_of_cell? W9 _ h1
    have hC8 := HCW.out.keep ((Ext.refl W9).alloc (.cells #[.int .i64 0] 3))
    have i1 : (W9.alloc (.cells #[.int .i64 0] 3)).cell? ⟨W9.heap.size, 0, none⟩ = some (.int .i64 0) := by simp [go_sem]
    have i2 : (W9.alloc (.cells #[.int .i64 0] 3)).frozen? ⟨W9.heap.size, 0, none⟩ = false := by simp [go_sem]
    have i3 : Below W9.heap.size W9 (W9.alloc (.cells #[.int .i64 0] 3)) := (Below.refl _ _).alloc (Nat.le_refl _) _
    have hW98 : W9.heap.size ≤ (W9.alloc (.cells #[.int .i64 0] 3)).heap.size := by simp
    clear h3 h3'
    generalize hW8 : W9.alloc (.cells #[.int .i64 0] 3) = W8 at *
    clear hW8
    refine wp_range_skip Bx (fun b => b = Bx ∨ F3 b) F3 q (some c) rfl hC8.bq hC8.bl (.inl rfl) hC8.all (fun b hb => .inr hb) (fun b hb => by rcases hb with rfl | hb; exact hC8.bl; exact hC8.all.lt hb)
      (fun pre X => pre = [] ∧ (X.cell? ⟨W9.heap.size, 0, none⟩ = some (.int .i64 0) ∧ X.frozen? ⟨W9.heap.size, 0, none⟩ = false) ∧ Below W9.heap.size W9 X)
      (fun cc pre X => (cc = Code.exit 2 ∧ pre ≠ []) ∧ (X.cell? ⟨W9.heap.size, 0, none⟩ = some (.int .i64 1) ∧ X.frozen? ⟨W9.heap.size, 0, none⟩ = false) ∧ Below W9.heap.size W9 X)
      (own_cell _ _ _ _ _ hW98) (fun cc => own_cell _ _ _ _ _ hW98) ⟨rfl, ⟨i1, i2⟩, i3⟩ ?body2 ?done2 ?stop2
    case body2 =>
      rintro l pre x X hl' - ⟨rfl, ⟨q1, q2⟩, hB⟩ hlen
      gi_wp2
      exact ⟨(KeepsOthers.setCell _ _ _).from _, ⟨rfl, by simp⟩, ⟨World.cell?_setCell_same' _ _ _ (by rw [q1]; rfl), by rw [World.frozen?_setCell]; exact q2⟩, hB.setCell (p := ⟨W9.heap.size, 0, none⟩) (Nat.le_refl _) _⟩
    case' done2 =>
      rintro D2 X hD2 ⟨hp, ⟨q1, q2⟩, hB⟩ hK2
      obtain ⟨u, hu, q3⟩ : ∃ u : Int, u = min 1 (c.flat.length : Int) ∧ X.cell? ⟨W9.heap.size, 0, none⟩ = some (.int .i64 u) := ⟨0, by rw [show c.flat = [] from hp]; rfl, q1⟩
      clear hp q1
      go_wp2_with fail
    case' stop2 =>
      rintro D2 cc pre X hD2 hpp ⟨⟨rfl, hp⟩, ⟨q1, q2⟩, hB⟩ hK2
      have hfl1 : 1 ≤ c.flat.length := by
        cases pre with
        | nil => exact absurd rfl hp
        | cons y ys => have := hpp.length_le; simp [flatO] at this; omega
      obtain ⟨u, hu, q3⟩ : ∃ u : Int, u = min 1 (c.flat.length : Int) ∧ X.cell? ⟨W9.heap.size, 0, none⟩ = some (.int .i64 u) := ⟨1, by omega, q1⟩
      clear hp q1 hpp
      gi_wp2
      go_wp2_with fail
    all_goals
      have HU := Lib.hid hu
      have hCX := HCW.out.keep hB
      have HCX := Lib.hid hCX
      have hmx := (hB.cell (p := ⟨w6.heap.size, 0, none⟩) hMl).trans h1
      obtain ⟨n0, n1, n2, nf0, nf1, nf2, nlt⟩ := hCX.nx.facts
      obtain ⟨d0, d1, d2, df0, df1, df2, dlt⟩ := hCX.box.facts
      have hMl2 : w6.heap.size < X.heap.size := Nat.lt_of_lt_of_le hMl hB.size
      have hOl : W9.heap.size < X.heap.size := World.block_lt_of_cell? X _ q3
      dsimp only at n0 n1 n2 d0 d1 d2
      have hsl : L'.length ≤ 1000 := by have := HD1.out.short; dsimp only at this; omega
      have hsl2 : L.length ≤ 1000 := by omega
      have HB := Lib.hid hB
      have HMX := Lib.hid hmx
      have HOX := Lib.hid q3
      have HMZ := Lib.hid (HMS.out.ext hB)
      have tokA : True := trivial
      obtain ⟨sb, hsb⟩ : ∃ sb, sb = decide ((⟨n, k, L'⟩ : Rf).all = (⟨n, k, L⟩ : Rf).all) := ⟨_, rfl⟩
      have HSB := Lib.hid hsb
      clear hu hCX hB h1 h2 i1 i2 i3 hC8 hsb q2 nf0 nf1 nf2 df0 df1 df2
      go_region_held3 (fun W => Ext X W ∧ W.cell? ⟨w4.heap.size, 0, none⟩ = some (.int .i64 n) ∧ W.cell? ⟨w4.heap.size, 1, none⟩ = some (.int .i64 k) ∧ W.cell? ⟨w4.heap.size, 2, none⟩ = some (.slice a5 L'.length c5) ∧ W.cell? ⟨w1.heap.size, 0, none⟩ = some (.int .i64 n) ∧ W.cell? ⟨w1.heap.size, 1, none⟩ = some (.int .i64 k) ∧ W.cell? ⟨w1.heap.size, 2, none⟩ = some (.slice a2 L.length c2) ∧ W.cell? ⟨w6.heap.size, 0, none⟩ = some (.slice am c.flat.length cm) ∧ W.cell? ⟨W9.heap.size, 0, none⟩ = some (.int .i64 u))
        ((first | exact keepC nlt dlt hMl2 hOl (by assumption) (by assumption) | exact ⟨(Ext.refl X).drew, n0, n1, n2, d0, d1, d2, hmx, q3⟩))
        (first | (go_at_call 44; have _t := tokA; refine (rall_any _ ⟨n, k, L'⟩ o5 _ ⟨_, rfl, (HCX.out.keep (heldC (N := w4.heap.size) (D := w1.heap.size) (Mb := w6.heap.size) (O := W9.heap.size) (a := .int .i64 n) (b := .int .i64 k) (c := .slice a5 L'.length c5) (d := .int .i64 n) (e := .int .i64 k) (f := .slice a2 L.length c2) (m := .slice am c.flat.length cm) (u := .int .i64 u) (by assumption))).set'⟩ (by dsimp only; omega) hsl).mono ?_; rintro e w44 ⟨v44, o44, rfl, hE44, hs44, -⟩; obtain ⟨a44, c44, rfl, hrow44⟩ := hs44.row Ln.okCells; have HR44 := Lib.hid hrow44; clear hs44 hrow44 tokA)
               | (go_at_call 44; refine (rall_any _ ⟨n, k, L⟩ o _ ⟨_, rfl, (HCX.out.keep (heldC (N := w4.heap.size) (D := w1.heap.size) (Mb := w6.heap.size) (O := W9.heap.size) (a := .int .i64 n) (b := .int .i64 k) (c := .slice a5 L'.length c5) (d := .int .i64 n) (e := .int .i64 k) (f := .slice a2 L.length c2) (m := .slice am c.flat.length cm) (u := .int .i64 u) (by assumption))).set⟩ (by dsimp only; omega) hsl2).mono ?_; rintro e w45 ⟨v45, o45, rfl, hE45, hs45, -⟩; obtain ⟨a45, c45, rfl, hrow45⟩ := hs45.row Ln.okCells; have HR45 := Lib.hid hrow45; clear hs45 hrow45)
               | (go_at_call 43; refine (rsame_any _ _ _ _ _ _ _ (HR44.out.ext hE45) HR45.out (Rf.all_short HD1.out)).mono ?_; rintro e w43 ⟨rfl, hE43⟩; rw [← HSB.out]))
      rename_i hH
      have hEX := hH.1
      have HEX := Lib.hid hEX
      have hkm0 : 0 ≤ k % 8 ∧ k % 8 < 8 := by omega
      clear hH HR44 HR45 n0 n1 n2 d0 d1 d2 hmx q3 hEX hE43 hE44 hE45
      go_wp2_with fail
      rw [show ((k : Int) % 8 + 1) = ((k % 8 + 1 : Nat) : Int) by omega]
      refine (new_any n (k % 8 + 1) _ HN.out (by omega) (by omega)).mono ?_
      rintro e w10 ⟨p10, rfl, hE10, F10, h10, -⟩
      obtain ⟨pb, rfl⟩ : ∃ pb, p10 = .pointer pb := by obtain ⟨B, _, _, _, rfl, _⟩ := h10; exact ⟨_, rfl⟩
      have H10 := Lib.hid h10
      clear h10
      go_wp2_with fail
      refine (new_any n k _ HN.out hk1 hk8).mono ?_
      rintro e w11 ⟨p11, rfl, hE11, F11, h11, -⟩
      obtain ⟨pc, rfl⟩ : ∃ pc, p11 = .pointer pc := by obtain ⟨B, _, _, _, rfl, _⟩ := h11; exact ⟨_, rfl⟩
      have H11 := Lib.hid h11
      have H10' := Lib.hid (H10.out.ext hE11)
      clear h11 H10
      go_wp2_with fail
      have hCY := HCX.out.keep ((HEX.out.trans hE10).trans hE11)
      have hmx := (((HEX.out.trans hE10).trans hE11).cell (b := w6.heap.size) (o := 0) hMl2).trans HMX.out
      have hox := (((HEX.out.trans hE10).trans hE11).cell (b := W9.heap.size) (o := 0) hOl).trans HOX.out
      have HCY := Lib.hid hCY
      obtain ⟨n0, n1, n2, nf0, nf1, nf2, nlt'⟩ := hCY.nx.facts
      obtain ⟨d0, d1, d2, df0, df1, df2, dlt'⟩ := hCY.box.facts
      dsimp only at n0 n1 n2 d0 d1 d2
      have hMl3 : w6.heap.size < w11.heap.size := World.block_lt_of_cell? w11 _ hmx
      have hOl3 : W9.heap.size < w11.heap.size := World.block_lt_of_cell? w11 _ hox
      have HMY : Hid (∀ W, Ext w11 W → SetAt W (.slice am c.flat.length cm) c.flat ov) := fun W hE => (HMZ.out.ext ((HEX.out.trans hE10).trans hE11)).ext hE
      have HSB2 : Hid (sameB c6 c = sb) := by
        have := HD1.out.same HQ.out rfl rfl
        unfold Hid
        rw [this, HSB.out]
      have HSB3 : Hid (sameB c c6 = sb) := by
        have := HQ.out.same HD1.out rfl rfl
        unfold Hid
        rw [this, HSB.out]
        exact decide_eq_decide.2 eq_comm
      have HFL : Hid (c.flat = (⟨n, k, L⟩ : Rf).all) := HQ.out.flat
      have htm : (k : Int).tmod 8 = (k : Int) % 8 := Int.tmod_eq_emod_of_nonneg (by omega)
      have hwr : IntKind.i64.wrap ((k : Int) % 8 + 1) = (k : Int) % 8 + 1 := IntWalk.i64_in _ (by omega)
      have hne8 : ((k : Int) % 8 + 1 == (k : Int)) = false := by simp; omega
      have HSW : Hid (sameB ⟨k % 8 + 1, List.replicate n []⟩ ⟨k, List.replicate n []⟩ = false) := sameB_ways (by dsimp only; omega)
      have hmin : min 1 (c.flat.length : Int) = u := HU.out.symm
      have hsbb : (sb == sb) = true := by simp
      have tokB : True := trivial
      have tokC : True := trivial
      have tokD : True := trivial
      clear hCY nf0 nf1 nf2 df0 df1 df2 nlt dlt
      obtain ⟨XX, hXX⟩ : ∃ XX, XX = w11 := ⟨_, rfl⟩
      have HXX := Lib.hid hXX
      clear hXX
      go_region_held3 (fun W => Ext w11 W ∧ W.cell? ⟨w4.heap.size, 0, none⟩ = some (.int .i64 n) ∧ W.cell? ⟨w4.heap.size, 1, none⟩ = some (.int .i64 k) ∧ W.cell? ⟨w4.heap.size, 2, none⟩ = some (.slice a5 L'.length c5) ∧ W.cell? ⟨w1.heap.size, 0, none⟩ = some (.int .i64 n) ∧ W.cell? ⟨w1.heap.size, 1, none⟩ = some (.int .i64 k) ∧ W.cell? ⟨w1.heap.size, 2, none⟩ = some (.slice a2 L.length c2) ∧ W.cell? ⟨w6.heap.size, 0, none⟩ = some (.slice am c.flat.length cm) ∧ W.cell? ⟨W9.heap.size, 0, none⟩ = some (.int .i64 u))
        ((first | exact keepC nlt' dlt' hMl3 hOl3 (by assumption) (by first | assumption | exact Ext.refl _) | exact ⟨(Ext.refl w11).drew, n0, n1, n2, d0, d1, d2, hmx, hox⟩))
        (first | (go_at_call 44; refine (rall_any _ ⟨n, k, L⟩ o _ ⟨_, rfl, (HCY.out.keep (heldC (N := w4.heap.size) (D := w1.heap.size) (Mb := w6.heap.size) (O := W9.heap.size) (a := .int .i64 n) (b := .int .i64 k) (c := .slice a5 L'.length c5) (d := .int .i64 n) (e := .int .i64 k) (f := .slice a2 L.length c2) (m := .slice am c.flat.length cm) (u := .int .i64 u) (by assumption))).set⟩ (by dsimp only; omega) hsl2).mono ?_; rintro e w45 ⟨v45, o45, rfl, hE45, hs45, -⟩; obtain ⟨a45, c45, rfl, hrow45⟩ := hs45.row Ln.okCells; have HR45 := Lib.hid hrow45; clear hs45 hrow45)
               | (go_at_call 43; refine (rsame_true _ _ _ _ _ _ _ ((slAt_row_eq (HMY.out _ (heldC (N := w4.heap.size) (D := w1.heap.size) (Mb := w6.heap.size) (O := W9.heap.size) (a := .int .i64 n) (b := .int .i64 k) (c := .slice a5 L'.length c5) (d := .int .i64 n) (e := .int .i64 k) (f := .slice a2 L.length c2) (m := .slice am c.flat.length cm) (u := .int .i64 u) (by assumption))))) HR45.out (Nat.le_trans HQ.out.ok.flat_le (by decide)) HFL.out).mono ?_; rintro e w43 ⟨rfl, hE43⟩)
               | (go_at_call 27; have _t := tokB; refine (is_any _ _ F2 _ ⟨n, k, L⟩ o _ (HCY.out.keep (heldC (N := w4.heap.size) (D := w1.heap.size) (Mb := w6.heap.size) (O := W9.heap.size) (a := .int .i64 n) (b := .int .i64 k) (c := .slice a5 L'.length c5) (d := .int .i64 n) (e := .int .i64 k) (f := .slice a2 L.length c2) (m := .slice am c.flat.length cm) (u := .int .i64 u) (by assumption))).cp ⟨_, rfl, (HCY.out.keep (heldC (N := w4.heap.size) (D := w1.heap.size) (Mb := w6.heap.size) (O := W9.heap.size) (a := .int .i64 n) (b := .int .i64 k) (c := .slice a5 L'.length c5) (d := .int .i64 n) (e := .int .i64 k) (f := .slice a2 L.length c2) (m := .slice am c.flat.length cm) (u := .int .i64 u) (by assumption))).set⟩ HQ.out).mono ?_; rintro e w27 ⟨rfl, hE27⟩; clear tokB)
               | (go_at_call 27; refine (is_any _ _ F6 _ ⟨n, k, L'⟩ o5 _ (HCY.out.keep (heldC (N := w4.heap.size) (D := w1.heap.size) (Mb := w6.heap.size) (O := W9.heap.size) (a := .int .i64 n) (b := .int .i64 k) (c := .slice a5 L'.length c5) (d := .int .i64 n) (e := .int .i64 k) (f := .slice a2 L.length c2) (m := .slice am c.flat.length cm) (u := .int .i64 u) (by assumption))).at_ ⟨_, rfl, (HCY.out.keep (heldC (N := w4.heap.size) (D := w1.heap.size) (Mb := w6.heap.size) (O := W9.heap.size) (a := .int .i64 n) (b := .int .i64 k) (c := .slice a5 L'.length c5) (d := .int .i64 n) (e := .int .i64 k) (f := .slice a2 L.length c2) (m := .slice am c.flat.length cm) (u := .int .i64 u) (by assumption))).set'⟩ HD1.out).mono ?_; rintro e w28 ⟨rfl, hE28⟩)
               | (go_at_call 41; have _t := tokC; refine (same_any _ _ c6 c F6 F2 _ (HCY.out.keep (heldC (N := w4.heap.size) (D := w1.heap.size) (Mb := w6.heap.size) (O := W9.heap.size) (a := .int .i64 n) (b := .int .i64 k) (c := .slice a5 L'.length c5) (d := .int .i64 n) (e := .int .i64 k) (f := .slice a2 L.length c2) (m := .slice am c.flat.length cm) (u := .int .i64 u) (by assumption))).at_ (HCY.out.keep (heldC (N := w4.heap.size) (D := w1.heap.size) (Mb := w6.heap.size) (O := W9.heap.size) (a := .int .i64 n) (b := .int .i64 k) (c := .slice a5 L'.length c5) (d := .int .i64 n) (e := .int .i64 k) (f := .slice a2 L.length c2) (m := .slice am c.flat.length cm) (u := .int .i64 u) (by assumption))).cp).mono ?_; rintro e w41 ⟨rfl, hE41⟩; rw [HSB2.out]; clear tokC)
               | (go_at_call 41; have _t := tokD; refine (same_any _ _ c c6 F2 F6 _ (HCY.out.keep (heldC (N := w4.heap.size) (D := w1.heap.size) (Mb := w6.heap.size) (O := W9.heap.size) (a := .int .i64 n) (b := .int .i64 k) (c := .slice a5 L'.length c5) (d := .int .i64 n) (e := .int .i64 k) (f := .slice a2 L.length c2) (m := .slice am c.flat.length cm) (u := .int .i64 u) (by assumption))).cp (HCY.out.keep (heldC (N := w4.heap.size) (D := w1.heap.size) (Mb := w6.heap.size) (O := W9.heap.size) (a := .int .i64 n) (b := .int .i64 k) (c := .slice a5 L'.length c5) (d := .int .i64 n) (e := .int .i64 k) (f := .slice a2 L.length c2) (m := .slice am c.flat.length cm) (u := .int .i64 u) (by assumption))).at_).mono ?_; rintro e w42 ⟨rfl, hE42⟩; rw [HSB3.out]; clear tokD)
               | (go_at_call 41; refine (same_any _ _ ⟨k % 8 + 1, List.replicate n []⟩ ⟨k, List.replicate n []⟩ F10 F11 _ (H10'.out.ext (heldC (N := w4.heap.size) (D := w1.heap.size) (Mb := w6.heap.size) (O := W9.heap.size) (a := .int .i64 n) (b := .int .i64 k) (c := .slice a5 L'.length c5) (d := .int .i64 n) (e := .int .i64 k) (f := .slice a2 L.length c2) (m := .slice am c.flat.length cm) (u := .int .i64 u) (by assumption))) (H11.out.ext (heldC (N := w4.heap.size) (D := w1.heap.size) (Mb := w6.heap.size) (O := W9.heap.size) (a := .int .i64 n) (b := .int .i64 k) (c := .slice a5 L'.length c5) (d := .int .i64 n) (e := .int .i64 k) (f := .slice a2 L.length c2) (m := .slice am c.flat.length cm) (u := .int .i64 u) (by assumption)))).mono ?_; rintro e w49 ⟨rfl, hE49⟩; rw [HSW.out])
               | (go_at_call 25; refine (works_any _).mono ?_; rintro e w25 ⟨rfl, hE25⟩))
      rename_i hH2
      have hEf : Ext X w25 := ((HEX.out.trans hE10).trans hE11).trans hH2.1
      have HEF := Lib.hid hEf
      have HEW := Lib.hid (HCX.out.ext)
      clear hH2 hEf hE10 hE11 HEX htm hwr hne8 hmin hsbb n0 n1 n2 d0 d1 d2 hmx hox hE45 hE43 hE27 hE28 hE41 hE42 hE49 hE25
      go_wp2_with fail
      have hDl : D < W9.heap.size := (Array.getElem?_eq_some_iff.1 hK).1
      have hDX : D < X.heap.size := Nat.lt_of_lt_of_le hDl HB.out.size
      have hDX2 : D2 < X.heap.size := (Array.getElem?_eq_some_iff.1 hK2).1
      have hne : D ≠ D2 := by omega
      have hs1 := HC.out.ext.size
      have hKf2 : w25.heap[D2]? = some (.deferred (some [])) := (HEF.out.block _ hDX2).trans hK2
      have hKf : (w25.putObj D2 (.deferred none)).heap[D]? = some (.deferred (some [])) := by
        rw [World.putObj_heap_other hne, HEF.out.block _ hDX, HB.out.block _ hDl]
        exact hK
      refine ⟨by simp, .inl ⟨_, _, rfl, run_takeDeferred hKf2, ?_⟩⟩
      refine ⟨by simp, .inl ⟨_, _, rfl, run_takeDeferred hKf, ?_⟩⟩
      exact ⟨_, results_tmp rfl _ _ _, rfl, ((HEW.out.trans HEF.out).putObj _ _ (by omega)).putObj _ _ (by omega)⟩
end Go.Proofs
