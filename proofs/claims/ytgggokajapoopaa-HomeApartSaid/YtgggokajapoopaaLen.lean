/- Len, and the law's all: ranges over the iterator. -/
import Derived.Test.YtgggokajapoopaaItr
namespace Go.Proofs
open Go.RowKit Go.Shelf
attribute [local go_sem] Oper.semAt_some
theorem keep_setCell {G : Nat → Prop} (W : World) {b o : Nat} (v : Value) (h : ¬ G b) : Keep G W (W.setCell ⟨b, o, none⟩ v) :=
  ⟨by simp [World.setCell], fun k hk => heap_setCell_other _ _ _ _ (fun e => h (by simp only at e; exact e ▸ hk))⟩
theorem keep_put {G : Nat → Prop} {n : Nat} (hG : ∀ b, G b → b < n) (W : World) (l : Nat) (o o' : Obj) (h : n ≤ l) (_ : W.heap[l]? = some o) (_ : o.isCells = false) (_ : o.isWalk = false) : Keep G W (W.putObj l o') :=
  ⟨by simp, fun k hk => World.putObj_heap_other (by have := hG k hk; omega)⟩
set_option maxRecDepth 100000 in
set_option maxHeartbeats 1000000 in
theorem len_any (p : Value) (c : Option Lns) (F : Nat → Prop) (w : World) (h : LAt w p c F) (hl : (flatO c).length ≤ 1000) : Calls Try.prog 39 #[p] w fun e w' => e = .returned (.int .i64 (flatO c).length) ∧ Ext w w' := by
  have h' := fun o => h.ext ((Ext.refl w).alloc o)
  have H := Lib.hid h'
  obtain ⟨a, rfl⟩ := h.ptr
  clear h h'
  refine (callsIn_wide (n := 3)).1 ?_
  refine callsIn_of_wp_marks Try.func39 rfl trivial ?_ rfl
  simp only [Try.ntmps39, List.size_toArray, List.length_cons, List.length_nil, Nat.reduceAdd, Nat.reduceSub, Array.replicate_succ, Array.replicate_zero, List.push_toArray, List.append_toArray, List.nil_append, List.cons_append]
  gi_wp2_with fail
  refine ⟨trivial, (callsIn_wide.2 (all_opt _ c F _ (H.out _))).mono ?_⟩
  rintro e w1 ⟨Bx, q, F', rfl, hE, hBx1, hBx2, hcell, hF', hat⟩
  gi_wp2_with fail
  rw [World.size_alloc] at hBx1
  simp only [World.size_alloc] at hF'
  have hlt : w.heap.size < w1.heap.size := by omega
  have hE' : Ext w w1 := ((Ext.refl w).alloc _).trans hE
  obtain ⟨r1, r2, r3, r5, r4⟩ := hE.rules
  refine wpIn_rangeFunc_ownF rfl (by omega) (gf := 96) (lb := #[.pointer (some ⟨Bx, 0, none⟩)]) rfl trivial (enters_of Try.func96 (by kernel_rfl) rfl)
    (stops_opt 2 (by omega) Bx (fun b => b = Bx ∨ F' b) q c F' w1 hcell hBx2 (.inl rfl) hat (fun b hb => .inr hb) (fun b hb => by rcases hb with rfl | hb; exact hBx2; exact (hF' b hb).2))
    (fun h k => h.trans k) (keep_put (fun b hb => by rcases hb with rfl | hb; exact hBx2; exact (hF' b hb).2)) (Below.refl _ _) (fun _ => rfl)
    (fun pre W => (W.cell? ⟨w.heap.size, 0, none⟩ = some (.int .i64 (pre.length : Int)) ∧ W.frozen? ⟨w.heap.size, 0, none⟩ = false) ∧ Below w.heap.size w W)
    (fun _ _ _ => False)
    (OwnFrom.and (Own.from (fun s A B row hs hg hr => ⟨cell_kept hs.1 hg hr, (frozen_kept hs.1 hg hr).trans hs.2⟩) _) (ownFrom_below (Nat.le_refl _) (by omega)))
    (fun _ _ _ _ _ hs _ _ => hs)
    ⟨⟨by rw [r1 _ _ (by simp)]; simp [go_sem], by rw [r2 _ _ (by simp)]; simp [go_sem]⟩, hE'⟩
    (fun x => { tmps := #[.pointer a, undef, .int .i64 0, .pointer (some ⟨w.heap.size, 0, none⟩), .pointer a, .func (.func 96) #[] #[.pointer (some ⟨Bx, 0, none⟩)], .agg x.cells, undef, undef, undef], defers := [] }) ?assign ?body ?done ?stop
  case assign =>
    intro l x W K hK
    gi_wp2
    simpa using hK
  case body =>
    rintro l pre x W ⟨⟨hc, hf⟩, hB⟩ hlen
    have hp : pre.length ≤ 1000 := by omega
    gi_wp2
    refine ⟨KeepsOthers.setCell _ _ _, keep_setCell W _ ?_, ⟨World.cell?_setCell_same' _ _ _ (by rw [hc]; rfl) |>.trans (by simp), by rw [World.frozen?_setCell]; exact hf⟩, hB.setCell (p := ⟨w.heap.size, 0, none⟩) (Nat.le_refl _) _⟩
    rintro (h | h)
    · omega
    · have := hF' _ h; omega
  case done =>
    rintro D ys W hD rfl ⟨⟨hc, _⟩, hB⟩ hK
    gi_wp2
    refine ⟨by simp, .inl ⟨_, _, rfl, run_takeDeferred hK, ?_⟩⟩
    exact ⟨_, results_tmp rfl _ _ _, rfl, hB.trans (belowK_b (w := w) (Nat.le_refl _) W D _ _ (by omega) hK rfl rfl)⟩
  case stop =>
    intro D c pre W _ _ h _
    exact h.elim
theorem Try.equalIn_nilFunc64 (w : World) (d : Nat) (f : Fn) (a b : Array Value) : (Op.equalIn (d + 1) 64 (.func f a b) .nilFunc).run Try.prog w = .ok false w := by
  simp [Op.equalIn, run_underlying Try.underlying64]
@[go_sem] theorem Try.eql_nilFunc64 (w : World) (f : Fn) (a b : Array Value) : (binOp .eql 64 (.func f a b) .nilFunc).run Try.prog w = .ok (.bool false) w := by
  simp only [binOp]
  simp [Op.equal, Op.maxDepth, Try.equalIn_nilFunc64 w 9999 f a b]
theorem wpListIn_append_sl {α : Type} {e k : Nat} {enc : α → Array Value} {F : Fence} {n : Nat} {P : Program} {ops : Array Oper} {rest : List Oper} {op : Oper} {a : Act} {w : World} {Q : Exit → Act → World → Prop} (hg : op.guard = none) (s x : Operand) (t : TypeId)
    (ho : op.op = .call { callee := .builtin .append, args := #[s, x], argTypes := #[t, t] })
    (i : TypeInfo) (z : Value) (ht : P.underlying t = some (.slice e)) (hi : P.info? e = some i) (hz : i.zero = some z) (hsz : i.size = k) (hzs : z.cells.size = k) (hk0 : 0 < k) (hby : i.bytes ≤ 4096)
    (hk : ∀ x, okCells k (enc x) = true) (v : Value) (L : List α) (o : Option Nat) (h : SlAt e k enc w v L o) (src : Option Addr) (c : Nat) (M : List α) (hM : Row k enc w src M)
    (hs : a.eval s = v) (hx : a.eval x = .slice src M.length c) (hb : L.length + M.length ≤ 4294967296)
    (hK : ∀ v' o' w', SlAt e k enc w' v' (L ++ M) o' → w.grownBy w' o → (o' = o ∨ ∃ g, o' = some g ∧ w.heap.size ≤ g) → wpListIn F n P ops Q rest (a.put op.dst v') w') : wpListIn F n P ops Q (op :: rest) a w := by
  obtain ⟨v', o', w', hr, h1, h2, h3, _⟩ := run_append_sl (P := P) t op.type i z ht hi hz hsz hzs hk0 hk w v L o h src c M hM hb hby
  refine wpListIn_plain hg fun K hK' => ?_
  unfold Oper.wpIn
  refine ⟨?_, ?_⟩
  · simp [Oper.about, ho, resolve, Target.leads, Sem.run_pure]
  · rw [Oper.semAt_plain F _ _ (by rw [ho]; intro c hc'; cases hc')]
    simp only [execOp, ho, resolve, invoke, builtin, Sem.run_bind, Sem.run_pure, Result.andThen_ok, List.map_toArray, List.map_cons, List.map_nil, hs, hx, hr]
    exact hK' _ _ (hK v' o' w' h1 h2 h3)
/-- A slice stays where what turns is no row of cells. -/
theorem slAt_own {α : Type} {e k : Nat} {enc : α → Array Value} {W W' : World} {row : Option Nat} {v : Value} {L : List α} {o : Option Nat} (h : SlAt e k enc W v L o) (hg : W.grownBy W' row) (hr : ∀ r, row = some r → ∃ ob : Obj, W.heap[r]? = some ob ∧ ob.isCells = false) : SlAt e k enc W' v L o := by
  rcases h with h | ⟨g, cap, cur, ho, hv, hh, rest⟩
  · exact .inl h
  · refine .inr ⟨g, cap, cur, ho, hv, ?_, rest⟩
    rw [hg.block g (Array.getElem?_eq_some_iff.1 hh).1 (fun e => by obtain ⟨ob, h1, h2⟩ := hr g e.symm; rw [hh] at h1; cases h1; cases h2)]
    exact hh
/-- Between two rounds of 'all': what has come lies in a slice of the call's own. -/
def AllInv (w w2 : World) (pre : List Ln) (W : World) : Prop :=
  ∃ v o, (W.cell? ⟨w.heap.size, 0, none⟩ = some v ∧ W.frozen? ⟨w.heap.size, 0, none⟩ = false) ∧ SetAt W v pre o ∧ (∀ g, o = some g → w2.heap.size ≤ g) ∧ Below w.heap.size w W ∧ w2.heap.size ≤ W.heap.size
theorem allInv_own (w w2 : World) (hw : w.heap.size ≤ w2.heap.size) : OwnFrom w2.heap.size (AllInv w w2) := by
  rintro s W W' row ⟨v, o, ⟨h1, h2⟩, h3, h4, h5, h6⟩ hg hr
  have hr' := fun r e => (hr r e).2
  exact ⟨v, o, ⟨cell_kept h1 hg hr', (frozen_kept h1 hg hr').trans h2⟩, slAt_own h3 hg hr', h4, ownFrom_below (β := Unit) (Nat.le_refl _) hw () W W' row h5 hg hr, Nat.le_trans h6 hg.size⟩
theorem agg_kept {W W' : World} {row : Option Nat} {a : Addr} {n : Nat} {cs : Array Value} (h : W.agg? a n = some cs) (hg : W.grownBy W' row) (hrow : ∀ r, row = some r → ∃ o : Obj, W.heap[r]? = some o ∧ o.isCells = false) : W'.agg? a n = some cs := by
  obtain ⟨c, t, fr, hh, _⟩ := World.agg?_some h
  exact (World.agg?_of_block (grownBy_keeps_cells hg hrow hh rfl)).trans h
/-- What a round of 'all' leaves. -/
theorem all_round {w w2 : World} {G : Nat → Prop} (hG : ∀ b, G b → w.heap.size < b ∧ b < w2.heap.size) (hw2 : w.heap.size < w2.heap.size) {pre : List Ln} {x : Ln} {W w' : World} {v v' : Value} {o o' : Option Nat} (hs : SetAt W v pre o) (hfr : ∀ g, o = some g → w2.heap.size ≤ g) (hB : Below w.heap.size w W) (hWs : w2.heap.size ≤ W.heap.size)
    (k1 : SetAt w' v' (pre ++ [x]) o') (k2 : (W.alloc (.cells x.cells 39)).grownBy w' o) (k3 : o' = o ∨ ∃ g, o' = some g ∧ (W.alloc (.cells x.cells 39)).heap.size ≤ g) (hc : ∃ u, w'.cell? ⟨w.heap.size, 0, none⟩ = some u) (hf : w'.frozen? ⟨w.heap.size, 0, none⟩ = false) :
    KeepsFrom w2.heap.size W (w'.setCell ⟨w.heap.size, 0, none⟩ v') ∧ Keep G W (w'.setCell ⟨w.heap.size, 0, none⟩ v') ∧ AllInv w w2 (pre ++ [x]) (w'.setCell ⟨w.heap.size, 0, none⟩ v') := by
  have hcells : ∀ (j : Nat) (ob : Obj), o = some j → (W.alloc (.cells x.cells 39)).heap[j]? = some ob → ob.isCells = true := by
    intro j ob hj hob
    rcases hs with ⟨_, h, _⟩ | ⟨g, cap, cur, ho, _, hh, _⟩
    · rw [hj] at h; cases h
    · rw [hj] at ho; cases ho
      rw [Below.heap_alloc _ _ _ (Array.getElem?_eq_some_iff.1 hh).1, hh] at hob
      cases hob; rfl
  have hfr' : ∀ g, o' = some g → w2.heap.size ≤ g := by
    intro g hg
    rcases k3 with h | ⟨g', h, h'⟩
    · exact hfr g (h ▸ hg)
    · rw [hg] at h; cases h
      rw [World.size_alloc] at h'
      omega
  have hne : ∀ g, o' = some g → g ≠ w.heap.size := fun g hg e => by have := hfr' g hg; omega
  refine ⟨?_, ?_, ⟨v', o', ⟨World.cell?_setCell_same' _ _ _ (by obtain ⟨u, hu⟩ := hc; rw [hu]; rfl), by rw [World.frozen?_setCell]; exact hf⟩, k1.keep (fun b hb => heap_setCell_other _ _ _ _ (by simpa using hne b hb)), hfr', ?_, ?_⟩⟩
  · exact ((((KeepsOthers.alloc W _).trans (KeepsOthers.of_grownBy k2 hcells)).trans (KeepsOthers.setCell _ _ _)).from _)
  · refine ⟨?_, fun b hb => ?_⟩
    · have h1 := k2.size
      rw [World.size_alloc] at h1
      have h2 : (w'.setCell ⟨w.heap.size, 0, none⟩ v').heap.size = w'.heap.size := by simp [World.setCell]
      omega
    · obtain ⟨g1, g2⟩ := hG b hb
      rw [heap_setCell_other _ _ _ _ (by simp only; omega), k2.block b (by rw [World.size_alloc]; omega) (fun e => by have := hfr b e.symm; omega), Below.heap_alloc _ _ _ (by omega)]
  · exact ((hB.alloc (by omega) _).grown k2 (by rw [World.size_alloc]; omega) (fun k e => by have := hfr k e; omega)).setCell (p := ⟨w.heap.size, 0, none⟩) (Nat.le_refl _) _
  · have h1 := k2.size
    rw [World.size_alloc] at h1
    have h2 : (w'.setCell ⟨w.heap.size, 0, none⟩ v').heap.size = w'.heap.size := by simp [World.setCell]
    omega
set_option maxRecDepth 100000 in
set_option maxHeartbeats 1000000 in
theorem all_list (p : Value) (c : Option Lns) (F : Nat → Prop) (w : World) (h : LAt w p c F) (hl : (flatO c).length ≤ 1000) : Calls Try.prog 38 #[p] w (ClonePost w (flatO c)) := by
  have h' := fun o => h.ext ((Ext.refl w).alloc o)
  have H := Lib.hid h'
  obtain ⟨a, rfl⟩ := h.ptr
  clear h h'
  refine (callsIn_wide (n := 3)).1 ?_
  refine callsIn_of_wp_marks Try.func38 rfl trivial ?_ rfl
  simp only [Try.ntmps38, List.size_toArray, List.length_cons, List.length_nil, Nat.reduceAdd, Nat.reduceSub, Array.replicate_succ, Array.replicate_zero, List.push_toArray, List.append_toArray, List.nil_append, List.cons_append]
  gi_wp2_with fail
  refine ⟨trivial, (callsIn_wide.2 (all_opt _ c F _ (H.out _))).mono ?_⟩
  rintro e w0 ⟨Bx0, q0, F0, rfl, hE0, -, -, -, -, -⟩
  gi_wp2_with fail
  refine ⟨trivial, (callsIn_wide.2 (all_opt _ c F _ ((H.out _).ext hE0))).mono ?_⟩
  rintro e w2 ⟨Bx, q, F', rfl, hE, hBx1, hBx2, hcell, hF', hat⟩
  gi_wp2_with fail
  have hE' : Ext w w2 := (((Ext.refl w).alloc _).trans hE0).trans hE
  have hw0 : w.heap.size < w0.heap.size := by have := hE0.size; rw [World.size_alloc] at this; omega
  have hw2 : w.heap.size < w2.heap.size := Nat.lt_of_lt_of_le hw0 hE.size
  obtain ⟨r1, r2, r3, r5, r4⟩ := hE0.rules
  obtain ⟨s1, s2, s3, s5, s4⟩ := hE.rules
  obtain ⟨i0, hi, hz0, hz1, hz2⟩ := info_parts Try.info39
  have hstart : AllInv w w2 [] w2 := ⟨.slice none 0 0, none, ⟨by rw [s1 _ _ hw0, r1 _ _ (by simp)]; simp [go_sem], by rw [s2 _ _ hw0, r2 _ _ (by simp)]; simp [go_sem]⟩, SlAt.nil _ _, by simp, hE', Nat.le_refl _⟩
  have hGG : ∀ b, (b = Bx ∨ F' b) → w.heap.size < b ∧ b < w2.heap.size := fun b hb => by
    rcases hb with rfl | hb
    · exact ⟨by omega, hBx2⟩
    · have := hF' b hb; omega
  clear r1 r2 r3 r4 r5 s1 s2 s3 s4 s5
  refine wpIn_rangeFunc_ownH rfl (by omega) (gf := 96) (lb := #[.pointer (some ⟨Bx, 0, none⟩)]) rfl trivial (enters_of Try.func96 (by kernel_rfl) rfl)
    (stops_opt 2 (by omega) Bx (fun b => b = Bx ∨ F' b) q c F' w2 hcell hBx2 (.inl rfl) hat (fun b hb => .inr hb) (fun b hb => (hGG b hb).2))
    (fun h k => h.trans k) (keep_put (fun b hb => (hGG b hb).2)) (Below.refl _ _) (fun _ => rfl)
    (AllInv w w2) (fun _ _ _ => False) (allInv_own w w2 (by omega)) (fun _ _ _ _ _ hs _ _ => hs) hstart
    (fun x a' W => ∃ Bo, w2.heap.size ≤ Bo ∧ W.agg? ⟨Bo, 0, none⟩ 18 = some x.cells ∧ a' = { tmps := #[.pointer a, undef, .slice none 0 0, .pointer (some ⟨w.heap.size, 0, none⟩), .pointer (some ⟨Bo, 0, none⟩), .pointer a, .func (.func 96) #[] #[.pointer (some ⟨Bx0, 0, none⟩)], .bool false, .pointer a, .func (.func 96) #[] #[.pointer (some ⟨Bx, 0, none⟩)], .agg x.cells, undef, undef, undef, undef, undef], defers := [] })
    (fun x a' _ A B row ⟨Bo, h1, h2, h3⟩ hg hr => ⟨Bo, h1, agg_kept h2 hg (fun r e => (hr r e).2), h3⟩) ?assign ?body ?done ?stop
  case assign =>
    rintro l pre x W K ⟨v, o, ⟨h1, h2⟩, h3, h4, h5, h6⟩ hK
    gi_wp2
    exact hK _ _ ((KeepsOthers.alloc W _).from _) ((Keep.refl _ W).alloc (fun b hb => by have := (hGG b hb).2; omega) _) (allInv_own w w2 (by omega) _ _ _ none ⟨v, o, ⟨h1, h2⟩, h3, h4, h5, h6⟩ (World.grownBy_alloc _ _ _) (by simp)) ⟨_, h6, World.agg?_alloc_at W _ _ _ _ rfl (Ln.cells_size x), rfl⟩
  case body =>
    rintro l pre x a' W hl' - ⟨v, o, ⟨h1, h2⟩, h3, h4, h5, h6⟩ ⟨Bo, hBo, hag, rfl⟩ hlen
    obtain ⟨a0, cap0, rfl, -⟩ := h3.row Ln.okCells
    have hlt : w.heap.size < W.heap.size := by omega
    have hBl : Bo < W.heap.size := World.agg?_lt hag
    have hpl : pre.length ≤ 1000 := by omega
    have hne : o ≠ some w.heap.size := fun e => by have := h4 _ e; omega
    have HN := Lib.hid hne
    have H4 := Lib.hid h4
    have H3 := Lib.hid (fun ob => h3.ext ((Ext.refl W).alloc ob))
    clear hne h4
    gi_wp2_with (gi_at_builtin; refine wpListIn_append_sl rfl (.tmp 11) (.tmp 13) 26 rfl i0 _ Try.underlying26 hi hz0 hz1 (by rfl) (by decide) (by rw [hz2]; decide) Ln.okCells _ _ o (H3.out _) _ _ [x] (Row_alloc_one Ln.okCells W x 39) rfl rfl (by simp; omega) ?_; intro v' o' w' k1 k2 k3; obtain ⟨a', cap', rfl, -⟩ := k1.row Ln.okCells; obtain ⟨c1, c2⟩ := grownBy_cell k2 (b := w.heap.size) (by simp; omega) HN.out 0)
    have e : pre.length + 1 = (pre ++ [x]).length := by simp
    rw [e]
    exact all_round hGG hw2 h3 H4.out h5 h6 k1 k2 k3 ⟨_, c1.trans ((World.cell?_alloc_past _ _ _ hlt).trans h1)⟩ (c2.trans ((World.frozen?_alloc_past _ _ _ hlt).trans h2))
  case done =>
    rintro D ys W hD rfl ⟨v, o, ⟨h1, h2⟩, h3, h4, h5, h6⟩ hK
    gi_wp2
    refine ⟨by simp, .inl ⟨_, _, rfl, run_takeDeferred hK, ?_⟩⟩
    refine ⟨_, results_tmp rfl _ _ _, v, o, rfl, h5.trans (belowK_b (w := w) (Nat.le_refl _) W D _ _ (by omega) hK rfl rfl), ?_, fun g hg => by have := h4 g hg; omega⟩
    exact slAt_own h3 (grownBy_putObj' W D _) (fun r e => by cases e; exact ⟨_, hK, rfl⟩)
  case stop =>
    intro D c pre W _ _ h _
    exact h.elim
end Go.Proofs
