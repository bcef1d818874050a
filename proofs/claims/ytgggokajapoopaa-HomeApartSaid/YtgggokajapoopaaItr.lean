/- The iterator over a cache's lines. -/
import Derived.Test.YtgggokajapoopaaCpy
import Derived.RangeFuncNested
import Derived.RangeFuncBound
import Derived.RangeFuncCalls
import Derived.RangeFuncLeaves
import Derived.RangeFuncBox
import Derived.Shelf.Abstract
import Derived.Shelf.RegionOpen
import Derived.OwnWalkIn
import Derived.TacticsInMore
import Derived.LoopNIn
import Derived.LoopIn
namespace Go
/-- All lines, set by set. -/
def Lns.flat (c : Lns) : List Ln := c.sets.flatten
/-- What has come behind k sets, and j lines of the next. -/
def Lns.pre (c : Lns) (k j : Nat) : List Ln := (c.sets.take k).flatten ++ ((c.sets[k]?).getD []).take j
theorem Lns.pre_zero (c : Lns) : c.pre 0 0 = [] := by simp [Lns.pre]
theorem Lns.pre_succ {c : Lns} {k j : Nat} {L : List Ln} {x : Ln} (hL : c.sets[k]? = some L) (hx : L[j]? = some x) : c.pre k (j + 1) = c.pre k j ++ [x] := by
  obtain ⟨hj, rfl⟩ := List.getElem?_eq_some_iff.1 hx
  unfold Lns.pre
  rw [hL]
  simp only [Option.getD_some]
  rw [List.take_succ_eq_append_getElem hj, List.append_assoc]
theorem Lns.pre_next {c : Lns} {k : Nat} {L : List Ln} (hL : c.sets[k]? = some L) : c.pre k L.length = c.pre (k + 1) 0 := by
  obtain ⟨hk, rfl⟩ := List.getElem?_eq_some_iff.1 hL
  unfold Lns.pre
  rw [hL, List.take_succ_eq_append_getElem hk]
  simp only [Option.getD_some, List.take_zero, List.append_nil, List.take_length, List.flatten_append, List.flatten_cons, List.flatten_nil]
theorem Lns.pre_all (c : Lns) : c.pre c.sets.length 0 = c.flat := by simp [Lns.pre, Lns.flat]
theorem Lns.pre_prefix (c : Lns) (k j : Nat) : c.pre k j <+: c.flat := by
  unfold Lns.pre Lns.flat
  by_cases hk : k < c.sets.length
  · have h1 : c.sets = c.sets.take k ++ c.sets[k] :: c.sets.drop (k + 1) := by simp
    have h2 : c.sets.flatten = (c.sets.take k).flatten ++ (c.sets[k] ++ (c.sets.drop (k + 1)).flatten) := by
      conv => lhs; rw [h1]
      simp [-List.getElem_cons_drop, -List.take_append_drop]
    rw [h2, List.getElem?_eq_getElem hk]
    refine List.prefix_append_right_inj _ |>.2 ?_
    exact (List.take_prefix _ _).trans (List.prefix_append _ _)
  · rw [List.getElem?_eq_none (by omega), List.take_of_length_le (by omega)]
    simp
theorem Lns.pre_len {c : Lns} {k j : Nat} {L : List Ln} (hL : c.sets[k]? = some L) (hj : j < L.length) : (c.pre k j).length < c.flat.length := by
  have h1 := (Lns.pre_prefix c k (j + 1)).length_le
  have hx : L[j]? = some L[j] := by simp
  rw [Lns.pre_succ hL hx] at h1
  simp at h1; omega
/-- The blocks of G lie as they lay. -/
structure Keep (G : Nat → Prop) (w w' : World) : Prop where
  size : w.heap.size ≤ w'.heap.size
  block : ∀ b, G b → w'.heap[b]? = w.heap[b]?
theorem Keep.refl (G : Nat → Prop) (w : World) : Keep G w w := ⟨Nat.le_refl _, fun _ _ => rfl⟩
theorem Keep.trans {G : Nat → Prop} {a b c : World} (h : Keep G a b) (k : Keep G b c) : Keep G a c := ⟨Nat.le_trans h.size k.size, fun x hx => (k.block x hx).trans (h.block x hx)⟩
theorem Keep.alloc {G : Nat → Prop} {a w : World} (h : Keep G a w) (hG : ∀ b, G b → b < a.heap.size) (o : Obj) : Keep G a (w.alloc o) :=
  h.trans ⟨by simp, fun b hb => Go.RowKit.Below.heap_alloc w o b (Nat.lt_of_lt_of_le (hG b hb) h.size)⟩
theorem Keep.cell {G : Nat → Prop} {w w' : World} (h : Keep G w w') {b o : Nat} (hb : G b) : w'.cell? ⟨b, o, none⟩ = w.cell? ⟨b, o, none⟩ := World.cell?_of_block (w := w) (a := ⟨b, o, none⟩) (h.block b hb)
end Go
namespace Go.Proofs
open Go.RowKit Go.Shelf
attribute [local go_sem] Oper.semAt_some
set_option maxRecDepth 100000 in
set_option maxHeartbeats 1000000 in
theorem all1_in (n : Nat) (hn : 1 ≤ n) (l Bx : Nat) (G : Nat → Prop) (B S : Nat) (vs : Array Value) (os : Nat → Option Nat) (c : Lns) (J Jx : List Ln → World → Prop)
    (hY : ∀ pre x W, J pre W → pre.length < c.flat.length → YieldAt Fence.wide (n - 1) Try.prog l #[.agg x.cells] W fun e W' =>
      (e = .returned (.bool true) ∧ J (pre ++ [x]) W' ∧ Keep G W W') ∨ (e = .returned (.bool false) ∧ Jx (pre ++ [x]) W'))
    (W : World) (hJ : AbidesFrom W.heap.size J) (hBx : W.cell? ⟨Bx, 0, none⟩ = some (.pointer (some ⟨B, 0, none⟩))) (hb : LinesBody W B S vs os c) (hn₀ : ∀ b, (b = Bx ∨ b = B ∨ b = S ∨ ∃ i, os i = some b) → G b) (hnW : ∀ b, G b → b < W.heap.size) (h0 : J [] W) :
    CallsIn Fence.wide n Try.prog 96 #[.func (.yield l) #[] #[], .pointer (some ⟨Bx, 0, none⟩)] W fun e W' => (∃ v, e = .returned v) ∧
      ((∃ ys, ys = c.flat ∧ J ys W') ∨ (∃ pre, pre <+: c.flat ∧ Jx pre W')) := by
  refine callsIn_of_wp Try.func96 rfl trivial ?_ rfl
  simp only [Try.ntmps96, List.size_toArray, List.length_cons, List.length_nil, Nat.reduceAdd, Nat.reduceSub, Array.replicate_succ, Array.replicate_zero, List.push_toArray, List.append_toArray, List.nil_append, List.cons_append]
  refine wpIn_wide.2 (wp_scope_straight ((wpIn_wide (n := n)).1 ?_))
  have hB0 : W.cell? ⟨B, 0, none⟩ = some (.slice (some ⟨S, 0, none⟩) c.sets.length c.sets.length) := by rw [cell_of_row W B 0 _ 172 (0, 0) hb.hB]; rfl
  have h64 := hb.ok.s64
  gi_wp2
  refine wpIn_label ?_
  gi_wp2
  gi_loopw [4, 6, 14, 20] (fun _ _ i _ wr => ∃ k : Nat, k ≤ c.sets.length ∧ i = .int .i64 k ∧ J (c.pre k 0) wr ∧ Keep G W wr) (fun _ _ i _ _ => c.sets.length - (intOf i).toNat)
  case atStart => exact ⟨0, Nat.zero_le _, rfl, by rw [Lns.pre_zero]; exact h0, Keep.refl _ _⟩
  case round =>
    obtain ⟨k, hk, rfl, hJs, hnx⟩ := hrel
    by_cases hlt : k < c.sets.length
    · obtain ⟨L, hL⟩ : ∃ L, c.sets[k]? = some L := ⟨_, List.getElem?_eq_getElem hlt⟩
      obtain ⟨v, hv, hsv⟩ := hb.sets k L hL
      have hSk : wr.cell? ⟨S, k, none⟩ = some v := by rw [hnx.cell (hn₀ S (.inr (.inr (.inl rfl)))), cell_of_row W S _ vs 26 (0, 0) hb.hS]; exact hv
      obtain ⟨a, cap, rfl, hr⟩ := hsv.row Ln.okCells
      have ha : ∀ b off, a = some ⟨b, off, none⟩ → 0 < L.length → G b := by
        intro b off e hL0
        rcases hsv with ⟨rfl, _⟩ | ⟨g, cap', cur, ho, hv', _⟩
        · simp at hL0
        · simp only [Value.slice.injEq] at hv'
          rw [hv'.1] at e
          cases e
          exact hn₀ _ (.inr (.inr (.inr ⟨k, ho⟩)))
      have HA := Lib.hid ha
      have HL := Lib.hid hL
      have hl8 : L.length ≤ 8 := by have := hb.ok.full L (List.mem_of_getElem? hL); have := hb.ok.w8; omega
      clear hv hsv ha
      gi_wp2
      obtain ⟨wo, hwo⟩ : ∃ wo : World, wo = wr := ⟨_, rfl⟩
      rw [← hwo] at hJs hnx hSk ⊢
      clear hwo wr
      gi_loopw [6, 20] (fun _ i wr => ∃ j : Nat, j ≤ L.length ∧ i = .int .i64 j ∧ J (c.pre k j) wr ∧ Keep G W wr) (fun _ i _ => L.length - (intOf i).toNat)
      case atStart => exact ⟨0, Nat.zero_le _, rfl, hJs, hnx⟩
      case round =>
        obtain ⟨j, hj, rfl, hJs, hnx⟩ := hrel
        by_cases hlj : j < L.length
        · obtain ⟨x, hx⟩ : ∃ x, L[j]? = some x := ⟨_, List.getElem?_eq_getElem hlj⟩
          obtain ⟨b, off, rfl, hg⟩ := hr j x hx
          have hb0 := HA.out b off rfl (by omega)
          have hg' : wr.agg? ⟨b, off + j * 18, none⟩ 18 = some x.cells := by rw [World.agg?_of_block (hnx.block b hb0)]; exact hg
          have hJa : J (c.pre k j) (wr.alloc (.cells x.cells 39)) := hJ _ _ _ none hJs (World.grownBy_alloc _ _ _) (by simp)
          obtain ⟨fn, tmps, assign, body, hy, hR⟩ := hY _ x _ hJa (Lns.pre_len HL.out hlj)
          have HX := Lib.hid hx
          clear hg hx hr
          gi_wp2
          refine hR.mono ?_
          rintro e W3 (⟨rfl, hJ3, hk3⟩ | ⟨rfl, hJx3⟩)
          · have HJ : Hid (J (c.pre k (j + 1)) W3) := by rw [Lns.pre_succ HL.out HX.out]; exact hJ3
            clear hJ3
            gi_wp2
            go_roundw
            case rel => exact ⟨j + 1, by omega, by go_num, HJ.out, (hnx.alloc hnW _).trans hk3⟩
            case measure => simp [intOf]; omega
          · have HJ : Hid (Jx (c.pre k (j + 1)) W3) := by rw [Lns.pre_succ HL.out HX.out]; exact hJx3
            clear hJx3
            gi_wp2
            simp only [Exit.noGoto]
            refine bodyPost_end (results_none rfl _ _ _) rfl ?_
            exact ⟨⟨_, rfl⟩, .inr ⟨_, Lns.pre_prefix c k (j + 1), HJ.out⟩⟩
        · have hjj : j = L.length := by omega
          subst hjj
          rw [Lns.pre_next HL.out] at hJs
          gi_wp2
          go_roundw
          case rel => exact ⟨k + 1, by omega, by go_num, hJs, hnx⟩
          case measure => simp [intOf]; omega
    · have hkk : k = c.sets.length := by omega
      subst hkk
      rw [Lns.pre_all] at hJs
      gi_wp2
      simp only [Exit.noGoto]
      refine bodyPost_end (results_none rfl _ _ _) rfl ?_
      exact ⟨⟨_, rfl⟩, .inl ⟨_, rfl, hJs⟩⟩
/-- The iterator over a cache whose blocks the rounds keep: all its lines, in order; or a part of them. -/
theorem all_stops (n : Nat) (hn : 1 ≤ n) (Bx : Nat) (G : Nat → Prop) (p : Value) (c : Lns) (F : Nat → Prop) (w : World) (hBx : w.cell? ⟨Bx, 0, none⟩ = some p) (hBl : Bx < w.heap.size) (hBn : G Bx) (h : LinesAt w p c F) (hF : ∀ b, F b → G b) (hnw : ∀ b, G b → b < w.heap.size) :
    SeqStopsK Fence.wide n Try.prog 96 #[.pointer (some ⟨Bx, 0, none⟩)] (fun x : Ln => #[.agg x.cells]) (Keep G) (fun ys => ys = c.flat) (fun pre => pre <+: c.flat) c.flat.length w := fun l J Jx W hW hJ _ hY h0 => by
  obtain ⟨B, S, vs, os, rfl, hb, hFF⟩ := h
  exact all1_in n hn l Bx G B S vs os c J Jx hY W hJ ((hW.cell (p := ⟨Bx, 0, none⟩) hBl).trans hBx) (hb.ext hW) (fun b hb' => by
    rcases hb' with rfl | hb'
    · exact hBn
    · exact hF b ((hFF b).2 hb')) (fun b hb => Nat.lt_of_lt_of_le (hnw b hb) hW.size) h0
set_option maxRecDepth 100000 in
set_option maxHeartbeats 1000000 in
theorem all1_nil_in (n : Nat) (l Bx : Nat) (J : List Ln → World → Prop) (W : World) (hBx : W.cell? ⟨Bx, 0, none⟩ = some (.pointer none)) (h0 : J [] W) :
    CallsIn Fence.wide n Try.prog 96 #[.func (.yield l) #[] #[], .pointer (some ⟨Bx, 0, none⟩)] W fun e W' => (∃ v, e = .returned v) ∧ J [] W' := by
  refine callsIn_of_wp Try.func96 rfl trivial ?_ rfl
  simp only [Try.ntmps96, List.size_toArray, List.length_cons, List.length_nil, Nat.reduceAdd, Nat.reduceSub, Array.replicate_succ, Array.replicate_zero, List.push_toArray, List.append_toArray, List.nil_append, List.cons_append]
  refine wpIn_wide.2 (wp_scope_straight ((wpIn_wide (n := n)).1 ?_))
  gi_wp2
  simp only [Exit.noGoto]
  refine bodyPost_ret (results_none rfl _ _ _) rfl ?_
  exact ⟨⟨_, rfl⟩, h0⟩
theorem all_stops_nil (n : Nat) (Bx : Nat) (G : Nat → Prop) (w : World) (hBx : w.cell? ⟨Bx, 0, none⟩ = some (.pointer none)) (hB : Bx < w.heap.size) :
    SeqStopsK Fence.wide n Try.prog 96 #[.pointer (some ⟨Bx, 0, none⟩)] (fun x : Ln => #[.agg x.cells]) (Keep G) (fun ys => ys = []) (fun pre => pre <+: []) 0 w := fun l J Jx W hW _ _ _ h0 => by
  exact (all1_nil_in n l Bx J W ((hW.cell (p := ⟨Bx, 0, none⟩) hB).trans hBx) h0).mono fun e W' ⟨he, hj⟩ => ⟨he, .inl ⟨_, rfl, hj⟩⟩
/-- A cache, or none, behind a pointer. -/
def LAt (w : World) (p : Value) (c : Option Lns) (F : Nat → Prop) : Prop := match c with | some c => LinesAt w p c F | none => p = .pointer none
def flatO (c : Option Lns) : List Ln := match c with | some c => c.flat | none => []
theorem LAt.ext {w w' : World} {p : Value} {c : Option Lns} {F : Nat → Prop} (h : LAt w p c F) (hw : Ext w w') : LAt w' p c F := by
  cases c with
  | some c => exact LinesAt.ext h hw
  | none => exact h
theorem LAt.ptr {w : World} {p : Value} {c : Option Lns} {F : Nat → Prop} (h : LAt w p c F) : ∃ a, p = .pointer a := by
  cases c with
  | some c => obtain ⟨B, _, _, _, rfl, _⟩ := h; exact ⟨_, rfl⟩
  | none => exact ⟨_, h⟩
theorem stops_opt (n : Nat) (hn : 1 ≤ n) (Bx : Nat) (G : Nat → Prop) (p : Value) (c : Option Lns) (F : Nat → Prop) (w : World) (hBx : w.cell? ⟨Bx, 0, none⟩ = some p) (hBl : Bx < w.heap.size) (hBn : G Bx) (h : LAt w p c F) (hF : ∀ b, F b → G b) (hnw : ∀ b, G b → b < w.heap.size) :
    SeqStopsK Fence.wide n Try.prog 96 #[.pointer (some ⟨Bx, 0, none⟩)] (fun x : Ln => #[.agg x.cells]) (Keep G) (fun ys => ys = flatO c) (fun pre => pre <+: flatO c) (flatO c).length w := by
  cases c with
  | some c => exact all_stops n hn Bx G p c F w hBx hBl hBn h hF hnw
  | none =>
    have hp : p = .pointer none := h
    subst hp
    exact all_stops_nil n Bx G w hBx hBl
/-- All: an iterator over a copy. -/
def AllPost (w : World) (c : Option Lns) (e : Ending) (w' : World) : Prop :=
  ∃ Bx p F, e = .returned (.func (.func 96) #[] #[.pointer (some ⟨Bx, 0, none⟩)]) ∧ Ext w w' ∧ w.heap.size ≤ Bx ∧ Bx < w'.heap.size ∧ w'.cell? ⟨Bx, 0, none⟩ = some p ∧ (∀ b, F b → w.heap.size ≤ b ∧ b < w'.heap.size) ∧
    LAt w' p c F
set_option maxRecDepth 100000 in
set_option maxHeartbeats 400000 in
theorem all_any (p : Value) (c : Lns) (F : Nat → Prop) (w : World) (h : LinesAt w p c F) : Calls Try.prog 42 #[p] w (AllPost w (some c)) := by
  have h' := fun o => h.ext ((Ext.refl w).alloc o)
  have H := Lib.hid h'
  obtain ⟨a, rfl⟩ : ∃ a, p = .pointer a := by obtain ⟨B, _, _, _, rfl, _⟩ := h; exact ⟨_, rfl⟩
  clear h h'
  go_enter Try.func42, Try.ntmps42
  go_wp2_with fail
  refine (copy_any _ c F _ (H.out _)).mono ?_
  rintro e w1 ⟨q, F', rfl, hE, hat, hfr⟩
  obtain ⟨r1, r2, r3, r5, r4⟩ := hE.rules
  obtain ⟨B', S', vs', os', rfl, hb', hF'⟩ := hat
  have HB := Lib.hid hb'
  have HF := Lib.hid hF'
  clear hb' hF'
  go_wp2_with fail
  go_ret
  have hlt : w.heap.size < w1.heap.size := by have := hE.size; rw [World.size_alloc] at this; omega
  have hsz : (w1.setCell ⟨w.heap.size, 0, none⟩ (.pointer (some ⟨B', 0, none⟩))).heap.size = w1.heap.size := by simp [World.setCell]
  have hE' : Ext w (w1.setCell ⟨w.heap.size, 0, none⟩ (.pointer (some ⟨B', 0, none⟩))) := (((Ext.refl w).alloc _).trans hE).setCell _ _ (Nat.le_refl _)
  have hat : LinesAt (w1.setCell ⟨w.heap.size, 0, none⟩ (.pointer (some ⟨B', 0, none⟩))) (.pointer (some ⟨B', 0, none⟩)) c F' := by
    refine LinesAt.keep ⟨B', S', vs', os', rfl, HB.out, HF.out⟩ fun b hb => heap_setCell_other _ _ _ _ ?_
    have := hfr b hb
    rw [World.size_alloc] at this
    simp only; omega
  refine ⟨w.heap.size, _, F', rfl, hE', Nat.le_refl _, by rw [hsz]; exact hlt, ?_, fun b hb => ⟨?_, hat.lt hb⟩, hat⟩
  · exact World.cell?_setCell_same' _ _ _ (by rw [r1 _ _ (by simp)]; simp [go_sem])
  · have := hfr b hb
    rw [World.size_alloc] at this
    omega
set_option maxRecDepth 100000 in
set_option maxHeartbeats 400000 in
theorem all_nil (w : World) : Calls Try.prog 42 #[.pointer none] w (AllPost w none) := by
  go_enter Try.func42, Try.ntmps42
  go_wp2_with fail
  refine (copy_nil _).mono ?_
  rintro e w1 ⟨rfl, hE⟩
  obtain ⟨r1, r2, r3, r5, r4⟩ := hE.rules
  go_wp2_with fail
  go_ret
  have hlt : w.heap.size < w1.heap.size := by have := hE.size; rw [World.size_alloc] at this; omega
  have hsz : (w1.setCell ⟨w.heap.size, 0, none⟩ (.pointer none)).heap.size = w1.heap.size := by simp [World.setCell]
  refine ⟨w.heap.size, _, fun _ => False, rfl, (((Ext.refl w).alloc _).trans hE).setCell _ _ (Nat.le_refl _), Nat.le_refl _, by rw [hsz]; exact hlt, ?_, fun b hb => hb.elim, rfl⟩
  exact World.cell?_setCell_same' _ _ _ (by rw [r1 _ _ (by simp)]; simp [go_sem])
theorem all_opt (p : Value) (c : Option Lns) (F : Nat → Prop) (w : World) (h : LAt w p c F) : Calls Try.prog 42 #[p] w (AllPost w c) := by
  cases c with
  | some c => exact all_any p c F w h
  | none =>
    have hp : p = .pointer none := h
    subst hp
    exact all_nil w
end Go.Proofs
