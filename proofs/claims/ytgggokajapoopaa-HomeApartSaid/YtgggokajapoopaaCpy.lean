/- Clone, Copy, Same. -/
import Derived.Test.YtgggokajapoopaaPd
import Derived.Deep.RegionWith
namespace Go.Proofs
open Go.RowKit
@[go_sem] theorem Try.eql_nil26 (w : World) (a : Option Addr) (n c : Nat) : (binOp .eql 26 (.slice a n c) (.slice none 0 0)).run Try.prog w = .ok (.bool a.isNone) w := by
  exact Lib.run_eql_slice_nil w 26 39 a n c 0 0 Try.underlying26
/-- A new slice with the same. -/
def ClonePost (w : World) (L : List Ln) (e : Ending) (w' : World) : Prop :=
  ∃ v o, e = .returned v ∧ Ext w w' ∧ SetAt w' v L o ∧ ∀ g, o = some g → w.heap.size ≤ g
set_option maxRecDepth 100000 in
set_option maxHeartbeats 400000 in
theorem clone_nil (w : World) (cap : Nat) : Calls Try.prog 93 #[.slice none 0 cap] w (ClonePost w []) := by
  go_enter Try.func93, Try.ntmps93
  go_wp2_with fail
  go_ret
  exact ⟨_, none, rfl, Ext.refl w, SlAt.nil _ _, by simp⟩
set_option maxRecDepth 100000 in
set_option maxHeartbeats 400000 in
theorem clone_some (w : World) (a : Addr) (cap : Nat) (L : List Ln) (hr : Row 18 Ln.cells w (some a) L) (hl : L.length ≤ 1000) : Calls Try.prog 93 #[.slice (some a) L.length cap] w (ClonePost w L) := by
  obtain ⟨i0, hi, hz0, hz1, hz2⟩ := info_parts Try.info39
  have hr' : ∀ o, Row 18 Ln.cells (w.alloc o) (some a) L := fun o => hr.ext ((Ext.refl w).alloc o)
  have HR := Lib.hid hr'
  clear hr hr'
  go_enter Try.func93, Try.ntmps93
  go_wp2_with (at_builtin; refine wpList_append_sl rfl (.tmp 5) (.tmp 6) 26 rfl i0 _ Try.underlying26 hi hz0 hz1 (by rfl) (by decide) (by rw [hz2]; decide) Ln.okCells _ [] none (SlAt.nil _ _) _ _ L (HR.out _) rfl rfl (by simp; omega) ?_; intro v' o' w' k1 k2 k3)
  all_goals
    go_ret
    exact ⟨_, o', rfl, (((Ext.refl w).alloc _).trans ⟨k2.os, k2.tape, k2.output, k2.size, fun k hk => k2.block k hk (by simp)⟩), k1, fun g hg => by rcases k3 with h | ⟨g', h, h'⟩ <;> rw [hg] at h <;> cases h; exact Nat.le_trans (by simp) h'⟩
theorem clone_any (w : World) (a : Option Addr) (cap : Nat) (L : List Ln) (hr : Row 18 Ln.cells w a L) (hl : L.length ≤ 1000) : Calls Try.prog 93 #[.slice a L.length cap] w (ClonePost w L) := by
  cases a with
  | some a => exact clone_some w a cap L hr hl
  | none =>
    have : L = [] := by
      cases L with
      | nil => rfl
      | cons x L => obtain ⟨b, off, h, _⟩ := hr 0 x rfl; cases h
    subst this
    exact clone_nil w cap
/-- The first k sets of a cache, the others without lines. -/
def Lns.upto (c : Lns) (k : Nat) : Lns := ⟨c.ways, c.sets.take k ++ List.replicate (c.sets.length - k) []⟩
theorem Lns.upto_zero (c : Lns) : Lns.upto c 0 = ⟨c.ways, List.replicate c.sets.length []⟩ := by simp [Lns.upto]
theorem Lns.upto_all (c : Lns) : Lns.upto c c.sets.length = c := by cases c; simp [Lns.upto]
theorem Lns.upto_len (c : Lns) (k : Nat) (hk : k ≤ c.sets.length) : (Lns.upto c k).sets.length = c.sets.length := by simp [Lns.upto]; omega
theorem Lns.upto_succ (c : Lns) (k : Nat) (L : List Ln) (h : c.sets[k]? = some L) : (Lns.upto c k).setSet k L = Lns.upto c (k + 1) := by
  obtain ⟨hk, rfl⟩ := List.getElem?_eq_some_iff.1 h
  unfold Lns.upto Lns.setSet
  congr 1
  have h1 : (c.sets.take k).length = k := by simp; omega
  rw [List.set_append_right _ _ (by omega), h1, Nat.sub_self]
  obtain ⟨m, hm⟩ : ∃ m, c.sets.length - k = m + 1 := ⟨c.sets.length - k - 1, by omega⟩
  rw [hm, show c.sets.length - (k + 1) = m by omega, List.replicate_succ, List.set_cons_zero, List.take_succ_eq_append_getElem hk, List.append_assoc, List.singleton_append]
/-- A new cache with the same. -/
def CopyPost (w : World) (c : Lns) (e : Ending) (w' : World) : Prop :=
  ∃ p F, e = .returned p ∧ Ext w w' ∧ LinesAt w' p c F ∧ ∀ b, F b → w.heap.size ≤ b
/-- Between two rounds of Copy. -/
def CopyInv (w : World) (B' : Nat) (c : Lns) (k : Nat) (wr : World) : Prop :=
  ∃ F, LinesAt wr (.pointer (some ⟨B', 0, none⟩)) (Lns.upto c k) F ∧ (∀ b, F b → w.heap.size ≤ b) ∧ Ext w wr
theorem copy_nil (w : World) : Calls Try.prog 40 #[.pointer none] w fun e w' => e = .returned (.pointer none) ∧ Ext w w' := by
  go_enter Try.func40, Try.ntmps40
  go_wp2_with fail
  refine (none_nil _).mono ?_
  rintro e w1 ⟨rfl, rfl⟩
  go_wp2_with fail
  go_ret
  exact ⟨rfl, Ext.refl w⟩
theorem fresh_lines (w : World) (n ways : Nat) (hok : (⟨ways, List.replicate n []⟩ : Lns).Ok) :
    LinesBody ((w.alloc (.cells (nils n) 26)).alloc (.cells #[.slice (some ⟨w.heap.size, 0, none⟩) n n, .int .i64 ways] 172)) (w.heap.size + 1) w.heap.size (nils n) (fun _ => none) ⟨ways, List.replicate n []⟩ := by
  refine ⟨hok, ?_, ?_, by simp [nils], ?_, by omega, by simp, by simp⟩
  · rw [heap_alloc2_new]
    simp
  · rw [heap_alloc2_old]
  · intro i L hi
    rw [List.getElem?_replicate] at hi
    split at hi
    · rename_i hin
      cases hi
      exact ⟨.slice none 0 0, by simp [nils, hin], SlAt.nil _ _⟩
    · cases hi
theorem copy_start (w : World) (c : Lns) (hok : c.Ok) : CopyInv w (w.heap.size + 1) c 0 ((w.alloc (.cells (nils c.sets.length) 26)).alloc (.cells #[.slice (some ⟨w.heap.size, 0, none⟩) c.sets.length c.sets.length, .int .i64 c.ways] 172)).drew := by
  have hok' : (⟨c.ways, List.replicate c.sets.length []⟩ : Lns).Ok := ⟨by simpa using hok.s1, by simpa using hok.s64, hok.w1, hok.w8, fun L hL => by obtain ⟨_, rfl⟩ := List.mem_replicate.1 hL; simp⟩
  have h := fresh_lines w c.sets.length c.ways hok'
  refine ⟨_, ⟨_, _, _, _, rfl, by rw [Lns.upto_zero]; exact h.keep (fun b _ => rfl), fun b => Iff.rfl⟩, ?_, (((Ext.refl w).alloc _).alloc _).drew⟩
  rintro b (rfl | rfl | ⟨i, hi⟩)
  · omega
  · omega
  · cases hi
theorem copy_step {w wr w' : World} {B' S' : Nat} {vs' : Array Value} {os' : Nat → Option Nat} {F : Nat → Prop} {c : Lns} {k : Nat} {L : List Ln} {v' : Value} {o' : Option Nat}
    (hb' : LinesBody wr B' S' vs' os' (Lns.upto c k)) (hF : ∀ b, F b ↔ (b = B' ∨ b = S' ∨ ∃ i, os' i = some b)) (hfr : ∀ b, F b → w.heap.size ≤ b) (hE : Ext w wr) (hL : c.sets[k]? = some L) (hw : L.length ≤ c.ways)
    (hE2 : Ext wr w') (hs' : SetAt w' v' L o') (hf' : ∀ g, o' = some g → wr.heap.size ≤ g) (hk : k ≤ c.sets.length) : CopyInv w B' c (k + 1) (w'.setCell ⟨S', k, none⟩ v') := by
  have hkl : k < c.sets.length := (List.getElem?_eq_some_iff.1 hL).1
  have hlen := Lns.upto_len c k hk
  have hS'l : S' < wr.heap.size := hb'.lt (.inr (.inl rfl))
  have hoth : ∀ j, j < wr.heap.size → j ≠ S' → (w'.setCell ⟨S', k, none⟩ v').heap[j]? = wr.heap[j]? := fun j hj hne => by
    rw [heap_setCell_other _ _ _ _ (by simpa using hne)]; exact hE2.block j hj
  have hS1 : w'.heap[S']? = some (.cells vs' 26 (0, 0)) := (hE2.block S' hS'l).trans hb'.hS
  obtain ⟨F', hF', hsub⟩ := hb'.updAt hF (i := k) (by omega) (v' := v') (L' := L) (o' := o') (w' := w'.setCell ⟨S', k, none⟩ v') hw (heap_setCell_same w' S' _ vs' 26 v' hS1)
    (hoth B' (hb'.lt (.inl rfl)) hb'.bs) (fun j g' _ hg' => hoth g' (hb'.lt (.inr (.inr ⟨j, hg'⟩))) (hb'.apart j g' hg').2.1)
    (hs'.keep fun b hb => heap_setCell_other _ _ _ _ (by have := hf' b hb; simp only; omega)) (fun g hg => .inr (hf' g hg))
  rw [Lns.upto_succ c k L hL] at hF'
  refine ⟨F', hF', fun b hb => ?_, ?_⟩
  · rcases hsub b hb with h | h
    · exact hfr b h
    · exact Nat.le_trans hE.size h
  · refine (hE.trans hE2).setCell _ _ ?_
    exact hfr S' ((hF S').2 (.inr (.inl rfl)))
set_option maxRecDepth 100000 in
set_option maxHeartbeats 400000 in
theorem copy_some (B S : Nat) (vs : Array Value) (os : Nat → Option Nat) (c : Lns) (w : World) (hb : LinesBody w B S vs os c)
    (hc0 : w.cell? ⟨B, 0, none⟩ = some (.slice (some ⟨S, 0, none⟩) c.sets.length c.sets.length)) (hc1 : w.cell? ⟨B, 1, none⟩ = some (.int .i64 c.ways)) (hB : B < w.heap.size) (hS : S < w.heap.size) (h64 : c.sets.length ≤ 64) :
    Calls Try.prog 40 #[.pointer (some ⟨B, 0, none⟩)] w (CopyPost w c) := by
  have hmk := fun w => run_make170 w c.sets.length h64
  go_enter Try.func40, Try.ntmps40
  go_wp2_with fail
  refine (none_body hb).mono ?_
  rintro e w1 ⟨rfl, rfl⟩
  go_wp2_with fail
  go_region
  go_wp2_with fail
  go_loopw [4, 5, 25] (fun _ _ i wr => ∃ k : Nat, k ≤ c.sets.length ∧ i = .int .i64 k ∧ CopyInv w (w.heap.size + 1) c k wr) (fun _ _ i _ => c.sets.length - (intOf i).toNat)
  case atStart => exact ⟨0, Nat.zero_le _, rfl, copy_start w c hb.ok⟩
  case round =>
    obtain ⟨k, hk, rfl, hinv⟩ := hrel
    by_cases hlt : k < c.sets.length
    · obtain ⟨F, ⟨B', S', vs', os', hp, hb', hF⟩, hfr, hE⟩ := hinv
      cases hp
      obtain ⟨L, hL⟩ : ∃ L, c.sets[k]? = some L := ⟨_, List.getElem?_eq_getElem hlt⟩
      obtain ⟨v, hv, hsv⟩ := hb.sets k L hL
      obtain ⟨a, cap, rfl, hr⟩ := hsv.row Ln.okCells
      have hl8 : L.length ≤ 1000 := by have := hb.ok.full L (List.mem_of_getElem? hL); have := hb.ok.w8; omega
      have hSk : wr.cell? ⟨S, k, none⟩ = some (.slice a L.length cap) := by rw [hE.cell hS, cell_of_row w S _ vs 26 (0, 0) hb.hS]; exact hv
      have hS1 : S < wr.heap.size := hE.lt hS
      have hlen := Lns.upto_len c k hk
      have hB0 : wr.cell? ⟨w.heap.size + 1, 0, none⟩ = some (.slice (some ⟨S', 0, none⟩) c.sets.length c.sets.length) := by rw [cell_of_row wr _ 0 _ 172 (0, 0) hb'.hB, hlen]; rfl
      have hS'k : ∃ v, wr.cell? ⟨S', k, none⟩ = some v := by rw [cell_of_row wr S' _ vs' 26 (0, 0) hb'.hS]; exact ⟨vs'[k]'(by rw [hb'.size, hlen]; exact hlt), by simp⟩
      obtain ⟨vk, hS'k⟩ := hS'k
      have hS'f : wr.frozen? ⟨S', k, none⟩ = false := frozen_of_row wr S' _ vs' 26 hb'.hS
      have hS'l : S' < wr.heap.size := hb'.lt (.inr (.inl rfl))
      have hB'l : w.heap.size + 1 < wr.heap.size := hb'.lt (.inl rfl)
      have hrr := hr.ext hE
      have H1 := Lib.hid hb'
      have H2 := Lib.hid hF
      have H3 := Lib.hid hfr
      have H4 := Lib.hid hL
      have H5 := Lib.hid hlen
      have hki : (k : Int) < (c.sets.length : Int) := by omega
      clear hb' hF hfr hL hlen hv hsv hr
      go_wp2_with fail
      go_region_with (go_at_call 93; refine (clone_any _ _ _ _ (by first | exact hrr | exact hrr.ext (Ext.refl _).drew) hl8).mono ?_; rintro e w' ⟨v', o', rfl, hE', hs', hf'⟩; obtain ⟨a', cap', rfl, -⟩ := hs'.row Ln.okCells; have hE2 := ((Ext.refl wr).drew).trans hE'; clear hE'; obtain ⟨q1, q2, q3, q5, q4⟩ := hE2.rules)
      all_goals
        go_wp2_with fail
        go_roundw
        case rel => exact ⟨k + 1, by omega, by go_num, copy_step H1.out H2.out H3.out hE H4.out (by have := hb.ok.full L (List.mem_of_getElem? H4.out); exact this) hE2 hs' hf' hk⟩
        case measure => simp [intOf]; omega
    · have hkk : k = c.sets.length := by omega
      subst hkk
      go_wp2_with fail
      go_ret
      obtain ⟨F, h1, h2, h3⟩ := hinv
      rw [Lns.upto_all] at h1
      exact ⟨_, F, rfl, h3, h1, h2⟩
theorem copy_any (p : Value) (c : Lns) (F : Nat → Prop) (w : World) (h : LinesAt w p c F) : Calls Try.prog 40 #[p] w (CopyPost w c) := by
  obtain ⟨B, S, vs, os, rfl, hb, hF⟩ := h
  exact copy_some B S vs os c w hb (by rw [cell_of_row w B 0 _ 172 (0, 0) hb.hB]; rfl) (LinesBody.cell1 hb) (hb.lt (.inl rfl)) (hb.lt (.inr (.inl rfl))) hb.ok.s64
end Go.Proofs
