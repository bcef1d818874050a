/- The law's is: a cache has just the document's lines. -/
import Derived.Test.YtgggokajapoopaaRel
namespace Go
theorem lookup_at {L : List Ln} (h : (nums L).Nodup) {i : Nat} {x : Ln} (hx : L[i]? = some x) : lookup x.num L = some x := by
  obtain ⟨hi, rfl⟩ := List.getElem?_eq_some_iff.1 hx
  unfold lookup
  rw [List.find?_eq_some_iff_getElem]
  refine ⟨by simp, i, hi, rfl, fun j hj => ?_⟩
  simp only [Bool.not_eq_eq_eq_not, Bool.not_true, beq_eq_false_iff_ne]
  intro e
  have := List.pairwise_iff_getElem.1 h j i (by simp [nums]; omega) (by simpa [nums] using hi) hj
  apply this
  simpa [nums] using e
end Go
namespace Go.Proofs
open Go.RowKit
theorem rsame_true (L M : List Ln) (a b : Option Addr) (ca cb : Nat) (w : World) (hL : Row 18 Ln.cells w a L) (hM : Row 18 Ln.cells w b M) (hl : L.length ≤ 1000) (h : L = M) :
    Calls Try.prog 43 #[.slice a L.length ca, .slice b M.length cb] w fun e w' => e = .returned (.bool true) ∧ Ext w w' := by
  subst h
  have := rsame_any L L a b ca cb w hL hM hl
  simpa using this
theorem keepW {w1 W W' : World} {n : Nat} {s ways : Int} {vs : Value} (hlt : n < w1.heap.size)
    (h : Ext w1 W ∧ W.cell? ⟨n, 0, none⟩ = some (.int .i64 s) ∧ W.cell? ⟨n, 1, none⟩ = some (.int .i64 ways) ∧ W.cell? ⟨n, 2, none⟩ = some vs) (hE : Ext W W') :
    Ext w1 W' ∧ W'.cell? ⟨n, 0, none⟩ = some (.int .i64 s) ∧ W'.cell? ⟨n, 1, none⟩ = some (.int .i64 ways) ∧ W'.cell? ⟨n, 2, none⟩ = some vs := by
  obtain ⟨h1, h2, h3, h4⟩ := h
  have hs := h1.size
  exact ⟨h1.trans hE, (hE.cell (by omega)).trans h2, (hE.cell (by omega)).trans h3, (hE.cell (by omega)).trans h4⟩
set_option maxRecDepth 100000 in
set_option maxHeartbeats 400000 in
theorem is_arg (p : Value) (c : Lns) (F : Nat → Prop) (s ways : Int) (L : List Ln) (a : Option Addr) (cap : Nat) (o : Option Nat) (w : World) (h : LinesAt w p c F) (hs : SetAt w (.slice a L.length cap) L o) (hr : Rel c ⟨s, ways, L⟩) :
    Calls Try.prog 27 #[p, .agg #[.int .i64 s, .int .i64 ways, .slice a L.length cap]] w fun e w' => e = .returned (.bool true) ∧ Ext w w' := by
  have HL : Hid (∀ W, Ext w W → LinesAt W p c F) := fun W hE => h.ext hE
  obtain ⟨pa, rfl⟩ : ∃ pa, p = .pointer pa := by obtain ⟨B, _, _, _, rfl, _⟩ := h; exact ⟨_, rfl⟩
  obtain ⟨a', cap', e, hL⟩ := hs.row Ln.okCells
  cases e
  have HR : Hid (∀ W, Ext w W → Row 18 Ln.cells W a L) := fun W hE => hL.ext hE
  have HS : Hid (∀ W, Ext w W → SetAt W (.slice a L.length cap) L o) := fun W hE => hs.ext hE
  have hlen : L.length ≤ 512 := hr.short
  have HQ := Lib.hid hr
  clear h hs hL hr
  go_enter Try.func27, Try.ntmps27
  go_wp2_with fail
  go_loopw [5] (fun i wr => ∃ k : Nat, k ≤ L.length ∧ i = .int .i64 k ∧ Ext (w.alloc (.cells #[.int .i64 s, .int .i64 ways, .slice a L.length cap] 28)) wr) (fun i _ => L.length - (intOf i).toNat)
  case atStart => exact ⟨0, Nat.zero_le _, rfl, Below.refl _ _⟩
  case round =>
    obtain ⟨k, hk, rfl, hE0⟩ := hrel
    have hE := ((Ext.refl w).alloc (.cells #[.int .i64 s, .int .i64 ways, .slice a L.length cap] 28)).trans hE0
    obtain ⟨r1, r2, r3, r5, r4⟩ := hE0.rules
    have hB0 : wr.cell? ⟨w.heap.size, 0, none⟩ = some (.int .i64 s) := by rw [r1 _ _ (by simp)]; simp [go_sem]
    have hB1 : wr.cell? ⟨w.heap.size, 1, none⟩ = some (.int .i64 ways) := by rw [r1 _ _ (by simp)]; simp [go_sem]
    have hB : wr.cell? ⟨w.heap.size, 2, none⟩ = some (.slice a L.length cap) := by rw [r1 _ _ (by simp)]; simp [go_sem]
    have hBl : w.heap.size < wr.heap.size := by simp at r4; omega
    clear r1 r2 r3 r5 r4
    by_cases hlt : k < L.length
    · obtain ⟨x, hx⟩ : ∃ x, L[k]? = some x := ⟨L[k], by simp [hlt]⟩
      obtain ⟨b, off, rfl, hg⟩ := (HR.out _ hE) k x hx
      have hbl : b < wr.heap.size := World.agg?_lt hg
      have hc0 : wr.cell? ⟨b, off + k * 18, none⟩ = some (.int .u32 x.num) := by obtain ⟨_, _, e, h⟩ := (HR.out _ hE).cell hx (j := 0) (by omega); cases e; rw [Nat.add_zero] at h; rw [h]; simp [go_sem]
      have hki : (k : Int) < (L.length : Int) := by omega
      obtain ⟨⟨hn0, hn1'⟩, -⟩ := x.ok
      have hlk : lookup x.num (c.of x.num) = some x := by rw [HQ.out.lookup]; exact lookup_at HQ.out.nodup hx
      have HK := Lib.hid hlk
      clear hx hlk
      go_wp2_with fail
      refine (find_any _ c F x.num _ (HL.out _ hE) hn0 hn1').mono ?_
      rintro e w1 ⟨rfl, hE1⟩
      rw [HK.out]
      simp only [lnOr, Option.getD_some, Option.isSome_some]
      obtain ⟨q1, q2, q3, q5, q4⟩ := hE1.rules
      go_wp2_with fail
      have hbl1 : b < w1.heap.size := by omega
      have hBl1 : w.heap.size < w1.heap.size := by omega
      go_quiet (fail)
      go_wp2_with fail
      go_roundw
      case rel => exact ⟨k + 1, by omega, by go_num, ((hE0.trans hE1).alloc _).drewN _⟩
      case measure => simp [intOf]; omega
    · have hkk : k = L.length := by omega
      subst hkk
      go_wp2_with fail
      have HQ2 : Hid (c.flat = (⟨s, ways, L⟩ : Rf).all) := HQ.out.flat
      have HQ3 : Hid (c.flat.length ≤ 512) := HQ.out.ok.flat_le
      have HQ4 : Hid (c.flat.length = L.length) := HQ.out.len
      have hss : 1 ≤ s ∧ s ≤ 64 := by have := HQ.out.ok.s1; have := HQ.out.ok.s64; have := HQ.out.sets; simp only at this; omega
      have HE0 := Lib.hid hE
      go_region_held3 (fun W => Ext wr W ∧ W.cell? ⟨w.heap.size, 0, none⟩ = some (.int .i64 s) ∧ W.cell? ⟨w.heap.size, 1, none⟩ = some (.int .i64 ways) ∧ W.cell? ⟨w.heap.size, 2, none⟩ = some (.slice a L.length cap))
        ((first | exact keepW hBl (by assumption) (by assumption) | exact ⟨(Ext.refl wr).drew, hB0, hB1, hB⟩))
        (first | (go_at_call 38; refine (all_list _ (some c) F _ (HL.out _ (HE0.out.trans (heldV (n := w.heap.size) (s := s) (ways := ways) (vs := .slice a L.length cap) (by assumption)))) (Nat.le_trans HQ3.out (by decide))).mono ?_; rintro e w38 ⟨v38, o38, rfl, hE38, hs38, -⟩; obtain ⟨a38, c38, rfl, hrow38⟩ := hs38.row Ln.okCells; have HR38 := Lib.hid hrow38; clear hs38 hrow38)
               | (go_at_call 44; refine (rall_any _ ⟨s, ways, L⟩ o _ ⟨_, rfl, HS.out _ (HE0.out.trans (heldV (n := w.heap.size) (s := s) (ways := ways) (vs := .slice a L.length cap) (by assumption)))⟩ hss (Nat.le_trans hlen (by decide))).mono ?_; rintro e w44 ⟨v44, o44, rfl, hE44, hs44, -⟩; obtain ⟨a44, c44, rfl, hrow44⟩ := hs44.row Ln.okCells; have HR44 := Lib.hid hrow44; clear hs44 hrow44)
               | (go_at_call 43; refine (rsame_true _ _ _ _ _ _ _ (HR38.out.ext hE44) HR44.out (Nat.le_trans HQ3.out (by decide)) HQ2.out).mono ?_; rintro e w43 ⟨rfl, hE43⟩)
               | (go_at_call 39; refine (len_any _ (some c) F _ (HL.out _ (HE0.out.trans (heldV (n := w.heap.size) (s := s) (ways := ways) (vs := .slice a L.length cap) (by assumption)))) (Nat.le_trans HQ3.out (by decide))).mono ?_; rintro e w39 ⟨rfl, hE39⟩; simp only [flatO, HQ4.out]))
      rename_i hH
      have hE9 := HE0.out.trans hH.1
      clear hH
      go_wp2_with fail
      go_ret
      exact ⟨rfl, hE9⟩
theorem is_any (p : Value) (c : Lns) (F : Nat → Prop) (v : Value) (r : Rf) (o : Option Nat) (w : World) (h : LinesAt w p c F) (hs : RfAt w v r o) (hr : Rel c r) :
    Calls Try.prog 27 #[p, v] w fun e w' => e = .returned (.bool true) ∧ Ext w w' := by
  obtain ⟨vs, rfl, hs⟩ := hs
  obtain ⟨s, ways, L⟩ := r
  have hs' := hs
  obtain ⟨a, cap, rfl, -⟩ := hs.row Ln.okCells
  exact is_arg p c F s ways L a cap o w h hs' hr
end Go.Proofs
