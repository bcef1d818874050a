import Derived.Test.YtgggokajapoopaaRel
/- The law's is: a cache has just the document's lines. -/
namespace Go
theorem lookup_at {L : List Ln} (h : (nums L).Nodup) {i : Nat} {x : Ln} (hx : L[i]? = some x) : lookup x.num L = some x := by
  obtain ⟨hi, rfl⟩ := List.getElem?_eq_some_iff.1 hx
  unfold lookup
  rw [List.find?_eq_some_iff_getElem]
  refine ⟨by simp, i, hi, rfl, fun j hj => ?_⟩
  simp only [Bool.not_eq_eq_eq_not, Bool.not_true, beq_eq_false_iff_ne]
  intro e
  have := List.pairwise_iff_getElem.1 h j i (by simp [nums]; omega) (by simpa [nums] using hi) hj
  apply this
  simpa [nums] using e
end Go
namespace Go.Proofs
open Go.RowKit
theorem rsame_true (L M : List Ln) (a b : Option Addr) (ca cb : Nat) (w : World) (hL : Row 18 Ln.cells w a L) (hM : Row 18 Ln.cells w b M) (hl : L.length ≤ 1000) (h : L = M) :
    Calls Try.prog 43 #[.slice a L.length ca, .slice b M.length cb] w fun e w' => e = .returned (.bool true) ∧ Ext w w' := by
  subst h
  have := rsame_any L L a b ca cb w hL hM hl
  simpa using this
theorem keepW {w1 W W' : World} {n : Nat} {s ways : Int} {vs : Value} (hlt : n < w1.heap.size)
    (h : Ext w1 W ∧ W.cell? ⟨n, 0, none⟩ = some (.int .i64 s) ∧ W.cell? ⟨n, 1, none⟩ = some (.int .i64 ways) ∧ W.cell? ⟨n, 2, none⟩ = some vs) (hE : Ext W W') :
    Ext w1 W' ∧ W'.cell? ⟨n, 0, none⟩ = some (.int .i64 s) ∧ W'.cell? ⟨n, 1, none⟩ = some (.int .i64 ways) ∧ W'.cell? ⟨n, 2, none⟩ = some vs := by
  obtain ⟨h1, h2, h3, h4⟩ := h
  have hs := h1.size
  exact ⟨h1.trans hE, (hE.cell (by omega)).trans h2, (hE.cell (by omega)).trans h3, (hE.cell (by omega)).trans h4⟩
set_option maxRecDepth 100000 in
set_option maxHeartbeats 400000 in
theorem is_arg (p : Value) (c : Lns) (F : Nat → Prop) (s ways : Int) (L : List Ln) (a : Option Addr) (cap : Nat) (o : Option Nat) (w : World) (h : LinesAt w p c F) (hs : SetAt w (.slice a L.length cap) L o) (hr : Rel c ⟨s, ways, L⟩) :
    Calls Try.prog 27 #[p, .agg #[.int .i64 s, .int .i64 ways, .slice a L.length cap]] w fun e w' => e = .returned (.bool true) ∧ Ext w w' := by
  have HL : Hid (∀ W, Ext w W → LinesAt W p c F) := fun W hE => h.ext hE
  obtain ⟨pa, rfl⟩ : ∃ pa, p = .pointer pa := by obtain ⟨B, _, _, _, rfl, _⟩ := h; exact ⟨_, rfl⟩
  obtain ⟨a', cap', e, hL⟩ := hs.row Ln.okCells
  cases e
  have HR : Hid (∀ W, Ext w W → Row 18 Ln.cells W a L) := fun W hE => hL.ext hE
  have HS : Hid (∀ W, Ext w W → SetAt W (.slice a L.length cap) L o) := fun W hE => hs.ext hE
  have hlen : L.length ≤ 512 := hr.short
  have HQ := Lib.hid hr
  clear h hs hL hr
  go_enter Try.func27, Try.ntmps27
  go_wp2_with fail
  go_loopw [5] (fun i wr => ∃ k : Nat, k ≤ L.length ∧ i = .int .i64 k ∧ Ext (w.alloc (.cells #[.int .i64 s, .int .i64 ways, .slice a L.length cap] 28)) wr) (fun i _ => L.length - (intOf i).toNat)
  case atStart => exact ⟨0, Nat.zero_le _, rfl, Below.refl _ _⟩
  case round =>
    obtain ⟨k, hk, rfl, hE0⟩ := hrel
    have hE := ((Ext.refl w).alloc (.cells #[.int .i64 s, .int .i64 ways, .slice a L.length cap] 28)).trans hE0
    obtain ⟨r1, r2, r3, r5, r4⟩ := hE0.rules
    have hB0 : wr.cell? ⟨w.heap.size, 0, none⟩ = some (.int .i64 s) := by rw [r1 _ _ (by simp)]; simp [go_sem]
    have hB1 : wr.cell? ⟨w.heap.size, 1, none⟩ = some (.int .i64 ways) := by rw [r1 _ _ (by simp)]; simp [go_sem]
    have hB : wr.cell? ⟨w.heap.size, 2, none⟩ = some (.slice a L.length cap) := by rw [r1 _ _ (by simp)]; simp [go_sem]
    have hBl : w.heap.size < wr.heap.size := by simp at r4; omega
    clear r1 r2 r3 r5 r4
    by_cases hlt : k < L.length
    · obtain ⟨x, hx⟩ : ∃ x, L[k]? = some x := ⟨L[k], by simp [hlt]⟩
      obtain ⟨b, off, rfl, hg⟩ := (HR.out _ hE) k x hx
      have hbl : b < wr.heap.size := World.agg?_lt hg
      have hc0 : wr.cell? ⟨b, off + k * 18, none⟩ = some (.int .u32 x.num) := by obtain ⟨_, _, e, h⟩ := (HR.out _ hE).cell hx (j := 0) (by omega); cases e; rw [Nat.add_zero] at h; rw [h]; simp [go_sem]
      have hki : (k : Int) < (L.length : Int) := by omega
      obtain ⟨⟨hn0, hn1'⟩, -⟩ := x.ok
      have hlk : lookup x.num (c.of x.num) = some x := by rw [HQ.out.lookup]; exact lookup_at HQ.out.nodup hx
      have HK := Lib.hid hlk
      clear hx hlk
      go_wp2_with fail
      refine (find_any _ c F x.num _ (HL.out _ hE) hn0 hn1').mono ?_
      rintro e w1 ⟨rfl, hE1⟩
      rw [HK.out]
      simp only [lnOr, Option.getD_some, Option.isSome_some]
      obtain ⟨q1, q2, q3, q5, q4⟩ := hE1.rules
      go_wp2_with fail
      have hbl1 : b < w1.heap.size := by omega
      have hBl1 : w.heap.size < w1.heap.size := by omega
      go_quiet (fail)
      go_wp2_with fail
      go_roundw
      case rel => exact ⟨k + 1, by omega, by go_num, ((hE0.trans hE1).alloc _).drewN _⟩
      case measure => simp [intOf]; omega
    · have hkk : k = L.length := by omega
      subst hkk
      go_wp2_with fail
      have HQ2 : Hid (c.flat = (⟨s, ways, L⟩ : Rf).all) := HQ.out.flat
      have HQ3 : Hid (c.flat.length ≤ 512) := HQ.out.ok.flat_le
      have HQ4 : Hid (c.flat.length = L.length) := HQ.out.len
      have hss : 1 ≤ s ∧ s ≤ 64 := by have := HQ.out.ok.s1; have := HQ.out.ok.s64; have := HQ.out.sets; simp only at this; omega
      have HE0 := Lib.hid hE
      go_region_held3 (fun W => Ext wr W ∧ W.cell? ⟨w.heap.size, 0, none⟩ = some (.int .i64 s) ∧ W.cell? ⟨w.heap.size, 1, none⟩ = some (.int .i64 ways) ∧ W.cell? ⟨w.heap.size, 2, none⟩ = some (.slice a L.length cap))
        ((first | exact keepW hBl (by assumption) (by assumption) | exact ⟨(Ext.refl wr).drew, hB0, hB1, hB⟩))
        (first | (go_at_call 38; refine (all_list _ (some c) F _ (HL.out _ (HE0.out.trans (heldV (n := w.heap.size) (s := s) (ways := ways) (vs := .slice a L.length cap) (by assumption)))) (Nat.le_trans HQ3.out (by decide))).mono ?_; rintro e w38 ⟨v38, o38, rfl, hE38, hs38, -⟩; obtain ⟨a38, c38, rfl, hrow38⟩ := hs38.row Ln.okCells; have HR38 := Lib.hid hrow38; clear hs38 hrow38)
               | (go_at_call 44; refine (rall_any _ ⟨s, ways, L⟩ o _ ⟨_, rfl, HS.out _ (HE0.out.trans (heldV (n := w.heap.size) (s := s) (ways := ways) (vs := .slice a L.length cap) (by assumption)))⟩ hss (Nat.le_trans hlen (by decide))).mono ?_; rintro e w44 ⟨v44, o44, rfl, hE44, hs44, -⟩; obtain ⟨a44, c44, rfl, hrow44⟩ := hs44.row Ln.okCells; have HR44 := Lib.hid hrow44; clear hs44 hrow44)
               | (go_at_call 43; refine (rsame_true _ _ _ _ _ _ _ (HR38.out.ext hE44) HR44.out (Nat.le_trans HQ3.out (by decide)) HQ2.out).mono ?_; rintro e w43 ⟨rfl, hE43⟩)
               | (go_at_call 39; refine (len_any _ (some c) F _ (HL.out _ (HE0.out.trans (heldV (n := w.heap.size) (s := s) (ways := ways) (vs := .slice a L.length cap) (by assumption)))) (Nat.le_trans HQ3.out (by decide))).mono ?_; rintro e w39 ⟨rfl, hE39⟩; simp only [flatO, HQ4.out]))
      rename_i hH
      have hE9 := HE0.out.trans hH.1
      clear hH
      go_wp2_with fail
      go_ret
      exact ⟨rfl, hE9⟩
theorem is_any (p : Value) (c : Lns) (F : Nat → Prop) (v : Value) (r : Rf) (o : Option Nat) (w : World) (h : LinesAt w p c F) (hs : RfAt w v r o) (hr : Rel c r) :
    Calls Try.prog 27 #[p, v] w fun e w' => e = .returned (.bool true) ∧ Ext w w' := by
  obtain ⟨vs, rfl, hs⟩ := hs
  obtain ⟨s, ways, L⟩ := r
  have hs' := hs
  obtain ⟨a, cap, rfl, -⟩ := hs.row Ln.okCells
  exact is_arg p c F s ways L a cap o w h hs' hr
end Go.Proofs
/- The law's works: a set that is full makes room. -/
namespace Go
def wl (n : Fin 16) (st : Int) : Ln := ⟨(n.val : Int), st, List.replicate 16 0, by omega, by simp, by simp⟩
@[go_sem] theorem wl4_cells : #[Value.int .u32 4, .int .i64 1, .int .u8 0, .int .u8 0, .int .u8 0, .int .u8 0, .int .u8 0, .int .u8 0, .int .u8 0, .int .u8 0, .int .u8 0, .int .u8 0, .int .u8 0, .int .u8 0, .int .u8 0, .int .u8 0, .int .u8 0, .int .u8 0] = (wl 4 1).cells := rfl
@[go_sem] theorem wl6_cells : #[Value.int .u32 6, .int .i64 3, .int .u8 0, .int .u8 0, .int .u8 0, .int .u8 0, .int .u8 0, .int .u8 0, .int .u8 0, .int .u8 0, .int .u8 0, .int .u8 0, .int .u8 0, .int .u8 0, .int .u8 0, .int .u8 0, .int .u8 0, .int .u8 0] = (wl 6 3).cells := rfl
@[go_sem] theorem wl8_cells : #[Value.int .u32 8, .int .i64 2, .int .u8 0, .int .u8 0, .int .u8 0, .int .u8 0, .int .u8 0, .int .u8 0, .int .u8 0, .int .u8 0, .int .u8 0, .int .u8 0, .int .u8 0, .int .u8 0, .int .u8 0, .int .u8 0, .int .u8 0, .int .u8 0] = (wl 8 2).cells := rfl
theorem Sub.above {w w1 : World} {F F' : Nat → Prop} (h : Sub w1 F F') (hF : ∀ b, F b → w.heap.size ≤ b) (hs : w.heap.size ≤ w1.heap.size) : ∀ b, F' b → w.heap.size ≤ b := fun b hb => (h b hb).elim (hF b) (Nat.le_trans hs)
theorem wk1 : (⟨2, List.replicate 2 []⟩ : Lns).put (wl 4 1) = (⟨2, [[wl 4 1], []]⟩, 0) := rfl
theorem wk2 : (⟨2, [[wl 4 1], []]⟩ : Lns).put (wl 6 3) = (⟨2, [[wl 4 1, wl 6 3], []]⟩, 0) := rfl
theorem wk3 : (⟨2, [[wl 4 1, wl 6 3], []]⟩ : Lns).put (wl 8 2) = (⟨2, [[wl 4 1, wl 6 3], []]⟩, 200) := rfl
theorem wk4 : (⟨2, [[wl 4 1, wl 6 3], []]⟩ : Lns).victim 8 (-1) = some (wl 6 3) := rfl
theorem wk5 : (⟨2, [[wl 4 1, wl 6 3], []]⟩ : Lns).drop 4 = (⟨2, [[wl 6 3], []]⟩, true) := rfl
theorem wk6 : (⟨2, [[wl 6 3], []]⟩ : Lns).drop 4 = (⟨2, [[wl 6 3], []]⟩, false) := rfl
theorem wk7 : (⟨2, [[wl 6 3], []]⟩ : Lns).put (wl 8 2) = (⟨2, [[wl 6 3, wl 8 2], []]⟩, 0) := rfl
theorem wk8 : (⟨2, [[wl 6 3, wl 8 2], []]⟩ : Lns).flat.length = 2 := rfl
end Go
namespace Go.Proofs
open Go.RowKit
set_option maxRecDepth 100000 in
set_option maxHeartbeats 400000 in
theorem works_any (w : World) : Calls Try.prog 25 #[] w fun e w' => e = .returned (.bool true) ∧ Ext w w' := by
  go_enter Try.func25, Try.ntmps25
  go_wp2_with fail
  refine (new_any 2 2 w rfl (by decide) (by decide)).mono ?_
  rintro e w1 ⟨p, rfl, hE1, F1, h1, hF1⟩
  obtain ⟨pa, rfl⟩ : ∃ pa, p = .pointer pa := by obtain ⟨B, _, _, _, rfl, _⟩ := h1; exact ⟨_, rfl⟩
  go_wp2_with fail
  refine (put_any _ _ F1 (wl 4 1) w1 h1).mono ?_
  rintro e w2 ⟨rfl, F2, h2, hC2, hS2⟩
  rw [wk1] at h2 ⊢
  have hE2 := hE1.of_chg hC2 hF1
  have hF2 := hS2.above hF1 hE1.size
  clear hC2 hS2 h1 hF1
  go_wp2_with fail
  refine (put_any _ _ F2 (wl 6 3) w2 h2).mono ?_
  rintro e w3 ⟨rfl, F3, h3, hC3, hS3⟩
  rw [wk2] at h3 ⊢
  have hE3 := hE2.of_chg hC3 hF2
  have hF3 := hS3.above hF2 hE2.size
  clear hC3 hS3 h2 hF2
  go_wp2_with fail
  refine (put_any _ _ F3 (wl 8 2) w3 h3).mono ?_
  rintro e w4 ⟨rfl, F4, h4, hC4, hS4⟩
  rw [wk3] at h4 ⊢
  have hE4 := hE3.of_chg hC4 hF3
  have hF4 := hS4.above hF3 hE3.size
  clear hC4 hS4 h3 hF3
  go_wp2_with fail
  refine (victim_any _ _ F4 8 (-1) w4 h4 (by decide) (by decide)).mono ?_
  rintro e w5 ⟨rfl, hE5⟩
  rw [wk4]
  simp only [lnOr, Option.getD_some, Option.isSome_some]
  have H5 := Lib.hid (h4.ext (hE5.alloc (.cells (wl 6 3).cells 39)))
  have hE := hE4.trans (hE5.alloc (.cells (wl 6 3).cells 39))
  have hF5 := hF4
  clear h4
  have hlt : w5.heap.size < (w5.alloc (.cells (wl 6 3).cells 39)).heap.size := by simp
  have hag : (w5.alloc (.cells (wl 6 3).cells 39)).cell? ⟨w5.heap.size, 0, none⟩ = some (.int .u32 6) := by simp [go_sem]; rfl
  go_wp2_with (go_at_call 34; refine (num_any _ _).mono ?_; rintro e w' ⟨rfl, rfl⟩)
  refine (drop_any _ _ F4 4 _ H5.out (by decide) (by decide)).mono ?_
  rintro e w6 ⟨rfl, F6, h6, hC6, hS6⟩
  rw [wk5] at h6 ⊢
  have hE6 := hE.of_chg hC6 hF5
  have hF6 := hS6.above hF5 hE.size
  have H6 := Lib.hid h6
  clear hC6 hS6 H5 hF5 hlt hag h6
  go_wp2_with fail
  refine (drop_any _ _ F6 4 _ H6.out (by decide) (by decide)).mono ?_
  rintro e w7 ⟨rfl, F7, h7, hC7, hS7⟩
  rw [wk6] at h7 ⊢
  have hE7 := hE6.of_chg hC7 hF6
  have hF7 := hS7.above hF6 hE6.size
  have H7 := Lib.hid h7
  clear hC7 hS7 H6 hF6 h7
  go_wp2_with fail
  refine (put_any _ _ F7 (wl 8 2) _ H7.out).mono ?_
  rintro e w8 ⟨rfl, F8, h8, hC8, hS8⟩
  rw [wk7] at h8 ⊢
  have hE8 := hE7.of_chg hC8 hF7
  have H8 := Lib.hid h8
  clear hC8 hS8 H7 hF7 h8
  go_wp2_with (go_at_call 34; refine (num_any _ _).mono ?_; rintro e w' ⟨rfl, rfl⟩)
  refine (len_any _ (some _) F8 _ H8.out (by simp only [flatO, wk8]; decide)).mono ?_
  rintro e w9 ⟨rfl, hE9⟩
  simp only [flatO, wk8]
  go_wp2_with fail
  go_ret
  exact ⟨rfl, hE8.trans hE9⟩
end Go.Proofs
/- Calls of the law's script, as plain records, and how they lie. -/
namespace Go
open Go.RowKit
structure Act10 where
  what : Int
  line : Ln
def Act10.cells (x : Act10) : Array Value := (Value.int .i64 x.what :: x.line.cells.toList).toArray
@[go_sem] theorem Act10.cells_size (x : Act10) : x.cells.size = 19 := by simp [Act10.cells, Ln.cells_size]
@[go_sem] theorem Act10.okCells (x : Act10) : okCells 19 x.cells = true := by
  have h := Ln.okCells x.line
  simp only [Go.okCells, Bool.and_eq_true, beq_iff_eq] at h ⊢
  refine ⟨x.cells_size, ?_⟩
  rw [Array.all_eq_true_iff_forall_mem] at h ⊢
  intro v hv
  simp only [Act10.cells, List.mem_toArray, List.mem_cons, Array.mem_toList_iff] at hv
  rcases hv with rfl | hv
  · rfl
  · exact h.2 v hv
theorem Act10.cells_0 (x : Act10) : x.cells[0]? = some (.int .i64 x.what) := by simp [Act10.cells]
theorem Act10.cells_1 (x : Act10) : x.cells[1]? = some (.int .u32 x.line.num) := by simp [Act10.cells, Ln.cells]
@[go_sem] theorem Act10.cells_get0 (x : Act10) (h : 0 < x.cells.size) : x.cells[0] = .int .i64 x.what := by simp [Act10.cells]
@[go_sem] theorem Act10.cells_get1 (x : Act10) (h : 1 < x.cells.size) : x.cells[1] = .int .u32 x.line.num := by simp [Act10.cells, Ln.cells]
/-- The line within a call. -/
theorem Act10.sub {w : World} {b o : Nat} {x : Act10} (h : w.agg? ⟨b, o, none⟩ 19 = some x.cells) :
    w.cell? ⟨b, o, none⟩ = some (.int .i64 x.what) ∧ w.cell? ⟨b, o + 1, none⟩ = some (.int .u32 x.line.num) ∧ w.agg? ⟨b, o + 1, none⟩ 18 = some x.line.cells := by
  have e : ∀ j, (⟨b, o, none⟩ : Addr).add j = ⟨b, o + j, none⟩ := fun j => by unfold Addr.add; split <;> simp_all
  refine ⟨?_, ?_, ?_⟩
  · have := World.agg?_cell h (j := 0) (by omega)
    rw [e] at this
    exact this.trans x.cells_0
  · have := World.agg?_cell h (j := 1) (by omega)
    rw [e] at this
    exact this.trans x.cells_1
  · obtain ⟨c, t, fr, hh, hsp, hle, hx⟩ := World.agg?_some h
    simp only at hh hle hx
    unfold World.agg?
    simp only [hh, Option.isSome_none, Bool.false_eq_true, if_false]
    rw [if_pos (by omega)]
    congr 1
    have : c.extract (o + 1) (o + 1 + 18) = (c.extract o (o + 19)).extract 1 19 := by
      rw [Array.extract_extract]; congr 1; omega
    rw [this, ← hx]
    apply Array.ext'
    have hs := x.line.cells_size
    simp only [Act10.cells, Array.toList_extract, List.extract_eq_take_drop, List.drop_succ_cons, List.drop_zero]
    rw [List.take_of_length_le (by simp [hs])]
@[go_sem] theorem Act10.agg_alloc (w : World) (x : Act10) (b : Nat) (hb : b = w.heap.size) : (w.alloc (.cells x.cells 57)).agg? ⟨b, 1, none⟩ 18 = some x.line.cells := by
  have h := World.agg?_alloc_at w x.cells 57 b 19 hb x.cells_size
  have := (Act10.sub h).2.2
  simpa using this
end Go
namespace Go.Proofs
open Go.RowKit
@[go_sem ↓] theorem Try.loadVar57 (a : Addr) : loadVar 57 a = loadAgg 57 a := rfl
@[go_sem] theorem Try.loadAgg57 (w : World) (a : Addr) : (loadAgg 57 a).run Try.prog w = aggRes (w.agg? a 19) (loadSlow Try.prog 57 a w) w :=
  run_loadAgg 57 19 Try.isAgg57 Try.sizeOf57 w a
@[go_sem ↓] theorem Try.storeVar57 (a : Addr) (v : Value) : storeVar 57 a v = storeAgg 57 a v := rfl
@[go_sem] theorem Try.storeAgg57 (w : World) (a : Addr) (cs : Array Value) : (storeAgg 57 a (.agg cs)).run Try.prog w = storeRes ((w.agg? a 19).isSome && w.loose a.block && okCells 19 cs) (.ok () (w.putAgg a cs)) (storeSlow Try.prog 57 a (.agg cs) w) :=
  run_storeAgg 57 19 Try.sizeOf57 w a cs
end Go.Proofs
