/- The document's lines, walked: Choice, Victim. -/
import Derived.Test.YtgggokajapoopaaR5
namespace Go
def Rf.victim (r : Rf) (n : Int) (pick : Int) : Option Ln :=
  match r.L.findIdx? (·.num == n) with
  | some _ => none
  | none => if ((r.of (n % r.sets)).length : Int) < r.ways then none else (r.of (n % r.sets))[choice pick (r.of (n % r.sets)).length]?
end Go
namespace Go.Proofs
open Go.RowKit
set_option maxRecDepth 100000 in
set_option maxHeartbeats 400000 in
theorem choice_any (pick : Int) (n : Nat) (w : World) (h1 : 1 ≤ n) (h2 : n ≤ 1000) : Calls Try.prog 91 #[.int .i64 pick, .int .i64 n] w fun e w' => e = .returned (.int .i64 (choice pick n : Nat)) ∧ w' = w := by
  have hT := tmod_cases pick (n := n) (by omega)
  have hl := choice_lt pick (n := n) (by omega)
  have HL := Lib.hid hl
  have HT := Lib.hid hT
  generalize choice pick n = c at *
  generalize hm : pick.tmod (n : Int) = m at *
  clear hT
  by_cases hneg : m < 0
  · have hm' : m = (c : Int) - n := by rcases HT.out with h | h <;> omega
    have hw : IntKind.i64.wrap (m + (n : Int)) = m + (n : Int) := IntWalk.i64_in _ (by omega)
    go_enter Try.func91, Try.ntmps91
    go_wp2_with fail
    go_ret
    exact ⟨ret_int (by omega), rfl⟩
  · have hm' : m = (c : Int) := by rcases HT.out with h | h <;> omega
    go_enter Try.func91, Try.ntmps91
    go_wp2_with fail
    go_ret
    exact ⟨ret_int (by omega), rfl⟩
theorem keepV {w1 W W' : World} {n : Nat} {s ways : Int} {vs : Value} (hlt : n + 1 < w1.heap.size)
    (h : Ext w1 W ∧ W.cell? ⟨n, 0, none⟩ = some (.int .i64 s) ∧ W.cell? ⟨n, 1, none⟩ = some (.int .i64 ways) ∧ W.cell? ⟨n, 2, none⟩ = some vs) (hE : Ext W W') :
    Ext w1 W' ∧ W'.cell? ⟨n, 0, none⟩ = some (.int .i64 s) ∧ W'.cell? ⟨n, 1, none⟩ = some (.int .i64 ways) ∧ W'.cell? ⟨n, 2, none⟩ = some vs := by
  obtain ⟨h1, h2, h3, h4⟩ := h
  have hs := h1.size
  exact ⟨h1.trans hE, (hE.cell (by omega)).trans h2, (hE.cell (by omega)).trans h3, (hE.cell (by omega)).trans h4⟩
theorem heldV {w1 W : World} {n : Nat} {s ways : Int} {vs : Value}
    (h : Ext w1 W ∧ W.cell? ⟨n, 0, none⟩ = some (.int .i64 s) ∧ W.cell? ⟨n, 1, none⟩ = some (.int .i64 ways) ∧ W.cell? ⟨n, 2, none⟩ = some vs) : Ext w1 W := h.1
/-- The world of Victim behind its beginning. -/
def vicW (w : World) (s ways : Int) (vs : Value) : World := (w.alloc (.cells #[.int .i64 s, .int .i64 ways, vs] 28)).alloc (.cells Ln.zero.cells 39)
structure Boxes3 (W : World) (n : Nat) (s ways : Int) (vs : Value) : Prop where
  a0 : W.cell? ⟨n, 0, none⟩ = some (.int .i64 s)
  a1 : W.cell? ⟨n, 1, none⟩ = some (.int .i64 ways)
  a2 : W.cell? ⟨n, 2, none⟩ = some vs
  cs : W.agg? ⟨n + 1, 0, none⟩ 18 = some Ln.zero.cells
  cl : W.loose (n + 1) = true
  lt : n + 1 < W.heap.size
theorem Boxes3.ext {W W' : World} {n : Nat} {s ways : Int} {vs : Value} (h : Boxes3 W n s ways vs) (hE : Ext W W') : Boxes3 W' n s ways vs := by
  have h1 := h.lt
  obtain ⟨r1, r2, r3, r5, r4⟩ := hE.rules
  exact ⟨(r1 _ _ (by omega)).trans h.a0, (r1 _ _ (by omega)).trans h.a1, (r1 _ _ (by omega)).trans h.a2, (r3 _ _ _ (by omega)).trans h.cs, (r5 _ (by omega)).trans h.cl, by omega⟩
theorem Boxes3.start (w : World) (s ways : Int) (vs : Value) : Boxes3 (vicW w s ways vs) w.heap.size s ways vs := by
  unfold vicW
  constructor <;> simp [go_sem]
theorem ext_vicW (w : World) (s ways : Int) (vs : Value) : Ext w (vicW w s ways vs) := ((Ext.refl w).alloc _).alloc _
set_option maxRecDepth 100000 in
set_option maxHeartbeats 400000 in
theorem rvictim_none (s ways n pick : Int) (L : List Ln) (a : Option Addr) (cap : Nat) (w : World) (hss1 : 1 ≤ s) (hss2 : s ≤ 64) (h0 : 0 ≤ n) (h4 : n < 4294967296) (hL : Row 18 Ln.cells w a L) (hlen : L.length ≤ 1000)
    (i : Int) (HI : Hid (idxOf n L = i)) (hf : (decide (0 ≤ i) = true) ∨ decide (0 ≤ i) = false ∧ decide (((L.filter fun x => x.num % s == n % s).length : Int) < ways) = true) :
    Calls Try.prog 30 #[.agg #[.int .i64 s, .int .i64 ways, .slice a L.length cap], .int .u32 n, .int .i64 pick] w fun e w' => e = .returned (.tuple #[.agg Ln.zero.cells, .bool false]) ∧ Ext w w' := by
  have HR : Hid (∀ w1, Ext w w1 → Row 18 Ln.cells w1 a L) := fun w1 h => hL.ext h
  clear hL
  rcases hf with hf | ⟨hf, hf2⟩
  all_goals
    go_enter Try.func30, Try.ntmps30
    go_wp2_with fail
    obtain ⟨xa0, xa1, xa2, xcs, xcl, xlt⟩ := Boxes3.start w s ways (.slice a L.length cap)
    have HX := Lib.hid (Boxes3.start w s ways (.slice a L.length cap))
    have HEW := Lib.hid (ext_vicW w s ways (.slice a L.length cap))
    change Code.wp _ _ _ _ (vicW w s ways (.slice a L.length cap))
    generalize vicW w s ways (.slice a L.length cap) = w1 at *
    have hlt0 : w.heap.size < w1.heap.size := by omega
    go_region_held3 (fun W => Ext w1 W ∧ W.cell? ⟨w.heap.size, 0, none⟩ = some (.int .i64 s) ∧ W.cell? ⟨w.heap.size, 1, none⟩ = some (.int .i64 ways) ∧ W.cell? ⟨w.heap.size, 2, none⟩ = some (.slice a L.length cap))
      ((first | exact keepV xlt (by assumption) (by assumption) | exact ⟨(Ext.refl w1).drew, xa0, xa1, xa2⟩))
      (first | (go_at_call 90; refine (rset_any s ways _ n _ hss1 hss2 h0 h4).mono ?_; rintro e w' ⟨rfl, hE'⟩)
             | (go_at_call 89; refine (rof_any s ways _ L a cap _ hss1 hss2 (HR.out _ (HEW.out.trans (heldV (n := w.heap.size) (s := s) (ways := ways) (vs := .slice a L.length cap) (by assumption)))) hlen).mono ?_; rintro e w' ⟨v', o', rfl, hE', hs', -⟩; obtain ⟨a', cap', rfl, -⟩ := hs'.row Ln.okCells; clear hs'))
    rename_i hH
    have hE1 : Ext w1 w' := hH.1
    have HE1 := Lib.hid hE1
    clear hH xa0 xa1 xa2 xcs xcl
    obtain ⟨xa0, xa1, xa2, xcs, xcl, ylt⟩ := HX.out.ext hE1
    have hE2 := HEW.out.trans hE1
    clear hE1 xlt hlt0
    go_wp2_with fail
    refine (rfind_any s ways L a cap n _ (HR.out _ hE2) hlen).mono ?_
    rintro e w3 ⟨rfl, hE3⟩
    rw [HI.out]
    clear xa0 xa1 xa2 xcs xcl
    obtain ⟨xa0, xa1, xa2, xcs, xcl, ylt3⟩ := (HX.out.ext HE1.out).ext hE3
    go_wp2_with fail
    refine bodyPost_ret (resCT rfl _ _ ⟨w.heap.size + 1, 0, none⟩ (.agg Ln.zero.cells) rfl (run_loadVar_agg 39 18 Try.isAgg39 Try.sizeOf39 _ _ _ (by simp [go_sem, xcs]))) rfl ⟨rfl, ?_⟩
    exact (hE2.trans hE3).putAgg _ _ (by simp)
set_option maxRecDepth 100000 in
set_option maxHeartbeats 400000 in
theorem rvictim_is (s ways n pick : Int) (L : List Ln) (a : Option Addr) (cap : Nat) (w : World) (hss1 : 1 ≤ s) (hss2 : s ≤ 64) (_ : 1 ≤ ways) (h0 : 0 ≤ n) (h4 : n < 4294967296) (hL : Row 18 Ln.cells w a L) (hlen : L.length ≤ 1000)
    (HI : Hid (idxOf n L = -1)) (hf : decide (((L.filter fun x => x.num % s == n % s).length : Int) < ways) = false)
    (k : Nat) (x : Ln) (HK : Hid (choice pick (L.filter fun x => x.num % s == n % s).length = k)) (hkl : k < (L.filter fun x => x.num % s == n % s).length) (HG : Hid ((L.filter fun x => x.num % s == n % s)[k]? = some x)) :
    Calls Try.prog 30 #[.agg #[.int .i64 s, .int .i64 ways, .slice a L.length cap], .int .u32 n, .int .i64 pick] w fun e w' => e = .returned (.tuple #[.agg x.cells, .bool true]) ∧ Ext w w' := by
  have HR : Hid (∀ w1, Ext w w1 → Row 18 Ln.cells w1 a L) := fun w1 h => hL.ext h
  clear hL
  have hfl : (L.filter fun x => x.num % s == n % s).length ≤ 1000 := Nat.le_trans (List.length_filter_le _ _) hlen
  have hf1 : 1 ≤ (L.filter fun x => x.num % s == n % s).length := by omega
  have hki : (k : Int) < ((L.filter fun x => x.num % s == n % s).length : Int) := by omega
  go_enter Try.func30, Try.ntmps30
  go_wp2_with fail
  obtain ⟨xa0, xa1, xa2, xcs, xcl, xlt⟩ := Boxes3.start w s ways (.slice a L.length cap)
  have HX := Lib.hid (Boxes3.start w s ways (.slice a L.length cap))
  have HEW := Lib.hid (ext_vicW w s ways (.slice a L.length cap))
  change Code.wp _ _ _ _ (vicW w s ways (.slice a L.length cap))
  generalize vicW w s ways (.slice a L.length cap) = w1 at *
  have hlt0 : w.heap.size < w1.heap.size := by omega
  go_region_held3 (fun W => Ext w1 W ∧ W.cell? ⟨w.heap.size, 0, none⟩ = some (.int .i64 s) ∧ W.cell? ⟨w.heap.size, 1, none⟩ = some (.int .i64 ways) ∧ W.cell? ⟨w.heap.size, 2, none⟩ = some (.slice a L.length cap))
    ((first | exact keepV xlt (by assumption) (by assumption) | exact ⟨(Ext.refl w1).drew, xa0, xa1, xa2⟩))
    (first | (go_at_call 90; refine (rset_any s ways _ n _ hss1 hss2 h0 h4).mono ?_; rintro e w' ⟨rfl, hE'⟩)
           | (go_at_call 89; refine (rof_any s ways _ L a cap _ hss1 hss2 (HR.out _ (HEW.out.trans (heldV (n := w.heap.size) (s := s) (ways := ways) (vs := .slice a L.length cap) (by assumption)))) hlen).mono ?_; rintro e w' ⟨v', o', rfl, hE', hs', -⟩; obtain ⟨a', cap', rfl, hrow⟩ := hs'.row Ln.okCells; have HRO := Lib.hid hrow; clear hs' hrow))
  rename_i hH
  have hE1 : Ext w1 w' := hH.1
  have HE1 := Lib.hid hE1
  clear hH xa0 xa1 xa2 xcs xcl
  obtain ⟨xa0, xa1, xa2, xcs, xcl, ylt⟩ := HX.out.ext hE1
  have hE2 := HEW.out.trans hE1
  clear hE1 xlt hlt0
  go_wp2_with fail
  refine (rfind_any s ways L a cap n _ (HR.out _ hE2) hlen).mono ?_
  rintro e w3 ⟨rfl, hE3⟩
  rw [HI.out]
  clear xa0 xa1 xa2 xcs xcl
  obtain ⟨xa0, xa1, xa2, xcs, xcl, ylt3⟩ := (HX.out.ext HE1.out).ext hE3
  obtain ⟨b, off, rfl, hg⟩ := (HRO.out.ext hE3) k x HG.out
  have hbl : b < w3.heap.size := World.agg?_lt hg
  go_wp2_with fail
  refine (choice_any pick _ _ hf1 hfl).mono ?_
  rintro e w4 ⟨rfl, rfl⟩
  rw [HK.out]
  go_wp2_with fail
  refine bodyPost_ret (resCT rfl _ _ ⟨w.heap.size + 1, 0, none⟩ (.agg x.cells) rfl (run_loadVar_agg 39 18 Try.isAgg39 Try.sizeOf39 _ _ _ (by simp [go_sem, xcs]))) rfl ⟨rfl, ?_⟩
  exact (hE2.trans hE3).putAgg _ _ (by simp)
/-- The document's Victim. -/
theorem rvictim_any (v : Value) (r : Rf) (o : Option Nat) (n pick : Int) (w : World) (h : RfAt w v r o) (h1 : 1 ≤ r.sets ∧ r.sets ≤ 64) (hw1 : 1 ≤ r.ways) (h0 : 0 ≤ n) (h4 : n < 4294967296) (hl : r.L.length ≤ 1000) :
    Calls Try.prog 30 #[v, .int .u32 n, .int .i64 pick] w fun e w' => e = .returned (.tuple #[.agg (lnOr (r.victim n pick)).cells, .bool (r.victim n pick).isSome]) ∧ Ext w w' := by
  obtain ⟨vs, rfl, hs⟩ := h
  obtain ⟨s, ways, L⟩ := r
  obtain ⟨a, cap, rfl, hr⟩ := hs.row Ln.okCells
  simp only at h1 hw1 hl hr ⊢
  cases hidx : L.findIdx? (·.num == n) with
  | some j =>
    have hv : (⟨s, ways, L⟩ : Rf).victim n pick = none := by simp only [Rf.victim, hidx]
    rw [hv]
    exact rvictim_none s ways n pick L a cap w h1.1 h1.2 h0 h4 hr hl j (by unfold Hid idxOf; rw [hidx]) (.inl (by simp))
  | none =>
    have HI : Hid (idxOf n L = -1) := by unfold Hid idxOf; rw [hidx]
    by_cases hlt : ((L.filter fun x => x.num % s == n % s).length : Int) < ways
    · have hv : (⟨s, ways, L⟩ : Rf).victim n pick = none := by simp only [Rf.victim, hidx, Rf.of, hlt, if_true]
      rw [hv]
      exact rvictim_none s ways n pick L a cap w h1.1 h1.2 h0 h4 hr hl _ HI (.inr ⟨by simp, by simpa using hlt⟩)
    · have hk := choice_lt pick (n := (L.filter fun x => x.num % s == n % s).length) (by omega)
      have hv : (⟨s, ways, L⟩ : Rf).victim n pick = some ((L.filter fun x => x.num % s == n % s)[choice pick (L.filter fun x => x.num % s == n % s).length]) := by simp [Rf.victim, hidx, Rf.of, hlt]
      rw [hv]
      exact rvictim_is s ways n pick L a cap w h1.1 h1.2 hw1 h0 h4 hr hl HI (by simpa using hlt) _ _ (rfl : choice pick _ = _) hk (List.getElem?_eq_getElem hk)
end Go.Proofs
