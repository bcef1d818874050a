/- The law LinesTells, walked. -/
import Derived.Test.YtgggokajapoopaaLPlays
namespace Go.Proofs
open Go.RowKit
/-- What stands in the boxes of LinesTells: the question, and the document's cache. -/
structure TellBox (W : World) (A B : Nat) (n pick : Int) (s ways : Int) (vs : Value) : Prop where
  a0 : W.cell? ⟨A, 0, none⟩ = some (.int .u32 n)
  a1 : W.cell? ⟨A, 1, none⟩ = some (.int .i64 pick)
  b0 : W.cell? ⟨B, 0, none⟩ = some (.int .i64 s)
  b1 : W.cell? ⟨B, 1, none⟩ = some (.int .i64 ways)
  b2 : W.cell? ⟨B, 2, none⟩ = some vs
  la : A < W.heap.size
  lb : B < W.heap.size
theorem TellBox.ext {W W' : World} {A B : Nat} {n pick s ways : Int} {vs : Value} (h : TellBox W A B n pick s ways vs) (hE : Ext W W') : TellBox W' A B n pick s ways vs := by
  have h1 := h.la
  have h2 := h.lb
  have h3 := hE.size
  exact ⟨(hE.cell h1).trans h.a0, (hE.cell h1).trans h.a1, (hE.cell h2).trans h.b0, (hE.cell h2).trans h.b1, (hE.cell h2).trans h.b2, by omega, by omega⟩
theorem TellBox.start {w w1 : World} (n pick s ways : Int) (vs : Value) (hE : Ext (w.alloc (.cells #[.int .u32 n, .int .i64 pick] 35)) w1) : TellBox (w1.alloc (.cells #[.int .i64 s, .int .i64 ways, vs] 28)) w.heap.size w1.heap.size n pick s ways vs := by
  have h1 := hE.size
  simp only [World.size_alloc] at h1
  obtain ⟨r1, r2, r3, r5, r4⟩ := hE.rules
  have e : ∀ o, (w1.alloc (.cells #[.int .i64 s, .int .i64 ways, vs] 28)).cell? ⟨w.heap.size, o, none⟩ = w1.cell? ⟨w.heap.size, o, none⟩ := fun o => ((Ext.refl w1).alloc _).cell (by omega)
  refine ⟨?_, ?_, by simp [go_sem], by simp [go_sem], by simp [go_sem], by simp; omega, by simp⟩
  · rw [e, r1 _ _ (by simp)]; simp [go_sem]
  · rw [e, r1 _ _ (by simp)]; simp [go_sem]
/-- A box that holds a line. -/
structure LnBox (W : World) (b : Nat) (l : Ln) : Prop where
  ag : W.agg? ⟨b, 0, none⟩ 18 = some l.cells
  lt : b < W.heap.size
theorem LnBox.ext {W W' : World} {b : Nat} {l : Ln} (h : LnBox W b l) (hE : Ext W W') : LnBox W' b l := ⟨(hE.agg h.lt).trans h.ag, Nat.lt_of_lt_of_le h.lt hE.size⟩
theorem LnBox.start (w : World) (l : Ln) : LnBox (w.alloc (.cells l.cells 39)) w.heap.size l := ⟨by simp [go_sem], by simp⟩
set_option maxRecDepth 100000 in
set_option maxHeartbeats 400000 in
theorem lawTells (s ways : Int) (M : List Act10) (a : Option Addr) (cap : Nat) (n pick : Int) (w : World) (hM : Row 19 Act10.cells w a M) (hn0 : 0 ≤ n) (hn1 : n < 4294967296) :
    Calls Try.prog 4 #[.int .i64 s, .int .i64 ways, .slice a M.length cap, .agg #[.int .u32 n, .int .i64 pick]] w fun e w' => e = .returned (.bool true) ∧ Ext w w' := by
  by_cases hg : right s ways = true ∧ M.length ≤ 100
  · obtain ⟨hr, hl⟩ := hg
    have hl' : decide ((100 : Int) < (M.length : Int)) = false := by simp; omega
    have HM : Hid (∀ ob, Row 19 Act10.cells (w.alloc ob) a M) := fun ob => hM.ext ((Ext.refl w).alloc ob)
    clear hM
    obtain ⟨m, k, rfl, rfl, hm, hk1, hk8⟩ := right_split hr
    obtain ⟨hm1, hm2⟩ : (1 : Int) ≤ m ∧ (m : Int) ≤ 64 := by simp only [pow2, Bool.or_eq_true, beq_iff_eq] at hm; omega
    go_enter Try.func4, Try.ntmps4
    go_wp2_with (go_at_call 24; refine (right_any _ _ _).mono ?_; rintro e w' ⟨rfl, rfl⟩; rw [hr])
    refine (played_arg m k M a cap _ hm hk1 hk8 (HM.out _) (by omega)).mono ?_
    rintro e w1 ⟨p, v, c, ⟨rs, rw', L⟩, F, o, rfl, hE1, hat, ⟨vs, rfl, hs⟩, hrel, hrs, hrw, -, -⟩
    dsimp only at hrs hrw
    subst hrs hrw
    have hs' := hs
    obtain ⟨a2, c2, rfl, -⟩ := hs.row Ln.okCells
    obtain ⟨pa, rfl⟩ : ∃ pa, p = .pointer pa := by obtain ⟨B, _, _, _, rfl, _⟩ := hat; exact ⟨_, rfl⟩
    have HB := Lib.hid (TellBox.start (s := m) (ways := k) (vs := .slice a2 L.length c2) n pick hE1)
    have HA : Hid (∀ ob, LinesAt (w1.alloc ob) (.pointer pa) c F) := fun ob => hat.ext ((Ext.refl w1).alloc ob)
    have HS : Hid (∀ ob, SetAt (w1.alloc ob) (.slice a2 L.length c2) L o) := fun ob => hs'.ext ((Ext.refl w1).alloc ob)
    have HQ := Lib.hid hrel
    have hsh : L.length ≤ 512 := hrel.short
    have hE0 := (((Ext.refl w).alloc (.cells #[.int .u32 n, .int .i64 pick] 35)).trans hE1).alloc (.cells #[.int .i64 m, .int .i64 k, .slice a2 L.length c2] 28)
    obtain ⟨xa0, xa1, xb0, xb1, xb2, xla, xlb⟩ := HB.out
    have hlk : lookup n (c.of n) = lookup n L := hrel.lookup n
    have HV := Lib.hid (hrel.victim n pick)
    have HK := Lib.hid hlk
    clear hat hs hs' hrel hE1 hlk
    have HA2 := Lib.hid (HA.out (.cells #[.int .i64 m, .int .i64 k, .slice a2 L.length c2] 28))
    have HS2 := Lib.hid (HS.out (.cells #[.int .i64 m, .int .i64 k, .slice a2 L.length c2] 28))
    go_wp2_with fail
    refine (find_any _ c F n _ HA2.out hn0 hn1).mono ?_
    rintro e w2 ⟨rfl, hE2⟩
    rw [HK.out]
    generalize hl1 : lookup n L = ol at *
    clear HK
    clear xa0 xa1 xb0 xb1 xb2 xla xlb
    obtain ⟨xa0, xa1, xb0, xb1, xb2, xla, xlb⟩ := HB.out.ext hE2
    have HL2 := Lib.hid (LnBox.start w2 (lnOr ol))
    have hE2' := hE2.alloc (.cells (lnOr ol).cells 39)
    go_wp2_with fail
    refine (victim_any _ c F n pick _ (HA2.out.ext hE2') hn0 hn1).mono ?_
    rintro e w3 ⟨rfl, hE3⟩
    rw [HV.out]
    clear xa0 xa1 xb0 xb1 xb2 xla xlb
    obtain ⟨xa0, xa1, xb0, xb1, xb2, xla, xlb⟩ := HB.out.ext (hE2'.trans hE3)
    have HL3 := Lib.hid (LnBox.start w3 (lnOr ((⟨m, k, L⟩ : Rf).victim n pick)))
    have hE3' := (hE2'.trans hE3).alloc (.cells (lnOr ((⟨m, k, L⟩ : Rf).victim n pick)).cells 39)
    have HE3 := Lib.hid (hE3.alloc (.cells (lnOr ((⟨m, k, L⟩ : Rf).victim n pick)).cells 39))
    clear hE3
    go_wp2_with fail
    refine (rvictim_any _ ⟨m, k, L⟩ o n pick _ ⟨_, rfl, HS2.out.ext hE3'⟩ ⟨hm1, hm2⟩ (show (1 : Int) ≤ k by omega) hn0 hn1 (show L.length ≤ 1000 by omega)).mono ?_
    rintro e w4 ⟨rfl, hE4⟩
    generalize (⟨m, k, L⟩ : Rf).victim n pick = ov at *
    clear xa0 xa1 xb0 xb1 xb2 xla xlb
    obtain ⟨xa0, xa1, xb0, xb1, xb2, xla, xlb⟩ := HB.out.ext (hE3'.trans hE4)
    have HL4 := Lib.hid (LnBox.start w4 (lnOr ov))
    have hE4' := (hE3'.trans hE4).alloc (.cells (lnOr ov).cells 39)
    have HE4 := Lib.hid (hE4.alloc (.cells (lnOr ov).cells 39))
    clear hE4
    obtain ⟨a3, c3, e3, hrow⟩ := HS2.out.row Ln.okCells
    cases e3
    have HRO := Lib.hid hrow
    clear hrow
    go_wp2_with fail
    refine (rfind_any m k L a2 c2 n _ (HRO.out.ext hE4') (by omega)).mono ?_
    rintro e w5 ⟨rfl, hE5⟩
    clear xa0 xa1 xb0 xb1 xb2 xla xlb
    have hE5' := hE4'.trans hE5
    obtain ⟨xa0, xa1, xb0, xb1, xb2, xla, xlb⟩ := HB.out.ext hE5'
    obtain ⟨l2a, l2b⟩ := ((HL2.out.ext HE3.out).ext HE4.out).ext hE5
    obtain ⟨l3a, l3b⟩ := (HL3.out.ext HE4.out).ext hE5
    obtain ⟨l4a, l4b⟩ := HL4.out.ext hE5
    rcases idxOf_cases n L with ⟨i, x, hi, hx, -, hil, hl2, -⟩ | ⟨hi, hl2, -⟩
    · rw [hl1] at hl2
      subst hl2
      rw [hi]
      obtain ⟨b, off, rfl, hg⟩ := (HRO.out.ext hE5') i x hx
      have hbl : b < w5.heap.size := World.agg?_lt hg
      have hil' : (i : Int) < (L.length : Int) := by omega
      have hd : decide ((0 : Int) ≤ (i : Int)) = true := by simp
      clear hx hi hl1
      simp only [lnOr, Option.getD_some, Option.isSome_some] at *
      go_wp2_with fail
      go_quiet (fail)
      go_wp2_with fail
      refine (is_any _ c F _ ⟨m, k, L⟩ o _ (HA2.out.ext (hE5'.drewN _)) ⟨_, rfl, HS2.out.ext (hE5'.drewN _)⟩ HQ.out).mono ?_
      rintro e w6 ⟨rfl, hE6⟩
      go_wp2_with fail
      refine (works_any _).mono ?_
      rintro e w7 ⟨rfl, hE7⟩
      go_wp2_with fail
      go_ret
      exact ⟨rfl, ((hE0.trans (hE5'.drewN _)).trans hE6).trans hE7⟩
    · rw [hl1] at hl2
      subst hl2
      rw [hi]
      clear hi hl1
      simp only [lnOr, Option.getD_none, Option.isSome_none] at *
      go_wp2_with fail
      go_quiet (fail)
      go_wp2_with fail
      refine (is_any _ c F _ ⟨m, k, L⟩ o _ (HA2.out.ext (hE5'.drewN _)) ⟨_, rfl, HS2.out.ext (hE5'.drewN _)⟩ HQ.out).mono ?_
      rintro e w6 ⟨rfl, hE6⟩
      go_wp2_with fail
      refine (works_any _).mono ?_
      rintro e w7 ⟨rfl, hE7⟩
      go_wp2_with fail
      go_ret
      exact ⟨rfl, ((hE0.trans (hE5'.drewN _)).trans hE6).trans hE7⟩
  · have hg' : right s ways = false ∨ right s ways = true ∧ 100 < M.length := by
      cases hr : right s ways
      · exact .inl rfl
      · exact .inr ⟨rfl, by simp [hr] at hg; omega⟩
    clear hM hg
    rcases hg' with hr | ⟨hr, hl⟩
    · go_enter Try.func4, Try.ntmps4
      go_wp2_with (go_at_call 24; refine (right_any _ _ _).mono ?_; rintro e w' ⟨rfl, rfl⟩; rw [hr])
      refine (works_any _).mono ?_
      rintro e w3 ⟨rfl, hE3⟩
      go_wp2_with fail
      go_ret
      exact ⟨rfl, ((Ext.refl w).alloc _).trans hE3⟩
    · have hl' : decide ((100 : Int) < (M.length : Int)) = true := by simp; omega
      go_enter Try.func4, Try.ntmps4
      go_wp2_with (go_at_call 24; refine (right_any _ _ _).mono ?_; rintro e w' ⟨rfl, rfl⟩; rw [hr])
      refine (works_any _).mono ?_
      rintro e w3 ⟨rfl, hE3⟩
      go_wp2_with fail
      go_ret
      exact ⟨rfl, ((Ext.refl w).alloc _).trans hE3⟩
end Go.Proofs
