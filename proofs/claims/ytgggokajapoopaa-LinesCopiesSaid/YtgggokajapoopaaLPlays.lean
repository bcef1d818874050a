/- The law LinesPlays, walked. -/
import Derived.Test.YtgggokajapoopaaPl
namespace Go.Proofs
open Go.RowKit
theorem right_split {s w : Int} (h : right s w = true) : ∃ n k : Nat, s = n ∧ w = k ∧ pow2 n = true ∧ 1 ≤ k ∧ k ≤ 8 := by
  simp only [right, Bool.and_eq_true, decide_eq_true_eq] at h
  obtain ⟨h1, h2, h3⟩ := h
  refine ⟨s.toNat, w.toNat, ?_, ?_, ?_, by omega, by omega⟩
  · simp only [pow2i, Bool.or_eq_true, beq_iff_eq] at h1; omega
  · omega
  · simp only [pow2i, Bool.or_eq_true, beq_iff_eq] at h1
    simp only [pow2, Bool.or_eq_true, beq_iff_eq]; omega
set_option maxRecDepth 100000 in
set_option maxHeartbeats 400000 in
theorem lawPlays (s ways : Int) (M : List Act10) (a : Option Addr) (cap : Nat) (w : World) (hM : Row 19 Act10.cells w a M) :
    Calls Try.prog 3 #[.int .i64 s, .int .i64 ways, .slice a M.length cap] w fun e w' => e = .returned (.bool true) ∧ Ext w w' := by
  by_cases hg : right s ways = true ∧ M.length ≤ 100
  · obtain ⟨hr, hl⟩ := hg
    have hl' : decide ((100 : Int) < (M.length : Int)) = false := by simp; omega
    have HM := Lib.hid hM
    clear hM
    obtain ⟨n, k, rfl, rfl, hn, hk1, hk8⟩ := right_split hr
    go_enter Try.func3, Try.ntmps3
    go_wp2_with (go_at_call 24; refine (right_any _ _ _).mono ?_; rintro e w' ⟨rfl, rfl⟩; rw [hr])
    refine (played_arg n k M a cap _ hn hk1 hk8 HM.out (by omega)).mono ?_
    rintro e w1 ⟨p, v, c, r, F, o, rfl, hE1, hat, ⟨vs, rfl, hs⟩, hrel, -, -, -, -⟩
    have hs' := hs
    obtain ⟨a2, c2, rfl, -⟩ := hs.row Ln.okCells
    have HA : Hid (∀ ob, LinesAt (w1.alloc ob) p c F) := fun ob => hat.ext ((Ext.refl w1).alloc ob)
    have HS : Hid (∀ ob, RfAt (w1.alloc ob) (.agg #[.int .i64 r.sets, .int .i64 r.ways, .slice a2 r.L.length c2]) r o) := fun ob => ⟨_, rfl, hs'.ext ((Ext.refl w1).alloc ob)⟩
    have HQ := Lib.hid hrel
    clear hat hs hs' hrel
    go_wp2_with fail
    refine (is_any p c F _ r o _ (HA.out _) (HS.out _) HQ.out).mono ?_
    rintro e w2 ⟨rfl, hE2⟩
    go_wp2_with fail
    refine (works_any _).mono ?_
    rintro e w3 ⟨rfl, hE3⟩
    go_wp2_with fail
    go_ret
    exact ⟨rfl, (hE1.trans (((Ext.refl w1).alloc _).trans hE2)).trans hE3⟩
  · have hg' : right s ways = false ∨ right s ways = true ∧ 100 < M.length := by
      cases hr : right s ways
      · exact .inl rfl
      · exact .inr ⟨rfl, by simp [hr] at hg; omega⟩
    clear hM hg
    rcases hg' with hr | ⟨hr, hl⟩
    · go_enter Try.func3, Try.ntmps3
      go_wp2_with (go_at_call 24; refine (right_any _ _ _).mono ?_; rintro e w' ⟨rfl, rfl⟩; rw [hr])
      refine (works_any _).mono ?_
      rintro e w3 ⟨rfl, hE3⟩
      go_wp2_with fail
      go_ret
      exact ⟨rfl, hE3⟩
    · have hl' : decide ((100 : Int) < (M.length : Int)) = true := by simp; omega
      go_enter Try.func3, Try.ntmps3
      go_wp2_with (go_at_call 24; refine (right_any _ _ _).mono ?_; rintro e w' ⟨rfl, rfl⟩; rw [hr])
      refine (works_any _).mono ?_
      rintro e w3 ⟨rfl, hE3⟩
      go_wp2_with fail
      go_ret
      exact ⟨rfl, hE3⟩
end Go.Proofs
