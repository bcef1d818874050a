/- The document's lines, walked: Right, Find, Set. -/
import Derived.Test.YtgggokajapoopaaLen
namespace Go
def pow2i (s : Int) : Bool := s == 1 || s == 2 || s == 4 || s == 8 || s == 16 || s == 32 || s == 64
def right (s w : Int) : Bool := pow2i s && (decide (1 ≤ w) && decide (w ≤ 8))
end Go
namespace Go.Proofs
open Go.RowKit
def RightPost (s k : Int) : Prop :=
  (k = 1) ∨ (k = 2 ∧ s ≠ 1) ∨ (k = 4 ∧ s ≠ 1 ∧ s ≠ 2) ∨ (k = 8 ∧ s ≠ 1 ∧ s ≠ 2 ∧ s ≠ 4) ∨ (k = 16 ∧ s ≠ 1 ∧ s ≠ 2 ∧ s ≠ 4 ∧ s ≠ 8) ∨ (k = 32 ∧ s ≠ 1 ∧ s ≠ 2 ∧ s ≠ 4 ∧ s ≠ 8 ∧ s ≠ 16) ∨
  (k = 64 ∧ s ≠ 1 ∧ s ≠ 2 ∧ s ≠ 4 ∧ s ≠ 8 ∧ s ≠ 16 ∧ s ≠ 32) ∨ (k = 128 ∧ s ≠ 1 ∧ s ≠ 2 ∧ s ≠ 4 ∧ s ≠ 8 ∧ s ≠ 16 ∧ s ≠ 32 ∧ s ≠ 64)
theorem RightPost.next {s k : Int} (h : RightPost s k) (hk : k ≤ 64) (hs : k ≠ s) : RightPost s (k * 2) := by
  unfold RightPost at *
  omega
theorem RightPost.range {s k : Int} (h : RightPost s k) : 1 ≤ k ∧ k ≤ 128 := by unfold RightPost at h; omega
theorem RightPost.stop {s : Int} (h : RightPost s s) (w : Int) (hk : s ≤ 64) : right s w = (decide (1 ≤ w) && decide (w ≤ 8)) := by
  have : pow2i s = true := by unfold RightPost at h; unfold pow2i; simp; omega
  simp [right, this]
theorem RightPost.fin {s k : Int} (h : RightPost s k) (w : Int) (hk : ¬ k ≤ 64) : right s w = false := by
  have : pow2i s = false := by unfold RightPost at h; unfold pow2i; simp; omega
  simp [right, this]
set_option maxRecDepth 100000 in
set_option maxHeartbeats 400000 in
theorem right_any (s ways : Int) (w : World) : Calls Try.prog 24 #[.int .i64 s, .int .i64 ways] w fun e w' => e = .returned (.bool (right s ways)) ∧ w' = w := by
  go_enter Try.func24, Try.ntmps24
  go_wp2_with fail
  go_loopw [5] (fun i wr => ∃ k : Int, i = .int .i64 k ∧ RightPost s k ∧ wr = w) (fun i _ => 200 - (intOf i).toNat)
  case atStart => exact ⟨1, rfl, .inl rfl, rfl⟩
  case round =>
    obtain ⟨k, rfl, hp, rfl⟩ := hrel
    have hr := hp.range
    by_cases hle : k ≤ 64
    · by_cases hq : k = s
      · subst hq
        have HS := Lib.hid (hp.stop ways hle)
        clear hp
        by_cases h1 : 1 ≤ ways
        · go_wp2_with fail
          go_ret
          exact ⟨ret_bool (by rw [HS.out]; simp; try omega), rfl⟩
        · go_wp2_with fail
          go_ret
          exact ⟨ret_bool (by rw [HS.out]; simp; try omega), rfl⟩
      · have HS := Lib.hid (hp.next hle hq)
        clear hp
        go_wp2_with fail
        go_roundw
        case rel => exact ⟨k * 2, by go_num, HS.out, by trivial⟩
        case measure => simp [intOf]; omega
    · have HS := Lib.hid (hp.fin ways hle)
      clear hp
      go_wp2_with fail
      go_ret
      exact ⟨ret_bool HS.out.symm, rfl⟩
set_option maxRecDepth 100000 in
set_option maxHeartbeats 400000 in
theorem rfind_any (s ways : Int) (L : List Ln) (a : Option Addr) (cap : Nat) (n : Int) (w : World) (hL : Row 18 Ln.cells w a L) (hlen : L.length ≤ 1000) :
    Calls Try.prog 31 #[.agg #[.int .i64 s, .int .i64 ways, .slice a L.length cap], .int .u32 n] w fun e w' => e = .returned (.int .i64 (idxOf n L)) ∧ Ext w w' := by
  go_enter Try.func31, Try.ntmps31
  go_wp2_with fail
  go_loopw [5] (fun i wr => ∃ k : Nat, k ≤ L.length ∧ i = .int .i64 k ∧ (∀ i y, i < k → L[i]? = some y → y.num ≠ n) ∧ Ext (w.alloc (.cells #[.int .i64 s, .int .i64 ways, .slice a L.length cap] 28)) wr) (fun i _ => L.length - (intOf i).toNat)
  case atStart => exact ⟨0, Nat.zero_le _, rfl, fun i y h => absurd h (Nat.not_lt_zero _), Below.refl _ _⟩
  case round =>
    obtain ⟨k, hk, rfl, hp, hE0⟩ := hrel
    have hE := ((Ext.refl w).alloc (.cells #[.int .i64 s, .int .i64 ways, .slice a L.length cap] 28)).trans hE0
    obtain ⟨r1, r2, r3, r5, r4⟩ := hE0.rules
    have hB : wr.cell? ⟨w.heap.size, 2, none⟩ = some (.slice a L.length cap) := by rw [r1 _ _ (by simp)]; simp [go_sem]
    have hBl : w.heap.size < wr.heap.size := by simp at r4; omega
    by_cases hlt : k < L.length
    · obtain ⟨x, hx⟩ : ∃ x, L[k]? = some x := ⟨L[k], by simp [hlt]⟩
      obtain ⟨b, off, rfl, hg⟩ := (hL.ext hE) k x hx
      have hbl : b < wr.heap.size := World.agg?_lt hg
      have hc0 : wr.cell? ⟨b, off + k * 18, none⟩ = some (.int .u32 x.num) := by obtain ⟨_, _, e, h⟩ := (hL.ext hE).cell hx (j := 0) (by omega); cases e; rw [Nat.add_zero] at h; rw [h]; simp [go_sem]
      by_cases hq : x.num = n
      · have HC : Hid (idxOf n L = k) := idxOf_stop n L k x hx hq hp
        clear hp hx hL
        go_wp2_with fail
        go_ret
        exact ⟨ret_int HC.out.symm, hE⟩
      · have HP : Hid (∀ i y, i < k + 1 → L[i]? = some y → y.num ≠ n) := fun i y hi hy => by
          rcases Nat.lt_succ_iff_lt_or_eq.1 hi with h | rfl
          · exact hp i y h hy
          · rw [hx] at hy; cases hy; exact hq
        clear hp hx hL
        go_wp2_with fail
        go_roundw
        case rel => exact ⟨k + 1, by omega, by go_num, HP.out, hE0⟩
        case measure => simp [intOf]; omega
    · have HC : Hid (idxOf n L = -1) := idxOf_none n L (fun i y hi => hp i y (by omega))
      clear hp hL
      go_wp2_with fail
      go_ret
      exact ⟨ret_int HC.out.symm, hE⟩
set_option maxRecDepth 100000 in
set_option maxHeartbeats 400000 in
theorem rset_any (s ways : Int) (v : Value) (n : Int) (w : World) (hs : 1 ≤ s) (hs2 : s ≤ 64) (h0 : 0 ≤ n) (h1 : n < 4294967296) :
    Calls Try.prog 90 #[.agg #[.int .i64 s, .int .i64 ways, v], .int .u32 n] w fun e w' => e = .returned (.int .i64 (n % s)) ∧ Ext w w' := by
  have ht : n.tmod s = n % s := Int.tmod_eq_emod_of_nonneg h0
  go_enter Try.func90, Try.ntmps90
  go_wp2_with fail
  go_ret
  exact ⟨by rfl, (Ext.refl w).alloc _⟩
end Go.Proofs
