/- A cache that is not there, and one that may not be. -/
import Derived.Test.YtgggokajapoopaaWks
namespace Go.Proofs
open Go.RowKit
set_option maxRecDepth 100000 in
set_option maxHeartbeats 400000 in
theorem find_nil (n : Int) (w : World) : Calls Try.prog 28 #[.pointer none, .int .u32 n] w fun e w' => e = .returned (.tuple #[.agg Ln.zero.cells, .bool false]) ∧ Ext w w' := by
  go_enter Try.func28, Try.ntmps28
  go_wp2_with fail
  refine (none_nil _).mono ?_
  rintro e w1 ⟨rfl, rfl⟩
  go_wp2_with fail
  refine bodyPost_ret (resCT rfl _ _ ⟨w.heap.size, 0, none⟩ (.agg Ln.zero.cells) rfl (run_loadVar_agg 39 18 Try.isAgg39 Try.sizeOf39 _ _ _ (by simp [go_sem]))) rfl ⟨rfl, ?_⟩
  exact (Ext.refl w).alloc _
set_option maxRecDepth 100000 in
set_option maxHeartbeats 400000 in
theorem victim_nil (n pick : Int) (w : World) : Calls Try.prog 29 #[.pointer none, .int .u32 n, .int .i64 pick] w fun e w' => e = .returned (.tuple #[.agg Ln.zero.cells, .bool false]) ∧ Ext w w' := by
  go_enter Try.func29, Try.ntmps29
  go_wp2_with fail
  refine (none_nil _).mono ?_
  rintro e w1 ⟨rfl, rfl⟩
  go_wp2_with fail
  refine bodyPost_ret (resCT rfl _ _ ⟨w.heap.size, 0, none⟩ (.agg Ln.zero.cells) rfl (run_loadVar_agg 39 18 Try.isAgg39 Try.sizeOf39 _ _ _ (by simp [go_sem]))) rfl ⟨rfl, ?_⟩
  exact (Ext.refl w).alloc _
set_option maxRecDepth 100000 in
set_option maxHeartbeats 400000 in
theorem put_nil (l : Ln) (w : World) : Calls Try.prog 35 #[.pointer none, .agg l.cells] w fun e w' => e = .returned (.int .i64 1) ∧ Ext w w' := by
  go_enter Try.func35, Try.ntmps35
  go_wp2_with fail
  refine (none_nil _).mono ?_
  rintro e w1 ⟨rfl, rfl⟩
  go_wp2_with fail
  go_ret
  exact ⟨rfl, (Ext.refl w).alloc _⟩
set_option maxRecDepth 100000 in
set_option maxHeartbeats 400000 in
theorem drop_nil (n : Int) (w : World) : Calls Try.prog 36 #[.pointer none, .int .u32 n] w fun e w' => e = .returned (.bool false) ∧ Ext w w' := by
  go_enter Try.func36, Try.ntmps36
  go_wp2_with fail
  refine (none_nil _).mono ?_
  rintro e w1 ⟨rfl, rfl⟩
  go_wp2_with fail
  go_ret
  exact ⟨rfl, Ext.refl w⟩
set_option maxRecDepth 100000 in
set_option maxHeartbeats 400000 in
theorem same_nil (w : World) : Calls Try.prog 41 #[.pointer none, .pointer none] w fun e w' => e = .returned (.bool true) ∧ Ext w w' := by
  go_enter Try.func41, Try.ntmps41
  go_wp2_with fail
  refine (none_nil _).mono ?_
  rintro e w1 ⟨rfl, rfl⟩
  go_wp2_with fail
  refine (none_nil _).mono ?_
  rintro e w1 ⟨rfl, rfl⟩
  go_wp2_with fail
  refine (none_nil _).mono ?_
  rintro e w1 ⟨rfl, rfl⟩
  go_wp2_with fail
  go_ret
  exact ⟨rfl, Ext.refl w⟩
theorem none_at {p : Value} {c : Lns} {F : Nat → Prop} {w : World} (h : LinesAt w p c F) : Calls Try.prog 87 #[p] w fun e w' => e = .returned (.bool false) ∧ w = w' := by
  obtain ⟨B, S, vs, os, rfl, hb, hF⟩ := h
  exact none_body hb
set_option maxRecDepth 100000 in
set_option maxHeartbeats 400000 in
theorem same_right (p : Value) (c : Lns) (F : Nat → Prop) (w : World) (h : LinesAt w p c F) : Calls Try.prog 41 #[p, .pointer none] w fun e w' => e = .returned (.bool false) ∧ Ext w w' := by
  obtain ⟨pa, rfl⟩ : ∃ pa, p = .pointer pa := by obtain ⟨B, _, _, _, rfl, _⟩ := h; exact ⟨_, rfl⟩
  have H := Lib.hid h
  clear h
  go_enter Try.func41, Try.ntmps41
  go_wp2_with fail
  refine (none_at H.out).mono ?_
  rintro e w1 ⟨rfl, rfl⟩
  go_wp2_with fail
  refine (none_nil _).mono ?_
  rintro e w1 ⟨rfl, rfl⟩
  go_wp2_with fail
  refine (none_at H.out).mono ?_
  rintro e w1 ⟨rfl, rfl⟩
  go_wp2_with fail
  go_ret
  exact ⟨rfl, Ext.refl w⟩
set_option maxRecDepth 100000 in
set_option maxHeartbeats 400000 in
theorem same_left (p : Value) (c : Lns) (F : Nat → Prop) (w : World) (h : LinesAt w p c F) : Calls Try.prog 41 #[.pointer none, p] w fun e w' => e = .returned (.bool false) ∧ Ext w w' := by
  obtain ⟨pa, rfl⟩ : ∃ pa, p = .pointer pa := by obtain ⟨B, _, _, _, rfl, _⟩ := h; exact ⟨_, rfl⟩
  have H := Lib.hid h
  clear h
  go_enter Try.func41, Try.ntmps41
  go_wp2_with fail
  refine (none_nil _).mono ?_
  rintro e w1 ⟨rfl, rfl⟩
  go_wp2_with fail
  refine (none_nil _).mono ?_
  rintro e w1 ⟨rfl, rfl⟩
  go_wp2_with fail
  refine (none_at H.out).mono ?_
  rintro e w1 ⟨rfl, rfl⟩
  go_wp2_with fail
  go_ret
  exact ⟨rfl, Ext.refl w⟩
theorem bits_all : ((List.range 65).all fun n => n == 0 || pow2 n || (bits BinOp.and IntKind.i64 (n : Int) ((n : Int) - 1) != 0)) = true := by kernel_rfl
theorem bits_not (n : Nat) (h0 : 1 ≤ n) (h1 : n ≤ 64) (hp : pow2 n = false) : (bits BinOp.and IntKind.i64 (n : Int) ((n : Int) - 1) != 0) = true := by
  have := List.all_eq_true.1 bits_all n (by simp; omega)
  simp only [hp, Bool.or_false, Bool.or_eq_true, beq_iff_eq] at this
  rcases this with h | h
  · omega
  · exact h
theorem pow2i_nat (n : Nat) : pow2i (n : Int) = pow2 n := by
  unfold pow2i pow2
  rw [Bool.eq_iff_iff]
  simp only [Bool.or_eq_true, beq_iff_eq]
  omega
set_option maxRecDepth 100000 in
set_option maxHeartbeats 400000 in
/-- New, refused. -/
theorem new_bad (s ways : Int) (w : World) (h : right s ways = false) : Calls Try.prog 32 #[.int .i64 s, .int .i64 ways] w fun e w' => e = .returned (.tuple #[.pointer none, .int .i64 2]) ∧ Ext w w' := by
  by_cases h1 : s < 1
  · clear h
    go_enter Try.func32, Try.ntmps32
    go_wp2_with fail
    go_ret2
    exact ⟨rfl, Ext.refl w⟩
  · by_cases h2 : 64 < s
    · clear h
      go_enter Try.func32, Try.ntmps32
      go_wp2_with fail
      go_ret2
      exact ⟨rfl, Ext.refl w⟩
    · obtain ⟨n, rfl⟩ := Int.eq_ofNat_of_zero_le (show 0 ≤ s by omega)
      cases hp : pow2 n with
      | false =>
        have hb := bits_not n (by omega) (by omega) hp
        clear h hp
        go_enter Try.func32, Try.ntmps32
        go_wp2_with fail
        go_ret2
        exact ⟨rfl, Ext.refl w⟩
      | true =>
        have hb := bits_pow2 n hp
        have h' : ways < 1 ∨ 8 < ways := by
          unfold right at h
          rw [pow2i_nat, hp] at h
          simp at h
          omega
        clear h hp
        by_cases h3 : ways < 1
        · go_enter Try.func32, Try.ntmps32
          go_wp2_with fail
          go_ret2
          exact ⟨rfl, Ext.refl w⟩
        · have h4 : 8 < ways := by omega
          go_enter Try.func32, Try.ntmps32
          go_wp2_with fail
          go_ret2
          exact ⟨rfl, Ext.refl w⟩
end Go.Proofs
