/- Walks: the functions of package lines. -/
import Derived.Test.YtgggokajapoopaaL2
import Derived.Test.YtgggokajapoopaaObj
namespace Go.Proofs
open Go.RowKit
theorem Try.info26 : (Try.prog.info? 26).map (fun i => (i.zero, i.size, i.bytes)) = some (some (.slice none 0 0), 1, 24) := by kernel_rfl
def pow2 (n : Nat) : Bool := n == 1 || n == 2 || n == 4 || n == 8 || n == 16 || n == 32 || n == 64
theorem bits_pow2 (n : Nat) (h : pow2 n = true) : bits BinOp.and IntKind.i64 (n : Int) ((n : Int) - 1) = 0 := by
  simp only [pow2, Bool.or_eq_true, beq_iff_eq] at h
  rcases h with (((((rfl | rfl) | rfl) | rfl) | rfl) | rfl) | rfl <;> kernel_rfl
/-- n nil slices. -/
def nils (n : Nat) : Array Value := Array.replicate n (.slice none 0 0)
theorem madeCells_nils (n : Nat) : madeCells (Value.slice none 0 0).cells (n * 1) = nils n := by
  apply Array.ext
  · simp [madeCells, nils]
  · intro i h1 h2
    simp [madeCells, nils, Value.cells, Nat.mod_one]
theorem run_make170 (w : World) (n : Nat) (hn : n ≤ 64) : (Instr.makeSlice 170 (.int .i64 n) (.int .i64 n)).run Try.prog w = .ok (.slice (some ⟨w.heap.size, 0, none⟩) n n) (w.alloc (.cells (nils n) 26)) := by
  obtain ⟨i0, hi, hz0, hz1, hz2⟩ := info_parts Try.info26
  have := run_make (P := Try.prog) w 170 26 i0 (.slice none 0 0) Try.underlying170 hi hz0 .i64 .i64 n n (by omega) (by omega) (by rw [hz2]; omega) (by omega)
  rw [this, hz1]
  simp only [Int.toNat_natCast, madeCells_nils]
set_option maxRecDepth 100000 in
set_option maxHeartbeats 400000 in
theorem new_any (n ways : Nat) (w : World) (h1 : pow2 n = true) (h3 : 1 ≤ ways) (h4 : ways ≤ 8) :
    Calls Try.prog 32 #[.int .i64 n, .int .i64 ways] w fun e w' => ∃ p, e = .returned (.tuple #[p, .int .i64 0]) ∧ Ext w w' ∧ ∃ F, LinesAt w' p ⟨ways, List.replicate n []⟩ F ∧ ∀ b, F b → w.heap.size ≤ b := by
  have hb := bits_pow2 n h1
  have hn : 1 ≤ n ∧ n ≤ 64 := by simp only [pow2, Bool.or_eq_true, beq_iff_eq] at h1; omega
  obtain ⟨hn1, hn2⟩ := hn
  have hmk := fun w => run_make170 w n hn2
  clear h1
  go_enter Try.func32, Try.ntmps32
  go_wp2_with fail
  go_ret2
  refine ⟨_, rfl, ((Ext.refl w).alloc _).alloc _, _, ⟨w.heap.size + 1, w.heap.size, nils n, fun _ => none, rfl, ?_, fun b => Iff.rfl⟩, ?_⟩
  · refine ⟨⟨by simpa using hn1, by simpa using hn2, h3, h4, ?_⟩, ?_, ?_, by simp [nils], ?_, by omega, by simp, by simp⟩
    · intro L hL
      obtain ⟨_, rfl⟩ := List.mem_replicate.1 hL
      simp
    · rw [heap_alloc2_new]
      simp
    · rw [heap_alloc2_old]
    · intro i L hi
      rw [List.getElem?_replicate] at hi
      split at hi
      · rename_i hin
        cases hi
        exact ⟨.slice none 0 0, by simp [nils, hin], .inl ⟨rfl, rfl, none, rfl⟩⟩
      · cases hi
  · rintro b (rfl | rfl | ⟨i, hi⟩)
    · omega
    · omega
    · cases hi
end Go.Proofs
