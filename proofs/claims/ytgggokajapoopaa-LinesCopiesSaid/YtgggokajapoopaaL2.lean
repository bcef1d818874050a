/- Walks: the functions of package lines. -/
import Derived.Test.YtgggokajapoopaaL1
namespace Go.Proofs
open Go.RowKit
theorem wrap_u32_of {k : Int} (h0 : 0 ≤ k) (h1 : k < 4294967296) : IntKind.u32.wrap k = k := by
  simp [IntKind.wrap, IntKind.bits, IntKind.signed]
  omega
set_option maxHeartbeats 400000 in
theorem of_any (B S k : Nat) (n : Int) (a : Option Addr) (cap : Nat) (L : List Ln) (w : World) 
   (h0 : w.cell? ⟨B, 0, none⟩ = some (.slice (some ⟨S, 0, none⟩) k k)) (hk : 1 ≤ k) (hk' : k ≤ 64) (hn : 0 ≤ n) (hn' : n < 4294967296) 
   (h1 : w.cell? ⟨S, (n % k).toNat, none⟩ = some (.slice a L.length cap)) (hL : Row 18 Ln.cells w a L) (hlen : L.length ≤ 1000) :
    Calls Try.prog 88 #[.pointer (some ⟨B, 0, none⟩), .int .u32 n] w fun e w' => e = .returned (.tuple #[.pointer (some ⟨S, (n % k).toNat, none⟩), .int .i64 (idxOf n L)]) ∧ Ext w w' := by
  have hb : B < w.heap.size := World.block_lt_of_cell? w _ h0
  have hs : S < w.heap.size := World.block_lt_of_cell? w _ h1
  have hw : IntKind.u32.wrap (k : Int) = k := wrap_u32_of (by omega) (by omega)
  have hm0 : (0 : Int) ≤ n % k := Int.emod_nonneg _ (by omega)
  have hm1 : n % (k : Int) < k := Int.emod_lt_of_pos _ (by omega)
  go_enter Try.func88, Try.ntmps88
  go_wp2_with fail
  go_quiet (fail)
  go_wp2_with fail
  refine (index_func L a cap w.heap.size n _ (by simp) (by simp [go_sem]) (hL.ext (((Ext.refl w).alloc _).drewN nq)) hlen).mono ?_
  rintro e w1 ⟨rfl, hE1⟩
  go_wp2_with fail
  go_ret2
  exact ⟨rfl, (((Ext.refl w).alloc _).drewN nq).trans hE1⟩
end Go.Proofs
