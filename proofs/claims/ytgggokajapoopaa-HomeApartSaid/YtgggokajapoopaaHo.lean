/- The home, walked: others, the sharers but one. -/
import Derived.Test.YtgggokajapoopaaHm
namespace Go
open Go.RowKit
def encI (x : Int) : Array Value := #[.int .i64 x]
theorem encI_ok (x : Int) : okCells 1 (encI x) = true := by simp [okCells, encI, Value.oneCell']
def En.share (e : En) : Nat → Bool
  | 0 => e.s0
  | 1 => e.s1
  | 2 => e.s2
  | _ => e.s3
/-- The sharers but r, rising, among the first k. -/
def En.othersTo (e : En) (r : Int) (k : Nat) : List Int := ((List.range k).filter fun (n : Nat) => e.share n && ((n : Int) != r)).map fun (n : Nat) => (n : Int)
def En.others (e : En) (r : Int) : List Int := e.othersTo r 4
theorem En.othersTo_succ (e : En) (r : Int) (k : Nat) : e.othersTo r (k + 1) = if (e.share k && ((k : Int) != r)) = true then e.othersTo r k ++ [(k : Int)] else e.othersTo r k := by
  unfold En.othersTo
  rw [List.range_succ, List.filter_append, List.map_append]
  by_cases h : (e.share k && ((k : Int) != r)) = true
  · rw [if_pos h]; simp [h]
  · rw [if_neg h]; simp [h]
theorem En.othersTo_len (e : En) (r : Int) (k : Nat) : (e.othersTo r k).length ≤ k := by
  unfold En.othersTo
  rw [List.length_map]
  exact Nat.le_trans (List.length_filter_le _ _) (by simp)
/-- Between two rounds: what was taken lies in a slice of its own. -/
def OthInv (w : World) (M : List Int) (v : Value) (wr : World) : Prop :=
  ∃ a n c o, v = .slice a n c ∧ n = M.length ∧ SlAt 3 1 encI wr v M o ∧ (∀ g, o = some g → w.heap.size ≤ g) ∧ Ext w wr
end Go
namespace Go.Proofs
open Go.RowKit
theorem Try.info3 : (Try.prog.info? 3).map (fun i => (i.zero, i.size, i.bytes)) = some (some (.int .i64 0), 1, 8) := by kernel_rfl
theorem ixs0 (e : En) (w : World) : (Instr.index 82 (.agg #[.bool e.s0, .bool e.s1, .bool e.s2, .bool e.s3]) (.int .i64 ((0 : Nat) : Int))).run Try.prog w = .ok (.bool e.s0) w := by kernel_rfl
theorem ixs1 (e : En) (w : World) : (Instr.index 82 (.agg #[.bool e.s0, .bool e.s1, .bool e.s2, .bool e.s3]) (.int .i64 ((1 : Nat) : Int))).run Try.prog w = .ok (.bool e.s1) w := by kernel_rfl
theorem ixs2 (e : En) (w : World) : (Instr.index 82 (.agg #[.bool e.s0, .bool e.s1, .bool e.s2, .bool e.s3]) (.int .i64 ((2 : Nat) : Int))).run Try.prog w = .ok (.bool e.s2) w := by kernel_rfl
theorem ixs3 (e : En) (w : World) : (Instr.index 82 (.agg #[.bool e.s0, .bool e.s1, .bool e.s2, .bool e.s3]) (.int .i64 ((3 : Nat) : Int))).run Try.prog w = .ok (.bool e.s3) w := by kernel_rfl
theorem index_share (e : En) (k : Nat) (hk : k < 4) (w : World) : (Instr.index 82 (.agg #[.bool e.s0, .bool e.s1, .bool e.s2, .bool e.s3]) (.int .i64 (k : Int))).run Try.prog w = .ok (.bool (e.share k)) w := by
  have h : k = 0 ∨ k = 1 ∨ k = 2 ∨ k = 3 := by omega
  rcases h with rfl | rfl | rfl | rfl
  · exact ixs0 e w
  · exact ixs1 e w
  · exact ixs2 e w
  · exact ixs3 e w
variable {w : World} {wb eb hb ib bb : Nat} {k : WkS} {vo vq vm : Value} {ol oq : Option Nat}
set_option maxRecDepth 100000 in
set_option maxHeartbeats 400000 in
theorem others_any (r : Int) (h : WkAt w wb eb hb ib bb k vo vq vm ol oq) : Calls Try.prog 164 #[.pointer (some ⟨wb, 0, none⟩), .int .i64 r] w fun e w' =>
    ∃ v o, e = .returned v ∧ Ext w w' ∧ SlAt 3 1 encI w' v (k.e.others r) o ∧ ∀ g, o = some g → w.heap.size ≤ g := by
  obtain ⟨i0, hi, hz0, hz1, hz2⟩ := info_parts Try.info3
  obtain ⟨f1, -, -, -⟩ := h.facts
  have hag : w.agg? ⟨eb, 1, none⟩ 4 = some #[.bool k.e.s0, .bool k.e.s1, .bool k.e.s2, .bool k.e.s3] := by
    unfold World.agg?
    simp only [h.hE]
    rfl
  clear h
  go_enter Try.func164, Try.ntmps164
  go_wp2_with fail
  go_loopw [5, 6, 7, 15] (fun v _ _ i wr => ∃ j : Nat, j ≤ 4 ∧ i = .int .i64 j ∧ OthInv w (k.e.othersTo r j) v wr) (fun _ _ _ i _ => 4 - (intOf i).toNat)
  case atStart => exact ⟨0, Nat.zero_le _, rfl, none, 0, 0, none, rfl, rfl, (show SlAt 3 1 encI w (.slice none 0 0) ([] : List Int) none from SlAt.nil _ _), by simp, Below.refl _ _⟩
  case round =>
    obtain ⟨j, hj, rfl, a1, n1, c1, o, rfl, hn1, hS, hfr, hE⟩ := hrel
    by_cases hlt : j < 4
    · have hix := fun w => index_share k.e j hlt w
      have hsu := k.e.othersTo_succ r j
      have hle := k.e.othersTo_len r j
      have HSU := Lib.hid hsu
      have HS := Lib.hid hS
      have HN := Lib.hid hn1
      clear hsu hS hn1
      cases hsh : k.e.share j
      · rw [hsh] at hix
        have HC : Hid (k.e.othersTo r (j + 1) = k.e.othersTo r j) := by unfold Hid; rw [HSU.out, hsh]; rfl
        clear hsh
        go_wp2_with fail
        go_roundw
        case rel => exact ⟨j + 1, by omega, by go_num, by rw [HC.out]; exact ⟨a1, n1, c1, o, rfl, HN.out, HS.out, hfr, hE⟩⟩
        case measure => simp [intOf]; omega
      · rw [hsh] at hix
        by_cases hq : (j : Int) = r
        · have HC : Hid (k.e.othersTo r (j + 1) = k.e.othersTo r j) := by unfold Hid; rw [HSU.out, hsh]; simp [hq]
          have hd : ((j : Int) != r) = false := by simp [hq]
          clear hsh hq
          go_wp2_with fail
          go_roundw
          case rel => exact ⟨j + 1, by omega, by go_num, by rw [HC.out]; exact ⟨a1, n1, c1, o, rfl, HN.out, HS.out, hfr, hE⟩⟩
          case measure => simp [intOf]; omega
        · have HC : Hid (k.e.othersTo r (j + 1) = k.e.othersTo r j ++ [(j : Int)]) := by unfold Hid; rw [HSU.out, hsh]; simp [hq]
          have hd : ((j : Int) != r) = true := by simp [hq]
          clear hsh hq
          go_wp2_with (at_builtin; refine wpList_append_sl rfl (.tmp 25) (.tmp 27) 220 rfl i0 _ Try.underlying220 hi hz0 hz1 (by rfl) (by decide) (by rw [hz2]; decide) encI_ok _ _ o (HS.out.ext ((Ext.refl wr).alloc _)) _ _ [(j : Int)] (Row_of_block (cap := 1) encI_ok (heap_alloc_new wr _) (by simp) (by simp) (by simp [flat, encI])) rfl rfl (by simp; omega) ?_; intro v' o' w' k1 k2 k3)
          go_roundw
          case rel =>
            obtain ⟨a', c', e, -⟩ := k1.row encI_ok
            refine ⟨j + 1, by omega, by go_num, ?_⟩
            rw [HC.out]
            refine ⟨a', _, c', o', e, rfl, k1, fun g hg => ?_, ?_⟩
            · rcases k3 with h | ⟨g', h, h'⟩
              · exact hfr g (h ▸ hg)
              · rw [hg] at h; cases h
                have := hE.size
                simp at h'
                omega
            · exact Ext.of_grown (hE.trans ((Ext.refl wr).alloc _)) k2 hfr
          case measure => simp [intOf]; omega
    · have hjj : j = 4 := by omega
      subst hjj
      have HS := Lib.hid hS
      clear hn1 hS
      go_wp2_with fail
      go_ret
      exact ⟨_, o, rfl, hE, HS.out, hfr⟩
end Go.Proofs
