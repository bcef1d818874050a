/- Walks: the functions of package lines. -/
import Derived.Test.YtgggokajapoopaaLn
namespace Go.Proofs
open Go.RowKit
@[go_sem ↓] theorem Try.loadVar39 (a : Addr) : loadVar 39 a = loadAgg 39 a := rfl
@[go_sem] theorem Try.loadAgg39 (w : World) (a : Addr) : (loadAgg 39 a).run Try.prog w = aggRes (w.agg? a 18) (loadSlow Try.prog 39 a w) w :=
  run_loadAgg 39 18 Try.isAgg39 Try.sizeOf39 w a
@[go_sem ↓] theorem Try.storeVar39 (a : Addr) (v : Value) : storeVar 39 a v = storeAgg 39 a v := rfl
@[go_sem] theorem Try.storeAgg39 (w : World) (a : Addr) (cs : Array Value) : (storeAgg 39 a (.agg cs)).run Try.prog w = storeRes ((w.agg? a 18).isSome && w.loose a.block && okCells 18 cs) (.ok () (w.putAgg a cs)) (storeSlow Try.prog 39 a (.agg cs) w) :=
  run_storeAgg 39 18 Try.sizeOf39 w a cs
set_option maxHeartbeats 400000 in
theorem none_nil (w : World) :
    Calls Try.prog 87 #[.pointer none] w fun e w' => e = .returned (.bool true) ∧ w = w' := by
  go_enter Try.func87, Try.ntmps87
  go_wp2
  go_ret
  exact ⟨rfl, rfl⟩
set_option maxHeartbeats 400000 in
theorem none_some (b : Nat) (ways : Int) (w : World) (h0 : w.cell? ⟨b, 1, none⟩ = some (.int .i64 ways)) :
    Calls Try.prog 87 #[.pointer (some ⟨b, 0, none⟩)] w fun e w' => e = .returned (.bool (ways == 0)) ∧ w = w' := by
  go_enter Try.func87, Try.ntmps87
  go_wp2
  go_ret
  exact ⟨rfl, rfl⟩
set_option maxHeartbeats 400000 in
/-- The closure that tells whether a line has a number. -/
theorem has_num (l : Ln) (B : Nat) (n : Int) (w : World) (hB : B < w.heap.size) (hb : w.cell? ⟨B, 0, none⟩ = some (.int .u32 n)) :
    Calls Try.prog 139 #[.agg l.cells, .pointer (some ⟨B, 0, none⟩)] w fun e w' => e = .returned (.bool (l.num == n)) ∧ Ext w w' := by
  go_enter Try.func139, Try.ntmps139
  go_wp2
  go_ret
  exact ⟨rfl, (Below.refl _ _).alloc (Nat.le_refl _) _⟩
theorem idxOf_stop (n : Int) (L : List Ln) (k : Nat) (x : Ln) (hx : L[k]? = some x) (h : x.num = n) (hp : ∀ i y, i < k → L[i]? = some y → y.num ≠ n) : idxOf n L = k := by
  unfold idxOf
  have : L.findIdx? (·.num == n) = some k := by
    rw [List.findIdx?_eq_some_iff_getElem]
    have hk := (List.getElem?_eq_some_iff.1 hx)
    obtain ⟨hk, he⟩ := hk
    refine ⟨hk, by simp [he, h], fun j hj => ?_⟩
    have := hp j L[j] hj (by simp)
    simpa using this
  rw [this]
theorem idxOf_none (n : Int) (L : List Ln) (hp : ∀ i y, i < L.length → L[i]? = some y → y.num ≠ n) : idxOf n L = -1 := by
  unfold idxOf
  have : L.findIdx? (·.num == n) = none := by
    rw [List.findIdx?_eq_none_iff]
    intro x hx
    obtain ⟨i, hi, rfl⟩ := List.getElem_of_mem hx
    simpa using hp i _ hi (by simp)
  rw [this]
set_option maxHeartbeats 400000 in
/-- slices.IndexFunc over lines, asked by the closure of 'of'. -/
theorem index_func (L : List Ln) (a : Option Addr) (cap : Nat) (B : Nat) (n : Int) (w : World) (hB : B < w.heap.size) (hb : w.cell? ⟨B, 0, none⟩ = some (.int .u32 n))
    (hL : Row 18 Ln.cells w a L) (hlen : L.length ≤ 1000) :
    Calls Try.prog 138 #[.slice a L.length cap, .func (.func 139) #[] #[.pointer (some ⟨B, 0, none⟩)]] w fun e w' => e = .returned (.int .i64 (idxOf n L)) ∧ Ext w w' := by
  go_enter Try.func138, Try.ntmps138
  go_wp2
  go_loopw [5, 8] (fun _ i wr => ∃ k : Nat, k ≤ L.length ∧ i = .int .i64 k ∧ (∀ i y, i < k → L[i]? = some y → y.num ≠ n) ∧ Ext w wr) (fun _ i _ => L.length - (intOf i).toNat)
  case atStart => exact ⟨0, Nat.zero_le _, rfl, fun i y h => absurd h (Nat.not_lt_zero _), Below.refl _ _⟩
  case round =>
    obtain ⟨k, hk, rfl, hp, hE⟩ := hrel
    by_cases hlt : k < L.length
    · obtain ⟨x, hx⟩ : ∃ x, L[k]? = some x := ⟨L[k], by simp [hlt]⟩
      obtain ⟨b, off, rfl, hg⟩ := (hL.ext hE) k x hx
      have hb' : wr.cell? ⟨B, 0, none⟩ = some (.int .u32 n) := (hE.cell hB).trans hb
      have hB' : B < wr.heap.size := Nat.lt_of_lt_of_le hB hE.size
      by_cases hq : x.num = n
      · have HC : Hid (idxOf n L = k) := idxOf_stop n L k x hx hq hp
        have hq' : (x.num == n) = true := by simp [hq]
        clear hp hq hx hL
        go_wp2_with (go_at_call 139; refine (has_num x B n _ hB' hb').mono ?_; rintro e w1 ⟨rfl, hE1⟩)
        go_ret
        exact ⟨ret_int HC.out.symm, hE.trans hE1⟩
      · have hq' : (x.num == n) = false := by simp [hq]
        have HP : Hid (∀ i y, i < k + 1 → L[i]? = some y → y.num ≠ n) := fun i y hi hy => by
          rcases Nat.lt_succ_iff_lt_or_eq.1 hi with h | rfl
          · exact hp i y h hy
          · rw [hx] at hy; cases hy; exact hq
        clear hp hq hx hL
        go_wp2_with (go_at_call 139; refine (has_num x B n _ hB' hb').mono ?_; rintro e w1 ⟨rfl, hE1⟩)
        go_roundw
        case rel => exact ⟨k + 1, by omega, by go_num, HP.out, hE.trans hE1⟩
        case measure => simp [intOf]; omega
    · have HC : Hid (idxOf n L = -1) := idxOf_none n L (fun i y hi => hp i y (by omega))
      clear hp hL
      go_wp2_with fail
      go_ret
      exact ⟨ret_int HC.out.symm, hE⟩
end Go.Proofs
