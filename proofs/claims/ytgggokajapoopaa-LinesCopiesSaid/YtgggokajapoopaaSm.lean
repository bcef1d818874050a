/- Same: which caches are the same. -/
import Derived.Test.YtgggokajapoopaaNil
import Derived.Deep.RegionHeld3
namespace Go.Proofs
open Go.RowKit
set_option maxRecDepth 100000 in
set_option maxHeartbeats 400000 in
/-- slices.Equal over lines. -/
theorem equal_any (L M : List Ln) (a b : Option Addr) (ca cb : Nat) (w : World) (hL : Row 18 Ln.cells w a L) (hM : Row 18 Ln.cells w b M) (hl : L.length ≤ 1000) :
    Calls Try.prog 140 #[.slice a L.length ca, .slice b M.length cb] w fun e w' => e = .returned (.bool (decide (L = M))) ∧ Ext w w' := by
  by_cases hlm : L.length = M.length
  · have hlm' : ((L.length : Int) != (M.length : Int)) = false := by simp [hlm]
    go_enter Try.func140, Try.ntmps140
    go_wp2_with fail
    go_loopw [5, 13] (fun _ i wr => ∃ k : Nat, k ≤ L.length ∧ i = .int .i64 k ∧ (∀ j, j < k → L[j]? = M[j]?) ∧ Ext w wr) (fun _ i _ => L.length - (intOf i).toNat)
    case atStart => exact ⟨0, Nat.zero_le _, rfl, fun j h => absurd h (Nat.not_lt_zero _), Below.refl _ _⟩
    case round =>
      obtain ⟨k, hk, rfl, hp, hE⟩ := hrel
      by_cases hlt : k < L.length
      · obtain ⟨x, hx⟩ : ∃ x, L[k]? = some x := ⟨L[k], by simp [hlt]⟩
        obtain ⟨y, hy⟩ : ∃ y, M[k]? = some y := ⟨M[k]'(by omega), by simp⟩
        obtain ⟨bx, ox, rfl, hgx⟩ := (hL.ext hE) k x hx
        obtain ⟨by', oy, rfl, hgy⟩ := (hM.ext hE) k y hy
        have hbx : bx < wr.heap.size := World.agg?_lt hgx
        have hby : by' < wr.heap.size := World.agg?_lt hgy
        have hki : (k : Int) < (L.length : Int) := by omega
        have hki2 : (k : Int) < (M.length : Int) := by omega
        by_cases hq : x = y
        · have hd : decide (x = y) = true := by simp [hq]
          have HP : Hid (∀ j, j < k + 1 → L[j]? = M[j]?) := fun j hj => by
            rcases Nat.lt_succ_iff_lt_or_eq.1 hj with h | rfl
            · exact hp j h
            · rw [hx, hy, hq]
          have HD := Lib.hid hq
          clear hp hx hy hL hM hlm hlm' hq
          go_wp2_with fail
          go_quiet (fail)
          go_wp2_with fail
          go_roundw
          case rel => exact ⟨k + 1, by omega, by go_num, HP.out, hE.drewN _⟩
          case measure => simp [intOf]; omega
        · have hd : decide (x = y) = false := by simp [hq]
          have HD : Hid (decide (L = M) = false) := List.same_stop hx hy hq
          clear hp hx hy hL hM hlm hlm' hq
          go_wp2_with fail
          go_quiet (fail)
          go_wp2_with fail
          go_ret
          exact ⟨ret_bool HD.out.symm, hE.drewN _⟩
      · have HD : Hid (decide (L = M) = true) := List.same_all hlm (fun i hi => hp i (by omega))
        have hlt2 : ¬ k < M.length := by omega
        clear hp hL hM hlm hlm'
        go_wp2_with fail
        go_ret
        exact ⟨ret_bool HD.out.symm, hE⟩
  · have hlm' : ((L.length : Int) != (M.length : Int)) = true := by simp; omega
    have HD : Hid (decide (L = M) = false) := List.same_len hlm
    clear hL hM
    go_enter Try.func140, Try.ntmps140
    go_wp2_with fail
    go_ret
    exact ⟨ret_bool HD.out.symm, Ext.refl w⟩
set_option maxRecDepth 100000 in
set_option maxHeartbeats 400000 in
theorem like_any (L M : List Ln) (a b : Option Addr) (ca cb : Nat) (w : World) (hL : Row 18 Ln.cells w a L) (hM : Row 18 Ln.cells w b M) (hl : L.length ≤ 1000) :
    Calls Try.prog 95 #[.slice a L.length ca, .slice b M.length cb] w fun e w' => e = .returned (.bool (decide (L = M))) ∧ Ext w w' := by
  have H1 := Lib.hid hL
  have H2 := Lib.hid hM
  clear hL hM
  go_enter Try.func95, Try.ntmps95
  go_wp2_with fail
  refine (equal_any L M a b ca cb _ H1.out H2.out hl).mono ?_
  rintro e w1 ⟨rfl, hE⟩
  go_wp2_with fail
  go_ret
  exact ⟨rfl, hE⟩
set_option maxRecDepth 100000 in
set_option maxHeartbeats 800000 in
/-- slices.EqualFunc over the sets of two caches. -/
theorem equalFunc_any (B S : Nat) (vs : Array Value) (os : Nat → Option Nat) (c : Lns) (B' S' : Nat) (vs' : Array Value) (os' : Nat → Option Nat) (d : Lns) (w : World) (hb : LinesBody w B S vs os c) (hb' : LinesBody w B' S' vs' os' d) :
    Calls Try.prog 94 #[.slice (some ⟨S, 0, none⟩) c.sets.length c.sets.length, .slice (some ⟨S', 0, none⟩) d.sets.length d.sets.length, .func (.func 95) #[] #[]] w fun e w' => e = .returned (.bool (decide (c.sets = d.sets))) ∧ Ext w w' := by
  have h64 := hb.ok.s64
  have h64' := hb'.ok.s64
  by_cases hlm : c.sets.length = d.sets.length
  · have hlm' : ((c.sets.length : Int) != (d.sets.length : Int)) = false := by simp [hlm]
    have HB := Lib.hid hb
    have HB' := Lib.hid hb'
    have HLM := Lib.hid hlm
    have hS : S < w.heap.size := hb.lt (.inr (.inl rfl))
    have hS' : S' < w.heap.size := hb'.lt (.inr (.inl rfl))
    clear hb hb'
    go_enter Try.func94, Try.ntmps94
    go_wp2_with fail
    go_loopw [7, 8, 9, 17] (fun _ _ _ i wr => ∃ k : Nat, k ≤ c.sets.length ∧ i = .int .i64 k ∧ (∀ j, j < k → c.sets[j]? = d.sets[j]?) ∧ Ext w wr) (fun _ _ _ i _ => c.sets.length - (intOf i).toNat)
    case atStart => exact ⟨0, Nat.zero_le _, rfl, fun j h => absurd h (Nat.not_lt_zero _), Below.refl _ _⟩
    case round =>
      obtain ⟨k, hk, rfl, hp, hE⟩ := hrel
      by_cases hlt : k < c.sets.length
      · obtain ⟨x, hx⟩ : ∃ x, c.sets[k]? = some x := ⟨c.sets[k], by simp [hlt]⟩
        obtain ⟨y, hy⟩ : ∃ y, d.sets[k]? = some y := ⟨d.sets[k]'(by omega), by simp⟩
        obtain ⟨v, hv, hsv⟩ := HB.out.sets k x hx
        obtain ⟨v', hv', hsv'⟩ := HB'.out.sets k y hy
        obtain ⟨a, cap, rfl, hr⟩ := hsv.row Ln.okCells
        obtain ⟨a', cap', rfl, hr'⟩ := hsv'.row Ln.okCells
        have hSk : wr.cell? ⟨S, k, none⟩ = some (.slice a x.length cap) := by rw [hE.cell hS, cell_of_row w S _ vs 26 (0, 0) HB.out.hS]; exact hv
        have hSk' : wr.cell? ⟨S', k, none⟩ = some (.slice a' y.length cap') := by rw [hE.cell hS', cell_of_row w S' _ vs' 26 (0, 0) HB'.out.hS]; exact hv'
        have hSl : S < wr.heap.size := hE.lt hS
        have hSl' : S' < wr.heap.size := hE.lt hS'
        have hl8 : x.length ≤ 1000 := by have := HB.out.ok.full x (List.mem_of_getElem? hx); have := HB.out.ok.w8; omega
        have hki : (k : Int) < (c.sets.length : Int) := by omega
        have hki2 : (k : Int) < (d.sets.length : Int) := by omega
        have HR := Lib.hid (hr.ext hE)
        have HR' := Lib.hid (hr'.ext hE)
        by_cases hq : x = y
        · have hd : decide (x = y) = true := by simp [hq]
          have HP : Hid (∀ j, j < k + 1 → c.sets[j]? = d.sets[j]?) := fun j hj => by
            rcases Nat.lt_succ_iff_lt_or_eq.1 hj with h | rfl
            · exact hp j h
            · rw [hx, hy, hq]
          have HD := Lib.hid hd
          clear hp hx hy hlm hlm' hq hv hv' hsv hsv' hr hr' hd
          go_wp2_with fail
          refine (like_any x y _ _ _ _ _ HR.out HR'.out hl8).mono ?_
          rintro e w1 ⟨rfl, hE1⟩
          rw [HD.out]
          go_wp2_with fail
          go_roundw
          case rel => exact ⟨k + 1, by omega, by go_num, HP.out, hE.trans hE1⟩
          case measure => simp [intOf]; omega
        · have hd : decide (x = y) = false := by simp [hq]
          have HC : Hid (decide (c.sets = d.sets) = false) := List.same_stop hx hy hq
          have HD := Lib.hid hd
          clear hp hx hy hlm hlm' hq hv hv' hsv hsv' hr hr' hd
          go_wp2_with fail
          refine (like_any x y _ _ _ _ _ HR.out HR'.out hl8).mono ?_
          rintro e w1 ⟨rfl, hE1⟩
          rw [HD.out]
          go_wp2_with fail
          go_ret
          exact ⟨ret_bool HC.out.symm, hE.trans hE1⟩
      · have HD : Hid (decide (c.sets = d.sets) = true) := List.same_all hlm (fun i hi => hp i (by omega))
        have hlt2 : ¬ k < d.sets.length := by omega
        clear hp hlm hlm'
        go_wp2_with fail
        go_ret
        exact ⟨ret_bool HD.out.symm, hE⟩
  · have hlm' : ((c.sets.length : Int) != (d.sets.length : Int)) = true := by simp; omega
    have HD : Hid (decide (c.sets = d.sets) = false) := List.same_len hlm
    clear hb hb' hlm
    go_enter Try.func94, Try.ntmps94
    go_wp2_with fail
    go_ret
    exact ⟨ret_bool HD.out.symm, Ext.refl w⟩
def sameB (c d : Lns) : Bool := ((c.ways : Int) == (d.ways : Int)) && decide (c.sets = d.sets)
set_option maxRecDepth 100000 in
set_option maxHeartbeats 800000 in
/-- Same, of two caches that are there. -/
theorem same_any (p q : Value) (c d : Lns) (F G : Nat → Prop) (w : World) (h : LinesAt w p c F) (h' : LinesAt w q d G) : Calls Try.prog 41 #[p, q] w fun e w' => e = .returned (.bool (sameB c d)) ∧ Ext w w' := by
  obtain ⟨B, S, vs, os, rfl, hb, -⟩ := h
  obtain ⟨B', S', vs', os', rfl, hb', -⟩ := h'
  have HB := Lib.hid hb
  have HB' := Lib.hid hb'
  have c0 : w.cell? ⟨B, 0, none⟩ = some (.slice (some ⟨S, 0, none⟩) c.sets.length c.sets.length) := by rw [cell_of_row w B 0 _ 172 (0, 0) hb.hB]; rfl
  have c1 : w.cell? ⟨B, 1, none⟩ = some (.int .i64 c.ways) := LinesBody.cell1 hb
  have d0 : w.cell? ⟨B', 0, none⟩ = some (.slice (some ⟨S', 0, none⟩) d.sets.length d.sets.length) := by rw [cell_of_row w B' 0 _ 172 (0, 0) hb'.hB]; rfl
  have d1 : w.cell? ⟨B', 1, none⟩ = some (.int .i64 d.ways) := LinesBody.cell1 hb'
  have hBl : B < w.heap.size := hb.lt (.inl rfl)
  have hBl' : B' < w.heap.size := hb'.lt (.inl rfl)
  clear hb hb'
  by_cases hq : c.ways = d.ways
  · have hw : ((c.ways : Int) == (d.ways : Int)) = true := by simp [hq]
    have HS : Hid (sameB c d = decide (c.sets = d.sets)) := by unfold Hid sameB; rw [hw, Bool.true_and]
    clear hq
    go_enter Try.func41, Try.ntmps41
    go_wp2_with fail
    refine (none_body HB.out).mono ?_
    rintro e w1 ⟨rfl, rfl⟩
    go_wp2_with fail
    refine (none_body HB'.out).mono ?_
    rintro e w1 ⟨rfl, rfl⟩
    go_wp2_with fail
    go_region_held3 (fun W => W.cell? ⟨B, 0, none⟩ = some (.slice (some ⟨S, 0, none⟩) c.sets.length c.sets.length) ∧ W.cell? ⟨B, 1, none⟩ = some (.int .i64 c.ways) ∧ W.cell? ⟨B', 0, none⟩ = some (.slice (some ⟨S', 0, none⟩) d.sets.length d.sets.length) ∧ W.cell? ⟨B', 1, none⟩ = some (.int .i64 d.ways))
      ((first | exact ⟨c0, c1, d0, d1⟩ | exact ⟨c0', c1', d0', d1'⟩))
      (first | (go_at_call 94; refine (equalFunc_any B S vs os c B' S' vs' os' d _ (HB.out.ext (Ext.refl w).drew) (HB'.out.ext (Ext.refl w).drew)).mono ?_; rintro e w6 ⟨rfl, hE6⟩; have c0' := (hE6.cell (o := 0) (b := B) hBl).trans c0; have c1' := (hE6.cell (o := 1) (b := B) hBl).trans c1; have d0' := (hE6.cell (o := 0) (b := B') hBl').trans d0; have d1' := (hE6.cell (o := 1) (b := B') hBl').trans d1))
    go_wp2_with fail
    go_ret
    exact ⟨ret_bool HS.out.symm, (Ext.refl w).drew.trans hE6⟩
  · have hw : ((c.ways : Int) == (d.ways : Int)) = false := by simp; omega
    have HS : Hid (sameB c d = false) := by unfold Hid sameB; rw [hw, Bool.false_and]
    clear hq
    go_enter Try.func41, Try.ntmps41
    go_wp2_with fail
    refine (none_body HB.out).mono ?_
    rintro e w1 ⟨rfl, rfl⟩
    go_wp2_with fail
    refine (none_body HB'.out).mono ?_
    rintro e w1 ⟨rfl, rfl⟩
    go_wp2_with fail
    go_quiet (fail)
    go_wp2_with fail
    go_ret
    exact ⟨ret_bool HS.out.symm, (Ext.refl w).drewN _⟩
end Go.Proofs
