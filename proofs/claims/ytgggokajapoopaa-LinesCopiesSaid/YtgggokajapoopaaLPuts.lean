/- The law LinesPuts, walked. -/
import Derived.Test.YtgggokajapoopaaPr
namespace Go.Proofs
open Go.RowKit
set_option maxRecDepth 100000 in
set_option maxHeartbeats 2000000 in
theorem lawPuts (s ways : Int) (M : List Ln) (a : Option Addr) (cap : Nat) (w : World) (hM : Row 18 Ln.cells w a M) :
    Calls Try.prog 5 #[.int .i64 s, .int .i64 ways, .slice a M.length cap] w fun e w' => e = .returned (.bool true) ∧ Ext w w' := by
  by_cases hg : right s ways = true ∧ M.length ≤ 100
  · obtain ⟨hr, hl⟩ := hg
    have hl' : decide ((100 : Int) < (M.length : Int)) = false := by simp; omega
    obtain ⟨n, k', rfl, rfl, hn, hk1, hk8⟩ := right_split hr
    have hn' : 1 ≤ n ∧ n ≤ 64 := by simp only [pow2, Bool.or_eq_true, beq_iff_eq] at hn; omega
    go_enter Try.func5, Try.ntmps5
    go_wp2_with (go_at_call 24; refine (right_is _ _ _ hr _).mono ?_; rintro e w' ⟨rfl, rfl⟩)
    refine (new_any n k' _ hn hk1 hk8).mono ?_
    rintro e w1 ⟨p, rfl, hE1, F1, h1, hF1⟩
    obtain ⟨pa, rfl⟩ : ∃ pa, p = .pointer pa := by obtain ⟨B, _, _, _, rfl, _⟩ := h1; exact ⟨_, rfl⟩
    go_wp2_with fail
    go_loopw [10] (fun i wr => ∃ k : Nat, k ≤ M.length ∧ i = .int .i64 k ∧ PrInv w (.pointer pa) w1.heap.size n k' wr) (fun i _ => M.length - (intOf i).toNat)
    case atStart => exact ⟨0, Nat.zero_le _, rfl, prInv_start _ w1 (.pointer pa) n k' F1 hn' ⟨hk1, hk8⟩ hE1 h1 hF1⟩
    case round =>
      obtain ⟨k, hk, rfl, hI⟩ := hrel
      obtain ⟨c, ⟨rs, rw', L⟩, F, o, vs, hp, hr', hrs, hrw⟩ := hI
      dsimp only at hrs hrw
      subst hrs hrw
      obtain ⟨xb0, xb1, xb2, xf0, xf1, xf2, xlt⟩ := hp.box.facts
      have hsh : L.length ≤ 512 := hr'.short
      by_cases hlt : k < M.length
      · obtain ⟨x, hx⟩ : ∃ x, M[k]? = some x := ⟨M[k], by simp [hlt]⟩
        obtain ⟨b, off, rfl, hg⟩ := (hM.ext hp.ext) k x hx
        obtain ⟨_, _, e0, hg0⟩ := hM k x hx
        cases e0
        have hbB : b ≠ w1.heap.size := Nat.ne_of_lt (Nat.lt_of_lt_of_le (World.agg?_lt hg0) hE1.size)
        clear hg0
        have hbl : b < wr.heap.size := World.agg?_lt hg
        have hki : (k : Int) < (M.length : Int) := by omega
        obtain ⟨⟨hn0, hn1'⟩, -⟩ := x.ok
        have HM := Lib.hid hM
        have HP := Lib.hid hp
        have HQ := Lib.hid hr'
        obtain ⟨a2, c2, rfl, hrow2⟩ := hp.set.row Ln.okCells
        clear hx hM hp hr' hrow2
        go_wp2_with fail
        go_region_with (go_at_call 33; refine (rput_any _ ⟨n, k', L⟩ o x _ ⟨_, rfl, HP.out.set.ext (by first | exact (Ext.refl wr).drew | exact ((Ext.refl wr).alloc _).drew)⟩ ⟨by dsimp only; omega, by dsimp only; omega⟩ (show L.length ≤ 1000 by omega)).mono ?_; rintro e w3 ⟨v3, o3, rfl, ⟨vs3, rfl, hs3⟩, hE3, ho3⟩; obtain ⟨a4, c4, rfl, -⟩ := hs3.row Ln.okCells; simp only [Rf.put_sets, Rf.put_ways]; obtain ⟨q1, q2, q3, q5, q4⟩ := hE3.rules)
        all_goals
          have hE9 : Ext wr w3 := by first | exact (Ext.refl wr).drew.trans hE3 | exact ((Ext.refl wr).alloc _).drew.trans hE3
          obtain ⟨yb0, yb1, yb2, yf0, yf1, yf2, ylt⟩ := (HP.out.keep hE9).box.facts
          have hE9s := hE9.size
          have hbl9 : b < w3.heap.size := Nat.lt_of_lt_of_le hbl hE9s
          have hg9 : w3.agg? ⟨b, off + k * 18, none⟩ 18 = some x.cells := (hE9.agg hbl).trans hg
          have hbW : b ≠ wr.heap.size := Nat.ne_of_lt hbl
          have hne1 : w3.heap.size ≠ w1.heap.size := Ne.symm (Nat.ne_of_lt ylt)
          have hne2 : wr.heap.size ≠ w1.heap.size := Ne.symm (Nat.ne_of_lt xlt)
          try have ya0 : w3.cell? ⟨wr.heap.size, 0, none⟩ = some (.int .i64 0) := by rw [q1 _ _ (by simp)]; simp [go_sem]
          try have ya1 : w3.cell? ⟨wr.heap.size, 1, none⟩ = some (.int .i64 0) := by rw [q1 _ _ (by simp)]; simp [go_sem]
          try have ya2 : w3.cell? ⟨wr.heap.size, 2, none⟩ = some (.slice none 0 0) := by rw [q1 _ _ (by simp)]; simp [go_sem]
          try have hyl : wr.heap.size < w3.heap.size := by have := hE3.size; simp at this; omega
          have H3 := Lib.hid hE3
          have HS3 := Lib.hid hs3
          have HO3 := Lib.hid ho3
          clear q1 q2 q3 q5 q4 hE3 hs3 ho3 hE9 xb0 xb1 xb2 xf0 xf1 xf2
          go_wp2_with fail
          refine (put_pr (w := w) (B := w1.heap.size) (c := c) (r := ⟨n, k', L⟩) (F := F) (o := o3) (vs := .slice a4 ((⟨n, k', L⟩ : Rf).put x).1.L.length c4) ?_ HQ.out rfl rfl).mono ?_
          · first | exact Pr.ref1 HP.out H3.out HS3.out HO3.out (Rf.put_sets _ _) (Rf.put_ways _ _) _ | exact Pr.ref2 HP.out H3.out HS3.out HO3.out (Rf.put_sets _ _) (Rf.put_ways _ _) _ _ _
          rintro e w6 ⟨rfl, hI⟩
          go_wp2_with (go_at_call 34; refine (num_is _ _).mono ?_; rintro e w' ⟨rfl, rfl⟩)
          go_roundw
          case rel => exact ⟨k + 1, by omega, by go_num, hI⟩
          case measure => simp [intOf]; omega
      · have hkk : k = M.length := by omega
        subst hkk
        have HP := Lib.hid hp
        have HQ := Lib.hid hr'
        obtain ⟨a2, c2, rfl, -⟩ := hp.set.row Ln.okCells
        clear hp hr'
        go_wp2_with (go_at_call 34; refine (num_is _ _).mono ?_; rintro e w' ⟨rfl, rfl⟩)
        refine (is_any _ c F _ ⟨n, k', L⟩ o _ HP.out.at_ ⟨_, rfl, HP.out.set⟩ HQ.out).mono ?_
        rintro e w6 ⟨rfl, hE6⟩
        go_wp2_with fail
        refine (works_any _).mono ?_
        rintro e w7 ⟨rfl, hE7⟩
        go_wp2_with fail
        go_ret
        exact ⟨rfl, (HP.out.ext.trans hE6).trans hE7⟩
  · have hg' : right s ways = false ∨ right s ways = true ∧ 100 < M.length := by
      cases hr : right s ways
      · exact .inl rfl
      · exact .inr ⟨rfl, by simp [hr] at hg; omega⟩
    clear hM hg
    rcases hg' with hr | ⟨hr, hl⟩
    · go_enter Try.func5, Try.ntmps5
      go_wp2_with (go_at_call 24; refine (right_is _ _ _ hr _).mono ?_; rintro e w' ⟨rfl, rfl⟩)
      refine (works_any _).mono ?_
      rintro e w3 ⟨rfl, hE3⟩
      go_wp2_with fail
      go_ret
      exact ⟨rfl, hE3⟩
    · have hl' : decide ((100 : Int) < (M.length : Int)) = true := by simp; omega
      go_enter Try.func5, Try.ntmps5
      go_wp2_with (go_at_call 24; refine (right_is _ _ _ hr _).mono ?_; rintro e w' ⟨rfl, rfl⟩)
      refine (works_any _).mono ?_
      rintro e w3 ⟨rfl, hE3⟩
      go_wp2_with fail
      go_ret
      exact ⟨rfl, hE3⟩
end Go.Proofs
