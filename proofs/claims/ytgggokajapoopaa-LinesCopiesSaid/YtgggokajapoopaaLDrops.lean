/- The law LinesDrops, walked. -/
import Derived.Test.YtgggokajapoopaaLPuts
namespace Go
theorem drop_twice (r : Rf) (n : Int) : (r.drop n).drop n = r.drop n := by
  unfold Rf.drop
  simp only [List.filter_filter, Bool.and_self]
theorem drop_gone (r : Rf) (n : Int) : decide (0 ≤ idxOf n (r.drop n).L) = false := by
  rcases idxOf_cases n (r.drop n).L with ⟨i, x, -, hx, hn, -⟩ | ⟨h, -⟩
  · have := List.mem_of_getElem? hx
    unfold Rf.drop at this
    simp only [List.mem_filter, bne_iff_ne, ne_eq] at this
    exact absurd hn this.2
  · rw [h]; rfl
end Go
namespace Go.Proofs
open Go.RowKit
theorem Pr.ref0 {w wr w3 : World} {pa : Value} {B : Nat} {c : Lns} {r r' : Rf} {F : Nat → Prop} {o o' : Option Nat} {vs vs' : Value} (h : Pr w wr pa B c r F o vs) (hE : Ext wr.drew w3) (hv : SetAt w3 vs' r'.L o') (ho : o' = o ∨ ∀ g, o' = some g → wr.drew.heap.size ≤ g)
    {n ways : Int} (h1 : r'.sets = n) (h2 : r'.ways = ways) : Pr w (((w3.setCell ⟨B, 0, none⟩ (.int .i64 n)).setCell ⟨B, 1, none⟩ (.int .i64 ways)).setCell ⟨B, 2, none⟩ vs') pa B c r' F o' vs' := by
  subst h1 h2
  exact h.ref ((Ext.refl wr).drew.trans hE) hv ho
/-- Drop, beside the document's value, which stays. -/
theorem drop_pr {w W : World} {pa : Value} {B : Nat} {c : Lns} {r : Rf} {F : Nat → Prop} {o : Option Nat} {vs : Value} {n : Int} (h : Pr w W pa B c r F o vs) (h0 : 0 ≤ n) (h1 : n < 4294967296) :
    Calls Try.prog 36 #[pa, .int .u32 n] W fun e w' => e = .returned (.bool (c.drop n).2) ∧ ∃ F', Pr w w' pa B (c.drop n).1 r F' o vs := by
  refine (drop_any pa c F n W h.at_ h0 h1).mono ?_
  rintro e w6 ⟨rfl, F6, h6, hC6, hS6⟩
  exact ⟨rfl, F6, h.chg hC6 hS6 h6⟩
set_option maxRecDepth 100000 in
set_option maxHeartbeats 2000000 in
theorem lawDrops (M : List Ln) (a : Option Addr) (cap : Nat) (num : Int) (w : World) (hM : Row 18 Ln.cells w a M) (hu0 : 0 ≤ num) (hu1 : num < 4294967296) :
    Calls Try.prog 6 #[.slice a M.length cap, .int .u32 num] w fun e w' => e = .returned (.bool true) ∧ Ext w w' := by
  by_cases hl : M.length ≤ 8
  · have hl' : decide ((8 : Int) < (M.length : Int)) = false := by simp; omega
    go_enter Try.func6, Try.ntmps6
    go_wp2_with fail
    refine (new_any 1 8 _ rfl (by decide) (by decide)).mono ?_
    rintro e w1 ⟨p, rfl, hE1, F1, h1, hF1⟩
    obtain ⟨pa, rfl⟩ : ∃ pa, p = .pointer pa := by obtain ⟨B, _, _, _, rfl, _⟩ := h1; exact ⟨_, rfl⟩
    go_wp2_with fail
    go_loopw [8] (fun i wr => ∃ k : Nat, k ≤ M.length ∧ i = .int .i64 k ∧ PrInv w (.pointer pa) w1.heap.size 1 8 wr) (fun i _ => M.length - (intOf i).toNat)
    case atStart => exact ⟨0, Nat.zero_le _, rfl, prInv_start _ w1 (.pointer pa) 1 8 F1 (by omega) (by omega) hE1 h1 hF1⟩
    case round =>
      obtain ⟨k, hk, rfl, hI⟩ := hrel
      obtain ⟨c, ⟨rs, rw', L⟩, F, o, vs, hp, hr', hrs, hrw⟩ := hI
      dsimp only at hrs hrw
      subst hrs hrw
      obtain ⟨xb0, xb1, xb2, xf0, xf1, xf2, xlt⟩ := hp.box.facts
      have hsh : L.length ≤ 512 := hr'.short
      by_cases hlt : k < M.length
      · obtain ⟨x, hx⟩ : ∃ x, M[k]? = some x := ⟨M[k], by simp [hlt]⟩
        obtain ⟨b, off, rfl, hg⟩ := (hM.ext hp.ext) k x hx
        obtain ⟨_, _, e0, hg0⟩ := hM k x hx
        cases e0
        have hbB : b ≠ w1.heap.size := Nat.ne_of_lt (Nat.lt_of_lt_of_le (World.agg?_lt hg0) hE1.size)
        clear hg0
        have hbl : b < wr.heap.size := World.agg?_lt hg
        have hki : (k : Int) < (M.length : Int) := by omega
        have HM := Lib.hid hM
        have HP := Lib.hid hp
        have HQ := Lib.hid hr'
        obtain ⟨a2, c2, rfl, -⟩ := hp.set.row Ln.okCells
        clear hx hM hp hr'
        go_wp2_with fail
        go_region_with (go_at_call 33; refine (rput_any _ ⟨1, 8, L⟩ o x _ ⟨_, rfl, HP.out.set.ext (Ext.refl wr).drew⟩ ⟨by dsimp only; omega, by dsimp only; omega⟩ (show L.length ≤ 1000 by omega)).mono ?_; rintro e w3 ⟨v3, o3, rfl, ⟨vs3, rfl, hs3⟩, hE3, ho3⟩; obtain ⟨a4, c4, rfl, -⟩ := hs3.row Ln.okCells; simp only [Rf.put_sets, Rf.put_ways]; obtain ⟨yb0, yb1, yb2, yf0, yf1, yf2, ylt⟩ := (HP.out.keep ((Ext.refl wr).drew.trans hE3)).box.facts)
        all_goals
          have hE9 : Ext wr w3 := (Ext.refl wr).drew.trans hE3
          have hbl9 : b < w3.heap.size := Nat.lt_of_lt_of_le hbl hE9.size
          have hg9 : w3.agg? ⟨b, off + k * 18, none⟩ 18 = some x.cells := (hE9.agg hbl).trans hg
          have H3 := Lib.hid hE3
          have HS3 := Lib.hid hs3
          have HO3 := Lib.hid ho3
          clear hE3 hs3 ho3 hE9 xb0 xb1 xb2 xf0 xf1 xf2
          go_wp2_with fail
          refine (put_pr (w := w) (B := w1.heap.size) (c := c) (r := ⟨1, 8, L⟩) (F := F) (o := o3) (vs := .slice a4 ((⟨1, 8, L⟩ : Rf).put x).1.L.length c4) ?_ HQ.out rfl rfl).mono ?_
          · exact Pr.ref0 HP.out H3.out HS3.out HO3.out (Rf.put_sets _ _) (Rf.put_ways _ _)
          rintro e w6 ⟨rfl, hI⟩
          go_wp2_with fail
          go_roundw
          case rel => exact ⟨k + 1, by omega, by go_num, hI⟩
          case measure => simp [intOf]; omega
      · have hkk : k = M.length := by omega
        subst hkk
        have HP := Lib.hid hp
        have HQ := Lib.hid hr'
        obtain ⟨a2, c2, rfl, hrow⟩ := hp.set.row Ln.okCells
        have HRO := Lib.hid hrow
        clear hp hr' hrow
        go_wp2_with fail
        refine (rfind_any 1 8 L a2 c2 num _ HRO.out (by omega)).mono ?_
        rintro e w2 ⟨rfl, hE2⟩
        have HP2 := Lib.hid (HP.out.keep hE2)
        obtain ⟨hd1, hd2⟩ := HQ.out.drop num
        obtain ⟨hd3, hd4⟩ := hd1.drop num
        rw [drop_twice] at hd3
        rw [drop_gone] at hd4
        have HD3 := Lib.hid hd3
        clear hd1 hd3 xb0 xb1 xb2 xf0 xf1 xf2
        go_wp2_with (go_at_call 34; refine (num_is _ _).mono ?_; rintro e w' ⟨rfl, rfl⟩)
        refine (drop_pr HP2.out hu0 hu1).mono ?_
        rintro e w3 ⟨rfl, F3, hp3⟩
        rw [hd2]
        have HP3 := Lib.hid hp3
        clear hp3
        go_wp2_with fail
        refine (drop_pr HP3.out hu0 hu1).mono ?_
        rintro e w4 ⟨rfl, F4, hp4⟩
        rw [hd4]
        have HP4 := Lib.hid hp4
        obtain ⟨xb0, xb1, xb2, xf0, xf1, xf2, xlt4⟩ := hp4.box.facts
        clear hp4
        go_wp2_with fail
        refine (rdrop_any _ ⟨1, 8, L⟩ o num _ ⟨_, rfl, HP4.out.set⟩ (show L.length ≤ 1000 by omega)).mono ?_
        rintro e w5 ⟨v5, o5, rfl, hv5, hE5, hf5⟩
        go_wp2_with fail
        refine (is_any _ _ F4 _ _ o5 _ (HP4.out.at_.ext hE5) hv5 HD3.out).mono ?_
        rintro e w6 ⟨rfl, hE6⟩
        go_wp2_with fail
        refine (works_any _).mono ?_
        rintro e w7 ⟨rfl, hE7⟩
        go_wp2_with fail
        go_ret
        exact ⟨rfl, ((HP4.out.ext.trans hE5).trans hE6).trans hE7⟩
  · have hl' : decide ((8 : Int) < (M.length : Int)) = true := by simp; omega
    go_enter Try.func6, Try.ntmps6
    go_wp2_with fail
    refine (works_any _).mono ?_
    rintro e w3 ⟨rfl, hE3⟩
    go_wp2_with fail
    go_ret
    exact ⟨rfl, hE3⟩
end Go.Proofs
