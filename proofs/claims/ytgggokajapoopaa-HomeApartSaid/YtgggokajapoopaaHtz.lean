import Derived.Test.YtgggokajapoopaaHqp
import Derived.Test.YtgggokajapoopaaHf
import Derived.Test.YtgggokajapoopaaHxa
import Derived.Test.YtgggokajapoopaaHxb
import Derived.Test.YtgggokajapoopaaHpa
/- The home, walked: Take, whichever the message. -/
namespace Go.Proofs
open Go.RowKit
/-- What Take leaves, whichever the message. -/
def TakePost (w : World) (p : Value) (hb ib bb mb : Nat) (F : Nat → Prop) (r : Hom × List Ms × Int) (e : Ending) (w' : World) : Prop :=
  ∃ v o F', e = .returned (.tuple #[v, .int .i64 r.2.2]) ∧ SlAt 79 20 Ms.cells w' v r.2.1 o ∧ HomAt w' p r.1 hb ib bb mb F' ∧ (∀ b, F' b → F b ∨ w.heap.size ≤ b) ∧ Chg (fun b => b = bb ∨ b = mb) w w'
variable {F : Nat → Prop} {w : World} {p : Value} {H : Hom} {hb ib bb mb : Nat} {m : Ms}
theorem TakePost.no {no : Int} {e : Ending} {w' : World} (h : HomAt w p H hb ib bb mb F) (he : e = .returned (.tuple #[.slice none 0 0, .int .i64 no]) ∧ Ext w w') : TakePost w p hb ib bb mb F (H, [], no) e w' := by
  obtain ⟨rfl, hE⟩ := he
  exact ⟨_, none, F, rfl, SlAt.nil _ _, h.ext hE, fun b hb => .inl hb, hE.chg _⟩
theorem TakePost.yes {H' : Hom} {out : List Ms} {e : Ending} {w' : World} (h : TookPost w p hb ib bb mb F H' out e w') : TakePost w p hb ib bb mb F (H', out, 0) e w' := h
theorem take_any {n : Nat} (h : HomAt w p H hb ib bb mb F) (m : Ms) (hok : HomOk H n) (hn : n ≤ 200) : Calls Try.prog 48 #[p, .agg m.cells] w (TakePost w p hb ib bb mb F (H.took m)) := by
  unfold Hom.took
  cases hm : m.may with
  | false =>
    rw [if_pos (.inl rfl)]
    exact (take_bad1 w p H hb ib bb mb h m hm).mono fun e w' he => TakePost.no h he
  | true =>
    by_cases ht : m.to = 4
    · rw [if_neg (by simp [ht])]
      by_cases hl : (H.mem.length : Int) ≤ m.line
      · rw [if_pos hl]
        exact (take_range w p H hb ib bb mb h m hm ht hl).mono fun e w' he => TakePost.no h he
      · rw [if_neg hl]
        obtain ⟨x, hx⟩ : ∃ x : Nat, m.line = (x : Int) := ⟨m.line.toNat, by have := m.ok; omega⟩
        have hxx : m.line.toNat = x := by omega
        rw [hxx]
        obtain ⟨hk, hr⟩ := may_in hm ht
        have hE : EnOk (WkS.of H x).e (x : Int) := hok.ok x
        have hq : (WkS.of H x).e.q.length ≤ 200 := Nat.le_trans (hok.q x) hn
        have hq9 : (H.get x).q.length ≤ 900 := Nat.le_trans hq (by decide)
        have ho : (WkS.of H x).out = [] := rfl
        have hT : ∀ k', (WkS.of H x).took m = some k' → k'.line = x := fun k' hk' => (Took.any hE hm ht hx hk').line
        unfold WkS.took at hT ⊢
        have ask : m.kind ≤ 3 → m.asking := fun h => ⟨by omega, hr⟩
        rcases hk with hk | hk | hk | hk | hk | hk
        · rw [if_pos (by omega)] at hT ⊢
          exact (take_k1 w p H hb ib bb mb h m hm ht hl hk x hx hq9 _ (hT _ rfl) fun W wb eb vq oq os h1 h2 h3 => request_any m h1 h2 h3 hq9 (by rw [ho]; simp) (ask (by omega))).mono fun e w' he => TakePost.yes he
        · rw [if_pos (by omega)] at hT ⊢
          exact (take_k2 w p H hb ib bb mb h m hm ht hl hk x hx hq9 _ (hT _ rfl) fun W wb eb vq oq os h1 h2 h3 => request_any m h1 h2 h3 hq9 (by rw [ho]; simp) (ask (by omega))).mono fun e w' he => TakePost.yes he
        · rw [if_pos (by omega)] at hT ⊢
          exact (take_k3 w p H hb ib bb mb h m hm ht hl hk x hx hq9 _ (hT _ rfl) fun W wb eb vq oq os h1 h2 h3 => request_any m h1 h2 h3 hq9 (by rw [ho]; simp) (ask (by omega))).mono fun e w' he => TakePost.yes he
        · rw [if_neg (by omega), if_pos hk] at hT ⊢
          cases hb' : (WkS.of H x).e.mayBack m with
          | true =>
            rw [hb'] at hT
            exact (take_k11 w p H hb ib bb mb h m hm ht hl hk x hx hq9 _ (hT _ rfl) fun W wb eb vq oq os h1 h2 h3 => (back_any m h1 (by rw [ho]; simp) hE.w hr hb').mono fun e w' he => ⟨he.1, he.2.T os⟩).mono fun e w' he => TakePost.yes he
          | false => exact (take_p11 w p H hb ib bb mb h m hm ht hl hk x hx hq9 fun W wb eb vq oq h1 => back_no m h1 hb').mono fun e w' he => TakePost.no h he
        · rw [if_neg (by omega), if_neg (by omega), if_pos hk] at hT ⊢
          cases hb' : (WkS.of H x).e.mayAck m with
          | true =>
            rw [hb'] at hT
            exact (take_k12 w p H hb ib bb mb h m hm ht hl hk x hx hq9 _ (hT _ rfl) fun W wb eb vq oq os h1 h2 h3 => (ack_any m h1 (by rw [ho]; simp) hE.w hr hb').mono fun e w' he => ⟨he.1, he.2.T os⟩).mono fun e w' he => TakePost.yes he
          | false => exact (take_p12 w p H hb ib bb mb h m hm ht hl hk x hx hq9 fun W wb eb vq oq h1 => ack_no m h1 hr hb').mono fun e w' he => TakePost.no h he
        · rw [if_neg (by omega), if_neg (by omega), if_neg (by omega)] at hT ⊢
          cases hb' : (WkS.of H x).e.mayDone m with
          | true =>
            rw [hb'] at hT
            exact (take_k13 w p H hb ib bb mb h m hm ht hl hk x hx hq9 _ (hT _ rfl) fun W wb eb vq oq os h1 h2 h3 => (done_any m h1 hE.w (by rw [ho]; simp; omega) hb').mono fun e w' he => ⟨he.1, he.2.T os⟩).mono fun e w' he => TakePost.yes he
          | false => exact (take_p13 w p H hb ib bb mb h m hm ht hl hk x hx hq9 fun W wb eb vq oq h1 => done_no m h1 hb').mono fun e w' he => TakePost.no h he
    · rw [if_pos (.inr ht)]
      exact (take_bad2 w p H hb ib bb mb h m hm ht).mono fun e w' he => TakePost.no h he
end Go.Proofs
/- The law's own: known. -/
namespace Go.Proofs
open Go.RowKit
def askedMs : Ms := ⟨1, 2, 4, 1, B16.zero, by omega⟩
theorem asked_took : ∃ H' M, (Hom.new (List.replicate (32 / 16) B16.zero)).took askedMs = (H', [M], 0) ∧ M.kind = 9 ∧ M.to = 2 ∧ H'.mem.length = 2 := ⟨_, _, rfl, rfl, rfl, rfl⟩
set_option maxRecDepth 100000 in
set_option maxHeartbeats 1000000 in
theorem known_any (w : World) : Calls Try.prog 47 #[] w fun e w' => e = .returned (.bool true) ∧ Ext w w' := by
  obtain ⟨H', M, hM, hM1, hM2, hM3⟩ := asked_took
  have hcs : #[Value.int .i64 1, .int .i64 2, .int .i64 4, .int .u32 1, .int .u8 0, .int .u8 0, .int .u8 0, .int .u8 0, .int .u8 0, .int .u8 0, .int .u8 0, .int .u8 0, .int .u8 0, .int .u8 0, .int .u8 0, .int .u8 0, .int .u8 0, .int .u8 0, .int .u8 0, .int .u8 0] = askedMs.cells := rfl
  have HM := Lib.hid hM
  have HM3 := Lib.hid hM3
  clear hM hM3
  go_enter Try.func47, Try.ntmps47
  go_wp2_with (first
    | (go_at_call 59; refine (imgNew_any 32 _ rfl).mono ?_; rintro e w1 ⟨ib, bb, rfl, hE1, hi1, -, -⟩; have HE1 := Lib.hid hE1; have HI1 := Lib.hid hi1; clear hE1 hi1)
    | (go_at_call 58; refine (hnew_any _ _ _ _ _ HI1.out).mono ?_; rintro e w2 ⟨hb, ib2, bb2, mb, rfl, hE2, hh2, l1, l2, l3, l4⟩; have HE2 := Lib.hid (HE1.out.trans hE2); have HH2 := Lib.hid hh2; have hs1 := HE1.out.size; clear hE2 hh2)
    | (go_at_call 48; refine (take_any HH2.out askedMs (HomOk.new (by simp)) (by decide)).mono ?_; rw [HM.out]; rintro e w3 ⟨v3, o3, F3, rfl, hs3, hh3, -, hc3⟩; obtain ⟨a3, c3, rfl, hr3⟩ := hs3.row Ms.okCells; obtain ⟨b3, off3, rfl, hg3⟩ := hr3 0 M rfl; simp only [Nat.zero_mul, Nat.add_zero] at hg3; obtain ⟨q1, q2, q3, q4, q5⟩ := Ms.sub hg3; rw [hM1] at q1; rw [hM2] at q3; have HH3 := Lib.hid hh3; have HC3 := Lib.hid hc3; clear hs3 hr3 hg3 hh3 hc3)
    | (go_at_call 46; refine (hlines_any _ _ _ _ _ _ _ HH3.out).mono ?_; rw [HM3.out]; rintro e w4 ⟨rfl, rfl⟩))
  go_ret
  exact ⟨rfl, Ext.of_chg HE2.out HC3.out (by rintro b (rfl | rfl) <;> omega)⟩
end Go.Proofs
