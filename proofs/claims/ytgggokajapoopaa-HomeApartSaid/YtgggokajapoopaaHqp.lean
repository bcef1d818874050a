import Derived.Test.YtgggokajapoopaaHd
import Derived.Test.YtgggokajapoopaaHv
/- A home takes a message: what it is then, in plain Lean. -/
namespace Go
open Go.RowKit Go.Proofs
/-- A home takes a message: the home behind it, what is sent, why it is refused. -/
def Hom.took (H : Hom) (m : Ms) : Hom × List Ms × Int :=
  if m.may = false ∨ m.to ≠ 4 then (H, [], 2)
  else if (H.mem.length : Int) ≤ m.line then (H, [], 4)
  else match (WkS.of H m.line.toNat).took m with
    | some k => (H.put k, k.out, 0)
    | none => (H, [], 220)
/-- What holds of a home all along: of each entry, and how long a queue may be. -/
structure HomOk (H : Hom) (n : Nat) : Prop where
  ok : ∀ x : Int, EnOk (H.get x) x
  q : ∀ x : Int, (H.get x).q.length ≤ n
  len : 1 ≤ H.mem.length ∧ H.mem.length ≤ 256
theorem Hom.get_put (H : Hom) (k : WkS) (y : Int) : (H.put k).get y = if (k.line : Int) = y then k.e else H.get y := by
  unfold Hom.put Hom.get
  simp only
  split <;> rfl
theorem HomOk.new {m : List B16} (h : 1 ≤ m.length ∧ m.length ≤ 256) : HomOk (Hom.new m) 0 :=
  ⟨fun x => EnOk.zero x, fun _ => Nat.le_refl _, h⟩
theorem may_in {m : Ms} (hm : m.may = true) (ht : m.to = 4) : (m.kind = 1 ∨ m.kind = 2 ∨ m.kind = 3 ∨ m.kind = 11 ∨ m.kind = 12 ∨ m.kind = 13) ∧ 0 ≤ m.frm ∧ m.frm < 4 := by
  unfold Ms.may wantOf at hm
  by_cases h1 : m.kind = 1 ∨ m.kind = 2 ∨ m.kind = 12 ∨ m.kind = 13
  · rw [if_pos h1] at hm
    simp only [Bool.and_eq_true, decide_eq_true_eq] at hm
    exact ⟨by omega, hm.2.1, hm.2.2.1⟩
  · rw [if_neg h1] at hm
    by_cases h2 : m.kind = 3 ∨ m.kind = 11
    · rw [if_pos h2] at hm
      simp only [Bool.and_eq_true, decide_eq_true_eq] at hm
      exact ⟨by omega, hm.2.1, hm.2.2.1⟩
    · rw [if_neg h2] at hm
      by_cases h3 : m.kind = 4 ∨ m.kind = 5 ∨ m.kind = 6 ∨ m.kind = 7
      · rw [if_pos h3] at hm
        simp only [Bool.and_eq_true, decide_eq_true_eq] at hm
        omega
      · rw [if_neg h3] at hm
        by_cases h4 : m.kind = 8 ∨ m.kind = 9 ∨ m.kind = 10
        · rw [if_pos h4] at hm
          simp only [Bool.and_eq_true, decide_eq_true_eq] at hm
          omega
        · rw [if_neg h4] at hm
          cases hm
theorem may_in_of {m : Ms} (hk : m.kind = 1 ∨ m.kind = 2 ∨ m.kind = 12 ∨ m.kind = 13) (ht : m.to = 4) (h0 : 0 ≤ m.frm) (h4 : m.frm < 4) (hb : m.b = B16.zero) : m.may = true := by
  unfold Ms.may wantOf
  rw [if_pos hk]
  simp [ht, h0, h4, hb]
theorem may_in_of' {m : Ms} (hk : m.kind = 3 ∨ m.kind = 11) (ht : m.to = 4) (h0 : 0 ≤ m.frm) (h4 : m.frm < 4) : m.may = true := by
  unfold Ms.may wantOf
  rw [if_neg (by omega), if_pos hk]
  simp [ht, h0, h4]
/-- What a message's taking leaves, whichever it is. -/
theorem Took.any {k k' : WkS} {x : Int} {m : Ms} (hok : EnOk k.e x) (hm : m.may = true) (ht : m.to = 4) (hl : m.line = x) (h : k.took m = some k') : Took k k' x (4 + 4 * k.e.q.length) := by
  obtain ⟨hk, hr⟩ := may_in hm ht
  have wide : ∀ {n}, n ≤ 4 + 4 * k.e.q.length → Took k k' x n → Took k k' x (4 + 4 * k.e.q.length) := fun h1 h2 => ⟨h2.ok, h2.q, h2.mem, h2.line, Nat.le_trans h2.out (by omega)⟩
  unfold WkS.took at h
  by_cases h3 : m.kind ≤ 3
  · rw [if_pos h3] at h
    cases h
    exact wide (by omega) (Took.asked hok ⟨by omega, hr⟩ hl)
  · rw [if_neg h3] at h
    by_cases h11 : m.kind = 11
    · rw [if_pos h11] at h
      cases hb : k.e.mayBack m with
      | false => rw [hb] at h; cases h
      | true => rw [hb] at h; cases h; exact wide (by omega) (Took.back hok hb)
    · rw [if_neg h11] at h
      by_cases h12 : m.kind = 12
      · rw [if_pos h12] at h
        cases hb : k.e.mayAck m with
        | false => rw [hb] at h; cases h
        | true => rw [hb] at h; cases h; exact wide (by omega) (Took.ack hok hb)
      · rw [if_neg h12] at h
        cases hb : k.e.mayDone m with
        | false => rw [hb] at h; cases h
        | true => rw [hb] at h; cases h; exact wide (by omega) (Took.fin hok hb)
theorem HomOk.put {H : Hom} {n : Nat} {k : WkS} {j : Nat} (h : HomOk H n) {x : Nat} (hT : Took (WkS.of H x) k (x : Int) j) : HomOk (H.put k) (n + 1) := by
  have hl : k.line = x := hT.line
  refine ⟨fun y => ?_, fun y => ?_, ?_⟩
  · rw [Hom.get_put, hl]
    split
    · rename_i e; subst e; exact hT.ok
    · exact h.ok y
  · rw [Hom.get_put, hl]
    split
    · have h1 := hT.q
      have h2 : (WkS.of H x).e.q.length ≤ n := h.q x
      omega
    · exact Nat.le_succ_of_le (h.q y)
  · have : k.mem.length = H.mem.length := hT.mem
    show 1 ≤ k.mem.length ∧ k.mem.length ≤ 256
    rw [this]; exact h.len
/-- All this holds behind a message again. -/
theorem HomOk.took {H : Hom} {n : Nat} (h : HomOk H n) (m : Ms) : HomOk (H.took m).1 (n + 1) ∧ (H.took m).1.mem.length = H.mem.length := by
  have wide : HomOk H (n + 1) := ⟨h.ok, fun x => Nat.le_succ_of_le (h.q x), h.len⟩
  unfold Hom.took
  by_cases h1 : m.may = false ∨ m.to ≠ 4
  · rw [if_pos h1]; exact ⟨wide, rfl⟩
  · rw [if_neg h1]
    by_cases h2 : (H.mem.length : Int) ≤ m.line
    · rw [if_pos h2]; exact ⟨wide, rfl⟩
    · rw [if_neg h2]
      have hm : m.may = true := by
        cases hm : m.may with
        | true => rfl
        | false => exact absurd (.inl hm) h1
      have ht : m.to = 4 := by
        by_cases ht : m.to = 4
        · exact ht
        · exact absurd (.inr ht) h1
      have hx : m.line = ((m.line.toNat : Nat) : Int) := by have := m.ok; omega
      cases hk : (WkS.of H m.line.toNat).took m with
      | none => exact ⟨wide, rfl⟩
      | some k =>
        have hT := Took.any (k := WkS.of H m.line.toNat) (h.ok _) hm ht hx hk
        exact ⟨h.put hT, hT.mem⟩
end Go
/- Messages of one line change nothing of another one, in plain Lean. -/
namespace Go
open Go.RowKit Go.Proofs
theorem WkS.write_mem (k : WkS) : k.write.mem = k.mem ∧ k.write.line = k.line := ⟨rfl, rfl⟩
theorem WkS.begun_mem (k : WkS) (m : Ms) {y : Nat} (hy : y ≠ k.line) : (k.begun m).mem[y]? = k.mem[y]? ∧ (k.begun m).line = k.line := by
  unfold WkS.begun
  split
  · unfold WkS.gets
    split
    · exact ⟨rfl, rfl⟩
    · split <;> exact ⟨rfl, rfl⟩
  · split
    · unfold WkS.getm
      split
      · exact ⟨rfl, rfl⟩
      · split <;> exact ⟨rfl, rfl⟩
    · unfold WkS.put
      split
      · exact ⟨List.getElem?_set_ne (Ne.symm hy), rfl⟩
      · exact ⟨rfl, rfl⟩
theorem WkS.drain_mem : ∀ (n : Nat) (k : WkS) {y : Nat}, y ≠ k.line → (k.drain n).mem[y]? = k.mem[y]? ∧ (k.drain n).line = k.line
  | 0, _, _, _ => ⟨rfl, rfl⟩
  | n + 1, k, y, hy => by
    cases hb : k.e.busy with
    | true => rw [drain_stop _ _ (.inl hb)]; exact ⟨rfl, rfl⟩
    | false =>
      cases hq : k.e.q with
      | nil => rw [drain_stop _ _ (.inr hq)]; exact ⟨rfl, rfl⟩
      | cons m q =>
        rw [drain_step n k m q hb hq]
        obtain ⟨b1, b2⟩ := WkS.begun_mem ({ k with e := { k.e with q := q } } : WkS) m (y := y) hy
        obtain ⟨k', hk'⟩ : ∃ k', k' = ({ k with e := { k.e with q := q } } : WkS).begun m := ⟨_, rfl⟩
        rw [← hk'] at b1 b2 ⊢
        have b2 : k'.line = k.line := b2
        obtain ⟨d1, d2⟩ := WkS.drain_mem n k' (y := y) (by rw [b2]; exact hy)
        exact ⟨d1.trans b1, d2.trans b2⟩
theorem WkS.took_mem {k k' : WkS} {m : Ms} (h : k.took m = some k') {y : Nat} (hy : y ≠ k.line) : k'.mem[y]? = k.mem[y]? ∧ k'.line = k.line := by
  unfold WkS.took at h
  split at h
  · cases h
    unfold WkS.asked
    split
    · exact ⟨rfl, rfl⟩
    · exact k.begun_mem m hy
  · split at h
    · split at h
      · cases h
        unfold WkS.back
        simp only
        split
        · exact ⟨List.getElem?_set_ne (Ne.symm hy), rfl⟩
        · exact ⟨List.getElem?_set_ne (Ne.symm hy), rfl⟩
      · cases h
    · split at h
      · split at h
        · cases h
          unfold WkS.ack
          simp only
          split <;> exact ⟨rfl, rfl⟩
        · cases h
      · split at h
        · cases h
          exact k.freed.drain_mem _ hy
        · cases h
/-- Another line's entry and bytes are as they were. -/
theorem Hom.took_other (H : Hom) (m : Ms) (x : Nat) (hx : m.line ≠ (x : Int)) : (H.took m).1.get x = H.get x ∧ (H.took m).1.mem[x]? = H.mem[x]? := by
  unfold Hom.took
  split
  · exact ⟨rfl, rfl⟩
  · split
    · exact ⟨rfl, rfl⟩
    · cases hk : (WkS.of H m.line.toNat).took m with
      | none => exact ⟨rfl, rfl⟩
      | some k =>
        have hne : x ≠ (WkS.of H m.line.toNat).line := by
          show x ≠ m.line.toNat
          have := m.ok
          omega
        obtain ⟨h1, h2⟩ := WkS.took_mem hk hne
        refine ⟨?_, h1⟩
        simp only [Hom.get_put]
        rw [if_neg]
        intro e
        rw [h2] at e
        apply hne
        omega
theorem took_lone (H : Hom) (x : Nat) (y : B16) (hz : H.get x = En.zero) (hy : H.mem[x]? = some y) (hl : x < 4294967296) (m : Ms) (hm : m.kind = 2 ∧ m.frm = 1 ∧ m.to = 4 ∧ m.line = (x : Int) ∧ m.b = B16.zero) :
    ∃ H' M, H.took m = (H', [M], 0) ∧ M.kind = 10 ∧ M.to = 1 ∧ M.b = y := by
  obtain ⟨h1, h2, h3, h4, h5⟩ := hm
  have hmay : m.may = true := may_in_of (.inr (.inl h1)) h3 (by omega) (by omega) h5
  have hxl : x < H.mem.length := (List.getElem?_eq_some_iff.1 hy).1
  have hxx : m.line.toNat = x := by omega
  have hk : (WkS.of H x).took m = some ((WkS.of H x).getm m) := by
    unfold WkS.took
    rw [if_pos (by rw [h1]; decide)]
    unfold WkS.asked
    have : (WkS.of H x).e.busy = false := by show (H.get x).busy = false; rw [hz]; rfl
    rw [this]
    unfold WkS.begun
    simp only [Bool.false_eq_true, if_false]
    rw [if_neg (by omega), if_pos h1]
  have he : (WkS.of H x).e = En.zero := hz
  have hL : ((WkS.of H x).left m).e = En.zero := by
    show (WkS.of H x).e.leave m.frm = _
    rw [he, h2]; rfl
  have ho : ((WkS.of H x).left m).e.others m.frm = [] := by rw [hL, h2]; rfl
  have hG : ((WkS.of H x).getm m).out = [(WkS.of H x).msg 10 m.frm true] := by
    unfold WkS.getm
    rw [if_neg (by rw [hL]; decide), if_pos (by rw [ho]; rfl), ho, WkS.drops_nil]
    rfl
  have hT : H.took m = (H.put ((WkS.of H x).getm m), ((WkS.of H x).getm m).out, 0) := by
    unfold Hom.took
    rw [if_neg (by simp [hmay, h3]), if_neg (by omega), hxx, hk]
  rw [hT, hG]
  refine ⟨_, _, rfl, rfl, h2, ?_⟩
  show H.mem.getD x B16.zero = y
  rw [List.getD_eq_getElem?_getD, hy]
  rfl
end Go
