/- The plain law of LinesRoom. -/
import Derived.Test.YtgggokajapoopaaLDrops
namespace Go
theorem lookup_mem {L : List Ln} (h : (nums L).Nodup) {x : Ln} (hx : x ∈ L) : lookup x.num L = some x := by
  obtain ⟨i, hi, rfl⟩ := List.getElem_of_mem hx
  exact lookup_at h (List.getElem?_eq_getElem hi)
theorem not_idx {L : List Ln} {n : Int} (h : L.findIdx? (·.num == n) = none) : n ∉ nums L := by
  rw [← lookup_none_nums]
  have := findIdx_lookup n L
  rw [h] at this
  cases hh : lookup n L with
  | none => rfl
  | some x => rw [hh] at this; cases this
/-- What is put stands there, and the others too. -/
theorem Rel.put_ok {c : Lns} {r : Rf} (h : Rel c r) (x : Ln) (hst : 1 ≤ x.st ∧ x.st ≤ 3) (h0 : (r.put x).2 = 0) :
    Go.lookup x.num (r.put x).1.L = some x ∧ ∀ y ∈ r.L, y.num ≠ x.num → Go.lookup y.num (r.put x).1.L = some y := by
  have hn := (h.put x).1.nodup
  have hst' : ¬ (x.st < 1 ∨ 3 < x.st) := by omega
  have key : x ∈ (r.put x).1.L ∧ ∀ y ∈ r.L, y.num ≠ x.num → y ∈ (r.put x).1.L := by
    unfold Rf.put at h0 ⊢
    simp only [hst', if_false] at h0 ⊢
    cases hr : r.L.findIdx? (·.num == x.num) with
    | some i =>
      obtain ⟨hi, h1, _⟩ := List.findIdx?_eq_some_iff_getElem.1 hr
      dsimp only
      rw [set_swap _ x _ h.nodup _ hr]
      refine ⟨List.mem_map.2 ⟨r.L[i], List.getElem_mem hi, by simp only [swap, h1, if_true]⟩, fun y hy hne => List.mem_map.2 ⟨y, hy, ?_⟩⟩
      have : (y.num == x.num) = false := by simpa using hne
      simp [swap, this]
    | none =>
      rw [hr] at h0
      dsimp only at h0 ⊢
      split at h0
      · simp at h0
      · rename_i hlt
        rw [if_neg hlt]
        exact ⟨by simp, fun y hy _ => by simp [hy]⟩
  exact ⟨lookup_mem hn key.1, fun y hy hne => lookup_mem hn (key.2 y hy hne)⟩
theorem Rf.put_code (r : Rf) (x : Ln) (hst : 1 ≤ x.st ∧ x.st ≤ 3) : (r.put x).2 = 0 ∨ (r.put x).2 = 200 ∧ (r.put x).1 = r ∧ x.num ∉ nums r.L ∧ r.L.findIdx? (·.num == x.num) = none ∧ r.ways ≤ ((r.of (x.num % r.sets)).length : Int) := by
  have hst' : ¬ (x.st < 1 ∨ 3 < x.st) := by omega
  unfold Rf.put
  simp only [hst', if_false]
  cases hr : r.L.findIdx? (·.num == x.num) with
  | some i => exact .inl rfl
  | none =>
    dsimp only
    split
    · rename_i h
      exact .inr ⟨rfl, rfl, not_idx hr, rfl, h⟩
    · exact .inl rfl
/-- A set that is full: who is to go, and that there is room then. -/
theorem Rel.make_room {c : Lns} {r : Rf} (h : Rel c r) (x : Ln) (hst : 1 ≤ x.st ∧ x.st ≤ 3) (pick : Int) (h2 : (r.put x).2 = 200) :
    ∃ v, c.victim x.num pick = some v ∧ v ∈ r.L ∧ v.num % r.sets = x.num % r.sets ∧ (c.drop v.num).2 = true ∧ ((r.drop v.num).put x).2 = 0 ∧ ∀ y ∈ r.L, y ≠ v → y ∈ (r.drop v.num).L := by
  rcases Rf.put_code r x hst with h0 | ⟨-, -, hno, hidx, hfull⟩
  · rw [h0] at h2; cases h2
  · have hw1 := h.ok.w1
    have hways := h.ways
    have hlen : (r.of (x.num % r.sets)).length ≤ c.ways := by rw [← h.of_num]; exact Lns.of_len h.ok _
    have hk := choice_lt pick (n := (r.of (x.num % r.sets)).length) (by omega)
    refine ⟨(r.of (x.num % r.sets))[choice pick (r.of (x.num % r.sets)).length], ?_, ?_⟩
    · rw [h.victim]
      unfold Rf.victim
      rw [hidx]
      dsimp only
      rw [if_neg (by omega), List.getElem?_eq_getElem hk]
    · generalize hv : (r.of (x.num % r.sets))[choice pick (r.of (x.num % r.sets)).length] = v
      have hvm : v ∈ r.of (x.num % r.sets) := hv ▸ List.getElem_mem hk
      obtain ⟨hvL, hvs⟩ := List.mem_filter.1 hvm
      have hvs' : v.num % r.sets = x.num % r.sets := by simpa using hvs
      refine ⟨hvL, hvs', ?_, ?_, ?_⟩
      · rw [(h.drop v.num).2]
        rcases idxOf_cases v.num r.L with ⟨i, y, hi, -⟩ | ⟨hi, hl, -⟩
        · rw [hi]; simp
        · rw [lookup_mem h.nodup hvL] at hl; cases hl
      · have hst' : ¬ (x.st < 1 ∨ 3 < x.st) := by omega
        have hno2 : (r.drop v.num).L.findIdx? (·.num == x.num) = none := by
          rw [List.findIdx?_eq_none_iff]
          intro y hy
          have := (List.mem_filter.1 hy).1
          simp
          intro e
          exact hno (e ▸ List.mem_map_of_mem this)
        have hless : ((r.drop v.num).of (x.num % r.sets)).length < (r.of (x.num % r.sets)).length := by
          have : (r.drop v.num).of (x.num % r.sets) = (r.of (x.num % r.sets)).filter fun l => l.num != v.num := by
            simp only [Rf.of, Rf.drop, List.filter_filter]
            congr 1; funext y; exact Bool.and_comm _ _
          rw [this]
          exact List.length_filter_lt_length_iff_exists.2 ⟨v, hvm, by simp⟩
        unfold Rf.put
        simp only [hst', if_false, hno2]
        rw [if_neg ?_]
        show ¬ (((r.drop v.num).of (x.num % r.sets)).length : Int) ≥ r.ways
        omega
      · intro y hy hne
        refine List.mem_filter.2 ⟨hy, ?_⟩
        simp
        intro e
        have h1 := lookup_mem h.nodup hy
        have h2 := lookup_mem h.nodup hvL
        rw [e, h2] at h1
        exact hne (by cases h1; rfl)
end Go
