/- The plain law of LinesCopies: which caches are the same. -/
import Derived.Test.YtgggokajapoopaaSm
import Derived.Test.YtgggokajapoopaaPr
namespace Go
open Go.Proofs
theorem flatMap_one {α : Type} (X : List α) (i : Nat) : ∀ n, ((List.range n).flatMap fun k => if k = i then X else []) = if i < n then X else []
  | 0 => by simp
  | n + 1 => by
    rw [List.range_succ, List.flatMap_append, flatMap_one X i n]
    by_cases h : i < n
    · simp [h, show i < n + 1 by omega, show n ≠ i by omega]
    · by_cases h2 : n = i
      · subst h2; simp
      · simp [h, h2, show ¬ i < n + 1 by omega]
theorem Rf.all_filter (r : Rf) (i : Nat) (hi : (i : Int) < r.sets) : r.all.filter (fun l => l.num % r.sets == (i : Int)) = r.of i := by
  unfold Rf.all
  rw [List.filter_flatMap]
  have : (fun (k : Nat) => (r.of (k : Int)).filter fun l => l.num % r.sets == (i : Int)) = fun (k : Nat) => if k = i then r.of (i : Int) else [] := by
    funext k
    by_cases h : k = i
    · subst h
      simp [Rf.of]
    · rw [if_neg h, List.filter_eq_nil_iff]
      intro x hx
      have := (List.mem_filter.1 hx).2
      simp at this ⊢
      omega
  rw [this, flatMap_one, if_pos (by omega)]
theorem Rel.sets_eq {c d : Lns} {r r' : Rf} (h : Rel c r) (h' : Rel d r') (hs : r.sets = r'.sets) : c.sets = d.sets ↔ r.all = r'.all := by
  constructor
  · intro e
    rw [← h.flat, ← h'.flat]
    unfold Lns.flat
    rw [e]
  · intro e
    have hl : c.sets.length = d.sets.length := by have h1 := h.sets; have h2 := h'.sets; omega
    apply List.ext_getElem?
    intro i
    by_cases hi : i < c.sets.length
    · have e1 := List.getElem?_eq_getElem hi
      have e2 := List.getElem?_eq_getElem (show i < d.sets.length by omega)
      have h1 := h.sets
      rw [e1, e2, h.of i _ e1, h'.of i _ e2, ← Rf.all_filter r i (by omega), ← Rf.all_filter r' i (by omega), e, hs]
    · rw [List.getElem?_eq_none (by omega), List.getElem?_eq_none (by omega)]
theorem Rel.same {c d : Lns} {r r' : Rf} (h : Rel c r) (h' : Rel d r') (hs : r.sets = r'.sets) (hw : r.ways = r'.ways) : sameB c d = decide (r.all = r'.all) := by
  unfold sameB
  have h1 := h.ways
  have h2 := h'.ways
  rw [show ((c.ways : Int) == (d.ways : Int)) = true by simp; omega, Bool.true_and]
  exact decide_eq_decide.2 (h.sets_eq h' hs)
theorem sameB_self (c : Lns) : sameB c c = true := by simp [sameB]
theorem sameB_ways {c d : Lns} (h : c.ways ≠ d.ways) : sameB c d = false := by simp [sameB]; omega
end Go
