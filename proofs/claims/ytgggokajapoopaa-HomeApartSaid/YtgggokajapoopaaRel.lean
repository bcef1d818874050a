/- The plain law: a cache, set by set, and the document's one list tell the same. -/
import Derived.Test.YtgggokajapoopaaR7
namespace Go
/-! ### Lists of lines without two of one number -/
def nums (L : List Ln) : List Int := L.map (·.num)
def swap (n : Int) (l x : Ln) : Ln := if x.num == n then l else x
theorem map_swap_other (n : Int) (l : Ln) (L : List Ln) (h : n ∉ nums L) : L.map (swap n l) = L := by
  induction L with
  | nil => rfl
  | cons a L ih =>
    simp only [nums, List.map_cons, List.mem_cons, not_or] at h
    have ha : (a.num == n) = false := by simp; exact fun e => h.1 e.symm
    rw [List.map_cons, ih h.2]
    simp [swap, ha]
theorem set_swap (n : Int) (l : Ln) (L : List Ln) (hn : (nums L).Nodup) (i : Nat) (h : L.findIdx? (·.num == n) = some i) : L.set i l = L.map (swap n l) := by
  induction L generalizing i with
  | nil => simp at h
  | cons a L ih =>
    simp only [nums, List.map_cons, List.nodup_cons] at hn
    rw [List.findIdx?_cons] at h
    by_cases ha : (a.num == n) = true
    · rw [if_pos ha] at h
      cases h
      have : n ∉ nums L := by have := hn.1; simp at ha; rw [ha] at this; exact this
      rw [List.map_cons, map_swap_other n l L this]
      simp [swap, ha]
    · rw [if_neg ha] at h
      cases hi : L.findIdx? (·.num == n) with
      | none => rw [hi] at h; simp at h
      | some j =>
        rw [hi] at h
        simp at h
        subst h
        rw [List.set_cons_succ, ih hn.2 j hi, List.map_cons]
        simp [swap, ha]
theorem filter_other (n : Int) (L : List Ln) (h : n ∉ nums L) : L.filter (fun x => x.num != n) = L := by
  rw [List.filter_eq_self]
  intro x hx
  simp
  intro e
  exact h (e ▸ List.mem_map_of_mem hx)
theorem erase_filter (n : Int) (L : List Ln) (hn : (nums L).Nodup) (i : Nat) (h : L.findIdx? (·.num == n) = some i) : L.eraseIdx i = L.filter (fun x => x.num != n) := by
  induction L generalizing i with
  | nil => simp at h
  | cons a L ih =>
    simp only [nums, List.map_cons, List.nodup_cons] at hn
    rw [List.findIdx?_cons] at h
    by_cases ha : (a.num == n) = true
    · rw [if_pos ha] at h
      cases h
      have : n ∉ nums L := by have := hn.1; simp at ha; rw [ha] at this; exact this
      rw [List.eraseIdx_cons_zero, List.filter_cons, filter_other n L this]
      simp [show a.num = n by simpa using ha]
    · rw [if_neg ha] at h
      cases hi : L.findIdx? (·.num == n) with
      | none => rw [hi] at h; simp at h
      | some j =>
        rw [hi] at h
        simp at h
        subst h
        rw [List.eraseIdx_cons_succ, ih hn.2 j hi, List.filter_cons]
        simp [show a.num ≠ n by simpa using ha]
theorem nums_filter (p : Ln → Bool) (L : List Ln) (h : (nums L).Nodup) : (nums (L.filter p)).Nodup := h.sublist (List.filter_sublist.map _)
theorem lookup_filter (n : Int) (p : Ln → Bool) (L : List Ln) (hp : ∀ x, x.num = n → p x = true) : lookup n (L.filter p) = lookup n L := by
  unfold lookup
  rw [List.find?_filter]
  congr 1
  funext x
  by_cases h : x.num = n
  · simp [h, hp x h]
  · simp [h]
theorem findIdx_lookup (n : Int) (L : List Ln) : (L.findIdx? (·.num == n)).isSome = (lookup n L).isSome := by
  rcases idxOf_cases n L with ⟨i, x, h, -, -, -, h2, -⟩ | ⟨h, h2, -⟩
  · unfold idxOf at h
    rw [h2]
    cases hi : L.findIdx? (·.num == n) with
    | none => rw [hi] at h; simp at h
    | some j => rfl
  · unfold idxOf at h
    rw [h2]
    cases hi : L.findIdx? (·.num == n) with
    | none => rfl
    | some j => rw [hi] at h; simp at h
theorem lookup_none_nums (n : Int) (L : List Ln) : lookup n L = none ↔ n ∉ nums L := by
  unfold lookup nums
  rw [List.find?_eq_none]
  simp only [beq_iff_eq, List.mem_map, not_exists, not_and]
/-! ### A cache and the document's -/
structure Rel (c : Lns) (r : Rf) : Prop where
  ok : c.Ok
  sets : r.sets = (c.sets.length : Int)
  ways : r.ways = (c.ways : Int)
  of : ∀ (i : Nat) (L : List Ln), c.sets[i]? = some L → L = r.of (i : Int)
  nodup : (nums r.L).Nodup
theorem Rel.setNo {c : Lns} {r : Rf} (h : Rel c r) (n : Int) : ((c.setNo n : Nat) : Int) = n % r.sets := by
  have := h.ok.s1
  have h1 := Int.emod_nonneg n (b := (c.sets.length : Int)) (by omega)
  unfold Lns.setNo
  rw [h.sets]
  omega
theorem Rel.of_num {c : Lns} {r : Rf} (h : Rel c r) (n : Int) : c.of n = r.of (n % r.sets) := by
  rw [← h.setNo n]
  exact h.of _ _ (Lns.of_eq h.ok n)
theorem Rel.lookup {c : Lns} {r : Rf} (h : Rel c r) (n : Int) : lookup n (c.of n) = lookup n r.L := by
  rw [h.of_num]
  exact lookup_filter n _ _ fun x hx => by simp [hx]
theorem Rel.new (n ways : Nat) (hn : 1 ≤ n ∧ n ≤ 64) (hw : 1 ≤ ways ∧ ways ≤ 8) : Rel ⟨ways, List.replicate n []⟩ ⟨n, ways, []⟩ where
  ok := ⟨by simpa using hn.1, by simpa using hn.2, hw.1, hw.2, fun L hL => by obtain ⟨_, rfl⟩ := List.mem_replicate.1 hL; simp⟩
  sets := by simp
  ways := rfl
  of := fun i L hi => by
    rw [List.getElem?_replicate] at hi
    split at hi
    · cases hi; rfl
    · cases hi
  nodup := by simp [nums]
theorem Rel.setSet {c : Lns} {r r' : Rf} (h : Rel c r) (n : Int) (L' : List Ln) (hs : r'.sets = r.sets) (hw : r'.ways = r.ways) (hL : L'.length ≤ c.ways) (h1 : L' = r'.of (n % r.sets)) (h2 : ∀ k : Int, k ≠ n % r.sets → r'.of k = r.of k) (hn : (nums r'.L).Nodup) :
    Rel (c.setSet (c.setNo n) L') r' where
  ok := h.ok.setSet hL
  sets := by rw [hs, h.sets]; simp [Lns.setSet]
  ways := by rw [hw, h.ways]; rfl
  of := fun i L hi => by
    simp only [Lns.setSet, List.getElem?_set] at hi
    split at hi
    · rename_i e
      subst e
      split at hi
      · cases hi; rw [h.setNo n, ← h1]
      · cases hi
    · rename_i e
      rw [h2 _ (by rw [← h.setNo n]; omega)]
      exact h.of i L hi
  nodup := hn
theorem swap_num (n : Int) (l x : Ln) (hl : l.num = n) : (swap n l x).num = x.num := by
  unfold swap
  split
  · rename_i h; simp at h; rw [hl, h]
  · rfl
theorem nums_swap (n : Int) (l : Ln) (L : List Ln) (hl : l.num = n) : nums (L.map (swap n l)) = nums L := by
  unfold nums
  rw [List.map_map]
  exact List.map_congr_left fun x _ => swap_num n l x hl
theorem filter_swap (n : Int) (l : Ln) (s k : Int) (hl : l.num = n) (L : List Ln) : (L.map (swap n l)).filter (fun x => x.num % s == k) = (L.filter fun x => x.num % s == k).map (swap n l) := by
  rw [List.filter_map]
  congr 2
  funext x
  simp [swap_num n l x hl]
theorem Rel.put {c : Lns} {r : Rf} (h : Rel c r) (l : Ln) : Rel (c.put l).1 (r.put l).1 ∧ (c.put l).2 = (r.put l).2 := by
  unfold Lns.put Rf.put
  by_cases hst : l.st < 1 ∨ 3 < l.st
  · simp only [hst, if_true]; exact ⟨h, trivial⟩
  · simp only [hst, if_false]
    have hof := h.of_num l.num
    have hlk := h.lookup l.num
    have hnd : (nums (c.of l.num)).Nodup := by rw [hof]; exact nums_filter _ _ h.nodup
    have hf1 := findIdx_lookup l.num (c.of l.num)
    have hf2 := findIdx_lookup l.num r.L
    rw [hlk, ← hf2] at hf1
    cases hc : (c.of l.num).findIdx? (·.num == l.num) with
    | some j =>
      rw [hc] at hf1
      cases hr : r.L.findIdx? (·.num == l.num) with
      | none => rw [hr] at hf1; cases hf1
      | some i =>
        refine ⟨?_, rfl⟩
        dsimp only
        rw [set_swap _ l _ hnd _ hc, set_swap _ l _ h.nodup _ hr]
        refine h.setSet l.num _ rfl rfl (by simpa using Lns.of_len h.ok l.num) ?_ ?_ ?_
        · rw [hof]; exact (filter_swap _ _ _ _ rfl _).symm
        · intro k hk
          refine (filter_swap _ _ _ _ rfl _).trans (map_swap_other _ _ _ fun hm => hk ?_)
          obtain ⟨x, hx, hxn⟩ := List.mem_map.1 hm
          have := (List.mem_filter.1 hx).2
          simp at this
          rw [← hxn, this]
        · rw [nums_swap _ _ _ rfl]; exact h.nodup
    | none =>
      rw [hc] at hf1
      cases hr : r.L.findIdx? (·.num == l.num) with
      | some i => rw [hr] at hf1; cases hf1
      | none =>
        simp only [← hof, h.ways, ge_iff_le, Int.ofNat_le]
        by_cases hw : c.ways ≤ (c.of l.num).length
        · simp only [hw, if_true]; exact ⟨h, trivial⟩
        · simp only [hw, if_false]
          refine ⟨?_, trivial⟩
          refine h.setSet l.num _ rfl h.ways.symm (by simp; omega) ?_ ?_ ?_
          · rw [hof]; simp [Rf.of]
          · intro k hk
            have : (l.num % r.sets == k) = false := by simp; exact fun e => hk e.symm
            simp [Rf.of, this]
          · have hno : l.num ∉ nums r.L := by
              rw [← lookup_none_nums]
              have := findIdx_lookup l.num r.L
              rw [hr] at this
              cases hh : Go.lookup l.num r.L with
              | none => rfl
              | some x => rw [hh] at this; cases this
            unfold nums at hno ⊢
            rw [List.map_append, List.nodup_append]
            refine ⟨h.nodup, by simp, ?_⟩
            intro a ha b hb e
            simp at hb
            subst hb; subst e
            exact hno ha
theorem Rel.drop {c : Lns} {r : Rf} (h : Rel c r) (n : Int) : Rel (c.drop n).1 (r.drop n) ∧ (c.drop n).2 = decide (0 ≤ idxOf n r.L) := by
  have hof := h.of_num n
  have hlk := h.lookup n
  have hnd : (nums (c.of n)).Nodup := by rw [hof]; exact nums_filter _ _ h.nodup
  have hf1 := findIdx_lookup n (c.of n)
  have hf2 := findIdx_lookup n r.L
  rw [hlk, ← hf2] at hf1
  unfold Lns.drop Rf.drop idxOf
  cases hc : (c.of n).findIdx? (·.num == n) with
  | some j =>
    rw [hc] at hf1
    cases hr : r.L.findIdx? (·.num == n) with
    | none => rw [hr] at hf1; cases hf1
    | some i =>
      refine ⟨?_, by simp⟩
      dsimp only
      rw [erase_filter n _ hnd _ hc]
      refine h.setSet n _ rfl rfl (Nat.le_trans (List.length_filter_le _ _) (Lns.of_len h.ok n)) ?_ ?_ (nums_filter _ _ h.nodup)
      · rw [hof]; simp only [Rf.of, List.filter_filter]
        congr 1; funext x; exact Bool.and_comm _ _
      · intro k hk
        have : n ∉ nums (r.of k) := fun hm => hk (by
          obtain ⟨x, hx, hxn⟩ := List.mem_map.1 hm
          have := (List.mem_filter.1 hx).2
          simp at this
          rw [← hxn, this])
        refine Eq.trans ?_ (filter_other n _ this)
        simp only [Rf.of, List.filter_filter]
        congr 1; funext x; exact Bool.and_comm _ _
  | none =>
    rw [hc] at hf1
    cases hr : r.L.findIdx? (·.num == n) with
    | some i => rw [hr] at hf1; cases hf1
    | none =>
      have hno : n ∉ nums r.L := by
        rw [← lookup_none_nums]
        rw [hr] at hf2
        cases hh : Go.lookup n r.L with
        | none => rfl
        | some x => rw [hh] at hf2; cases hf2
      rw [filter_other n _ hno]
      exact ⟨h, by simp⟩
theorem Rel.victim {c : Lns} {r : Rf} (h : Rel c r) (n pick : Int) : c.victim n pick = r.victim n pick := by
  have hof := h.of_num n
  have hlk := h.lookup n
  have hf1 := findIdx_lookup n (c.of n)
  have hf2 := findIdx_lookup n r.L
  rw [hlk, ← hf2] at hf1
  unfold Lns.victim Rf.victim
  rw [← hof, h.ways]
  cases hc : (c.of n).findIdx? (·.num == n) with
  | some j =>
    rw [hc] at hf1
    cases hr : r.L.findIdx? (·.num == n) with
    | none => rw [hr] at hf1; cases hf1
    | some i => rfl
  | none =>
    rw [hc] at hf1
    cases hr : r.L.findIdx? (·.num == n) with
    | some i => rw [hr] at hf1; cases hf1
    | none => simp
theorem Rel.flat {c : Lns} {r : Rf} (h : Rel c r) : c.flat = r.all := by
  unfold Lns.flat Rf.all
  rw [h.sets, Int.toNat_natCast, List.flatMap_def]
  congr 1
  apply List.ext_getElem?
  intro i
  by_cases hi : i < c.sets.length
  · rw [List.getElem?_map, List.getElem?_range hi, List.getElem?_eq_getElem hi]
    simp only [Option.map_some, Option.some.injEq]
    exact h.of i _ (List.getElem?_eq_getElem hi)
  · rw [List.getElem?_eq_none (by omega), List.getElem?_eq_none (by simp; omega)]
theorem sum_ind (s m : Nat) : ((List.range s).map fun k => if m = k then 1 else 0).sum = if m < s then 1 else 0 := by
  induction s with
  | zero => simp
  | succ s ih =>
    rw [List.range_succ, List.map_append, List.sum_append_nat, ih]
    simp only [List.map_cons, List.map_nil, List.sum_cons, List.sum_nil]
    split <;> split <;> split <;> omega
theorem sum_add (f g : Nat → Nat) (l : List Nat) : (l.map fun k => f k + g k).sum = (l.map f).sum + (l.map g).sum := by
  induction l with
  | nil => rfl
  | cons a l ih => simp only [List.map_cons, List.sum_cons, ih]; omega
theorem sum_zero (l : List Nat) : (l.map fun _ => 0).sum = 0 := by
  induction l with
  | nil => rfl
  | cons a l ih => simpa using ih
theorem Rf.all_length (r : Rf) (hs : 1 ≤ r.sets) : r.all.length = r.L.length := by
  obtain ⟨s, ways, L⟩ := r
  simp only at hs
  unfold Rf.all Rf.of
  simp only
  rw [List.length_flatMap]
  induction L with
  | nil => exact (sum_zero _)
  | cons a L ih =>
    have hm : 0 ≤ a.num % s := Int.emod_nonneg _ (by omega)
    have hm2 : a.num % s < s := Int.emod_lt_of_pos _ (by omega)
    have : ((List.range s.toNat).map fun (k : Nat) => ((a :: L).filter fun l => l.num % s == (k : Int)).length) = (List.range s.toNat).map fun (k : Nat) => (if (a.num % s).toNat = k then 1 else 0) + (L.filter fun l => l.num % s == (k : Int)).length := by
      apply List.map_congr_left
      intro k _
      rw [List.filter_cons]
      by_cases h : a.num % s = (k : Int)
      · have : (a.num % s).toNat = k := by omega
        simp [h, Nat.add_comm]
      · have h' : ¬ (a.num % s).toNat = k := by omega
        simp [h, h']
    rw [this, sum_add, ih, sum_ind, if_pos (by omega), List.length_cons, Nat.add_comm]
theorem flatten_le (m : Nat) (l : List (List Ln)) (h : ∀ L ∈ l, L.length ≤ m) : l.flatten.length ≤ l.length * m := by
  induction l with
  | nil => simp
  | cons a l ih =>
    have h1 := h a (by simp)
    have h2 := ih fun L hL => h L (by simp [hL])
    rw [List.flatten_cons, List.length_append, List.length_cons, Nat.add_mul, Nat.one_mul]
    omega
theorem Lns.Ok.flat_le {c : Lns} (h : c.Ok) : c.flat.length ≤ 512 := by
  have h1 := flatten_le c.ways c.sets h.full
  have h2 := h.s64
  have h3 := h.w8
  have : c.sets.length * c.ways ≤ 64 * 8 := Nat.mul_le_mul h2 h3
  unfold Lns.flat
  omega
theorem Rel.len {c : Lns} {r : Rf} (h : Rel c r) : c.flat.length = r.L.length := by
  have := h.ok.s1
  rw [h.flat, Rf.all_length r (by rw [h.sets]; omega)]
theorem Rel.short {c : Lns} {r : Rf} (h : Rel c r) : r.L.length ≤ 512 := by
  rw [← h.len]; exact h.ok.flat_le
end Go
