/- Put: what it answers, and what the cache is then. -/
import Derived.Test.YtgggokajapoopaaL5
namespace Go
open Go.RowKit
def Lns.setSet (c : Lns) (i : Nat) (L : List Ln) : Lns := ⟨c.ways, c.sets.set i L⟩
def Lns.put (c : Lns) (l : Ln) : Lns × Int :=
  if l.st < 1 ∨ 3 < l.st then (c, 2)
  else match (c.of l.num).findIdx? (·.num == l.num) with
    | some j => (c.setSet (c.setNo l.num) ((c.of l.num).set j l), 0)
    | none => if c.ways ≤ (c.of l.num).length then (c, 200) else (c.setSet (c.setNo l.num) (c.of l.num ++ [l]), 0)
theorem Lns.Ok.setSet {c : Lns} (h : c.Ok) {i : Nat} {L : List Ln} (hL : L.length ≤ c.ways) : (c.setSet i L).Ok where
  s1 := by simpa [Lns.setSet] using h.s1
  s64 := by simpa [Lns.setSet] using h.s64
  w1 := h.w1
  w8 := h.w8
  full := fun M hM => by
    rcases List.mem_or_eq_of_mem_set hM with h1 | rfl
    · exact h.full M h1
    · exact hL
theorem LinesBody.upd {w w' : World} {B S : Nat} {vs : Array Value} {os : Nat → Option Nat} {c : Lns} (h : LinesBody w B S vs os c) {i : Nat} (hi : i < c.sets.length) {v' : Value} {L' : List Ln} {o' : Option Nat} (hL : L'.length ≤ c.ways)
    (hS' : w'.heap[S]? = some (.cells (vs.setIfInBounds i v') 26 (0, 0))) (hB' : w'.heap[B]? = w.heap[B]?) (hj : ∀ j g, j ≠ i → os j = some g → w'.heap[g]? = w.heap[g]?)
    (hs : SetAt w' v' L' o') (ho : ∀ g, o' = some g → (os i = some g ∨ w.heap.size ≤ g)) :
    LinesBody w' B S (vs.setIfInBounds i v') (fun j => if j = i then o' else os j) (c.setSet i L') := by
  have hlen : (c.setSet i L').sets.length = c.sets.length := by simp [Lns.setSet]
  refine ⟨h.ok.setSet hL, ?_, hS', by simp [h.size, hlen], ?_, h.bs, ?_, ?_⟩
  · rw [hB', h.hB, hlen]; rfl
  · intro j L hjL
    simp only [Lns.setSet, List.getElem?_set] at hjL
    by_cases hji : i = j
    · subst hji
      simp only [if_true, hi] at hjL
      cases hjL
      exact ⟨v', by simp [h.size, hi], by simpa using hs⟩
    · simp only [hji, if_false] at hjL
      obtain ⟨v, hv, hsv⟩ := h.sets j L hjL
      refine ⟨v, by simp [hji, hv], ?_⟩
      rw [if_neg (Ne.symm hji)]
      exact hsv.keep fun b hb => hj j b (Ne.symm hji) hb
  · intro j g hg
    rw [hlen]
    by_cases hji : j = i
    · subst hji
      simp only [if_true] at hg
      rcases ho g hg with h1 | h1
      · exact h.apart j g h1
      · refine ⟨?_, ?_, hi⟩
        · have := h.lt (b := B) (.inl rfl); omega
        · have := h.lt (b := S) (.inr (.inl rfl)); omega
    · simp only [hji, if_false] at hg
      exact h.apart j g hg
  · intro j k g h1 h2
    by_cases hji : j = i
    · by_cases hki : k = i
      · omega
      · simp only [hji, if_true, hki, if_false] at h1 h2
        rcases ho g h1 with h3 | h3
        · have := h.inj i k g h3 h2; omega
        · have := h.lt (b := g) (.inr (.inr ⟨k, h2⟩)); omega
    · by_cases hki : k = i
      · simp only [hji, if_false, hki, if_true] at h1 h2
        rcases ho g h2 with h3 | h3
        · have := h.inj j i g h1 h3; omega
        · have := h.lt (b := g) (.inr (.inr ⟨j, h1⟩)); omega
      · simp only [hji, if_false, hki] at h1 h2
        exact h.inj j k g h1 h2
/-- A cache that a call has turned: how it lies then. -/
theorem LinesBody.updAt {w w' : World} {B S : Nat} {vs : Array Value} {os : Nat → Option Nat} {c : Lns} {F : Nat → Prop} (h : LinesBody w B S vs os c) (hF : ∀ b, F b ↔ (b = B ∨ b = S ∨ ∃ i, os i = some b)) {i : Nat} (hi : i < c.sets.length) {v' : Value} {L' : List Ln} {o' : Option Nat} (hL : L'.length ≤ c.ways)
    (hS' : w'.heap[S]? = some (.cells (vs.setIfInBounds i v') 26 (0, 0))) (hB' : w'.heap[B]? = w.heap[B]?) (hj : ∀ j g, j ≠ i → os j = some g → w'.heap[g]? = w.heap[g]?)
    (hs : SetAt w' v' L' o') (ho : ∀ g, o' = some g → (os i = some g ∨ w.heap.size ≤ g)) :
    ∃ F', LinesAt w' (.pointer (some ⟨B, 0, none⟩)) (c.setSet i L') F' ∧ Sub w F F' := by
  refine ⟨_, ⟨B, S, _, _, rfl, h.upd hi hL hS' hB' hj hs ho, fun b => Iff.rfl⟩, ?_⟩
  rintro b (rfl | rfl | ⟨j, hj'⟩)
  · exact .inl ((hF _).2 (.inl rfl))
  · exact .inl ((hF _).2 (.inr (.inl rfl)))
  · by_cases hji : j = i
    · subst hji
      simp only [if_true] at hj'
      rcases ho b hj' with h1 | h1
      · exact .inl ((hF _).2 (.inr (.inr ⟨j, h1⟩)))
      · exact .inr h1
    · simp only [hji, if_false] at hj'
      exact .inl ((hF _).2 (.inr (.inr ⟨j, hj'⟩)))
end Go
namespace Go.Proofs
open Go.RowKit
theorem LinesBody.cell1 {w : World} {B S : Nat} {vs : Array Value} {os : Nat → Option Nat} {c : Lns} (h : LinesBody w B S vs os c) : w.cell? ⟨B, 1, none⟩ = some (.int .i64 c.ways) := by
  rw [cell_of_row w B 1 _ 172 (0, 0) h.hB]; rfl
/-- Put: the answer, the cache, and that all else lies as it lay. -/
def PutPost (w : World) (p : Value) (c : Lns) (F : Nat → Prop) (l : Ln) (e : Ending) (w' : World) : Prop :=
  e = .returned (.int .i64 (c.put l).2) ∧ ∃ F', LinesAt w' p (c.put l).1 F' ∧ Chg F w w' ∧ Sub w F F'
theorem put_any (p : Value) (c : Lns) (F : Nat → Prop) (l : Ln) (w : World) (h : LinesAt w p c F) :
    Calls Try.prog 35 #[p, .agg l.cells] w (PutPost w p c F l) := by
  have hat := h
  obtain ⟨B, S, vs, os, rfl, hb, hF⟩ := h
  have hok := hb.ok
  have hi := Lns.setNo_lt hok l.num
  by_cases hst : l.st < 1 ∨ 3 < l.st
  · refine (put_bad B S vs os c l w hb hst).mono ?_
    rintro e w' ⟨rfl, hE⟩
    refine ⟨by simp [Lns.put, hst], F, ?_, hE.chg F, fun b hb => .inl hb⟩
    simp only [Lns.put, hst, if_true]
    exact hat.ext hE
  · have hst' : 1 ≤ l.st ∧ l.st ≤ 3 := by omega
    obtain ⟨v, hv, hs, hc⟩ := hb.set l.num
    have hS : S < w.heap.size := hb.lt (.inr (.inl rfl))
    have hlen := Lns.of_len hok l.num
    cases hidx : (c.of l.num).findIdx? (·.num == l.num) with
    | some j =>
      have HI : Hid (idxOf l.num (c.of l.num) = (j : Int)) := by unfold Hid idxOf; rw [hidx]
      obtain ⟨hj, h1, _⟩ := List.findIdx?_eq_some_iff_getElem.1 hidx
      rcases hs with ⟨h0, _⟩ | ⟨g, cap, cur, hog, rfl, hg, hcl, hcm, hcs, hx⟩
      · rw [h0] at hj; simp at hj
      · have hgl : g < w.heap.size := (Array.getElem?_eq_some_iff.1 hg).1
        have hr := Row_of_block Ln.okCells hg hcl hcs hx
        obtain ⟨b', off', hb', hag⟩ := hr j ((c.of l.num)[j]) (by simp [hj])
        cases hb'
        rw [Nat.zero_add] at hag
        refine (put_at B S vs os c l w hb hst' g cap j _ hS hgl hc HI hag hj (by simp [World.loose, hg])).mono ?_
        rintro e w' ⟨rfl, w1, hE, rfl⟩
        have hput : c.put l = (c.setSet (c.setNo l.num) ((c.of l.num).set j l), 0) := by simp only [Lns.put, hst, if_false, hidx]
        refine ⟨by rw [hput], ?_⟩
        rw [hput]
        have hgB : g ≠ B ∧ g ≠ S := ⟨(hb.apart _ g hog).1, (hb.apart _ g hog).2.1⟩
        have hg1 : w1.heap[g]? = some (.cells cur 39 (0, 0)) := (hE.block g hgl).trans hg
        have hoth : ∀ k, k < w.heap.size → k ≠ g → (w1.putAgg ⟨g, j * 18, none⟩ l.cells).heap[k]? = w.heap[k]? := fun k hk hne => by
          rw [World.putAgg_other _ _ _ (by simpa using hne)]; exact hE.block k hk
        have hset : SetAt (w1.putAgg ⟨g, j * 18, none⟩ l.cells) (.slice (some ⟨g, 0, none⟩) ((c.of l.num).set j l).length cap) ((c.of l.num).set j l) (some g) := by
          refine .inr ⟨g, cap, splice cur (j * 18) l.cells, rfl, rfl, World.putAgg_heap hg1, by simpa using hcl, hcm, ?_, ?_⟩
          · rw [size_splice _ _ _ (by rw [l.cells_size, hcs]; omega), hcs]
          · exact splice_flat Ln.okCells hx hj l
        obtain ⟨F', hF', hsub⟩ := hb.updAt hF hi (v' := .slice (some ⟨g, 0, none⟩) ((c.of l.num).set j l).length cap) (L' := (c.of l.num).set j l) (o' := some g) (w' := w1.putAgg ⟨g, j * 18, none⟩ l.cells) (by simpa using hlen)
          (by rw [hoth S hS (Ne.symm hgB.2), hb.hS]; rw [setIfInBounds_self (by simpa using hv)])
          (hoth B (hb.lt (.inl rfl)) (Ne.symm hgB.1))
          (fun k g' hk hg' => hoth g' (hb.lt (.inr (.inr ⟨k, hg'⟩))) (fun e => hk (hb.inj k _ g (e ▸ hg') hog)))
          hset
          (fun g' hg' => by cases hg'; exact .inl hog)
        refine ⟨F', hF', ?_, hsub⟩
        exact ⟨hE.os, hE.tape, hE.output, by rw [World.size_putAgg]; exact hE.size, fun k hk hn => hoth k hk fun e => hn ((hF k).2 (.inr (.inr ⟨_, e ▸ hog⟩)))⟩
    | none =>
      have HI : Hid (idxOf l.num (c.of l.num) = -1) := by unfold Hid idxOf; rw [hidx]
      obtain ⟨a, cap, rfl, -⟩ := hs.row Ln.okCells
      by_cases hfull : c.ways ≤ (c.of l.num).length
      · refine (put_full B S vs os c l w hb hst' a cap hS hc (LinesBody.cell1 hb) HI hfull).mono ?_
        rintro e w' ⟨rfl, hE⟩
        have hput : c.put l = (c, 200) := by simp only [Lns.put, hst, if_false, hidx, hfull, if_true]
        refine ⟨by rw [hput], F, ?_, hE.chg F, fun b hb => .inl hb⟩
        rw [hput]
        exact hat.ext hE
      · have hput : c.put l = (c.setSet (c.setNo l.num) (c.of l.num ++ [l]), 0) := by simp only [Lns.put, hst, if_false, hidx, hfull]
        have hoS : os (c.setNo l.num) ≠ some S := fun e => (hb.apart _ S e).2.1 rfl
        refine (put_new B S vs os c l w hb hst' a cap hS hc (frozen_of_row w S _ vs 26 hb.hS) (LinesBody.cell1 hb) (os (c.setNo l.num)) hs hoS HI (by omega) hok.w8).mono ?_
        rintro e w' ⟨rfl, W, v', o', w1, hE, hs', hgr, ho', rfl⟩
        refine ⟨by rw [hput], ?_⟩
        rw [hput]
        have hw1 : ∀ k, k < w.heap.size → os (c.setNo l.num) ≠ some k → w1.heap[k]? = w.heap[k]? := fun k hk hne =>
          (hgr.block k (hE.lt hk) (Ne.symm hne)).trans (hE.block k hk)
        have hBn : os (c.setNo l.num) ≠ some B := fun e => (hb.apart _ B e).1 rfl
        have hoth : ∀ k, k < w.heap.size → k ≠ S → os (c.setNo l.num) ≠ some k → (w1.setCell ⟨S, c.setNo l.num, none⟩ v').heap[k]? = w.heap[k]? := fun k hk hne hn => by
          rw [heap_setCell_other _ _ _ _ (by simpa using hne)]; exact hw1 k hk hn
        have hS1 : w1.heap[S]? = some (.cells vs 26 (0, 0)) := (hw1 S hS hoS).trans hb.hS
        have hfresh : ∀ g, o' = some g → (os (c.setNo l.num) = some g ∨ w.heap.size ≤ g) := fun g hg => by
          rcases ho' with h1 | ⟨g', h1, h2⟩
          · exact .inl (h1 ▸ hg)
          · rw [hg] at h1; cases h1; exact .inr (Nat.le_trans hE.size h2)
        have hne : ∀ g, o' = some g → g ≠ S := fun g hg e => by
          rcases hfresh g hg with h1 | h1
          · exact hoS (e ▸ h1)
          · omega
        obtain ⟨F', hF', hsub⟩ := hb.updAt hF hi (v' := v') (L' := c.of l.num ++ [l]) (o' := o') (w' := w1.setCell ⟨S, c.setNo l.num, none⟩ v') (by simp; omega)
          (heap_setCell_same w1 S _ vs 26 v' hS1)
          (hoth B (hb.lt (.inl rfl)) hb.bs hBn)
          (fun k g' hk hg' => hoth g' (hb.lt (.inr (.inr ⟨k, hg'⟩))) (fun e => (hb.apart k g' hg').2.1 e) (fun e => hk (hb.inj k _ g' hg' e)))
          (hs'.keep fun b hb' => heap_setCell_other _ _ _ _ (by simpa using hne b hb'))
          hfresh
        refine ⟨F', hF', ?_, hsub⟩
        refine ⟨hgr.os.trans hE.os, hgr.tape.trans hE.tape, hgr.output.trans hE.output, ?_, fun k hk hn => hoth k hk (fun e => hn ((hF k).2 (.inr (.inl e)))) (fun e => hn ((hF k).2 (.inr (.inr ⟨_, e⟩))))⟩
        have : (w1.setCell ⟨S, c.setNo l.num, none⟩ v').heap.size = w1.heap.size := by simp [World.setCell]
        rw [this]; exact Nat.le_trans hE.size hgr.size
end Go.Proofs
