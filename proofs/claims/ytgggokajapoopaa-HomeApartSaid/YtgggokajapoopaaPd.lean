import Derived.Test.YtgggokajapoopaaLb
/- Put: what it answers, and what the cache is then. -/
namespace Go
open Go.RowKit
def Lns.setSet (c : Lns) (i : Nat) (L : List Ln) : Lns := ⟨c.ways, c.sets.set i L⟩
def Lns.put (c : Lns) (l : Ln) : Lns × Int :=
  if l.st < 1 ∨ 3 < l.st then (c, 2)
  else match (c.of l.num).findIdx? (·.num == l.num) with
    | some j => (c.setSet (c.setNo l.num) ((c.of l.num).set j l), 0)
    | none => if c.ways ≤ (c.of l.num).length then (c, 200) else (c.setSet (c.setNo l.num) (c.of l.num ++ [l]), 0)
theorem Lns.Ok.setSet {c : Lns} (h : c.Ok) {i : Nat} {L : List Ln} (hL : L.length ≤ c.ways) : (c.setSet i L).Ok where
  s1 := by simpa [Lns.setSet] using h.s1
  s64 := by simpa [Lns.setSet] using h.s64
  w1 := h.w1
  w8 := h.w8
  full := fun M hM => by
    rcases List.mem_or_eq_of_mem_set hM with h1 | rfl
    · exact h.full M h1
    · exact hL
theorem LinesBody.upd {w w' : World} {B S : Nat} {vs : Array Value} {os : Nat → Option Nat} {c : Lns} (h : LinesBody w B S vs os c) {i : Nat} (hi : i < c.sets.length) {v' : Value} {L' : List Ln} {o' : Option Nat} (hL : L'.length ≤ c.ways)
    (hS' : w'.heap[S]? = some (.cells (vs.setIfInBounds i v') 26 (0, 0))) (hB' : w'.heap[B]? = w.heap[B]?) (hj : ∀ j g, j ≠ i → os j = some g → w'.heap[g]? = w.heap[g]?)
    (hs : SetAt w' v' L' o') (ho : ∀ g, o' = some g → (os i = some g ∨ w.heap.size ≤ g)) :
    LinesBody w' B S (vs.setIfInBounds i v') (fun j => if j = i then o' else os j) (c.setSet i L') := by
  have hlen : (c.setSet i L').sets.length = c.sets.length := by simp [Lns.setSet]
  refine ⟨h.ok.setSet hL, ?_, hS', by simp [h.size, hlen], ?_, h.bs, ?_, ?_⟩
  · rw [hB', h.hB, hlen]; rfl
  · intro j L hjL
    simp only [Lns.setSet, List.getElem?_set] at hjL
    by_cases hji : i = j
    · subst hji
      simp only [if_true, hi] at hjL
      cases hjL
      exact ⟨v', by simp [h.size, hi], by simpa using hs⟩
    · simp only [hji, if_false] at hjL
      obtain ⟨v, hv, hsv⟩ := h.sets j L hjL
      refine ⟨v, by simp [hji, hv], ?_⟩
      rw [if_neg (Ne.symm hji)]
      exact hsv.keep fun b hb => hj j b (Ne.symm hji) hb
  · intro j g hg
    rw [hlen]
    by_cases hji : j = i
    · subst hji
      simp only [if_true] at hg
      rcases ho g hg with h1 | h1
      · exact h.apart j g h1
      · refine ⟨?_, ?_, hi⟩
        · have := h.lt (b := B) (.inl rfl); omega
        · have := h.lt (b := S) (.inr (.inl rfl)); omega
    · simp only [hji, if_false] at hg
      exact h.apart j g hg
  · intro j k g h1 h2
    by_cases hji : j = i
    · by_cases hki : k = i
      · omega
      · simp only [hji, if_true, hki, if_false] at h1 h2
        rcases ho g h1 with h3 | h3
        · have := h.inj i k g h3 h2; omega
        · have := h.lt (b := g) (.inr (.inr ⟨k, h2⟩)); omega
    · by_cases hki : k = i
      · simp only [hji, if_false, hki, if_true] at h1 h2
        rcases ho g h2 with h3 | h3
        · have := h.inj j i g h1 h3; omega
        · have := h.lt (b := g) (.inr (.inr ⟨j, h1⟩)); omega
      · simp only [hji, if_false, hki] at h1 h2
        exact h.inj j k g h1 h2
/-- A cache that a call has turned: how it lies then. -/
theorem LinesBody.updAt {w w' : World} {B S : Nat} {vs : Array Value} {os : Nat → Option Nat} {c : Lns} {F : Nat → Prop} (h : LinesBody w B S vs os c) (hF : ∀ b, F b ↔ (b = B ∨ b = S ∨ ∃ i, os i = some b)) {i : Nat} (hi : i < c.sets.length) {v' : Value} {L' : List Ln} {o' : Option Nat} (hL : L'.length ≤ c.ways)
    (hS' : w'.heap[S]? = some (.cells (vs.setIfInBounds i v') 26 (0, 0))) (hB' : w'.heap[B]? = w.heap[B]?) (hj : ∀ j g, j ≠ i → os j = some g → w'.heap[g]? = w.heap[g]?)
    (hs : SetAt w' v' L' o') (ho : ∀ g, o' = some g → (os i = some g ∨ w.heap.size ≤ g)) :
    ∃ F', LinesAt w' (.pointer (some ⟨B, 0, none⟩)) (c.setSet i L') F' ∧ Sub w F F' := by
  refine ⟨_, ⟨B, S, _, _, rfl, h.upd hi hL hS' hB' hj hs ho, fun b => Iff.rfl⟩, ?_⟩
  rintro b (rfl | rfl | ⟨j, hj'⟩)
  · exact .inl ((hF _).2 (.inl rfl))
  · exact .inl ((hF _).2 (.inr (.inl rfl)))
  · by_cases hji : j = i
    · subst hji
      simp only [if_true] at hj'
      rcases ho b hj' with h1 | h1
      · exact .inl ((hF _).2 (.inr (.inr ⟨j, h1⟩)))
      · exact .inr h1
    · simp only [hji, if_false] at hj'
      exact .inl ((hF _).2 (.inr (.inr ⟨j, hj'⟩)))
end Go
namespace Go.Proofs
open Go.RowKit
theorem LinesBody.cell1 {w : World} {B S : Nat} {vs : Array Value} {os : Nat → Option Nat} {c : Lns} (h : LinesBody w B S vs os c) : w.cell? ⟨B, 1, none⟩ = some (.int .i64 c.ways) := by
  rw [cell_of_row w B 1 _ 172 (0, 0) h.hB]; rfl
/-- Put: the answer, the cache, and that all else lies as it lay. -/
def PutPost (w : World) (p : Value) (c : Lns) (F : Nat → Prop) (l : Ln) (e : Ending) (w' : World) : Prop :=
  e = .returned (.int .i64 (c.put l).2) ∧ ∃ F', LinesAt w' p (c.put l).1 F' ∧ Chg F w w' ∧ Sub w F F'
theorem put_any (p : Value) (c : Lns) (F : Nat → Prop) (l : Ln) (w : World) (h : LinesAt w p c F) :
    Calls Try.prog 35 #[p, .agg l.cells] w (PutPost w p c F l) := by
  have hat := h
  obtain ⟨B, S, vs, os, rfl, hb, hF⟩ := h
  have hok := hb.ok
  have hi := Lns.setNo_lt hok l.num
  by_cases hst : l.st < 1 ∨ 3 < l.st
  · refine (put_bad B S vs os c l w hb hst).mono ?_
    rintro e w' ⟨rfl, hE⟩
    refine ⟨by simp [Lns.put, hst], F, ?_, hE.chg F, fun b hb => .inl hb⟩
    simp only [Lns.put, hst, if_true]
    exact hat.ext hE
  · have hst' : 1 ≤ l.st ∧ l.st ≤ 3 := by omega
    obtain ⟨v, hv, hs, hc⟩ := hb.set l.num
    have hS : S < w.heap.size := hb.lt (.inr (.inl rfl))
    have hlen := Lns.of_len hok l.num
    cases hidx : (c.of l.num).findIdx? (·.num == l.num) with
    | some j =>
      have HI : Hid (idxOf l.num (c.of l.num) = (j : Int)) := by unfold Hid idxOf; rw [hidx]
      obtain ⟨hj, h1, _⟩ := List.findIdx?_eq_some_iff_getElem.1 hidx
      rcases hs with ⟨h0, _⟩ | ⟨g, cap, cur, hog, rfl, hg, hcl, hcm, hcs, hx⟩
      · rw [h0] at hj; simp at hj
      · have hgl : g < w.heap.size := (Array.getElem?_eq_some_iff.1 hg).1
        have hr := Row_of_block Ln.okCells hg hcl hcs hx
        obtain ⟨b', off', hb', hag⟩ := hr j ((c.of l.num)[j]) (by simp [hj])
        cases hb'
        rw [Nat.zero_add] at hag
        refine (put_at B S vs os c l w hb hst' g cap j _ hS hgl hc HI hag hj (by simp [World.loose, hg])).mono ?_
        rintro e w' ⟨rfl, w1, hE, rfl⟩
        have hput : c.put l = (c.setSet (c.setNo l.num) ((c.of l.num).set j l), 0) := by simp only [Lns.put, hst, if_false, hidx]
        refine ⟨by rw [hput], ?_⟩
        rw [hput]
        have hgB : g ≠ B ∧ g ≠ S := ⟨(hb.apart _ g hog).1, (hb.apart _ g hog).2.1⟩
        have hg1 : w1.heap[g]? = some (.cells cur 39 (0, 0)) := (hE.block g hgl).trans hg
        have hoth : ∀ k, k < w.heap.size → k ≠ g → (w1.putAgg ⟨g, j * 18, none⟩ l.cells).heap[k]? = w.heap[k]? := fun k hk hne => by
          rw [World.putAgg_other _ _ _ (by simpa using hne)]; exact hE.block k hk
        have hset : SetAt (w1.putAgg ⟨g, j * 18, none⟩ l.cells) (.slice (some ⟨g, 0, none⟩) ((c.of l.num).set j l).length cap) ((c.of l.num).set j l) (some g) := by
          refine .inr ⟨g, cap, splice cur (j * 18) l.cells, rfl, rfl, World.putAgg_heap hg1, by simpa using hcl, hcm, ?_, ?_⟩
          · rw [size_splice _ _ _ (by rw [l.cells_size, hcs]; omega), hcs]
          · exact splice_flat Ln.okCells hx hj l
        obtain ⟨F', hF', hsub⟩ := hb.updAt hF hi (v' := .slice (some ⟨g, 0, none⟩) ((c.of l.num).set j l).length cap) (L' := (c.of l.num).set j l) (o' := some g) (w' := w1.putAgg ⟨g, j * 18, none⟩ l.cells) (by simpa using hlen)
          (by rw [hoth S hS (Ne.symm hgB.2), hb.hS]; rw [setIfInBounds_self (by simpa using hv)])
          (hoth B (hb.lt (.inl rfl)) (Ne.symm hgB.1))
          (fun k g' hk hg' => hoth g' (hb.lt (.inr (.inr ⟨k, hg'⟩))) (fun e => hk (hb.inj k _ g (e ▸ hg') hog)))
          hset
          (fun g' hg' => by cases hg'; exact .inl hog)
        refine ⟨F', hF', ?_, hsub⟩
        exact ⟨hE.os, hE.tape, hE.output, by rw [World.size_putAgg]; exact hE.size, fun k hk hn => hoth k hk fun e => hn ((hF k).2 (.inr (.inr ⟨_, e ▸ hog⟩)))⟩
    | none =>
      have HI : Hid (idxOf l.num (c.of l.num) = -1) := by unfold Hid idxOf; rw [hidx]
      obtain ⟨a, cap, rfl, -⟩ := hs.row Ln.okCells
      by_cases hfull : c.ways ≤ (c.of l.num).length
      · refine (put_full B S vs os c l w hb hst' a cap hS hc (LinesBody.cell1 hb) HI hfull).mono ?_
        rintro e w' ⟨rfl, hE⟩
        have hput : c.put l = (c, 200) := by simp only [Lns.put, hst, if_false, hidx, hfull, if_true]
        refine ⟨by rw [hput], F, ?_, hE.chg F, fun b hb => .inl hb⟩
        rw [hput]
        exact hat.ext hE
      · have hput : c.put l = (c.setSet (c.setNo l.num) (c.of l.num ++ [l]), 0) := by simp only [Lns.put, hst, if_false, hidx, hfull]
        have hoS : os (c.setNo l.num) ≠ some S := fun e => (hb.apart _ S e).2.1 rfl
        refine (put_new B S vs os c l w hb hst' a cap hS hc (frozen_of_row w S _ vs 26 hb.hS) (LinesBody.cell1 hb) (os (c.setNo l.num)) hs hoS HI (by omega) hok.w8).mono ?_
        rintro e w' ⟨rfl, W, v', o', w1, hE, hs', hgr, ho', rfl⟩
        refine ⟨by rw [hput], ?_⟩
        rw [hput]
        have hw1 : ∀ k, k < w.heap.size → os (c.setNo l.num) ≠ some k → w1.heap[k]? = w.heap[k]? := fun k hk hne =>
          (hgr.block k (hE.lt hk) (Ne.symm hne)).trans (hE.block k hk)
        have hBn : os (c.setNo l.num) ≠ some B := fun e => (hb.apart _ B e).1 rfl
        have hoth : ∀ k, k < w.heap.size → k ≠ S → os (c.setNo l.num) ≠ some k → (w1.setCell ⟨S, c.setNo l.num, none⟩ v').heap[k]? = w.heap[k]? := fun k hk hne hn => by
          rw [heap_setCell_other _ _ _ _ (by simpa using hne)]; exact hw1 k hk hn
        have hS1 : w1.heap[S]? = some (.cells vs 26 (0, 0)) := (hw1 S hS hoS).trans hb.hS
        have hfresh : ∀ g, o' = some g → (os (c.setNo l.num) = some g ∨ w.heap.size ≤ g) := fun g hg => by
          rcases ho' with h1 | ⟨g', h1, h2⟩
          · exact .inl (h1 ▸ hg)
          · rw [hg] at h1; cases h1; exact .inr (Nat.le_trans hE.size h2)
        have hne : ∀ g, o' = some g → g ≠ S := fun g hg e => by
          rcases hfresh g hg with h1 | h1
          · exact hoS (e ▸ h1)
          · omega
        obtain ⟨F', hF', hsub⟩ := hb.updAt hF hi (v' := v') (L' := c.of l.num ++ [l]) (o' := o') (w' := w1.setCell ⟨S, c.setNo l.num, none⟩ v') (by simp; omega)
          (heap_setCell_same w1 S _ vs 26 v' hS1)
          (hoth B (hb.lt (.inl rfl)) hb.bs hBn)
          (fun k g' hk hg' => hoth g' (hb.lt (.inr (.inr ⟨k, hg'⟩))) (fun e => (hb.apart k g' hg').2.1 e) (fun e => hk (hb.inj k _ g' hg' e)))
          (hs'.keep fun b hb' => heap_setCell_other _ _ _ _ (by simpa using hne b hb'))
          hfresh
        refine ⟨F', hF', ?_, hsub⟩
        refine ⟨hgr.os.trans hE.os, hgr.tape.trans hE.tape, hgr.output.trans hE.output, ?_, fun k hk hn => hoth k hk (fun e => hn ((hF k).2 (.inr (.inl e)))) (fun e => hn ((hF k).2 (.inr (.inr ⟨_, e⟩))))⟩
        have : (w1.setCell ⟨S, c.setNo l.num, none⟩ v').heap.size = w1.heap.size := by simp [World.setCell]
        rw [this]; exact Nat.le_trans hE.size hgr.size
end Go.Proofs
/- slices.Delete of one line. -/
namespace Go.Proofs
open Go.RowKit
/-- What slices.Delete of one line leaves. -/
def DelPost (w : World) (g cap : Nat) (L : List Ln) (e : Ending) (w' : World) : Prop :=
  ∃ cur2, e = .returned (.slice (some ⟨g, 0, none⟩) L.length cap) ∧ cur2.size = cap * 18 ∧ cur2.toList.take (L.length * 18) = flat Ln.cells L ∧ w'.heap[g]? = some (.cells cur2 39 (0, 0)) ∧ w.grownBy w' (some g)
/-- Behind the append: the block, and the row that it holds. -/
def delCur (cur : Array Value) (L : List Ln) (i : Nat) : Array Value := (cur.toList.take (i * 18) ++ flat Ln.cells (L.drop (i + 1)) ++ cur.toList.drop (i * 18 + (L.drop (i + 1)).length * 18)).toArray
theorem delCur_size {cur : Array Value} {L : List Ln} {i cap : Nat} (hs : cur.size = cap * 18) (hc : L.length ≤ cap) (hi : i < L.length) : (delCur cur L i).size = cap * 18 := by
  have := length_flat (k := 18) Ln.okCells (L.drop (i + 1))
  simp only [delCur, List.size_toArray, List.length_append, List.length_take, List.length_drop, Array.length_toList, this, hs]
  omega
theorem delCur_take {cur : Array Value} {L : List Ln} {i : Nat} (hx : cur.toList.take (L.length * 18) = flat Ln.cells L) (hi : i < L.length) : (delCur cur L i).toList.take ((L.eraseIdx i).length * 18) = flat Ln.cells (L.eraseIdx i) := by
  have h1 := length_flat (k := 18) Ln.okCells (L.drop (i + 1))
  have h2 := length_flat (k := 18) Ln.okCells (L.take i)
  have e1 : cur.toList.take (i * 18) = flat Ln.cells (L.take i) := by
    have : flat Ln.cells L = flat Ln.cells (L.take i) ++ flat Ln.cells (L.drop i) := by rw [← flat_append, List.take_append_drop]
    have h3 : (flat Ln.cells (L.take i)).length = i * 18 := by rw [h2, List.length_take]; congr 1; omega
    have h4 : cur.toList.take (i * 18) = (cur.toList.take (L.length * 18)).take (i * 18) := by rw [List.take_take]; congr 1; omega
    rw [h4, hx, this, ← h3]
    exact List.take_left
  have e2 : (L.eraseIdx i).length * 18 = (flat Ln.cells (L.take i) ++ flat Ln.cells (L.drop (i + 1))).length := by
    rw [List.length_append, h1, h2, List.length_eraseIdx, if_pos hi, List.length_take, List.length_drop]; omega
  unfold delCur
  simp only
  rw [e1, e2, List.take_left, List.eraseIdx_eq_take_drop_succ, flat_append]
set_option maxRecDepth 100000 in
set_option maxHeartbeats 400000 in
theorem delete_any (g cap i : Nat) (cur : Array Value) (L : List Ln) (w : World) (hg : w.heap[g]? = some (.cells cur 39 (0, 0))) (hc : L.length ≤ cap) (hs : cur.size = cap * 18) (hx : cur.toList.take (L.length * 18) = flat Ln.cells L)
    (hi : i < L.length) (hl8 : L.length ≤ 8) :
    Calls Try.prog 92 #[.slice (some ⟨g, 0, none⟩) L.length cap, .int .i64 i, .int .i64 ((i : Int) + 1)] w (DelPost w g cap (L.eraseIdx i)) := by
  obtain ⟨i0, hi0, hz0, hz1, hz2⟩ := info_parts Try.info39
  have hne : ((i : Int) == (i : Int) + 1) = false := by simp; omega
  have hcap : (cap = 0) = False := by simp; omega
  have hrow : Row 18 Ln.cells w (some ⟨g, (i + 1) * 18, none⟩) (L.drop (i + 1)) := by
    intro j x hj
    rw [List.getElem?_drop] at hj
    obtain ⟨b', off, hb', hag⟩ := Row_of_block Ln.okCells hg hc hs hx (i + 1 + j) x hj
    cases hb'
    exact ⟨g, (i + 1) * 18, rfl, by rw [← hag]; congr 2; omega⟩
  have hlen : i + (L.drop (i + 1)).length = L.length - 1 := by rw [List.length_drop]; omega
  have hr : ∀ ty A C, (A = ⟨g, (i + 1) * 18, none⟩ ∨ L.drop (i + 1) = []) → (Builtin.append_ #[26, 26] ty #[.slice (some ⟨g, 0, none⟩) i cap, .slice (some A) (L.length - (i + 1)) C]).run Try.prog w.drew = .ok (.slice (some ⟨g, 0, none⟩) (L.length - 1) cap) (w.drew.setRow g (delCur cur L i)) := by
    intro ty A C hA
    have hrow' : Row 18 Ln.cells w (some A) (L.drop (i + 1)) := by
      rcases hA with rfl | hA
      · exact hrow
      · rw [hA]; intro j x hj; simp at hj
    have := run_append_in (P := Try.prog) 26 ty i0 Try.underlying26 hi0 hz1 (by decide) Ln.okCells w.drew g i cap cur hg hs A C (L.drop (i + 1)) hrow' (by omega)
    rw [hlen, List.length_drop] at this
    rw [this, delCur, List.length_drop]
  have hsz1 := delCur_size hs hc hi
  have htk := delCur_take hx hi
  have hle : (L.eraseIdx i).length = L.length - 1 := by rw [List.length_eraseIdx, if_pos hi]
  have hg1 : (w.drew.setRow g (delCur cur L i)).heap[g]? = some (.cells (delCur cur L i) 39 (0, 0)) := setRow_heap w.drew g cur _ 39 _ hg
  have hcl : ∀ ty C, (Builtin.clear_ #[26] ty #[.slice (some ⟨g, (L.length - 1) * 18, none⟩) 1 C]).run Try.prog (w.drew.setRow g (delCur cur L i)) = .ok (.tuple #[]) ((w.drew.setRow g (delCur cur L i)).setRow g (splice (delCur cur L i) ((L.length - 1) * 18) Ln.zero.cells)) := fun ty C =>
    run_clear_one (P := Try.prog) 26 ty i0 Try.underlying26 hi0 _ hz0 (Ln.okCells _) _ g _ C _ hg1 (by rw [hsz1]; omega)
  have fin : DelPost w g cap (L.eraseIdx i) (.returned (.slice (some ⟨g, 0, none⟩) (L.length - 1) cap)) ((w.drew.setRow g (delCur cur L i)).setRow g (splice (delCur cur L i) ((L.length - 1) * 18) Ln.zero.cells)) := by
    refine ⟨_, by rw [hle], ?_, ?_, setRow_heap _ g _ _ 39 _ hg1, ⟨rfl, rfl, rfl, by simp, fun k hk hn => ?_⟩⟩
    · rw [size_splice _ _ _ (by rw [Ln.cells_size, hsz1]; omega), hsz1]
    · rw [← htk, hle]
      unfold splice
      simp only [List.append_assoc]
      rw [List.take_append_of_le_length (by simp; omega), List.take_take]
      congr 1; omega
    · rw [setRow_other _ _ _ _ (by simpa using hn), setRow_other _ _ _ _ (by simpa using hn)]; rfl
  have FIN := Lib.hid fin
  have HR := Lib.hid hr
  have HCL := Lib.hid hcl
  clear fin hr hcl htk hle hg1 hrow hlen hx hz0 hz1 hz2 hsz1
  have hic : i ≤ cap := by omega
  have hil : i + 1 ≤ L.length := by omega
  have hz : (0 : Int) ≤ (i : Int) + 1 := by omega
  have hz' : (i : Int) + 1 ≤ (L.length : Int) := by omega
  by_cases hce : cap = i + 1
  · have hdrop : L.drop (i + 1) = [] := List.drop_of_length_le (by omega)
    have HR1 : Hid (∀ ty, (Builtin.append_ #[26, 26] ty #[.slice (some ⟨g, 0, none⟩) i cap, .slice (some ⟨g, 0, none⟩) (L.length - (i + 1)) (cap - (i + 1))]).run Try.prog w.drew = .ok (.slice (some ⟨g, 0, none⟩) (L.length - 1) cap) (w.drew.setRow g (delCur cur L i))) := fun ty => HR.out ty _ _ (.inr hdrop)
    have hce' : (cap = i + 1) = True := by simpa using hce
    clear hce hdrop
    go_enter Try.func92, Try.ntmps92
    go_wp2_with fail
    go_region_law (refine step_append_run rfl (.tmp 22) (.tmp 25) 26 rfl _ _ _ _ HR1.out (by simp [Act.eval, Act.put]) (by simp [Act.eval, Act.put]) ?_)
    have hl1 : L.length - (L.length - 1) = 1 := by omega
    have hl2 : (cap = L.length - 1) = False := by simp; omega
    have hcl0 := HCL.out 0 (cap - (L.length - 1))
    go_wp2_with fail
    go_ret
    exact FIN.out
  · have hce' : (cap = i + 1) = False := by simpa using hce
    clear hce
    go_enter Try.func92, Try.ntmps92
    go_wp2_with fail
    have HR1 : Hid (∀ ty, (Builtin.append_ #[26, 26] ty #[.slice (some ⟨g, 0, none⟩) i cap, .slice (some ⟨g, (i + 1) * 18, none⟩) (L.length - (i + 1)) (cap - (i + 1))]).run Try.prog w.drew = .ok (.slice (some ⟨g, 0, none⟩) (L.length - 1) cap) (w.drew.setRow g (delCur cur L i))) := fun ty => HR.out ty _ _ (.inl rfl)
    go_region_law (refine step_append_run rfl (.tmp 22) (.tmp 25) 26 rfl _ _ _ _ HR1.out (by simp [Act.eval, Act.put]) (by simp [Act.eval, Act.put]) ?_)
    have hl1 : L.length - (L.length - 1) = 1 := by omega
    have hl2 : (cap = L.length - 1) = False := by simp; omega
    have hcl0 := HCL.out 0 (cap - (L.length - 1))
    go_wp2_with fail
    go_ret
    exact FIN.out
end Go.Proofs
/- Drop: what it answers, and what the cache is then. -/
namespace Go
def Lns.drop (c : Lns) (n : Int) : Lns × Bool :=
  match (c.of n).findIdx? (·.num == n) with
  | some j => (c.setSet (c.setNo n) ((c.of n).eraseIdx j), true)
  | none => (c, false)
end Go
namespace Go.Proofs
open Go.RowKit
set_option maxRecDepth 100000 in
set_option maxHeartbeats 400000 in
theorem drop_no (B S : Nat) (vs : Array Value) (os : Nat → Option Nat) (c : Lns) (n : Int) (w : World) (hb : LinesBody w B S vs os c) (h0 : 0 ≤ n) (h1 : n < 4294967296)
    (HI : Hid (idxOf n (c.of n) = -1)) :
    Calls Try.prog 36 #[.pointer (some ⟨B, 0, none⟩), .int .u32 n] w fun e w' => e = .returned (.bool false) ∧ Ext w w' := by
  go_enter Try.func36, Try.ntmps36
  go_wp2_with fail
  refine (none_body hb).mono ?_
  rintro e w1 ⟨rfl, rfl⟩
  go_wp2_with fail
  refine (of_body hb n h0 h1).mono ?_
  rintro e w1 ⟨rfl, hE⟩
  rw [HI.out]
  go_wp2_with fail
  go_ret
  exact ⟨rfl, hE⟩
/-- What Drop leaves where a line is dropped. -/
def DropYes (w : World) (S i g cap : Nat) (L : List Ln) (e : Ending) (w' : World) : Prop :=
  e = .returned (.bool true) ∧ ∃ W w1 cur2, Ext w W ∧ cur2.size = cap * 18 ∧ cur2.toList.take (L.length * 18) = flat Ln.cells L ∧ w1.heap[g]? = some (.cells cur2 39 (0, 0)) ∧ W.grownBy w1 (some g) ∧ w' = w1.setCell ⟨S, i, none⟩ (.slice (some ⟨g, 0, none⟩) L.length cap)
set_option maxRecDepth 100000 in
set_option maxHeartbeats 400000 in
theorem drop_yes (B S : Nat) (vs : Array Value) (os : Nat → Option Nat) (c : Lns) (n : Int) (w : World) (hb : LinesBody w B S vs os c) (h0 : 0 ≤ n) (h1 : n < 4294967296)
    (g cap i : Nat) (cur : Array Value) (hS : S < w.heap.size) (hc : w.cell? ⟨S, c.setNo n, none⟩ = some (.slice (some ⟨g, 0, none⟩) (c.of n).length cap)) (hf : w.frozen? ⟨S, c.setNo n, none⟩ = false)
    (HG : Hid (w.heap[g]? = some (.cells cur 39 (0, 0)))) (hcl : (c.of n).length ≤ cap) (HS : Hid (cur.size = cap * 18)) (HX : Hid (cur.toList.take ((c.of n).length * 18) = flat Ln.cells (c.of n))) (HgS : Hid (g ≠ S)) (hg0 : g < w.heap.size)
    (HI : Hid (idxOf n (c.of n) = (i : Int))) (hil : i < (c.of n).length) (hl8 : (c.of n).length ≤ 8) :
    Calls Try.prog 36 #[.pointer (some ⟨B, 0, none⟩), .int .u32 n] w (DropYes w S (c.setNo n) g cap ((c.of n).eraseIdx i)) := by
  go_enter Try.func36, Try.ntmps36
  go_wp2_with fail
  refine (none_body hb).mono ?_
  rintro e w1 ⟨rfl, rfl⟩
  go_wp2_with fail
  refine (of_body hb n h0 h1).mono ?_
  rintro e w1 ⟨rfl, hE⟩
  rw [HI.out]
  obtain ⟨r1, r2, r3, r5, r4⟩ := hE.rules
  go_wp2_with fail
  refine (delete_any g cap i cur (c.of n) w1 ((hE.block g hg0).trans HG.out) hcl HS.out HX.out hil hl8).mono ?_
  rintro e w2 ⟨cur2, rfl, hs2, hx2, hg2, hgr⟩
  obtain ⟨c1, c2⟩ := grownBy_cell hgr (b := S) (hE.lt hS) (fun e => HgS.out (by simpa using e)) (c.setNo n)
  have H1 := Lib.hid hs2
  have H2 := Lib.hid hx2
  have H3 := Lib.hid hg2
  clear hs2 hx2 hg2
  go_wp2_with fail
  go_ret
  exact ⟨rfl, w1, w2, cur2, hE, H1.out, H2.out, H3.out, hgr, rfl⟩
/-- Drop: the answer, the cache, and that all else lies as it lay. -/
def DropPost (w : World) (p : Value) (c : Lns) (F : Nat → Prop) (n : Int) (e : Ending) (w' : World) : Prop :=
  e = .returned (.bool (c.drop n).2) ∧ ∃ F', LinesAt w' p (c.drop n).1 F' ∧ Chg F w w' ∧ Sub w F F'
theorem drop_any (p : Value) (c : Lns) (F : Nat → Prop) (n : Int) (w : World) (h : LinesAt w p c F) (h0 : 0 ≤ n) (h1 : n < 4294967296) :
    Calls Try.prog 36 #[p, .int .u32 n] w (DropPost w p c F n) := by
  have hat := h
  obtain ⟨B, S, vs, os, rfl, hb, hF⟩ := h
  have hok := hb.ok
  have hi := Lns.setNo_lt hok n
  obtain ⟨v, hv, hs, hc⟩ := hb.set n
  have hS : S < w.heap.size := hb.lt (.inr (.inl rfl))
  have hlen := Lns.of_len hok n
  have hw8 := hok.w8
  cases hidx : (c.of n).findIdx? (·.num == n) with
  | some j =>
    have HI : Hid (idxOf n (c.of n) = (j : Int)) := by unfold Hid idxOf; rw [hidx]
    obtain ⟨hj, -, -⟩ := List.findIdx?_eq_some_iff_getElem.1 hidx
    rcases hs with ⟨h0, _⟩ | ⟨g, cap, cur, hog, rfl, hg, hcl, hcm, hcs, hx⟩
    · rw [h0] at hj; simp at hj
    · have hgl : g < w.heap.size := (Array.getElem?_eq_some_iff.1 hg).1
      have hgB : g ≠ B ∧ g ≠ S := ⟨(hb.apart _ g hog).1, (hb.apart _ g hog).2.1⟩
      refine (drop_yes B S vs os c n w hb h0 h1 g cap j cur hS hc (frozen_of_row w S _ vs 26 hb.hS) hg hcl hcs hx hgB.2 hgl HI hj (by omega)).mono ?_
      rintro e w' ⟨rfl, W, w1, cur2, hE, hs2, hx2, hg2, hgr, rfl⟩
      have hdrop : c.drop n = (c.setSet (c.setNo n) ((c.of n).eraseIdx j), true) := by simp only [Lns.drop, hidx]
      refine ⟨by rw [hdrop], ?_⟩
      rw [hdrop]
      have hw1 : ∀ k, k < w.heap.size → k ≠ g → w1.heap[k]? = w.heap[k]? := fun k hk hne => (hgr.block k (hE.lt hk) (by simpa using hne)).trans (hE.block k hk)
      have hoth : ∀ k, k < w.heap.size → k ≠ S → k ≠ g → (w1.setCell ⟨S, c.setNo n, none⟩ (.slice (some ⟨g, 0, none⟩) ((c.of n).eraseIdx j).length cap)).heap[k]? = w.heap[k]? := fun k hk hne hn => by
        rw [heap_setCell_other _ _ _ _ (by simpa using hne)]; exact hw1 k hk hn
      have hS1 : w1.heap[S]? = some (.cells vs 26 (0, 0)) := (hw1 S hS (Ne.symm hgB.2)).trans hb.hS
      have hle : ((c.of n).eraseIdx j).length ≤ (c.of n).length := by rw [List.length_eraseIdx]; split <;> omega
      have hset : SetAt (w1.setCell ⟨S, c.setNo n, none⟩ (.slice (some ⟨g, 0, none⟩) ((c.of n).eraseIdx j).length cap)) (.slice (some ⟨g, 0, none⟩) ((c.of n).eraseIdx j).length cap) ((c.of n).eraseIdx j) (some g) :=
        .inr ⟨g, cap, cur2, rfl, rfl, by rw [heap_setCell_other _ _ _ _ (by simpa using hgB.2)]; exact hg2, by omega, hcm, hs2, hx2⟩
      obtain ⟨F', hF', hsub⟩ := hb.updAt hF hi (L' := (c.of n).eraseIdx j) (by omega) (heap_setCell_same w1 S _ vs 26 _ hS1) (hoth B (hb.lt (.inl rfl)) hb.bs (Ne.symm hgB.1))
        (fun k g' hk hg' => hoth g' (hb.lt (.inr (.inr ⟨k, hg'⟩))) (fun e => (hb.apart k g' hg').2.1 e) (fun e => hk (hb.inj k _ g' hg' (e ▸ hog))))
        hset (fun g' hg' => by cases hg'; exact .inl hog)
      refine ⟨F', hF', ?_, hsub⟩
      refine ⟨hgr.os.trans hE.os, hgr.tape.trans hE.tape, hgr.output.trans hE.output, ?_, fun k hk hn => hoth k hk (fun e => hn ((hF k).2 (.inr (.inl e)))) (fun e => hn ((hF k).2 (.inr (.inr ⟨_, e ▸ hog⟩))))⟩
      have : (w1.setCell ⟨S, c.setNo n, none⟩ (.slice (some ⟨g, 0, none⟩) ((c.of n).eraseIdx j).length cap)).heap.size = w1.heap.size := by simp [World.setCell]
      rw [this]; exact Nat.le_trans hE.size hgr.size
  | none =>
    have HI : Hid (idxOf n (c.of n) = -1) := by unfold Hid idxOf; rw [hidx]
    refine (drop_no B S vs os c n w hb h0 h1 HI).mono ?_
    rintro e w' ⟨rfl, hE⟩
    have hdrop : c.drop n = (c, false) := by simp only [Lns.drop, hidx]
    refine ⟨by rw [hdrop], F, ?_, hE.chg F, fun b hb => .inl hb⟩
    rw [hdrop]
    exact hat.ext hE
end Go.Proofs
/- Victim: which line is to make room. -/
namespace Go
/-- A choice among n. -/
def choice (pick : Int) (n : Nat) : Nat := (pick % (n : Int)).toNat
def Lns.victim (c : Lns) (n : Int) (pick : Int) : Option Ln :=
  match (c.of n).findIdx? (·.num == n) with
  | some _ => none
  | none => if (c.of n).length < c.ways then none else (c.of n)[choice pick (c.of n).length]?
theorem choice_lt (pick : Int) {n : Nat} (h : 0 < n) : choice pick n < n := by
  have := Int.emod_nonneg pick (b := (n : Int)) (by omega)
  have := Int.emod_lt_of_pos pick (b := (n : Int)) (by omega)
  unfold choice; omega
theorem tmod_cases (pick : Int) {n : Nat} (h : 0 < n) : pick.tmod (n : Int) = (choice pick n : Nat) ∨ pick.tmod (n : Int) = (choice pick n : Nat) - (n : Int) := by
  have h1 := Int.emod_nonneg pick (b := (n : Int)) (by omega)
  have h2 := Int.emod_lt_of_pos pick (b := (n : Int)) (by omega)
  have h3 : ((choice pick n : Nat) : Int) = pick % n := by unfold choice; omega
  have := Int.tmod_eq_emod (a := pick) (b := (n : Int))
  rw [this, h3]
  split
  · left; simp
  · right; simp
theorem choice_tmod (pick : Int) {n : Nat} (h : 0 < n) : (pick.tmod (n : Int) + (n : Int)).tmod (n : Int) = (choice pick n : Nat) := by
  have hl := choice_lt pick h
  rcases tmod_cases pick h with h1 | h1
  · rw [h1, Int.tmod_eq_emod_of_nonneg (by omega), Int.add_emod_right, Int.emod_eq_of_lt (by omega) (by omega)]
  · rw [h1, show ((choice pick n : Nat) : Int) - (n : Int) + n = (choice pick n : Nat) by omega, Int.tmod_eq_emod_of_nonneg (by omega), Int.emod_eq_of_lt (by omega) (by omega)]
end Go
namespace Go.Proofs
open Go.RowKit
set_option maxRecDepth 100000 in
set_option maxHeartbeats 400000 in
theorem victim_there (B S : Nat) (vs : Array Value) (os : Nat → Option Nat) (c : Lns) (n pick : Int) (w : World) (hb : LinesBody w B S vs os c) (h0 : 0 ≤ n) (h1 : n < 4294967296)
    (a : Option Addr) (cap : Nat) (hS : S < w.heap.size) (hc : w.cell? ⟨S, c.setNo n, none⟩ = some (.slice a (c.of n).length cap))
    (hw : w.cell? ⟨B, 1, none⟩ = some (.int .i64 c.ways)) (i : Nat) (HI : Hid (idxOf n (c.of n) = (i : Int))) :
    Calls Try.prog 29 #[.pointer (some ⟨B, 0, none⟩), .int .u32 n, .int .i64 pick] w fun e w' => e = .returned (.tuple #[.agg Ln.zero.cells, .bool false]) ∧ Ext w w' := by
  have hB : B < w.heap.size := World.block_lt_of_cell? w _ hw
  go_enter Try.func29, Try.ntmps29
  go_wp2_with fail
  refine (none_body (hb.ext ((Ext.refl w).alloc _))).mono ?_
  rintro e w1 ⟨rfl, rfl⟩
  go_wp2_with fail
  refine (of_body (hb.ext ((Ext.refl w).alloc _)) n h0 h1).mono ?_
  rintro e w1 ⟨rfl, hE⟩
  rw [HI.out]
  obtain ⟨r1, r2, r3, r5, r4⟩ := hE.rules
  go_wp2_with fail
  refine bodyPost_ret (resCT rfl _ _ ⟨w.heap.size, 0, none⟩ (.agg Ln.zero.cells) rfl (run_loadVar_agg 39 18 Try.isAgg39 Try.sizeOf39 _ _ _ (by simp [go_sem, r3]))) rfl ⟨rfl, ?_⟩
  exact ((Ext.refl w).alloc _).trans hE
set_option maxRecDepth 100000 in
set_option maxHeartbeats 400000 in
theorem victim_room (B S : Nat) (vs : Array Value) (os : Nat → Option Nat) (c : Lns) (n pick : Int) (w : World) (hb : LinesBody w B S vs os c) (h0 : 0 ≤ n) (h1 : n < 4294967296)
    (a : Option Addr) (cap : Nat) (hS : S < w.heap.size) (hc : w.cell? ⟨S, c.setNo n, none⟩ = some (.slice a (c.of n).length cap))
    (hw : w.cell? ⟨B, 1, none⟩ = some (.int .i64 c.ways)) (HI : Hid (idxOf n (c.of n) = -1)) (hlt : (c.of n).length < c.ways) :
    Calls Try.prog 29 #[.pointer (some ⟨B, 0, none⟩), .int .u32 n, .int .i64 pick] w fun e w' => e = .returned (.tuple #[.agg Ln.zero.cells, .bool false]) ∧ Ext w w' := by
  have hB : B < w.heap.size := World.block_lt_of_cell? w _ hw
  go_enter Try.func29, Try.ntmps29
  go_wp2_with fail
  refine (none_body (hb.ext ((Ext.refl w).alloc _))).mono ?_
  rintro e w1 ⟨rfl, rfl⟩
  go_wp2_with fail
  refine (of_body (hb.ext ((Ext.refl w).alloc _)) n h0 h1).mono ?_
  rintro e w1 ⟨rfl, hE⟩
  rw [HI.out]
  obtain ⟨r1, r2, r3, r5, r4⟩ := hE.rules
  go_wp2_with fail
  refine bodyPost_ret (resCT rfl _ _ ⟨w.heap.size, 0, none⟩ (.agg Ln.zero.cells) rfl (run_loadVar_agg 39 18 Try.isAgg39 Try.sizeOf39 _ _ _ (by simp [go_sem, r3]))) rfl ⟨rfl, ?_⟩
  exact ((Ext.refl w).alloc _).trans hE
set_option maxRecDepth 100000 in
set_option maxHeartbeats 400000 in
theorem victim_is (B S : Nat) (vs : Array Value) (os : Nat → Option Nat) (c : Lns) (n pick : Int) (w : World) (hb : LinesBody w B S vs os c) (h0 : 0 ≤ n) (h1 : n < 4294967296)
    (b off : Nat) (cap : Nat) (hS : S < w.heap.size) (hc : w.cell? ⟨S, c.setNo n, none⟩ = some (.slice (some ⟨b, off, none⟩) (c.of n).length cap))
    (hw : w.cell? ⟨B, 1, none⟩ = some (.int .i64 c.ways)) (HI : Hid (idxOf n (c.of n) = -1)) (hge : c.ways ≤ (c.of n).length) (hle : (c.of n).length ≤ 8) (hw1 : 1 ≤ c.ways)
    (k : Nat) (x : Ln) (HK : Hid (choice pick (c.of n).length = k)) (hkl : k < (c.of n).length) (hg : w.agg? ⟨b, off + k * 18, none⟩ 18 = some x.cells) (hb0 : b < w.heap.size) :
    Calls Try.prog 29 #[.pointer (some ⟨B, 0, none⟩), .int .u32 n, .int .i64 pick] w fun e w' => e = .returned (.tuple #[.agg x.cells, .bool true]) ∧ Ext w w' := by
  have hB : B < w.heap.size := World.block_lt_of_cell? w _ hw
  go_enter Try.func29, Try.ntmps29
  go_wp2_with fail
  refine (none_body (hb.ext ((Ext.refl w).alloc _))).mono ?_
  rintro e w1 ⟨rfl, rfl⟩
  go_wp2_with fail
  refine (of_body (hb.ext ((Ext.refl w).alloc _)) n h0 h1).mono ?_
  rintro e w1 ⟨rfl, hE⟩
  rw [HI.out]
  obtain ⟨r1, r2, r3, r5, r4⟩ := hE.rules
  go_wp2_with fail
  have hT := choice_tmod pick (n := (c.of n).length) (by omega)
  have hb3 : -8 ≤ pick.tmod ((c.of n).length : Int) ∧ pick.tmod ((c.of n).length : Int) ≤ 8 := by
    have := choice_lt pick (n := (c.of n).length) (by omega)
    rcases tmod_cases pick (n := (c.of n).length) (by omega) with h | h <;> omega
  rw [HK.out] at hT
  generalize hm : pick.tmod ((c.of n).length : Int) = m at *
  obtain ⟨hb3, hb4⟩ := hb3
  have hwr : IntKind.i64.wrap (m + ((c.of n).length : Int)) = m + ((c.of n).length : Int) := IntWalk.i64_in _ (by omega)
  have hN0 : (c.of n = []) = False := by simp; intro h; rw [h] at hkl; simp at hkl
  go_still_tail 12, (by kernel_rfl)
  change wpList _ _ _ _ _ w1.drew
  go_wp2_with fail
  refine bodyPost_ret (resCT rfl _ _ ⟨w.heap.size, 0, none⟩ (.agg x.cells) rfl (run_loadVar_agg 39 18 Try.isAgg39 Try.sizeOf39 _ _ _ (by simp [go_sem, r3]))) rfl ⟨rfl, ?_⟩
  exact ((((Ext.refl w).alloc _).trans hE).putAgg _ _ (Nat.le_refl _)).drew
/-- Victim: the line that is to make room. -/
theorem victim_any (p : Value) (c : Lns) (F : Nat → Prop) (n pick : Int) (w : World) (h : LinesAt w p c F) (h0 : 0 ≤ n) (h1 : n < 4294967296) :
    Calls Try.prog 29 #[p, .int .u32 n, .int .i64 pick] w fun e w' => e = .returned (.tuple #[.agg (lnOr (c.victim n pick)).cells, .bool (c.victim n pick).isSome]) ∧ Ext w w' := by
  obtain ⟨B, S, vs, os, rfl, hb, hF⟩ := h
  have hok := hb.ok
  obtain ⟨v, hv, hs, hc⟩ := hb.set n
  have hS : S < w.heap.size := hb.lt (.inr (.inl rfl))
  have hlen := Lns.of_len hok n
  have hw8 := hok.w8
  have hw1 := hok.w1
  obtain ⟨a, cap, rfl, hr⟩ := hs.row Ln.okCells
  cases hidx : (c.of n).findIdx? (·.num == n) with
  | some j =>
    have hv : c.victim n pick = none := by simp only [Lns.victim, hidx]
    rw [hv]
    exact victim_there B S vs os c n pick w hb h0 h1 a cap hS hc (LinesBody.cell1 hb) j (by unfold Hid idxOf; rw [hidx])
  | none =>
    have HI : Hid (idxOf n (c.of n) = -1) := by unfold Hid idxOf; rw [hidx]
    by_cases hlt : (c.of n).length < c.ways
    · have hv : c.victim n pick = none := by simp only [Lns.victim, hidx, hlt, if_true]
      rw [hv]
      exact victim_room B S vs os c n pick w hb h0 h1 a cap hS hc (LinesBody.cell1 hb) HI hlt
    · have hk := choice_lt pick (n := (c.of n).length) (by omega)
      have hv : c.victim n pick = some (c.of n)[choice pick (c.of n).length] := by simp [Lns.victim, hidx, hlt]
      rw [hv]
      obtain ⟨b, off, rfl, hg⟩ := hr (choice pick (c.of n).length) _ (List.getElem?_eq_getElem hk)
      exact victim_is B S vs os c n pick w hb h0 h1 b off cap hS hc (LinesBody.cell1 hb) HI (by omega) (by omega) hw1 _ _ (rfl : choice pick (c.of n).length = _) hk hg (World.agg?_lt hg)
end Go.Proofs
