/- slices.Delete of one line. -/
import Derived.Test.YtgggokajapoopaaPut
namespace Go.Proofs
open Go.RowKit
/-- What slices.Delete of one line leaves. -/
def DelPost (w : World) (g cap : Nat) (L : List Ln) (e : Ending) (w' : World) : Prop :=
  ∃ cur2, e = .returned (.slice (some ⟨g, 0, none⟩) L.length cap) ∧ cur2.size = cap * 18 ∧ cur2.toList.take (L.length * 18) = flat Ln.cells L ∧ w'.heap[g]? = some (.cells cur2 39 (0, 0)) ∧ w.grownBy w' (some g)
/-- Behind the append: the block, and the row that it holds. -/
def delCur (cur : Array Value) (L : List Ln) (i : Nat) : Array Value := (cur.toList.take (i * 18) ++ flat Ln.cells (L.drop (i + 1)) ++ cur.toList.drop (i * 18 + (L.drop (i + 1)).length * 18)).toArray
theorem delCur_size {cur : Array Value} {L : List Ln} {i cap : Nat} (hs : cur.size = cap * 18) (hc : L.length ≤ cap) (hi : i < L.length) : (delCur cur L i).size = cap * 18 := by
  have := length_flat (k := 18) Ln.okCells (L.drop (i + 1))
  simp only [delCur, List.size_toArray, List.length_append, List.length_take, List.length_drop, Array.length_toList, this, hs]
  omega
theorem delCur_take {cur : Array Value} {L : List Ln} {i : Nat} (hx : cur.toList.take (L.length * 18) = flat Ln.cells L) (hi : i < L.length) : (delCur cur L i).toList.take ((L.eraseIdx i).length * 18) = flat Ln.cells (L.eraseIdx i) := by
  have h1 := length_flat (k := 18) Ln.okCells (L.drop (i + 1))
  have h2 := length_flat (k := 18) Ln.okCells (L.take i)
  have e1 : cur.toList.take (i * 18) = flat Ln.cells (L.take i) := by
    have : flat Ln.cells L = flat Ln.cells (L.take i) ++ flat Ln.cells (L.drop i) := by rw [← flat_append, List.take_append_drop]
    have h3 : (flat Ln.cells (L.take i)).length = i * 18 := by rw [h2, List.length_take]; congr 1; omega
    have h4 : cur.toList.take (i * 18) = (cur.toList.take (L.length * 18)).take (i * 18) := by rw [List.take_take]; congr 1; omega
    rw [h4, hx, this, ← h3]
    exact List.take_left
  have e2 : (L.eraseIdx i).length * 18 = (flat Ln.cells (L.take i) ++ flat Ln.cells (L.drop (i + 1))).length := by
    rw [List.length_append, h1, h2, List.length_eraseIdx, if_pos hi, List.length_take, List.length_drop]; omega
  unfold delCur
  simp only
  rw [e1, e2, List.take_left, List.eraseIdx_eq_take_drop_succ, flat_append]
set_option maxRecDepth 100000 in
set_option maxHeartbeats 400000 in
theorem delete_any (g cap i : Nat) (cur : Array Value) (L : List Ln) (w : World) (hg : w.heap[g]? = some (.cells cur 39 (0, 0))) (hc : L.length ≤ cap) (hs : cur.size = cap * 18) (hx : cur.toList.take (L.length * 18) = flat Ln.cells L)
    (hi : i < L.length) (hl8 : L.length ≤ 8) :
    Calls Try.prog 92 #[.slice (some ⟨g, 0, none⟩) L.length cap, .int .i64 i, .int .i64 ((i : Int) + 1)] w (DelPost w g cap (L.eraseIdx i)) := by
  obtain ⟨i0, hi0, hz0, hz1, hz2⟩ := info_parts Try.info39
  have hne : ((i : Int) == (i : Int) + 1) = false := by simp; omega
  have hcap : (cap = 0) = False := by simp; omega
  have hrow : Row 18 Ln.cells w (some ⟨g, (i + 1) * 18, none⟩) (L.drop (i + 1)) := by
    intro j x hj
    rw [List.getElem?_drop] at hj
    obtain ⟨b', off, hb', hag⟩ := Row_of_block Ln.okCells hg hc hs hx (i + 1 + j) x hj
    cases hb'
    exact ⟨g, (i + 1) * 18, rfl, by rw [← hag]; congr 2; omega⟩
  have hlen : i + (L.drop (i + 1)).length = L.length - 1 := by rw [List.length_drop]; omega
  have hr : ∀ ty A C, (A = ⟨g, (i + 1) * 18, none⟩ ∨ L.drop (i + 1) = []) → (Builtin.append_ #[26, 26] ty #[.slice (some ⟨g, 0, none⟩) i cap, .slice (some A) (L.length - (i + 1)) C]).run Try.prog w.drew = .ok (.slice (some ⟨g, 0, none⟩) (L.length - 1) cap) (w.drew.setRow g (delCur cur L i)) := by
    intro ty A C hA
    have hrow' : Row 18 Ln.cells w (some A) (L.drop (i + 1)) := by
      rcases hA with rfl | hA
      · exact hrow
      · rw [hA]; intro j x hj; simp at hj
    have := run_append_in (P := Try.prog) 26 ty i0 Try.underlying26 hi0 hz1 (by decide) Ln.okCells w.drew g i cap cur hg hs A C (L.drop (i + 1)) hrow' (by omega)
    rw [hlen, List.length_drop] at this
    rw [this, delCur, List.length_drop]
  have hsz1 := delCur_size hs hc hi
  have htk := delCur_take hx hi
  have hle : (L.eraseIdx i).length = L.length - 1 := by rw [List.length_eraseIdx, if_pos hi]
  have hg1 : (w.drew.setRow g (delCur cur L i)).heap[g]? = some (.cells (delCur cur L i) 39 (0, 0)) := setRow_heap w.drew g cur _ 39 _ hg
  have hcl : ∀ ty C, (Builtin.clear_ #[26] ty #[.slice (some ⟨g, (L.length - 1) * 18, none⟩) 1 C]).run Try.prog (w.drew.setRow g (delCur cur L i)) = .ok (.tuple #[]) ((w.drew.setRow g (delCur cur L i)).setRow g (splice (delCur cur L i) ((L.length - 1) * 18) Ln.zero.cells)) := fun ty C =>
    run_clear_one (P := Try.prog) 26 ty i0 Try.underlying26 hi0 _ hz0 (Ln.okCells _) _ g _ C _ hg1 (by rw [hsz1]; omega)
  have fin : DelPost w g cap (L.eraseIdx i) (.returned (.slice (some ⟨g, 0, none⟩) (L.length - 1) cap)) ((w.drew.setRow g (delCur cur L i)).setRow g (splice (delCur cur L i) ((L.length - 1) * 18) Ln.zero.cells)) := by
    refine ⟨_, by rw [hle], ?_, ?_, setRow_heap _ g _ _ 39 _ hg1, ⟨rfl, rfl, rfl, by simp, fun k hk hn => ?_⟩⟩
    · rw [size_splice _ _ _ (by rw [Ln.cells_size, hsz1]; omega), hsz1]
    · rw [← htk, hle]
      unfold splice
      simp only [List.append_assoc]
      rw [List.take_append_of_le_length (by simp; omega), List.take_take]
      congr 1; omega
    · rw [setRow_other _ _ _ _ (by simpa using hn), setRow_other _ _ _ _ (by simpa using hn)]; rfl
  have FIN := Lib.hid fin
  have HR := Lib.hid hr
  have HCL := Lib.hid hcl
  clear fin hr hcl htk hle hg1 hrow hlen hx hz0 hz1 hz2 hsz1
  have hic : i ≤ cap := by omega
  have hil : i + 1 ≤ L.length := by omega
  have hz : (0 : Int) ≤ (i : Int) + 1 := by omega
  have hz' : (i : Int) + 1 ≤ (L.length : Int) := by omega
  by_cases hce : cap = i + 1
  · have hdrop : L.drop (i + 1) = [] := List.drop_of_length_le (by omega)
    have HR1 : Hid (∀ ty, (Builtin.append_ #[26, 26] ty #[.slice (some ⟨g, 0, none⟩) i cap, .slice (some ⟨g, 0, none⟩) (L.length - (i + 1)) (cap - (i + 1))]).run Try.prog w.drew = .ok (.slice (some ⟨g, 0, none⟩) (L.length - 1) cap) (w.drew.setRow g (delCur cur L i))) := fun ty => HR.out ty _ _ (.inr hdrop)
    have hce' : (cap = i + 1) = True := by simpa using hce
    clear hce hdrop
    go_enter Try.func92, Try.ntmps92
    go_wp2_with fail
    go_region_law (refine step_append_run rfl (.tmp 22) (.tmp 25) 26 rfl _ _ _ _ HR1.out (by simp [Act.eval, Act.put]) (by simp [Act.eval, Act.put]) ?_)
    have hl1 : L.length - (L.length - 1) = 1 := by omega
    have hl2 : (cap = L.length - 1) = False := by simp; omega
    have hcl0 := HCL.out 0 (cap - (L.length - 1))
    go_wp2_with fail
    go_ret
    exact FIN.out
  · have hce' : (cap = i + 1) = False := by simpa using hce
    clear hce
    go_enter Try.func92, Try.ntmps92
    go_wp2_with fail
    have HR1 : Hid (∀ ty, (Builtin.append_ #[26, 26] ty #[.slice (some ⟨g, 0, none⟩) i cap, .slice (some ⟨g, (i + 1) * 18, none⟩) (L.length - (i + 1)) (cap - (i + 1))]).run Try.prog w.drew = .ok (.slice (some ⟨g, 0, none⟩) (L.length - 1) cap) (w.drew.setRow g (delCur cur L i))) := fun ty => HR.out ty _ _ (.inl rfl)
    go_region_law (refine step_append_run rfl (.tmp 22) (.tmp 25) 26 rfl _ _ _ _ HR1.out (by simp [Act.eval, Act.put]) (by simp [Act.eval, Act.put]) ?_)
    have hl1 : L.length - (L.length - 1) = 1 := by omega
    have hl2 : (cap = L.length - 1) = False := by simp; omega
    have hcl0 := HCL.out 0 (cap - (L.length - 1))
    go_wp2_with fail
    go_ret
    exact FIN.out
end Go.Proofs
