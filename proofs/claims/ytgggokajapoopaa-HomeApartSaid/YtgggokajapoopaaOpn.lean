/- Arguments opened: lines, calls, slices of them. -/
import Derived.Test.YtgggokajapoopaaWks
import Derived.ProofKit
import Derived.OpenShut
import Derived.Deep.Slices
import Derived.Deep.Strs
namespace Go
open Go.RowKit Go.ChangeShapes
theorem World.agg_of_cells? {w : World} {base n : Nat} {a : Addr} {cs : List Value} (h : w.cells? base a n = some cs) (hn : 0 < n) : ∃ b off, a = ⟨b, off, none⟩ ∧ w.agg? ⟨b, off, none⟩ n = some cs.toArray := by
  obtain ⟨_, hl, hc⟩ := World.cells?_some h
  obtain ⟨b, off, sp⟩ := a
  have h0 := hc 0 hn
  have hsp : sp = none := by
    have : (w.cell? ((⟨b, off, sp⟩ : Addr).add 0)).isSome := by rw [h0]; simp [hl, hn]
    obtain ⟨v, hv⟩ := Option.isSome_iff_exists.1 this
    have := World.cell?_spot hv
    simpa [Addr.add] using this
  subst hsp
  have e : ∀ j, (⟨b, off, none⟩ : Addr).add j = ⟨b, off + j, none⟩ := fun j => by unfold Addr.add; split <;> simp_all
  refine ⟨b, off, rfl, ?_⟩
  have h0' : w.cell? ⟨b, off, none⟩ = cs[0]? := by rw [e] at h0; exact h0
  have hsome : (w.cell? ⟨b, off, none⟩).isSome := by rw [h0']; simp [hl, hn]
  unfold World.cell? at hsome
  simp only at hsome
  cases hb : w.heap[b]? with
  | none => rw [hb] at hsome; cases hsome
  | some ob =>
    cases ob with
    | cells c t fr =>
      have hj : ∀ j, j < n → c[off + j]? = cs[j]? := fun j hj => by
        have := hc j hj
        rw [e] at this
        simpa [World.cell?, hb] using this
      have hsz : off + n ≤ c.size := by
        have := hj (n - 1) (by omega)
        rw [List.getElem?_eq_getElem (by omega)] at this
        obtain ⟨h1, _⟩ := Array.getElem?_eq_some_iff.1 this
        omega
      unfold World.agg?
      simp only [hb, Option.isSome_none, Bool.false_eq_true, if_false]
      rw [if_pos hsz]
      congr 1
      apply Array.ext_getElem?
      intro j
      rw [Array.getElem?_extract]
      by_cases hjn : j < n
      · rw [if_pos (by omega), hj j hjn]; simp
      · rw [if_neg (by omega)]; symm; simp; omega
    | _ => rw [hb] at hsome; cases hsome
end Go
namespace Go.Proofs
open Go.RowKit Go.ChangeShapes Go.WideShapes Go.Deep
theorem Try.cells33 : Try.prog.cellsOf 33 = 1 := by kernel_rfl
theorem Try.cells36 : Try.prog.cellsOf 36 = 1 := by kernel_rfl
theorem Try.cells37 : Try.prog.cellsOf 37 = 16 := by kernel_rfl
theorem Try.cells5 : Try.prog.cellsOf 5 = 1 := by kernel_rfl
theorem Try.cells39 : Try.prog.cellsOf 39 = 18 := by kernel_rfl
theorem Try.cells57 : Try.prog.cellsOf 57 = 19 := by kernel_rfl
theorem Try.cells3 : Try.prog.cellsOf 3 = 1 := by kernel_rfl
section
variable {H : Type} {enc : TypeId × Value → H} {w : World} {base : Nat} {spare : Nat → Bool} {held : Bool}
theorem u8_wf {n : Int} (h : (Lit.int .u8 n).wf = true) : 0 ≤ n ∧ n < 256 := by
  simp [Lit.wf, IntKind.min, IntKind.max, IntKind.signed, IntKind.bits] at h; omega
theorem u32_wf {n : Int} (h : (Lit.int .u32 n).wf = true) : 0 ≤ n ∧ n < 4294967296 := by
  simp [Lit.wf, IntKind.min, IntKind.max, IntKind.signed, IntKind.bits] at h; omega
theorem open_bytes16 {fuel : Nat} {cs : List Value} {x : DataW H × List MemPlace} (h : DataW.trod enc Try.prog w base spare held fuel 37 cs = some x) : ∃ bs : List Int, cs = bs.map (Value.int .u8) ∧ bs.length = 16 ∧ ∀ b ∈ bs, 0 ≤ b ∧ b < 256 := by
  obtain ⟨xs, m, _, _, hl, hlen, hx⟩ := DataW.trod_array Try.underlying37 h
  rw [Try.cells37] at hl
  have each : ∀ i, i < 16 → ∃ n : Int, cs[i]? = some (Value.int .u8 n) ∧ 0 ≤ n ∧ n < 256 := by
    intro i hi
    have h1 := hx i hi
    rw [List.getElem?_eq_getElem (by omega), Try.cells5, Nat.mul_one] at h1
    obtain ⟨n, e, _, hw⟩ := DataW.trod_int Try.underlying5 h1
    refine ⟨n, ?_, u8_wf hw⟩
    have : ((cs.drop i).take 1)[0]? = some (Value.int .u8 n) := by rw [e]; rfl
    simpa [List.getElem?_take, List.getElem?_drop] using this
  obtain ⟨f, hf⟩ := choose_lt each
  refine ⟨(List.range 16).map f, ?_, by simp, ?_⟩
  · apply List.ext_getElem?
    intro i
    by_cases hi : i < 16
    · rw [(hf i hi).1]; simp [hi]
    · rw [List.getElem?_eq_none (by omega), List.getElem?_eq_none (by simp; omega)]
  · intro b hb
    obtain ⟨i, hi, rfl⟩ := List.mem_map.1 hb
    exact (hf i (by simpa using hi)).2
theorem open_line {fuel : Nat} {cs : List Value} {x : DataW H × List MemPlace} (h : DataW.trod enc Try.prog w base spare held fuel 39 cs = some x) : ∃ l : Ln, cs = l.cells.toList := by
  obtain ⟨y0, y1, y2, n, _, hl, h0, h1, h2⟩ := trod_struct3 Try.underlying39 h
  simp only [Try.cells33, Try.cells36, Try.cells37, Try.cells39] at hl h0 h1 h2
  obtain ⟨num, e0, _, w0⟩ := DataW.trod_int Try.underlying33 h0
  obtain ⟨st, e1, _, w1⟩ := DataW.trod_int Try.underlying36 h1
  obtain ⟨bs, e2, hb, hb2⟩ := open_bytes16 h2
  refine ⟨⟨num, st, bs, u32_wf w0, hb, hb2⟩, ?_⟩
  have : cs = (cs.drop 0).take 1 ++ ((cs.drop 1).take 1 ++ (cs.drop 2).take 16) := by
    match cs, hl with
    | a :: b :: r, hl => simp at hl; simp; rw [List.take_of_length_le (by omega)]
  rw [this, e0, e1, e2]
  simp [Ln.cells]
theorem open_act {fuel : Nat} {cs : List Value} {x : DataW H × List MemPlace} (h : DataW.trod enc Try.prog w base spare held fuel 57 cs = some x) : ∃ l : Act10, cs = l.cells.toList := by
  obtain ⟨y0, y1, n, _, hl, h0, h1⟩ := trod_struct2 Try.underlying57 h
  simp only [Try.cells3, Try.cells39, Try.cells57] at hl h0 h1
  obtain ⟨what, e0, _, w0⟩ := DataW.trod_int Try.underlying3 h0
  obtain ⟨l, e1⟩ := open_line h1
  refine ⟨⟨what, l⟩, ?_⟩
  have : cs = (cs.drop 0).take 1 ++ (cs.drop 1).take 18 := by
    match cs, hl with
    | a :: r, hl => simp at hl; simp; rw [List.take_of_length_le (by omega)]
  rw [this, e0, e1]
  simp [Act10.cells]
/-- A slice of what has k cells. -/
theorem open_row {α : Type} {t e k : Nat} {encA : α → Array Value} (ht : Try.prog.underlying t = some (.slice e)) (hk : Try.prog.cellsOf e = k) (hk0 : 0 < k) (hopen : ∀ {fuel : Nat} {cs : List Value} {x : DataW H × List MemPlace}, DataW.trod enc Try.prog w base spare held fuel e cs = some x → ∃ l : α, cs = (encA l).toList)
    {v : Value} {d : DataW H} {ps : List MemPlace} (h : DataW.Trod enc Try.prog w base spare held t v d ps) (hv : ∃ a n c, v = .slice a n c) : ∃ a cap M, v = .slice a (M : List α).length cap ∧ Row k encA w a M ∧ M.length ≤ maxLen := by
  obtain ⟨fuel, hf⟩ := h
  obtain ⟨a0, n0, c0, rfl⟩ := hv
  simp only [Value.cells] at hf
  rcases open_slice ht hf with ⟨h1, _⟩ | ⟨a, len, cap, m, n, D, Pl, h1, hb, hl, hm, hmm, _, hx⟩
  · simp at h1
    obtain ⟨rfl, rfl, rfl⟩ := h1
    exact ⟨none, 0, [], rfl, fun i x h => by simp at h, Nat.zero_le _⟩
  · simp at h1
    obtain ⟨rfl, rfl, rfl⟩ := h1
    have hlm : n0 ≤ m := by rw [hmm]; split <;> omega
    have each : ∀ i, i < n0 → ∃ l : α, ∃ b off, a.add (i * k) = ⟨b, off, none⟩ ∧ w.agg? ⟨b, off, none⟩ k = some (encA l) := by
      intro i hi
      obtain ⟨cs', h1, h2⟩ := hx i (by omega)
      rw [hk] at h1
      obtain ⟨l, e⟩ := hopen h2
      obtain ⟨b, off, e1, e2⟩ := World.agg_of_cells? h1 hk0
      exact ⟨l, b, off, e1, by rw [e2, e]⟩
    by_cases hz : n0 = 0
    · subst hz
      exact ⟨some a, c0, [], rfl, fun i x h => by simp at h, Nat.zero_le _⟩
    · haveI : Inhabited α := ⟨(each 0 (by omega)).choose⟩
      obtain ⟨f, hf'⟩ := choose_lt each
      obtain ⟨b, off, e0, _⟩ := hf' 0 (by omega)
      have ea : a = ⟨b, off, none⟩ := by simpa [Addr.add] using e0
      subst ea
      refine ⟨some ⟨b, off, none⟩, c0, (List.range n0).map f, by simp, ?_, by simp; omega⟩
      intro i x hi
      rw [List.getElem?_map] at hi
      by_cases hin : i < n0
      · rw [List.getElem?_range hin] at hi
        cases hi
        obtain ⟨b', off', e1, e2⟩ := hf' i hin
        refine ⟨b, off, rfl, ?_⟩
        have : (⟨b, off, none⟩ : Addr).add (i * k) = ⟨b, off + i * k, none⟩ := by unfold Addr.add; split <;> simp_all
        rw [this] at e1
        rw [e1]; exact e2
      · rw [List.getElem?_eq_none (by simpa using hin)] at hi
        cases hi
end
end Go.Proofs
