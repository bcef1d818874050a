/- Arguments opened: a message. -/
import Derived.Test.YtgggokajapoopaaArg
import Derived.Test.YtgggokajapoopaaMs
namespace Go.Proofs.Ytgggokajapoopaa
open Go.ChangeShapes Go.WideShapes Go.ChangeAt Go.RowKit
variable {H : Type} {enc : TypeId × Value → H} {w W : World} {base : Nat} {spare : Nat} {held : Nat → Bool}
set_option maxRecDepth 100000
theorem cells77 : Try.prog.cellsOf 77 = 1 := by kernel_rfl
theorem cells79 : Try.prog.cellsOf 79 = 20 := by kernel_rfl
theorem open_msg {b : Bool} {fuel : Nat} {cs : List Value} {x : DataW H × List MemPlace} (h : DataW.trod enc Try.prog W 0 (fun _ => true) b fuel 79 cs = some x) : ∃ m : Ms, cs = m.cells.toList := by
  obtain ⟨xs, n, _, rfl, hl, hlen, hf⟩ := DataW.trod_struct Try.underlying79 h
  have h0 := hf 0 _ rfl
  have h1 := hf 1 _ rfl
  have h2 := hf 2 _ rfl
  have h3 := hf 3 _ rfl
  have h4 := hf 4 _ rfl
  rw [cells79] at hl
  match xs, hlen with
  | [y0, y1, y2, y3, y4], _ =>
    simp at h0 h1 h2 h3 h4
    simp only [cells77, Try.cells3, Try.cells33, Try.cells37] at h0 h1 h2 h3 h4
    obtain ⟨k, e0, _, _⟩ := DataW.trod_int Try.underlying77 h0
    obtain ⟨f, e1, _, _⟩ := DataW.trod_int Try.underlying3 h1
    obtain ⟨g, e2, _, _⟩ := DataW.trod_int Try.underlying3 h2
    obtain ⟨l, e3, _, w3⟩ := DataW.trod_int Try.underlying33 h3
    obtain ⟨bs, e4, hb, hb2⟩ := open_bytes16 h4
    refine ⟨⟨k, f, g, l, ⟨bs, hb, hb2⟩, u32_wf w3⟩, ?_⟩
    match cs, hl with
    | a :: b :: c :: d :: r, hl =>
      simp at hl e0 e1 e2 e3 e4
      rw [List.take_of_length_le (by omega)] at e4
      simp [Ms.cells, e0, e1, e2, e3, e4]
theorem arg_msg {v : Value} {d : DataW H} {ps : List MemPlace} (hv : Value.okWide Try.prog W .any base 79 v) (h : DataW.Trod enc Try.prog W 0 (fun _ => true) true 79 v d ps) : ∃ x : Ms, v = .agg x.cells := by
  obtain ⟨cs, rfl, _⟩ := okWide_struct Try.underlying79 hv
  obtain ⟨fuel, hf⟩ := h
  obtain ⟨x, e⟩ := open_msg hf
  exact ⟨x, by rw [show cs = x.cells from Array.toList_inj.1 e]⟩
end Go.Proofs.Ytgggokajapoopaa
