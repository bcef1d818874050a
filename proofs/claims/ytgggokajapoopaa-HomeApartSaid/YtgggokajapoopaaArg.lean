/- Arguments of the laws of lines, opened by their types. -/
import Derived.Test.YtgggokajapoopaaRw
namespace Go.Proofs
open Go.ChangeShapes Go.WideShapes Go.ChangeAt Go.RowKit
set_option maxRecDepth 100000
theorem Try.cells35 : Try.prog.cellsOf 35 = 2 := by kernel_rfl
section
variable {H : Type} {enc : TypeId × Value → H} {W : World} {base : Nat} {v : Value} {d : DataW H} {ps : List MemPlace}
theorem arg_int (hv : Value.okWide Try.prog W .any base 3 v) (h : DataW.Trod enc Try.prog W 0 (fun _ => true) true 3 v d ps) : ∃ n, v = .int .i64 n := by
  obtain ⟨n, e, _⟩ := open_int Try.underlying3 hv h
  exact ⟨n, e⟩
theorem arg_u32 (hv : Value.okWide Try.prog W .any base 33 v) (h : DataW.Trod enc Try.prog W 0 (fun _ => true) true 33 v d ps) : ∃ n, v = .int .u32 n ∧ 0 ≤ n ∧ n < 4294967296 := by
  obtain ⟨n, e, _, _, hw⟩ := open_int Try.underlying33 hv h
  exact ⟨n, e, u32_wf hw⟩
theorem arg_acts (hv : Value.okWide Try.prog W .any base 22 v) (h : DataW.Trod enc Try.prog W 0 (fun _ => true) true 22 v d ps) : ∃ a cap M, v = .slice a (M : List Act10).length cap ∧ Row 19 Act10.cells W a M := by
  obtain ⟨a, cap, M, e, hM, _⟩ := open_row (encA := Act10.cells) Try.underlying22 Try.cells57 (by decide) (fun h => open_act h) h (okWide_slice Try.underlying22 hv)
  exact ⟨a, cap, M, e, hM⟩
theorem arg_lines (hv : Value.okWide Try.prog W .any base 26 v) (h : DataW.Trod enc Try.prog W 0 (fun _ => true) true 26 v d ps) : ∃ a cap M, v = .slice a (M : List Ln).length cap ∧ Row 18 Ln.cells W a M := by
  obtain ⟨a, cap, M, e, hM, _⟩ := open_row (encA := Ln.cells) Try.underlying26 Try.cells39 (by decide) (fun h => open_line h) h (okWide_slice Try.underlying26 hv)
  exact ⟨a, cap, M, e, hM⟩
theorem arg_act (hv : Value.okWide Try.prog W .any base 57 v) (h : DataW.Trod enc Try.prog W 0 (fun _ => true) true 57 v d ps) : ∃ x : Act10, v = .agg x.cells := by
  obtain ⟨cs, rfl, _⟩ := okWide_struct Try.underlying57 hv
  obtain ⟨fuel, hf⟩ := h
  obtain ⟨x, e⟩ := open_act hf
  exact ⟨x, by rw [show cs = x.cells from Array.toList_inj.1 e]⟩
theorem arg_ask (hv : Value.okWide Try.prog W .any base 35 v) (h : DataW.Trod enc Try.prog W 0 (fun _ => true) true 35 v d ps) : ∃ n pick, v = .agg #[.int .u32 n, .int .i64 pick] ∧ 0 ≤ n ∧ n < 4294967296 := by
  obtain ⟨cs, rfl, _⟩ := okWide_struct Try.underlying35 hv
  obtain ⟨fuel, hf⟩ := h
  obtain ⟨y0, y1, m, _, hl, h0, h1⟩ := trod_struct2 Try.underlying35 hf
  simp only [Value.cells, Try.cells33, Try.cells3, Try.cells35] at hl h0 h1
  obtain ⟨n, e0, _, w0⟩ := DataW.trod_int Try.underlying33 h0
  obtain ⟨pick, e1, _, _⟩ := DataW.trod_int Try.underlying3 h1
  refine ⟨n, pick, ?_, u32_wf w0⟩
  congr 1
  apply Array.toList_inj.1
  generalize cs.toList = l at *
  match l, hl with
  | [a, b], _ =>
    simp at e0 e1
    subst e0; subst e1
    rfl
end
end Go.Proofs
