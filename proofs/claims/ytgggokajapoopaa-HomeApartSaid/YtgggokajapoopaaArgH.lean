/- Arguments opened: bytes, messages. -/
import Derived.Test.YtgggokajapoopaaArgM
import Derived.Test.YtgggokajapoopaaImb
namespace Go.Proofs.Ytgggokajapoopaa
open Go.ChangeShapes Go.WideShapes Go.ChangeAt Go.RowKit
variable {H : Type} {enc : TypeId × Value → H} {W : World} {base : Nat} {v : Value} {d : DataW H} {ps : List MemPlace}
set_option maxRecDepth 100000
/-- A byte. -/
structure By where
  n : Int
  ok : 0 ≤ n ∧ n < 256
theorem open_by {b : Bool} {fuel : Nat} {cs : List Value} {x : DataW H × List MemPlace} (h : DataW.trod enc Try.prog W 0 (fun _ => true) b fuel 5 cs = some x) : ∃ m : By, cs = (encB m.n).toList := by
  obtain ⟨n, e, _, hw⟩ := DataW.trod_int Try.underlying5 h
  exact ⟨⟨n, u8_wf hw⟩, e⟩
theorem arg_bytes (hv : Value.okWide Try.prog W .any base 69 v) (h : DataW.Trod enc Try.prog W 0 (fun _ => true) true 69 v d ps) : ∃ a cap M, v = .slice a (M : List Int).length cap ∧ Row 1 encB W a M ∧ ∀ b ∈ M, 0 ≤ b ∧ b < 256 := by
  obtain ⟨a, cap, M, e, hM, _⟩ := open_row (encA := fun x : By => encB x.n) Try.underlying69 Try.cells5 (by decide) (fun h => open_by h) h (okWide_slice Try.underlying69 hv)
  refine ⟨a, cap, M.map By.n, by rw [List.length_map]; exact e, fun i x hx => ?_, fun b hb => ?_⟩
  · rw [List.getElem?_map] at hx
    cases hq : M[i]? with
    | none => rw [hq] at hx; cases hx
    | some y =>
      rw [hq] at hx
      cases hx
      exact hM i y hq
  · obtain ⟨y, _, rfl⟩ := List.mem_map.1 hb
    exact y.ok
theorem arg_msgs (hv : Value.okWide Try.prog W .any base 70 v) (h : DataW.Trod enc Try.prog W 0 (fun _ => true) true 70 v d ps) : ∃ a cap M, v = .slice a (M : List Ms).length cap ∧ Row 20 Ms.cells W a M := by
  obtain ⟨a, cap, M, e, hM, _⟩ := open_row (encA := Ms.cells) Try.underlying70 cells79 (by decide) (fun h => open_msg h) h (okWide_slice Try.underlying70 hv)
  exact ⟨a, cap, M, e, hM⟩
end Go.Proofs.Ytgggokajapoopaa
