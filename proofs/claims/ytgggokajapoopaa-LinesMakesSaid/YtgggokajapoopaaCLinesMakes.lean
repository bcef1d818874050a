/- The claim LinesMakes: for every readable input the law returns true, and its arguments read as before. No conditions. -/
import Derived.Test.YtgggokajapoopaaF8
import Derived.Test.YtgggokajapoopaaArg
import Derived.Test.YtgggokajapoopaaLMakes
namespace Go.Proofs.Ytgggokajapoopaa
open Go.ChangeShapes Go.WideShapes Go.ChangeAt Go.RowKit
set_option maxRecDepth 100000 in
theorem linesMakes_lifted (os : Os) (started : os.Started) (H : Type) (enc : TypeId × Value → H) :
    ReturnsInHanded {} Try.checked os 8 .any (Rows.linesMakesSpec.pre6 enc Try.prog Try.f8 Rows.linesMakesRow.domain false) (Rows.linesMakesSpec.post enc Try.prog Try.f8 false true false false) := by
  refine returnsInHanded_of_change (C := Try.checked) Try.own started (by kernel_rfl) Try.func8
    (ChangeSpec.witness6 (enc := enc) (C := Try.checked) false ⟨#[], #[.int .i64 0, .int .i64 0], []⟩ 8 (by kernel_rfl) (by kernel_rfl) (by kernel_rfl) (by kernel_rfl)) ?_
  intro W base args ds gs before hval0 hW _ _
  have hval : ∀ (j : Nat) t v, Try.f8.params[j]? = some t → args[j]? = some v → Value.okWide Try.prog W .any base t v := hval0
  have hW' := hW
  obtain ⟨p, q, hA0, hV, rfl, _, _⟩ := hW
  have hA : DataW.TrodAll enc Try.prog W 0 (fun _ => true) true Try.f8.params.toList args.toList ds p := hA0
  have hAll := hA
  rw [Try.params8] at hA hval
  obtain ⟨rfl, rfl⟩ := trodVars_none hV
  obtain ⟨v0, vs0, d0, ds0, p0, q0, hargs, rfl, rfl, h0, r0⟩ := trodAll_cons hA
  obtain ⟨v1, vs1, d1, ds1, p1, q1, rfl, rfl, rfl, h1, r1⟩ := trodAll_cons r0
  obtain ⟨rfl, rfl, rfl⟩ := trodAll_nil r1
  obtain rfl : args = #[v0, v1] := by cases args; simp_all
  obtain ⟨a0, rfl⟩ := arg_int (hval 0 3 v0 rfl rfl) h0
  obtain ⟨a1, rfl⟩ := arg_int (hval 1 3 v1 rfl rfl) h1
  clear hA0 hval0 hval hA
  refine (lawMakes a0 a1 W ).mono fun e W' ⟨he, hE⟩ => ?_
  subst he
  have hlt := fun x hx => hW'.lt x (List.mem_append_left _ hx)
  exact ⟨_, rfl, _, _, _, [], _, [], hW', trodAll_mk1 (shut_bool Try.underlying4 _), trodAll_stays Try.laidOut hE (by kernel_rfl) hAll hlt, rfl, hE.frame _, fun h => by cases h⟩
theorem linesMakes_holds : Rows.LinesMakesSaid :=
  OpenClaim.holds_of_wide 8 Try.f8 rfl rfl rfl rfl rfl rfl rfl ⟨rfl, rfl, rfl, rfl, rfl⟩ rfl rfl rfl rfl rfl linesMakes_named Try.func8 linesMakes_facts linesMakes_instance linesMakes_wrapper
    (fun os started H enc _ => linesMakes_lifted os started H enc)
end Go.Proofs.Ytgggokajapoopaa
