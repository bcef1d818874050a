/- The claim HomeNil: for every readable input the law returns true, and its arguments read as before. No conditions. -/
import Derived.Test.YtgggokajapoopaaF10
import Derived.Test.YtgggokajapoopaaArgM
import Derived.Test.YtgggokajapoopaaLHNil
namespace Go.Proofs.Ytgggokajapoopaa
open Go.ChangeShapes Go.WideShapes Go.ChangeAt Go.RowKit
set_option maxRecDepth 100000 in
theorem homeNil_lifted (os : Os) (started : os.Started) (H : Type) (enc : TypeId × Value → H) :
    ReturnsInHanded {} Try.checked os 15 .any (Rows.homeNilSpec.pre6 enc Try.prog Try.f15 Rows.homeNilRow.domain false) (Rows.homeNilSpec.post enc Try.prog Try.f15 false true false false) := by
  refine returnsInHanded_of_change (C := Try.checked) Try.own started (by kernel_rfl) Try.func15
    (ChangeSpec.witness6 (enc := enc) (C := Try.checked) false ⟨#[], #[.agg (Ms.cells ⟨0, 0, 0, 0, B16.zero, by omega⟩), .int .u32 0], []⟩ 8 (by kernel_rfl) (by kernel_rfl) (by kernel_rfl) (by kernel_rfl)) ?_
  intro W base args ds gs before hval0 hW _ _
  have hval : ∀ (j : Nat) t v, Try.f15.params[j]? = some t → args[j]? = some v → Value.okWide Try.prog W .any base t v := hval0
  have hW' := hW
  obtain ⟨p, q, hA0, hV, rfl, _, _⟩ := hW
  have hA : DataW.TrodAll enc Try.prog W 0 (fun _ => true) true Try.f15.params.toList args.toList ds p := hA0
  have hAll := hA
  rw [Try.params15] at hA hval
  obtain ⟨rfl, rfl⟩ := trodVars_none hV
  obtain ⟨v0, vs0, d0, ds0, p0, q0, hargs, rfl, rfl, h0, r0⟩ := trodAll_cons hA
  obtain ⟨v1, vs1, d1, ds1, p1, q1, rfl, rfl, rfl, h1, r1⟩ := trodAll_cons r0
  obtain ⟨rfl, rfl, rfl⟩ := trodAll_nil r1
  obtain rfl : args = #[v0, v1] := by cases args; simp_all
  obtain ⟨a0, rfl⟩ := arg_msg (hval 0 79 v0 rfl rfl) h0
  obtain ⟨a1, rfl, w1⟩ := arg_u32 (hval 1 33 v1 rfl rfl) h1
  clear hA0 hval0 hval hA
  refine (lawHomeNil a0 a1 W w1).mono fun e W' ⟨he, hE⟩ => ?_
  subst he
  have hlt := fun x hx => hW'.lt x (List.mem_append_left _ hx)
  exact ⟨_, rfl, _, _, _, [], _, [], hW', trodAll_mk1 (shut_bool Try.underlying4 _), trodAll_stays Try.laidOut hE (by kernel_rfl) hAll hlt, rfl, hE.frame _, fun h => by cases h⟩
theorem homeNil_holds : Rows.HomeNilSaid :=
  OpenClaim.holds_of_wide 15 Try.f15 rfl rfl rfl rfl rfl rfl rfl ⟨rfl, rfl, rfl, rfl, rfl⟩ rfl rfl rfl rfl rfl homeNil_named Try.func15 homeNil_facts homeNil_instance homeNil_wrapper
    (fun os started H enc _ => homeNil_lifted os started H enc)
end Go.Proofs.Ytgggokajapoopaa
