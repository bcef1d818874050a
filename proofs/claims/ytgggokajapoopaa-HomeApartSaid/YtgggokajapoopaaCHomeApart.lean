/- The claim HomeApart: for every readable input the law returns true, and its arguments read as before. No conditions. -/
import Derived.Test.YtgggokajapoopaaFA
import Derived.Test.YtgggokajapoopaaArgH
import Derived.Test.YtgggokajapoopaaLHApart
namespace Go.Proofs.Ytgggokajapoopaa
open Go.ChangeShapes Go.WideShapes Go.ChangeAt Go.RowKit
set_option maxRecDepth 100000 in
theorem homeApart_lifted (os : Os) (started : os.Started) (H : Type) (enc : TypeId × Value → H) :
    ReturnsInHanded {} Try.checked os 12 .any (Rows.homeApartSpec.pre6 enc Try.prog Try.f12 Rows.homeApartRow.domain false) (Rows.homeApartSpec.post enc Try.prog Try.f12 false true false false) := by
  refine returnsInHanded_of_change (C := Try.checked) Try.own started (by kernel_rfl) Try.func12
    (ChangeSpec.witness6 (enc := enc) (C := Try.checked) false ⟨#[], #[.slice none 0 0, .slice none 0 0], []⟩ 8 (by kernel_rfl) (by kernel_rfl) (by kernel_rfl) (by kernel_rfl)) ?_
  intro W base args ds gs before hval0 hW _ _
  have hval : ∀ (j : Nat) t v, Try.f12.params[j]? = some t → args[j]? = some v → Value.okWide Try.prog W .any base t v := hval0
  have hW' := hW
  obtain ⟨p, q, hA0, hV, rfl, _, _⟩ := hW
  have hA : DataW.TrodAll enc Try.prog W 0 (fun _ => true) true Try.f12.params.toList args.toList ds p := hA0
  have hAll := hA
  rw [Try.params12] at hA hval
  obtain ⟨rfl, rfl⟩ := trodVars_none hV
  obtain ⟨v0, vs0, d0, ds0, p0, q0, hargs, rfl, rfl, h0, r0⟩ := trodAll_cons hA
  obtain ⟨v1, vs1, d1, ds1, p1, q1, rfl, rfl, rfl, h1, r1⟩ := trodAll_cons r0
  obtain ⟨rfl, rfl, rfl⟩ := trodAll_nil r1
  obtain rfl : args = #[v0, v1] := by cases args; simp_all
  obtain ⟨a0, c0, M0, rfl, w0, b0⟩ := arg_bytes (hval 0 69 v0 rfl rfl) h0
  obtain ⟨a1, c1, M1, rfl, w1⟩ := arg_msgs (hval 1 70 v1 rfl rfl) h1
  clear hA0 hval0 hval hA
  refine (lawHomeApart M0 a0 c0 M1 a1 c1 W w0 b0 w1).mono fun e W' ⟨he, hE⟩ => ?_
  subst he
  have hlt := fun x hx => hW'.lt x (List.mem_append_left _ hx)
  exact ⟨_, rfl, _, _, _, [], _, [], hW', trodAll_mk1 (shut_bool Try.underlying4 _), trodAll_stays Try.laidOut hE (by kernel_rfl) hAll hlt, rfl, hE.frame _, fun h => by cases h⟩
theorem homeApart_holds : Rows.HomeApartSaid :=
  OpenClaim.holds_of_wide 12 Try.f12 rfl rfl rfl rfl rfl rfl rfl ⟨rfl, rfl, rfl, rfl, rfl⟩ rfl rfl rfl rfl rfl homeApart_named Try.func12 homeApart_facts homeApart_instance homeApart_wrapper
    (fun os started H enc _ => homeApart_lifted os started H enc)
end Go.Proofs.Ytgggokajapoopaa
