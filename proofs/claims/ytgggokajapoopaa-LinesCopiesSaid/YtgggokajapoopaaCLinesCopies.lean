/- The claim LinesCopies: for every readable input the law returns true, and its arguments read as before. No conditions. -/
import Derived.Test.YtgggokajapoopaaF9
import Derived.Test.YtgggokajapoopaaArg
import Derived.Test.YtgggokajapoopaaLCopD
namespace Go.Proofs.Ytgggokajapoopaa
open Go.ChangeShapes Go.WideShapes Go.ChangeAt Go.RowKit
set_option maxRecDepth 100000 in
theorem linesCopies_lifted (os : Os) (started : os.Started) (H : Type) (enc : TypeId × Value → H) :
    ReturnsInHanded {} Try.checked os 9 .any (Rows.linesCopiesSpec.pre6 enc Try.prog Try.f9 Rows.linesCopiesRow.domain false) (Rows.linesCopiesSpec.post enc Try.prog Try.f9 false true false false) := by
  refine returnsInHanded_of_change (C := Try.checked) Try.own started (by kernel_rfl) Try.func9
    (ChangeSpec.witness6 (enc := enc) (C := Try.checked) false ⟨#[], #[.int .i64 0, .int .i64 0, .slice none 0 0, .agg (Act10.cells ⟨0, Ln.zero⟩)], []⟩ 8 (by kernel_rfl) (by kernel_rfl) (by kernel_rfl) (by kernel_rfl)) ?_
  intro W base args ds gs before hval0 hW _ _
  have hval : ∀ (j : Nat) t v, Try.f9.params[j]? = some t → args[j]? = some v → Value.okWide Try.prog W .any base t v := hval0
  have hW' := hW
  obtain ⟨p, q, hA0, hV, rfl, _, _⟩ := hW
  have hA : DataW.TrodAll enc Try.prog W 0 (fun _ => true) true Try.f9.params.toList args.toList ds p := hA0
  have hAll := hA
  rw [Try.params9] at hA hval
  obtain ⟨rfl, rfl⟩ := trodVars_none hV
  obtain ⟨v0, vs0, d0, ds0, p0, q0, hargs, rfl, rfl, h0, r0⟩ := trodAll_cons hA
  obtain ⟨v1, vs1, d1, ds1, p1, q1, rfl, rfl, rfl, h1, r1⟩ := trodAll_cons r0
  obtain ⟨v2, vs2, d2, ds2, p2, q2, rfl, rfl, rfl, h2, r2⟩ := trodAll_cons r1
  obtain ⟨v3, vs3, d3, ds3, p3, q3, rfl, rfl, rfl, h3, r3⟩ := trodAll_cons r2
  obtain ⟨rfl, rfl, rfl⟩ := trodAll_nil r3
  obtain rfl : args = #[v0, v1, v2, v3] := by cases args; simp_all
  obtain ⟨a0, rfl⟩ := arg_int (hval 0 3 v0 rfl rfl) h0
  obtain ⟨a1, rfl⟩ := arg_int (hval 1 3 v1 rfl rfl) h1
  obtain ⟨a2, c2, M2, rfl, w2⟩ := arg_acts (hval 2 22 v2 rfl rfl) h2
  obtain ⟨a3, rfl⟩ := arg_act (hval 3 57 v3 rfl rfl) h3
  clear hA0 hval0 hval hA
  refine (lawCopies a0 a1 M2 a2 c2 a3 W w2).mono fun e W' ⟨he, hE⟩ => ?_
  subst he
  have hlt := fun x hx => hW'.lt x (List.mem_append_left _ hx)
  exact ⟨_, rfl, _, _, _, [], _, [], hW', trodAll_mk1 (shut_bool Try.underlying4 _), trodAll_stays Try.laidOut hE (by kernel_rfl) hAll hlt, rfl, hE.frame _, fun h => by cases h⟩
theorem linesCopies_holds : Rows.LinesCopiesSaid :=
  OpenClaim.holds_of_wide 9 Try.f9 rfl rfl rfl rfl rfl rfl rfl ⟨rfl, rfl, rfl, rfl, rfl⟩ rfl rfl rfl rfl rfl linesCopies_named Try.func9 linesCopies_facts linesCopies_instance linesCopies_wrapper
    (fun os started H enc _ => linesCopies_lifted os started H enc)
end Go.Proofs.Ytgggokajapoopaa
