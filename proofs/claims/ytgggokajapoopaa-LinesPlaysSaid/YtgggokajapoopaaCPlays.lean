/- The claim LinesPlays: the row, closed. -/
import Derived.Test.YtgggokajapoopaaF3
import Derived.Test.YtgggokajapoopaaLPlays
namespace Go.Proofs.Ytgggokajapoopaa
open Go.ChangeShapes Go.WideShapes Go.ChangeAt Go.RowKit
set_option maxRecDepth 100000 in
theorem plays_lifted (os : Os) (started : os.Started) (H : Type) (enc : TypeId × Value → H) :
    ReturnsInHanded {} Try.checked os 3 .any (Rows.linesPlaysSpec.pre6 enc Try.prog Try.f3 Rows.linesPlaysRow.domain false) (Rows.linesPlaysSpec.post enc Try.prog Try.f3 false true false false) := by
  refine returnsInHanded_of_change (C := Try.checked) Try.own started (by kernel_rfl) Try.func3
    (ChangeSpec.witness6 (enc := enc) (C := Try.checked) false ⟨#[], #[.int .i64 0, .int .i64 0, .slice none 0 0], []⟩ 8 (by kernel_rfl) (by kernel_rfl) (by kernel_rfl) (by kernel_rfl)) ?_
  intro W base args ds gs before hval0 hW _ _
  have hval : ∀ (j : Nat) t v, Try.f3.params[j]? = some t → args[j]? = some v → Value.okWide Try.prog W .any base t v := hval0
  have hW' := hW
  obtain ⟨p, q, hA0, hV, rfl, _, _⟩ := hW
  have hA : DataW.TrodAll enc Try.prog W 0 (fun _ => true) true Try.f3.params.toList args.toList ds p := hA0
  have hAll := hA
  rw [Try.params3] at hA hval
  obtain ⟨v0, v1, v2, d0, d1, d2, p0, p1, p2, ea, rfl, rfl, h0, h1, h2⟩ := trodAll_three hA
  obtain ⟨rfl, rfl⟩ := trodVars_none hV
  obtain ⟨a, rfl, rfl, rfl, wa⟩ := open_int Try.underlying3 (hval 0 3 v0 rfl (by rw [ea]; rfl)) h0
  obtain ⟨b, rfl, rfl, rfl, wb⟩ := open_int Try.underlying3 (hval 1 3 v1 rfl (by rw [ea]; rfl)) h1
  obtain ⟨x, cap, M, rfl, hM, _⟩ := open_row (encA := Act10.cells) Try.underlying22 Try.cells57 (by decide) (fun h => open_act h) h2 (okWide_slice Try.underlying22 (hval 2 22 v2 rfl (by rw [ea]; rfl)))
  subst ea
  clear hA0 hval0 hval hA
  refine (lawPlays a b M x cap W hM).mono fun e W' ⟨he, hE⟩ => ?_
  subst he
  have hlt : ∀ x ∈ [] ++ [] ++ p2, x.block < W.heap.size := fun x hx => by simpa using hW'.lt x (List.mem_append_left _ hx)
  exact ⟨_, rfl, _, _, _, [], _, [], hW', trodAll_mk1 (shut_bool Try.underlying4 _), trodAll_stays Try.laidOut hE (by kernel_rfl) hAll hlt, rfl, hE.frame _, fun h => by cases h⟩
theorem plays_holds : Rows.LinesPlaysSaid :=
  OpenClaim.holds_of_wide 3 Try.f3 rfl rfl rfl rfl rfl rfl rfl ⟨rfl, rfl, rfl, rfl, rfl⟩ rfl rfl rfl rfl rfl linesPlays_named Try.func3 linesPlays_facts linesPlays_instance linesPlays_wrapper
    (fun os started H enc _ => plays_lifted os started H enc)
end Go.Proofs.Ytgggokajapoopaa
