/- The closed facts of the row LinesMakes. -/
import Derived.Test.YtgggokajapoopaaOrd
namespace Go.Proofs.Ytgggokajapoopaa
open Go.ChangeShapes Go.WideShapes Go.ChangeAt Go.RowKit
set_option maxRecDepth 100000
theorem linesMakes_fact0 : (Rows.linesMakesRow.wf (OpenSpec.ofChange Rows.linesMakesSpec)) = true := by kernel_rfl
theorem linesMakes_fact1 : (laidOutB Try.pinned.checked.prog) = true := Try.laidOut
theorem linesMakes_fact2 : (mapsRowed Try.pinned.checked.prog) = true := Try.rowed
theorem linesMakes_fact3 : (Try.f8.params.all (Try.pinned.checked.prog.readableRec ·)) = true := by kernel_rfl
theorem linesMakes_fact4 : (namedTie Try.pinned.checked.prog Rows.linesMakesRow.named Rows.linesMakesSpec.vars) = true := by kernel_rfl
theorem linesMakes_fact5 : ((Rows.linesMakesRow.stops == [])) = true := by kernel_rfl
theorem linesMakes_fact6 : ((Try.pinned.checked.prog.stops == [])) = true := Try.noStops
theorem linesMakes_fact7 : ((Rows.linesMakesRow.knobs == [])) = true := by kernel_rfl
theorem linesMakes_fact8 : ((Try.pinned.checked.prog.stopKnobs == [])) = true := Try.noKnobs
theorem linesMakes_fact9 : ((Rows.linesMakesRow.inPlace == Try.pinned.checked.prog.inPlace 8)) = true := by kernel_rfl
theorem linesMakes_fact10 : ((Rows.linesMakesRow.unfollowed == Try.pinned.checked.prog.unfollowed 8)) = true := by kernel_rfl
theorem linesMakes_fact11 : ((Rows.linesMakesRow.recurses == Try.pinned.checked.prog.recurses 8)) = true := by kernel_rfl
theorem linesMakes_fact12 : ((Rows.linesMakesRow.named == Try.pinned.checked.prog.varsNamed 8)) = true := by kernel_rfl
theorem linesMakes_fact13 : ((Rows.linesMakesRow.maps == (Try.f8.params.toList ++ Rows.linesMakesSpec.plain.varTypes Try.pinned.checked.prog).any (Try.pinned.checked.prog.mapsRec ·))) = true := by kernel_rfl
theorem linesMakes_fact14 : ((Rows.linesMakesRow.ifaces == (Try.f8.params.toList ++ Rows.linesMakesSpec.plain.varTypes Try.pinned.checked.prog).any (Try.pinned.checked.prog.ifacesRec ·))) = true := by kernel_rfl
theorem linesMakes_fact15 : ((Rows.linesMakesRow.mapsOut == Try.pinned.checked.prog.mapsAmong Try.f8.resultTypes.toList)) = true := by kernel_rfl
theorem linesMakes_fact16 : ((Rows.linesMakesRow.loops == (Try.f8.params.toList ++ Rows.linesMakesSpec.plain.varTypes Try.pinned.checked.prog).any (Try.pinned.checked.prog.loopsFrom ·))) = true := by kernel_rfl
theorem linesMakes_fact17 : ((Rows.linesMakesRow.wideKeys == (Try.f8.params.toList ++ Rows.linesMakesSpec.plain.varTypes Try.pinned.checked.prog ++ Try.f8.resultTypes.toList).any (Try.pinned.checked.prog.wideKeysFrom ·))) = true := by kernel_rfl
theorem linesMakes_fact18 : (Rows.linesMakesSpec.vars.all (Try.pinned.checked.prog.varReadable ·)) = true := by kernel_rfl
theorem linesMakes_fact19 : (Try.f8.resultTypes.all (fun t => Try.pinned.checked.prog.readableRec t && decide (t < Try.pinned.checked.prog.types.size))) = true := by kernel_rfl
theorem linesMakes_fact20 : ((Rows.linesMakesRow.ifacesOut == Try.f8.resultTypes.toList.any (Try.pinned.checked.prog.ifacesRec ·))) = true := by kernel_rfl
theorem linesMakes_fact21 : ((Rows.linesMakesRow.loopsOut == Try.f8.resultTypes.toList.any (Try.pinned.checked.prog.loopsFrom ·))) = true := by kernel_rfl
theorem linesMakes_fact22 : ((Rows.linesMakesRow.plainKeys == Try.pinned.checked.prog.plainKeys)) = true := Try.keysPlain
theorem linesMakes_fact23 : (Rows.linesMakesRow.shortTexts.isNone) = true := by kernel_rfl
theorem linesMakes_fact24 : (Try.pinned.checked.prog.stopsHeard) = true := Try.heard
theorem linesMakes_fact25 : (Try.pinned.checked.prog.mayEnter) = true := Try.entersMain
theorem linesMakes_fact26 : ((Rows.linesMakesRow.lifted == Try.pinned.checked.prog.liftsFinal)) = true := by rw [show Try.pinned.checked.prog = Try.prog from rfl, Try.lifted]; rfl
theorem linesMakes_fact27 : ((Try.pinned.checked.prog.make == some Rows.linesMakesRow.make)) = true := by rw [show Try.pinned.checked.prog = Try.prog from rfl, Try.make]; rfl
theorem linesMakes_fact28 : ((Rows.linesMakesRow.kinds == (if Rows.linesMakesRow.domain.isEmpty then [] else Try.f8.params.toList.map fun t => match Try.pinned.checked.prog.underlying t with | some (.int k) => some k | _ => none))) = true := by kernel_rfl
theorem linesMakes_fact29 : ((Rows.linesMakesRow.pinned == Rows.linesMakesRow.pinnedBy)) = true := by kernel_rfl
theorem linesMakes_fact30 : ((Rows.linesMakesRow.veiled == (Try.f8.params.toList ++ Rows.linesMakesSpec.plain.varTypes Try.pinned.checked.prog ++ Try.f8.resultTypes.toList).any (Try.pinned.checked.prog.veiledRec ·))) = true := by kernel_rfl
theorem linesMakes_fact31 : (Rows.linesMakesRow.veiledFits Try.pinned.checked.prog Try.f8.params.toList (Try.f8.params.toList ++ Rows.linesMakesSpec.plain.varTypes Try.pinned.checked.prog ++ Try.f8.resultTypes.toList)) = true := by kernel_rfl
theorem linesMakes_facts : joinedFacts Try.pinned.checked.prog 8 Try.f8 Rows.linesMakesSpec Rows.linesMakesRow = true := by
  unfold joinedFacts
  simp only [Bool.and_eq_true]
  exact ⟨⟨⟨⟨⟨⟨⟨⟨⟨⟨⟨⟨⟨⟨⟨⟨⟨⟨⟨⟨⟨⟨⟨⟨⟨⟨⟨⟨⟨⟨⟨linesMakes_fact0, linesMakes_fact1⟩, linesMakes_fact2⟩, linesMakes_fact3⟩, linesMakes_fact4⟩, linesMakes_fact5⟩, linesMakes_fact6⟩, linesMakes_fact7⟩, linesMakes_fact8⟩, linesMakes_fact9⟩, linesMakes_fact10⟩, linesMakes_fact11⟩, linesMakes_fact12⟩, linesMakes_fact13⟩, linesMakes_fact14⟩, linesMakes_fact15⟩, linesMakes_fact16⟩, linesMakes_fact17⟩, linesMakes_fact18⟩, linesMakes_fact19⟩, linesMakes_fact20⟩, linesMakes_fact21⟩, linesMakes_fact22⟩, linesMakes_fact23⟩, linesMakes_fact24⟩, linesMakes_fact25⟩, linesMakes_fact26⟩, linesMakes_fact27⟩, linesMakes_fact28⟩, linesMakes_fact29⟩, linesMakes_fact30⟩, linesMakes_fact31⟩
theorem linesMakes_instance : Try.f8.isInstance Try.pinned.checked.prog Rows.linesMakesRow.origin Rows.linesMakesRow.targs := of_decide_eq_true (by kernel_rfl)
theorem linesMakes_wrapper : Try.f8.isWrapper Try.pinned.checked.prog Rows.linesMakesRow.wrapper Rows.linesMakesRow.mainSum := by unfold Func.isWrapper; rw [if_neg (by decide +kernel)]; exact ⟨rfl, rfl⟩
theorem linesMakes_named : Try.pinned.checked.prog.funcNamed Rows.linesMakesRow.func = some 8 := by kernel_rfl
end Go.Proofs.Ytgggokajapoopaa
