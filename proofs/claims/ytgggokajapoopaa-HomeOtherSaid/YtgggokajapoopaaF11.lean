/- The closed facts of the row HomeOther. -/
import Derived.Test.YtgggokajapoopaaOrd
namespace Go.Proofs.Ytgggokajapoopaa
open Go.ChangeShapes Go.WideShapes Go.ChangeAt Go.RowKit
set_option maxRecDepth 100000
theorem homeOther_fact0 : (Rows.homeOtherRow.wf (OpenSpec.ofChange Rows.homeOtherSpec)) = true := by kernel_rfl
theorem homeOther_fact1 : (laidOutB Try.pinned.checked.prog) = true := Try.laidOut
theorem homeOther_fact2 : (mapsRowed Try.pinned.checked.prog) = true := Try.rowed
theorem homeOther_fact3 : (Try.f10.params.all (Try.pinned.checked.prog.readableRec ·)) = true := by kernel_rfl
theorem homeOther_fact4 : (namedTie Try.pinned.checked.prog Rows.homeOtherRow.named Rows.homeOtherSpec.vars) = true := by kernel_rfl
theorem homeOther_fact5 : ((Rows.homeOtherRow.stops == [])) = true := by kernel_rfl
theorem homeOther_fact6 : ((Try.pinned.checked.prog.stops == [])) = true := Try.noStops
theorem homeOther_fact7 : ((Rows.homeOtherRow.knobs == [])) = true := by kernel_rfl
theorem homeOther_fact8 : ((Try.pinned.checked.prog.stopKnobs == [])) = true := Try.noKnobs
theorem homeOther_fact9 : ((Rows.homeOtherRow.inPlace == Try.pinned.checked.prog.inPlace 10)) = true := by kernel_rfl
theorem homeOther_fact10 : ((Rows.homeOtherRow.unfollowed == Try.pinned.checked.prog.unfollowed 10)) = true := by kernel_rfl
theorem homeOther_fact11 : ((Rows.homeOtherRow.recurses == Try.pinned.checked.prog.recurses 10)) = true := by kernel_rfl
theorem homeOther_fact12 : ((Rows.homeOtherRow.named == Try.pinned.checked.prog.varsNamed 10)) = true := by kernel_rfl
theorem homeOther_fact13 : ((Rows.homeOtherRow.maps == (Try.f10.params.toList ++ Rows.homeOtherSpec.plain.varTypes Try.pinned.checked.prog).any (Try.pinned.checked.prog.mapsRec ·))) = true := by kernel_rfl
theorem homeOther_fact14 : ((Rows.homeOtherRow.ifaces == (Try.f10.params.toList ++ Rows.homeOtherSpec.plain.varTypes Try.pinned.checked.prog).any (Try.pinned.checked.prog.ifacesRec ·))) = true := by kernel_rfl
theorem homeOther_fact15 : ((Rows.homeOtherRow.mapsOut == Try.pinned.checked.prog.mapsAmong Try.f10.resultTypes.toList)) = true := by kernel_rfl
theorem homeOther_fact16 : ((Rows.homeOtherRow.loops == (Try.f10.params.toList ++ Rows.homeOtherSpec.plain.varTypes Try.pinned.checked.prog).any (Try.pinned.checked.prog.loopsFrom ·))) = true := by kernel_rfl
theorem homeOther_fact17 : ((Rows.homeOtherRow.wideKeys == (Try.f10.params.toList ++ Rows.homeOtherSpec.plain.varTypes Try.pinned.checked.prog ++ Try.f10.resultTypes.toList).any (Try.pinned.checked.prog.wideKeysFrom ·))) = true := by kernel_rfl
theorem homeOther_fact18 : (Rows.homeOtherSpec.vars.all (Try.pinned.checked.prog.varReadable ·)) = true := by kernel_rfl
theorem homeOther_fact19 : (Try.f10.resultTypes.all (fun t => Try.pinned.checked.prog.readableRec t && decide (t < Try.pinned.checked.prog.types.size))) = true := by kernel_rfl
theorem homeOther_fact20 : ((Rows.homeOtherRow.ifacesOut == Try.f10.resultTypes.toList.any (Try.pinned.checked.prog.ifacesRec ·))) = true := by kernel_rfl
theorem homeOther_fact21 : ((Rows.homeOtherRow.loopsOut == Try.f10.resultTypes.toList.any (Try.pinned.checked.prog.loopsFrom ·))) = true := by kernel_rfl
theorem homeOther_fact22 : ((Rows.homeOtherRow.plainKeys == Try.pinned.checked.prog.plainKeys)) = true := Try.keysPlain
theorem homeOther_fact23 : (Rows.homeOtherRow.shortTexts.isNone) = true := by kernel_rfl
theorem homeOther_fact24 : (Try.pinned.checked.prog.stopsHeard) = true := Try.heard
theorem homeOther_fact25 : (Try.pinned.checked.prog.mayEnter) = true := Try.entersMain
theorem homeOther_fact26 : ((Rows.homeOtherRow.lifted == Try.pinned.checked.prog.liftsFinal)) = true := by rw [show Try.pinned.checked.prog = Try.prog from rfl, Try.lifted]; rfl
theorem homeOther_fact27 : ((Try.pinned.checked.prog.make == some Rows.homeOtherRow.make)) = true := by rw [show Try.pinned.checked.prog = Try.prog from rfl, Try.make]; rfl
theorem homeOther_fact28 : ((Rows.homeOtherRow.kinds == (if Rows.homeOtherRow.domain.isEmpty then [] else Try.f10.params.toList.map fun t => match Try.pinned.checked.prog.underlying t with | some (.int k) => some k | _ => none))) = true := by kernel_rfl
theorem homeOther_fact29 : ((Rows.homeOtherRow.pinned == Rows.homeOtherRow.pinnedBy)) = true := by kernel_rfl
theorem homeOther_fact30 : ((Rows.homeOtherRow.veiled == (Try.f10.params.toList ++ Rows.homeOtherSpec.plain.varTypes Try.pinned.checked.prog ++ Try.f10.resultTypes.toList).any (Try.pinned.checked.prog.veiledRec ·))) = true := by kernel_rfl
theorem homeOther_fact31 : (Rows.homeOtherRow.veiledFits Try.pinned.checked.prog Try.f10.params.toList (Try.f10.params.toList ++ Rows.homeOtherSpec.plain.varTypes Try.pinned.checked.prog ++ Try.f10.resultTypes.toList)) = true := by kernel_rfl
theorem homeOther_facts : joinedFacts Try.pinned.checked.prog 10 Try.f10 Rows.homeOtherSpec Rows.homeOtherRow = true := by
  unfold joinedFacts
  simp only [Bool.and_eq_true]
  exact ⟨⟨⟨⟨⟨⟨⟨⟨⟨⟨⟨⟨⟨⟨⟨⟨⟨⟨⟨⟨⟨⟨⟨⟨⟨⟨⟨⟨⟨⟨⟨homeOther_fact0, homeOther_fact1⟩, homeOther_fact2⟩, homeOther_fact3⟩, homeOther_fact4⟩, homeOther_fact5⟩, homeOther_fact6⟩, homeOther_fact7⟩, homeOther_fact8⟩, homeOther_fact9⟩, homeOther_fact10⟩, homeOther_fact11⟩, homeOther_fact12⟩, homeOther_fact13⟩, homeOther_fact14⟩, homeOther_fact15⟩, homeOther_fact16⟩, homeOther_fact17⟩, homeOther_fact18⟩, homeOther_fact19⟩, homeOther_fact20⟩, homeOther_fact21⟩, homeOther_fact22⟩, homeOther_fact23⟩, homeOther_fact24⟩, homeOther_fact25⟩, homeOther_fact26⟩, homeOther_fact27⟩, homeOther_fact28⟩, homeOther_fact29⟩, homeOther_fact30⟩, homeOther_fact31⟩
theorem homeOther_instance : Try.f10.isInstance Try.pinned.checked.prog Rows.homeOtherRow.origin Rows.homeOtherRow.targs := of_decide_eq_true (by kernel_rfl)
theorem homeOther_wrapper : Try.f10.isWrapper Try.pinned.checked.prog Rows.homeOtherRow.wrapper Rows.homeOtherRow.mainSum := by unfold Func.isWrapper; rw [if_neg (by decide +kernel)]; exact ⟨rfl, rfl⟩
theorem homeOther_named : Try.pinned.checked.prog.funcNamed Rows.homeOtherRow.func = some 10 := by kernel_rfl
end Go.Proofs.Ytgggokajapoopaa
