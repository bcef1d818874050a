/- The closed facts of the row LinesPlays. -/
import Derived.Test.YtgggokajapoopaaOrd
namespace Go.Proofs.Ytgggokajapoopaa
open Go.ChangeShapes Go.WideShapes Go.ChangeAt Go.RowKit
set_option maxRecDepth 100000
theorem linesPlays_fact0 : (Rows.linesPlaysRow.wf (OpenSpec.ofChange Rows.linesPlaysSpec)) = true := by kernel_rfl
theorem linesPlays_fact1 : (laidOutB Try.pinned.checked.prog) = true := Try.laidOut
theorem linesPlays_fact2 : (mapsRowed Try.pinned.checked.prog) = true := Try.rowed
theorem linesPlays_fact3 : (Try.f3.params.all (Try.pinned.checked.prog.readableRec ·)) = true := by kernel_rfl
theorem linesPlays_fact4 : (namedTie Try.pinned.checked.prog Rows.linesPlaysRow.named Rows.linesPlaysSpec.vars) = true := by kernel_rfl
theorem linesPlays_fact5 : ((Rows.linesPlaysRow.stops == [])) = true := by kernel_rfl
theorem linesPlays_fact6 : ((Try.pinned.checked.prog.stops == [])) = true := Try.noStops
theorem linesPlays_fact7 : ((Rows.linesPlaysRow.knobs == [])) = true := by kernel_rfl
theorem linesPlays_fact8 : ((Try.pinned.checked.prog.stopKnobs == [])) = true := Try.noKnobs
theorem linesPlays_fact9 : ((Rows.linesPlaysRow.inPlace == Try.pinned.checked.prog.inPlace 3)) = true := by kernel_rfl
theorem linesPlays_fact10 : ((Rows.linesPlaysRow.unfollowed == Try.pinned.checked.prog.unfollowed 3)) = true := by kernel_rfl
theorem linesPlays_fact11 : ((Rows.linesPlaysRow.recurses == Try.pinned.checked.prog.recurses 3)) = true := by kernel_rfl
theorem linesPlays_fact12 : ((Rows.linesPlaysRow.named == Try.pinned.checked.prog.varsNamed 3)) = true := by kernel_rfl
theorem linesPlays_fact13 : ((Rows.linesPlaysRow.maps == (Try.f3.params.toList ++ Rows.linesPlaysSpec.plain.varTypes Try.pinned.checked.prog).any (Try.pinned.checked.prog.mapsRec ·))) = true := by kernel_rfl
theorem linesPlays_fact14 : ((Rows.linesPlaysRow.ifaces == (Try.f3.params.toList ++ Rows.linesPlaysSpec.plain.varTypes Try.pinned.checked.prog).any (Try.pinned.checked.prog.ifacesRec ·))) = true := by kernel_rfl
theorem linesPlays_fact15 : ((Rows.linesPlaysRow.mapsOut == Try.pinned.checked.prog.mapsAmong Try.f3.resultTypes.toList)) = true := by kernel_rfl
theorem linesPlays_fact16 : ((Rows.linesPlaysRow.loops == (Try.f3.params.toList ++ Rows.linesPlaysSpec.plain.varTypes Try.pinned.checked.prog).any (Try.pinned.checked.prog.loopsFrom ·))) = true := by kernel_rfl
theorem linesPlays_fact17 : ((Rows.linesPlaysRow.wideKeys == (Try.f3.params.toList ++ Rows.linesPlaysSpec.plain.varTypes Try.pinned.checked.prog ++ Try.f3.resultTypes.toList).any (Try.pinned.checked.prog.wideKeysFrom ·))) = true := by kernel_rfl
theorem linesPlays_fact18 : (Rows.linesPlaysSpec.vars.all (Try.pinned.checked.prog.varReadable ·)) = true := by kernel_rfl
theorem linesPlays_fact19 : (Try.f3.resultTypes.all (fun t => Try.pinned.checked.prog.readableRec t && decide (t < Try.pinned.checked.prog.types.size))) = true := by kernel_rfl
theorem linesPlays_fact20 : ((Rows.linesPlaysRow.ifacesOut == Try.f3.resultTypes.toList.any (Try.pinned.checked.prog.ifacesRec ·))) = true := by kernel_rfl
theorem linesPlays_fact21 : ((Rows.linesPlaysRow.loopsOut == Try.f3.resultTypes.toList.any (Try.pinned.checked.prog.loopsFrom ·))) = true := by kernel_rfl
theorem linesPlays_fact22 : ((Rows.linesPlaysRow.plainKeys == Try.pinned.checked.prog.plainKeys)) = true := Try.keysPlain
theorem linesPlays_fact23 : (Rows.linesPlaysRow.shortTexts.isNone) = true := by kernel_rfl
theorem linesPlays_fact24 : (Try.pinned.checked.prog.stopsHeard) = true := Try.heard
theorem linesPlays_fact25 : (Try.pinned.checked.prog.mayEnter) = true := Try.entersMain
theorem linesPlays_fact26 : ((Rows.linesPlaysRow.lifted == Try.pinned.checked.prog.liftsFinal)) = true := by rw [show Try.pinned.checked.prog = Try.prog from rfl, Try.lifted]; rfl
theorem linesPlays_fact27 : ((Try.pinned.checked.prog.make == some Rows.linesPlaysRow.make)) = true := by rw [show Try.pinned.checked.prog = Try.prog from rfl, Try.make]; rfl
theorem linesPlays_fact28 : ((Rows.linesPlaysRow.kinds == (if Rows.linesPlaysRow.domain.isEmpty then [] else Try.f3.params.toList.map fun t => match Try.pinned.checked.prog.underlying t with | some (.int k) => some k | _ => none))) = true := by kernel_rfl
theorem linesPlays_fact29 : ((Rows.linesPlaysRow.pinned == Rows.linesPlaysRow.pinnedBy)) = true := by kernel_rfl
theorem linesPlays_fact30 : ((Rows.linesPlaysRow.veiled == (Try.f3.params.toList ++ Rows.linesPlaysSpec.plain.varTypes Try.pinned.checked.prog ++ Try.f3.resultTypes.toList).any (Try.pinned.checked.prog.veiledRec ·))) = true := by kernel_rfl
theorem linesPlays_fact31 : (Rows.linesPlaysRow.veiledFits Try.pinned.checked.prog Try.f3.params.toList (Try.f3.params.toList ++ Rows.linesPlaysSpec.plain.varTypes Try.pinned.checked.prog ++ Try.f3.resultTypes.toList)) = true := by kernel_rfl
theorem linesPlays_facts : joinedFacts Try.pinned.checked.prog 3 Try.f3 Rows.linesPlaysSpec Rows.linesPlaysRow = true := by
  unfold joinedFacts
  simp only [Bool.and_eq_true]
  exact ⟨⟨⟨⟨⟨⟨⟨⟨⟨⟨⟨⟨⟨⟨⟨⟨⟨⟨⟨⟨⟨⟨⟨⟨⟨⟨⟨⟨⟨⟨⟨linesPlays_fact0, linesPlays_fact1⟩, linesPlays_fact2⟩, linesPlays_fact3⟩, linesPlays_fact4⟩, linesPlays_fact5⟩, linesPlays_fact6⟩, linesPlays_fact7⟩, linesPlays_fact8⟩, linesPlays_fact9⟩, linesPlays_fact10⟩, linesPlays_fact11⟩, linesPlays_fact12⟩, linesPlays_fact13⟩, linesPlays_fact14⟩, linesPlays_fact15⟩, linesPlays_fact16⟩, linesPlays_fact17⟩, linesPlays_fact18⟩, linesPlays_fact19⟩, linesPlays_fact20⟩, linesPlays_fact21⟩, linesPlays_fact22⟩, linesPlays_fact23⟩, linesPlays_fact24⟩, linesPlays_fact25⟩, linesPlays_fact26⟩, linesPlays_fact27⟩, linesPlays_fact28⟩, linesPlays_fact29⟩, linesPlays_fact30⟩, linesPlays_fact31⟩
theorem linesPlays_instance : Try.f3.isInstance Try.pinned.checked.prog Rows.linesPlaysRow.origin Rows.linesPlaysRow.targs := of_decide_eq_true (by kernel_rfl)
theorem linesPlays_wrapper : Try.f3.isWrapper Try.pinned.checked.prog Rows.linesPlaysRow.wrapper Rows.linesPlaysRow.mainSum := by unfold Func.isWrapper; rw [if_neg (by decide +kernel)]; exact ⟨rfl, rfl⟩
theorem linesPlays_named : Try.pinned.checked.prog.funcNamed Rows.linesPlaysRow.func = some 3 := by kernel_rfl
end Go.Proofs.Ytgggokajapoopaa
