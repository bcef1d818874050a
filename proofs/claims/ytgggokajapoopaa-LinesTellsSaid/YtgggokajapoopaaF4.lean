/- The closed facts of the row LinesTells. -/
import Derived.Test.YtgggokajapoopaaOrd
namespace Go.Proofs.Ytgggokajapoopaa
open Go.ChangeShapes Go.WideShapes Go.ChangeAt Go.RowKit
set_option maxRecDepth 100000
theorem linesTells_fact0 : (Rows.linesTellsRow.wf (OpenSpec.ofChange Rows.linesTellsSpec)) = true := by kernel_rfl
theorem linesTells_fact1 : (laidOutB Try.pinned.checked.prog) = true := Try.laidOut
theorem linesTells_fact2 : (mapsRowed Try.pinned.checked.prog) = true := Try.rowed
theorem linesTells_fact3 : (Try.f4.params.all (Try.pinned.checked.prog.readableRec ·)) = true := by kernel_rfl
theorem linesTells_fact4 : (namedTie Try.pinned.checked.prog Rows.linesTellsRow.named Rows.linesTellsSpec.vars) = true := by kernel_rfl
theorem linesTells_fact5 : ((Rows.linesTellsRow.stops == [])) = true := by kernel_rfl
theorem linesTells_fact6 : ((Try.pinned.checked.prog.stops == [])) = true := Try.noStops
theorem linesTells_fact7 : ((Rows.linesTellsRow.knobs == [])) = true := by kernel_rfl
theorem linesTells_fact8 : ((Try.pinned.checked.prog.stopKnobs == [])) = true := Try.noKnobs
theorem linesTells_fact9 : ((Rows.linesTellsRow.inPlace == Try.pinned.checked.prog.inPlace 4)) = true := by kernel_rfl
theorem linesTells_fact10 : ((Rows.linesTellsRow.unfollowed == Try.pinned.checked.prog.unfollowed 4)) = true := by kernel_rfl
theorem linesTells_fact11 : ((Rows.linesTellsRow.recurses == Try.pinned.checked.prog.recurses 4)) = true := by kernel_rfl
theorem linesTells_fact12 : ((Rows.linesTellsRow.named == Try.pinned.checked.prog.varsNamed 4)) = true := by kernel_rfl
theorem linesTells_fact13 : ((Rows.linesTellsRow.maps == (Try.f4.params.toList ++ Rows.linesTellsSpec.plain.varTypes Try.pinned.checked.prog).any (Try.pinned.checked.prog.mapsRec ·))) = true := by kernel_rfl
theorem linesTells_fact14 : ((Rows.linesTellsRow.ifaces == (Try.f4.params.toList ++ Rows.linesTellsSpec.plain.varTypes Try.pinned.checked.prog).any (Try.pinned.checked.prog.ifacesRec ·))) = true := by kernel_rfl
theorem linesTells_fact15 : ((Rows.linesTellsRow.mapsOut == Try.pinned.checked.prog.mapsAmong Try.f4.resultTypes.toList)) = true := by kernel_rfl
theorem linesTells_fact16 : ((Rows.linesTellsRow.loops == (Try.f4.params.toList ++ Rows.linesTellsSpec.plain.varTypes Try.pinned.checked.prog).any (Try.pinned.checked.prog.loopsFrom ·))) = true := by kernel_rfl
theorem linesTells_fact17 : ((Rows.linesTellsRow.wideKeys == (Try.f4.params.toList ++ Rows.linesTellsSpec.plain.varTypes Try.pinned.checked.prog ++ Try.f4.resultTypes.toList).any (Try.pinned.checked.prog.wideKeysFrom ·))) = true := by kernel_rfl
theorem linesTells_fact18 : (Rows.linesTellsSpec.vars.all (Try.pinned.checked.prog.varReadable ·)) = true := by kernel_rfl
theorem linesTells_fact19 : (Try.f4.resultTypes.all (fun t => Try.pinned.checked.prog.readableRec t && decide (t < Try.pinned.checked.prog.types.size))) = true := by kernel_rfl
theorem linesTells_fact20 : ((Rows.linesTellsRow.ifacesOut == Try.f4.resultTypes.toList.any (Try.pinned.checked.prog.ifacesRec ·))) = true := by kernel_rfl
theorem linesTells_fact21 : ((Rows.linesTellsRow.loopsOut == Try.f4.resultTypes.toList.any (Try.pinned.checked.prog.loopsFrom ·))) = true := by kernel_rfl
theorem linesTells_fact22 : ((Rows.linesTellsRow.plainKeys == Try.pinned.checked.prog.plainKeys)) = true := Try.keysPlain
theorem linesTells_fact23 : (Rows.linesTellsRow.shortTexts.isNone) = true := by kernel_rfl
theorem linesTells_fact24 : (Try.pinned.checked.prog.stopsHeard) = true := Try.heard
theorem linesTells_fact25 : (Try.pinned.checked.prog.mayEnter) = true := Try.entersMain
theorem linesTells_fact26 : ((Rows.linesTellsRow.lifted == Try.pinned.checked.prog.liftsFinal)) = true := by rw [show Try.pinned.checked.prog = Try.prog from rfl, Try.lifted]; rfl
theorem linesTells_fact27 : ((Try.pinned.checked.prog.make == some Rows.linesTellsRow.make)) = true := by rw [show Try.pinned.checked.prog = Try.prog from rfl, Try.make]; rfl
theorem linesTells_fact28 : ((Rows.linesTellsRow.kinds == (if Rows.linesTellsRow.domain.isEmpty then [] else Try.f4.params.toList.map fun t => match Try.pinned.checked.prog.underlying t with | some (.int k) => some k | _ => none))) = true := by kernel_rfl
theorem linesTells_fact29 : ((Rows.linesTellsRow.pinned == Rows.linesTellsRow.pinnedBy)) = true := by kernel_rfl
theorem linesTells_fact30 : ((Rows.linesTellsRow.veiled == (Try.f4.params.toList ++ Rows.linesTellsSpec.plain.varTypes Try.pinned.checked.prog ++ Try.f4.resultTypes.toList).any (Try.pinned.checked.prog.veiledRec ·))) = true := by kernel_rfl
theorem linesTells_fact31 : (Rows.linesTellsRow.veiledFits Try.pinned.checked.prog Try.f4.params.toList (Try.f4.params.toList ++ Rows.linesTellsSpec.plain.varTypes Try.pinned.checked.prog ++ Try.f4.resultTypes.toList)) = true := by kernel_rfl
theorem linesTells_facts : joinedFacts Try.pinned.checked.prog 4 Try.f4 Rows.linesTellsSpec Rows.linesTellsRow = true := by
  unfold joinedFacts
  simp only [Bool.and_eq_true]
  exact ⟨⟨⟨⟨⟨⟨⟨⟨⟨⟨⟨⟨⟨⟨⟨⟨⟨⟨⟨⟨⟨⟨⟨⟨⟨⟨⟨⟨⟨⟨⟨linesTells_fact0, linesTells_fact1⟩, linesTells_fact2⟩, linesTells_fact3⟩, linesTells_fact4⟩, linesTells_fact5⟩, linesTells_fact6⟩, linesTells_fact7⟩, linesTells_fact8⟩, linesTells_fact9⟩, linesTells_fact10⟩, linesTells_fact11⟩, linesTells_fact12⟩, linesTells_fact13⟩, linesTells_fact14⟩, linesTells_fact15⟩, linesTells_fact16⟩, linesTells_fact17⟩, linesTells_fact18⟩, linesTells_fact19⟩, linesTells_fact20⟩, linesTells_fact21⟩, linesTells_fact22⟩, linesTells_fact23⟩, linesTells_fact24⟩, linesTells_fact25⟩, linesTells_fact26⟩, linesTells_fact27⟩, linesTells_fact28⟩, linesTells_fact29⟩, linesTells_fact30⟩, linesTells_fact31⟩
theorem linesTells_instance : Try.f4.isInstance Try.pinned.checked.prog Rows.linesTellsRow.origin Rows.linesTellsRow.targs := of_decide_eq_true (by kernel_rfl)
theorem linesTells_wrapper : Try.f4.isWrapper Try.pinned.checked.prog Rows.linesTellsRow.wrapper Rows.linesTellsRow.mainSum := by unfold Func.isWrapper; rw [if_neg (by decide +kernel)]; exact ⟨rfl, rfl⟩
theorem linesTells_named : Try.pinned.checked.prog.funcNamed Rows.linesTellsRow.func = some 4 := by kernel_rfl
end Go.Proofs.Ytgggokajapoopaa
