/- The closed facts of the row LinesPuts. -/
import Derived.Test.YtgggokajapoopaaOrd
namespace Go.Proofs.Ytgggokajapoopaa
open Go.ChangeShapes Go.WideShapes Go.ChangeAt Go.RowKit
set_option maxRecDepth 100000
theorem linesPuts_fact0 : (Rows.linesPutsRow.wf (OpenSpec.ofChange Rows.linesPutsSpec)) = true := by kernel_rfl
theorem linesPuts_fact1 : (laidOutB Try.pinned.checked.prog) = true := Try.laidOut
theorem linesPuts_fact2 : (mapsRowed Try.pinned.checked.prog) = true := Try.rowed
theorem linesPuts_fact3 : (Try.f5.params.all (Try.pinned.checked.prog.readableRec ·)) = true := by kernel_rfl
theorem linesPuts_fact4 : (namedTie Try.pinned.checked.prog Rows.linesPutsRow.named Rows.linesPutsSpec.vars) = true := by kernel_rfl
theorem linesPuts_fact5 : ((Rows.linesPutsRow.stops == [])) = true := by kernel_rfl
theorem linesPuts_fact6 : ((Try.pinned.checked.prog.stops == [])) = true := Try.noStops
theorem linesPuts_fact7 : ((Rows.linesPutsRow.knobs == [])) = true := by kernel_rfl
theorem linesPuts_fact8 : ((Try.pinned.checked.prog.stopKnobs == [])) = true := Try.noKnobs
theorem linesPuts_fact9 : ((Rows.linesPutsRow.inPlace == Try.pinned.checked.prog.inPlace 5)) = true := by kernel_rfl
theorem linesPuts_fact10 : ((Rows.linesPutsRow.unfollowed == Try.pinned.checked.prog.unfollowed 5)) = true := by kernel_rfl
theorem linesPuts_fact11 : ((Rows.linesPutsRow.recurses == Try.pinned.checked.prog.recurses 5)) = true := by kernel_rfl
theorem linesPuts_fact12 : ((Rows.linesPutsRow.named == Try.pinned.checked.prog.varsNamed 5)) = true := by kernel_rfl
theorem linesPuts_fact13 : ((Rows.linesPutsRow.maps == (Try.f5.params.toList ++ Rows.linesPutsSpec.plain.varTypes Try.pinned.checked.prog).any (Try.pinned.checked.prog.mapsRec ·))) = true := by kernel_rfl
theorem linesPuts_fact14 : ((Rows.linesPutsRow.ifaces == (Try.f5.params.toList ++ Rows.linesPutsSpec.plain.varTypes Try.pinned.checked.prog).any (Try.pinned.checked.prog.ifacesRec ·))) = true := by kernel_rfl
theorem linesPuts_fact15 : ((Rows.linesPutsRow.mapsOut == Try.pinned.checked.prog.mapsAmong Try.f5.resultTypes.toList)) = true := by kernel_rfl
theorem linesPuts_fact16 : ((Rows.linesPutsRow.loops == (Try.f5.params.toList ++ Rows.linesPutsSpec.plain.varTypes Try.pinned.checked.prog).any (Try.pinned.checked.prog.loopsFrom ·))) = true := by kernel_rfl
theorem linesPuts_fact17 : ((Rows.linesPutsRow.wideKeys == (Try.f5.params.toList ++ Rows.linesPutsSpec.plain.varTypes Try.pinned.checked.prog ++ Try.f5.resultTypes.toList).any (Try.pinned.checked.prog.wideKeysFrom ·))) = true := by kernel_rfl
theorem linesPuts_fact18 : (Rows.linesPutsSpec.vars.all (Try.pinned.checked.prog.varReadable ·)) = true := by kernel_rfl
theorem linesPuts_fact19 : (Try.f5.resultTypes.all (fun t => Try.pinned.checked.prog.readableRec t && decide (t < Try.pinned.checked.prog.types.size))) = true := by kernel_rfl
theorem linesPuts_fact20 : ((Rows.linesPutsRow.ifacesOut == Try.f5.resultTypes.toList.any (Try.pinned.checked.prog.ifacesRec ·))) = true := by kernel_rfl
theorem linesPuts_fact21 : ((Rows.linesPutsRow.loopsOut == Try.f5.resultTypes.toList.any (Try.pinned.checked.prog.loopsFrom ·))) = true := by kernel_rfl
theorem linesPuts_fact22 : ((Rows.linesPutsRow.plainKeys == Try.pinned.checked.prog.plainKeys)) = true := Try.keysPlain
theorem linesPuts_fact23 : (Rows.linesPutsRow.shortTexts.isNone) = true := by kernel_rfl
theorem linesPuts_fact24 : (Try.pinned.checked.prog.stopsHeard) = true := Try.heard
theorem linesPuts_fact25 : (Try.pinned.checked.prog.mayEnter) = true := Try.entersMain
theorem linesPuts_fact26 : ((Rows.linesPutsRow.lifted == Try.pinned.checked.prog.liftsFinal)) = true := by rw [show Try.pinned.checked.prog = Try.prog from rfl, Try.lifted]; rfl
theorem linesPuts_fact27 : ((Try.pinned.checked.prog.make == some Rows.linesPutsRow.make)) = true := by rw [show Try.pinned.checked.prog = Try.prog from rfl, Try.make]; rfl
theorem linesPuts_fact28 : ((Rows.linesPutsRow.kinds == (if Rows.linesPutsRow.domain.isEmpty then [] else Try.f5.params.toList.map fun t => match Try.pinned.checked.prog.underlying t with | some (.int k) => some k | _ => none))) = true := by kernel_rfl
theorem linesPuts_fact29 : ((Rows.linesPutsRow.pinned == Rows.linesPutsRow.pinnedBy)) = true := by kernel_rfl
theorem linesPuts_fact30 : ((Rows.linesPutsRow.veiled == (Try.f5.params.toList ++ Rows.linesPutsSpec.plain.varTypes Try.pinned.checked.prog ++ Try.f5.resultTypes.toList).any (Try.pinned.checked.prog.veiledRec ·))) = true := by kernel_rfl
theorem linesPuts_fact31 : (Rows.linesPutsRow.veiledFits Try.pinned.checked.prog Try.f5.params.toList (Try.f5.params.toList ++ Rows.linesPutsSpec.plain.varTypes Try.pinned.checked.prog ++ Try.f5.resultTypes.toList)) = true := by kernel_rfl
theorem linesPuts_facts : joinedFacts Try.pinned.checked.prog 5 Try.f5 Rows.linesPutsSpec Rows.linesPutsRow = true := by
  unfold joinedFacts
  simp only [Bool.and_eq_true]
  exact ⟨⟨⟨⟨⟨⟨⟨⟨⟨⟨⟨⟨⟨⟨⟨⟨⟨⟨⟨⟨⟨⟨⟨⟨⟨⟨⟨⟨⟨⟨⟨linesPuts_fact0, linesPuts_fact1⟩, linesPuts_fact2⟩, linesPuts_fact3⟩, linesPuts_fact4⟩, linesPuts_fact5⟩, linesPuts_fact6⟩, linesPuts_fact7⟩, linesPuts_fact8⟩, linesPuts_fact9⟩, linesPuts_fact10⟩, linesPuts_fact11⟩, linesPuts_fact12⟩, linesPuts_fact13⟩, linesPuts_fact14⟩, linesPuts_fact15⟩, linesPuts_fact16⟩, linesPuts_fact17⟩, linesPuts_fact18⟩, linesPuts_fact19⟩, linesPuts_fact20⟩, linesPuts_fact21⟩, linesPuts_fact22⟩, linesPuts_fact23⟩, linesPuts_fact24⟩, linesPuts_fact25⟩, linesPuts_fact26⟩, linesPuts_fact27⟩, linesPuts_fact28⟩, linesPuts_fact29⟩, linesPuts_fact30⟩, linesPuts_fact31⟩
theorem linesPuts_instance : Try.f5.isInstance Try.pinned.checked.prog Rows.linesPutsRow.origin Rows.linesPutsRow.targs := of_decide_eq_true (by kernel_rfl)
theorem linesPuts_wrapper : Try.f5.isWrapper Try.pinned.checked.prog Rows.linesPutsRow.wrapper Rows.linesPutsRow.mainSum := by unfold Func.isWrapper; rw [if_neg (by decide +kernel)]; exact ⟨rfl, rfl⟩
theorem linesPuts_named : Try.pinned.checked.prog.funcNamed Rows.linesPutsRow.func = some 5 := by kernel_rfl
end Go.Proofs.Ytgggokajapoopaa
