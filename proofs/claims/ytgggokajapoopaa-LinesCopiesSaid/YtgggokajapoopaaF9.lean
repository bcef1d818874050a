/- The closed facts of the row LinesCopies. -/
import Derived.Test.YtgggokajapoopaaOrd
namespace Go.Proofs.Ytgggokajapoopaa
open Go.ChangeShapes Go.WideShapes Go.ChangeAt Go.RowKit
set_option maxRecDepth 100000
theorem linesCopies_fact0 : (Rows.linesCopiesRow.wf (OpenSpec.ofChange Rows.linesCopiesSpec)) = true := by kernel_rfl
theorem linesCopies_fact1 : (laidOutB Try.pinned.checked.prog) = true := Try.laidOut
theorem linesCopies_fact2 : (mapsRowed Try.pinned.checked.prog) = true := Try.rowed
theorem linesCopies_fact3 : (Try.f9.params.all (Try.pinned.checked.prog.readableRec ·)) = true := by kernel_rfl
theorem linesCopies_fact4 : (namedTie Try.pinned.checked.prog Rows.linesCopiesRow.named Rows.linesCopiesSpec.vars) = true := by kernel_rfl
theorem linesCopies_fact5 : ((Rows.linesCopiesRow.stops == [])) = true := by kernel_rfl
theorem linesCopies_fact6 : ((Try.pinned.checked.prog.stops == [])) = true := Try.noStops
theorem linesCopies_fact7 : ((Rows.linesCopiesRow.knobs == [])) = true := by kernel_rfl
theorem linesCopies_fact8 : ((Try.pinned.checked.prog.stopKnobs == [])) = true := Try.noKnobs
theorem linesCopies_fact9 : ((Rows.linesCopiesRow.inPlace == Try.pinned.checked.prog.inPlace 9)) = true := by kernel_rfl
theorem linesCopies_fact10 : ((Rows.linesCopiesRow.unfollowed == Try.pinned.checked.prog.unfollowed 9)) = true := by kernel_rfl
theorem linesCopies_fact11 : ((Rows.linesCopiesRow.recurses == Try.pinned.checked.prog.recurses 9)) = true := by kernel_rfl
theorem linesCopies_fact12 : ((Rows.linesCopiesRow.named == Try.pinned.checked.prog.varsNamed 9)) = true := by kernel_rfl
theorem linesCopies_fact13 : ((Rows.linesCopiesRow.maps == (Try.f9.params.toList ++ Rows.linesCopiesSpec.plain.varTypes Try.pinned.checked.prog).any (Try.pinned.checked.prog.mapsRec ·))) = true := by kernel_rfl
theorem linesCopies_fact14 : ((Rows.linesCopiesRow.ifaces == (Try.f9.params.toList ++ Rows.linesCopiesSpec.plain.varTypes Try.pinned.checked.prog).any (Try.pinned.checked.prog.ifacesRec ·))) = true := by kernel_rfl
theorem linesCopies_fact15 : ((Rows.linesCopiesRow.mapsOut == Try.pinned.checked.prog.mapsAmong Try.f9.resultTypes.toList)) = true := by kernel_rfl
theorem linesCopies_fact16 : ((Rows.linesCopiesRow.loops == (Try.f9.params.toList ++ Rows.linesCopiesSpec.plain.varTypes Try.pinned.checked.prog).any (Try.pinned.checked.prog.loopsFrom ·))) = true := by kernel_rfl
theorem linesCopies_fact17 : ((Rows.linesCopiesRow.wideKeys == (Try.f9.params.toList ++ Rows.linesCopiesSpec.plain.varTypes Try.pinned.checked.prog ++ Try.f9.resultTypes.toList).any (Try.pinned.checked.prog.wideKeysFrom ·))) = true := by kernel_rfl
theorem linesCopies_fact18 : (Rows.linesCopiesSpec.vars.all (Try.pinned.checked.prog.varReadable ·)) = true := by kernel_rfl
theorem linesCopies_fact19 : (Try.f9.resultTypes.all (fun t => Try.pinned.checked.prog.readableRec t && decide (t < Try.pinned.checked.prog.types.size))) = true := by kernel_rfl
theorem linesCopies_fact20 : ((Rows.linesCopiesRow.ifacesOut == Try.f9.resultTypes.toList.any (Try.pinned.checked.prog.ifacesRec ·))) = true := by kernel_rfl
theorem linesCopies_fact21 : ((Rows.linesCopiesRow.loopsOut == Try.f9.resultTypes.toList.any (Try.pinned.checked.prog.loopsFrom ·))) = true := by kernel_rfl
theorem linesCopies_fact22 : ((Rows.linesCopiesRow.plainKeys == Try.pinned.checked.prog.plainKeys)) = true := Try.keysPlain
theorem linesCopies_fact23 : (Rows.linesCopiesRow.shortTexts.isNone) = true := by kernel_rfl
theorem linesCopies_fact24 : (Try.pinned.checked.prog.stopsHeard) = true := Try.heard
theorem linesCopies_fact25 : (Try.pinned.checked.prog.mayEnter) = true := Try.entersMain
theorem linesCopies_fact26 : ((Rows.linesCopiesRow.lifted == Try.pinned.checked.prog.liftsFinal)) = true := by rw [show Try.pinned.checked.prog = Try.prog from rfl, Try.lifted]; rfl
theorem linesCopies_fact27 : ((Try.pinned.checked.prog.make == some Rows.linesCopiesRow.make)) = true := by rw [show Try.pinned.checked.prog = Try.prog from rfl, Try.make]; rfl
theorem linesCopies_fact28 : ((Rows.linesCopiesRow.kinds == (if Rows.linesCopiesRow.domain.isEmpty then [] else Try.f9.params.toList.map fun t => match Try.pinned.checked.prog.underlying t with | some (.int k) => some k | _ => none))) = true := by kernel_rfl
theorem linesCopies_fact29 : ((Rows.linesCopiesRow.pinned == Rows.linesCopiesRow.pinnedBy)) = true := by kernel_rfl
theorem linesCopies_fact30 : ((Rows.linesCopiesRow.veiled == (Try.f9.params.toList ++ Rows.linesCopiesSpec.plain.varTypes Try.pinned.checked.prog ++ Try.f9.resultTypes.toList).any (Try.pinned.checked.prog.veiledRec ·))) = true := by kernel_rfl
theorem linesCopies_fact31 : (Rows.linesCopiesRow.veiledFits Try.pinned.checked.prog Try.f9.params.toList (Try.f9.params.toList ++ Rows.linesCopiesSpec.plain.varTypes Try.pinned.checked.prog ++ Try.f9.resultTypes.toList)) = true := by kernel_rfl
theorem linesCopies_facts : joinedFacts Try.pinned.checked.prog 9 Try.f9 Rows.linesCopiesSpec Rows.linesCopiesRow = true := by
  unfold joinedFacts
  simp only [Bool.and_eq_true]
  exact ⟨⟨⟨⟨⟨⟨⟨⟨⟨⟨⟨⟨⟨⟨⟨⟨⟨⟨⟨⟨⟨⟨⟨⟨⟨⟨⟨⟨⟨⟨⟨linesCopies_fact0, linesCopies_fact1⟩, linesCopies_fact2⟩, linesCopies_fact3⟩, linesCopies_fact4⟩, linesCopies_fact5⟩, linesCopies_fact6⟩, linesCopies_fact7⟩, linesCopies_fact8⟩, linesCopies_fact9⟩, linesCopies_fact10⟩, linesCopies_fact11⟩, linesCopies_fact12⟩, linesCopies_fact13⟩, linesCopies_fact14⟩, linesCopies_fact15⟩, linesCopies_fact16⟩, linesCopies_fact17⟩, linesCopies_fact18⟩, linesCopies_fact19⟩, linesCopies_fact20⟩, linesCopies_fact21⟩, linesCopies_fact22⟩, linesCopies_fact23⟩, linesCopies_fact24⟩, linesCopies_fact25⟩, linesCopies_fact26⟩, linesCopies_fact27⟩, linesCopies_fact28⟩, linesCopies_fact29⟩, linesCopies_fact30⟩, linesCopies_fact31⟩
theorem linesCopies_instance : Try.f9.isInstance Try.pinned.checked.prog Rows.linesCopiesRow.origin Rows.linesCopiesRow.targs := of_decide_eq_true (by kernel_rfl)
theorem linesCopies_wrapper : Try.f9.isWrapper Try.pinned.checked.prog Rows.linesCopiesRow.wrapper Rows.linesCopiesRow.mainSum := by unfold Func.isWrapper; rw [if_neg (by decide +kernel)]; exact ⟨rfl, rfl⟩
theorem linesCopies_named : Try.pinned.checked.prog.funcNamed Rows.linesCopiesRow.func = some 9 := by kernel_rfl
end Go.Proofs.Ytgggokajapoopaa
