/- The closed facts of the row HomeNil. -/
import Derived.Test.YtgggokajapoopaaOrd
namespace Go.Proofs.Ytgggokajapoopaa
open Go.ChangeShapes Go.WideShapes Go.ChangeAt Go.RowKit
set_option maxRecDepth 100000
theorem homeNil_fact0 : (Rows.homeNilRow.wf (OpenSpec.ofChange Rows.homeNilSpec)) = true := by kernel_rfl
theorem homeNil_fact1 : (laidOutB Try.pinned.checked.prog) = true := Try.laidOut
theorem homeNil_fact2 : (mapsRowed Try.pinned.checked.prog) = true := Try.rowed
theorem homeNil_fact3 : (Try.f15.params.all (Try.pinned.checked.prog.readableRec ·)) = true := by kernel_rfl
theorem homeNil_fact4 : (namedTie Try.pinned.checked.prog Rows.homeNilRow.named Rows.homeNilSpec.vars) = true := by kernel_rfl
theorem homeNil_fact5 : ((Rows.homeNilRow.stops == [])) = true := by kernel_rfl
theorem homeNil_fact6 : ((Try.pinned.checked.prog.stops == [])) = true := Try.noStops
theorem homeNil_fact7 : ((Rows.homeNilRow.knobs == [])) = true := by kernel_rfl
theorem homeNil_fact8 : ((Try.pinned.checked.prog.stopKnobs == [])) = true := Try.noKnobs
theorem homeNil_fact9 : ((Rows.homeNilRow.inPlace == Try.pinned.checked.prog.inPlace 15)) = true := by kernel_rfl
theorem homeNil_fact10 : ((Rows.homeNilRow.unfollowed == Try.pinned.checked.prog.unfollowed 15)) = true := by kernel_rfl
theorem homeNil_fact11 : ((Rows.homeNilRow.recurses == Try.pinned.checked.prog.recurses 15)) = true := by kernel_rfl
theorem homeNil_fact12 : ((Rows.homeNilRow.named == Try.pinned.checked.prog.varsNamed 15)) = true := by kernel_rfl
theorem homeNil_fact13 : ((Rows.homeNilRow.maps == (Try.f15.params.toList ++ Rows.homeNilSpec.plain.varTypes Try.pinned.checked.prog).any (Try.pinned.checked.prog.mapsRec ·))) = true := by kernel_rfl
theorem homeNil_fact14 : ((Rows.homeNilRow.ifaces == (Try.f15.params.toList ++ Rows.homeNilSpec.plain.varTypes Try.pinned.checked.prog).any (Try.pinned.checked.prog.ifacesRec ·))) = true := by kernel_rfl
theorem homeNil_fact15 : ((Rows.homeNilRow.mapsOut == Try.pinned.checked.prog.mapsAmong Try.f15.resultTypes.toList)) = true := by kernel_rfl
theorem homeNil_fact16 : ((Rows.homeNilRow.loops == (Try.f15.params.toList ++ Rows.homeNilSpec.plain.varTypes Try.pinned.checked.prog).any (Try.pinned.checked.prog.loopsFrom ·))) = true := by kernel_rfl
theorem homeNil_fact17 : ((Rows.homeNilRow.wideKeys == (Try.f15.params.toList ++ Rows.homeNilSpec.plain.varTypes Try.pinned.checked.prog ++ Try.f15.resultTypes.toList).any (Try.pinned.checked.prog.wideKeysFrom ·))) = true := by kernel_rfl
theorem homeNil_fact18 : (Rows.homeNilSpec.vars.all (Try.pinned.checked.prog.varReadable ·)) = true := by kernel_rfl
theorem homeNil_fact19 : (Try.f15.resultTypes.all (fun t => Try.pinned.checked.prog.readableRec t && decide (t < Try.pinned.checked.prog.types.size))) = true := by kernel_rfl
theorem homeNil_fact20 : ((Rows.homeNilRow.ifacesOut == Try.f15.resultTypes.toList.any (Try.pinned.checked.prog.ifacesRec ·))) = true := by kernel_rfl
theorem homeNil_fact21 : ((Rows.homeNilRow.loopsOut == Try.f15.resultTypes.toList.any (Try.pinned.checked.prog.loopsFrom ·))) = true := by kernel_rfl
theorem homeNil_fact22 : ((Rows.homeNilRow.plainKeys == Try.pinned.checked.prog.plainKeys)) = true := Try.keysPlain
theorem homeNil_fact23 : (Rows.homeNilRow.shortTexts.isNone) = true := by kernel_rfl
theorem homeNil_fact24 : (Try.pinned.checked.prog.stopsHeard) = true := Try.heard
theorem homeNil_fact25 : (Try.pinned.checked.prog.mayEnter) = true := Try.entersMain
theorem homeNil_fact26 : ((Rows.homeNilRow.lifted == Try.pinned.checked.prog.liftsFinal)) = true := by rw [show Try.pinned.checked.prog = Try.prog from rfl, Try.lifted]; rfl
theorem homeNil_fact27 : ((Try.pinned.checked.prog.make == some Rows.homeNilRow.make)) = true := by rw [show Try.pinned.checked.prog = Try.prog from rfl, Try.make]; rfl
theorem homeNil_fact28 : ((Rows.homeNilRow.kinds == (if Rows.homeNilRow.domain.isEmpty then [] else Try.f15.params.toList.map fun t => match Try.pinned.checked.prog.underlying t with | some (.int k) => some k | _ => none))) = true := by kernel_rfl
theorem homeNil_fact29 : ((Rows.homeNilRow.pinned == Rows.homeNilRow.pinnedBy)) = true := by kernel_rfl
theorem homeNil_fact30 : ((Rows.homeNilRow.veiled == (Try.f15.params.toList ++ Rows.homeNilSpec.plain.varTypes Try.pinned.checked.prog ++ Try.f15.resultTypes.toList).any (Try.pinned.checked.prog.veiledRec ·))) = true := by kernel_rfl
theorem homeNil_fact31 : (Rows.homeNilRow.veiledFits Try.pinned.checked.prog Try.f15.params.toList (Try.f15.params.toList ++ Rows.homeNilSpec.plain.varTypes Try.pinned.checked.prog ++ Try.f15.resultTypes.toList)) = true := by kernel_rfl
theorem homeNil_facts : joinedFacts Try.pinned.checked.prog 15 Try.f15 Rows.homeNilSpec Rows.homeNilRow = true := by
  unfold joinedFacts
  simp only [Bool.and_eq_true]
  exact ⟨⟨⟨⟨⟨⟨⟨⟨⟨⟨⟨⟨⟨⟨⟨⟨⟨⟨⟨⟨⟨⟨⟨⟨⟨⟨⟨⟨⟨⟨⟨homeNil_fact0, homeNil_fact1⟩, homeNil_fact2⟩, homeNil_fact3⟩, homeNil_fact4⟩, homeNil_fact5⟩, homeNil_fact6⟩, homeNil_fact7⟩, homeNil_fact8⟩, homeNil_fact9⟩, homeNil_fact10⟩, homeNil_fact11⟩, homeNil_fact12⟩, homeNil_fact13⟩, homeNil_fact14⟩, homeNil_fact15⟩, homeNil_fact16⟩, homeNil_fact17⟩, homeNil_fact18⟩, homeNil_fact19⟩, homeNil_fact20⟩, homeNil_fact21⟩, homeNil_fact22⟩, homeNil_fact23⟩, homeNil_fact24⟩, homeNil_fact25⟩, homeNil_fact26⟩, homeNil_fact27⟩, homeNil_fact28⟩, homeNil_fact29⟩, homeNil_fact30⟩, homeNil_fact31⟩
theorem homeNil_instance : Try.f15.isInstance Try.pinned.checked.prog Rows.homeNilRow.origin Rows.homeNilRow.targs := of_decide_eq_true (by kernel_rfl)
theorem homeNil_wrapper : Try.f15.isWrapper Try.pinned.checked.prog Rows.homeNilRow.wrapper Rows.homeNilRow.mainSum := by unfold Func.isWrapper; rw [if_neg (by decide +kernel)]; exact ⟨rfl, rfl⟩
theorem homeNil_named : Try.pinned.checked.prog.funcNamed Rows.homeNilRow.func = some 15 := by kernel_rfl
end Go.Proofs.Ytgggokajapoopaa
