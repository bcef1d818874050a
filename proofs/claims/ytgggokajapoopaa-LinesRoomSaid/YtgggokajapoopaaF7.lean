/- The closed facts of the row LinesRoom. -/
import Derived.Test.YtgggokajapoopaaOrd
namespace Go.Proofs.Ytgggokajapoopaa
open Go.ChangeShapes Go.WideShapes Go.ChangeAt Go.RowKit
set_option maxRecDepth 100000
theorem linesRoom_fact0 : (Rows.linesRoomRow.wf (OpenSpec.ofChange Rows.linesRoomSpec)) = true := by kernel_rfl
theorem linesRoom_fact1 : (laidOutB Try.pinned.checked.prog) = true := Try.laidOut
theorem linesRoom_fact2 : (mapsRowed Try.pinned.checked.prog) = true := Try.rowed
theorem linesRoom_fact3 : (Try.f7.params.all (Try.pinned.checked.prog.readableRec ·)) = true := by kernel_rfl
theorem linesRoom_fact4 : (namedTie Try.pinned.checked.prog Rows.linesRoomRow.named Rows.linesRoomSpec.vars) = true := by kernel_rfl
theorem linesRoom_fact5 : ((Rows.linesRoomRow.stops == [])) = true := by kernel_rfl
theorem linesRoom_fact6 : ((Try.pinned.checked.prog.stops == [])) = true := Try.noStops
theorem linesRoom_fact7 : ((Rows.linesRoomRow.knobs == [])) = true := by kernel_rfl
theorem linesRoom_fact8 : ((Try.pinned.checked.prog.stopKnobs == [])) = true := Try.noKnobs
theorem linesRoom_fact9 : ((Rows.linesRoomRow.inPlace == Try.pinned.checked.prog.inPlace 7)) = true := by kernel_rfl
theorem linesRoom_fact10 : ((Rows.linesRoomRow.unfollowed == Try.pinned.checked.prog.unfollowed 7)) = true := by kernel_rfl
theorem linesRoom_fact11 : ((Rows.linesRoomRow.recurses == Try.pinned.checked.prog.recurses 7)) = true := by kernel_rfl
theorem linesRoom_fact12 : ((Rows.linesRoomRow.named == Try.pinned.checked.prog.varsNamed 7)) = true := by kernel_rfl
theorem linesRoom_fact13 : ((Rows.linesRoomRow.maps == (Try.f7.params.toList ++ Rows.linesRoomSpec.plain.varTypes Try.pinned.checked.prog).any (Try.pinned.checked.prog.mapsRec ·))) = true := by kernel_rfl
theorem linesRoom_fact14 : ((Rows.linesRoomRow.ifaces == (Try.f7.params.toList ++ Rows.linesRoomSpec.plain.varTypes Try.pinned.checked.prog).any (Try.pinned.checked.prog.ifacesRec ·))) = true := by kernel_rfl
theorem linesRoom_fact15 : ((Rows.linesRoomRow.mapsOut == Try.pinned.checked.prog.mapsAmong Try.f7.resultTypes.toList)) = true := by kernel_rfl
theorem linesRoom_fact16 : ((Rows.linesRoomRow.loops == (Try.f7.params.toList ++ Rows.linesRoomSpec.plain.varTypes Try.pinned.checked.prog).any (Try.pinned.checked.prog.loopsFrom ·))) = true := by kernel_rfl
theorem linesRoom_fact17 : ((Rows.linesRoomRow.wideKeys == (Try.f7.params.toList ++ Rows.linesRoomSpec.plain.varTypes Try.pinned.checked.prog ++ Try.f7.resultTypes.toList).any (Try.pinned.checked.prog.wideKeysFrom ·))) = true := by kernel_rfl
theorem linesRoom_fact18 : (Rows.linesRoomSpec.vars.all (Try.pinned.checked.prog.varReadable ·)) = true := by kernel_rfl
theorem linesRoom_fact19 : (Try.f7.resultTypes.all (fun t => Try.pinned.checked.prog.readableRec t && decide (t < Try.pinned.checked.prog.types.size))) = true := by kernel_rfl
theorem linesRoom_fact20 : ((Rows.linesRoomRow.ifacesOut == Try.f7.resultTypes.toList.any (Try.pinned.checked.prog.ifacesRec ·))) = true := by kernel_rfl
theorem linesRoom_fact21 : ((Rows.linesRoomRow.loopsOut == Try.f7.resultTypes.toList.any (Try.pinned.checked.prog.loopsFrom ·))) = true := by kernel_rfl
theorem linesRoom_fact22 : ((Rows.linesRoomRow.plainKeys == Try.pinned.checked.prog.plainKeys)) = true := Try.keysPlain
theorem linesRoom_fact23 : (Rows.linesRoomRow.shortTexts.isNone) = true := by kernel_rfl
theorem linesRoom_fact24 : (Try.pinned.checked.prog.stopsHeard) = true := Try.heard
theorem linesRoom_fact25 : (Try.pinned.checked.prog.mayEnter) = true := Try.entersMain
theorem linesRoom_fact26 : ((Rows.linesRoomRow.lifted == Try.pinned.checked.prog.liftsFinal)) = true := by rw [show Try.pinned.checked.prog = Try.prog from rfl, Try.lifted]; rfl
theorem linesRoom_fact27 : ((Try.pinned.checked.prog.make == some Rows.linesRoomRow.make)) = true := by rw [show Try.pinned.checked.prog = Try.prog from rfl, Try.make]; rfl
theorem linesRoom_fact28 : ((Rows.linesRoomRow.kinds == (if Rows.linesRoomRow.domain.isEmpty then [] else Try.f7.params.toList.map fun t => match Try.pinned.checked.prog.underlying t with | some (.int k) => some k | _ => none))) = true := by kernel_rfl
theorem linesRoom_fact29 : ((Rows.linesRoomRow.pinned == Rows.linesRoomRow.pinnedBy)) = true := by kernel_rfl
theorem linesRoom_fact30 : ((Rows.linesRoomRow.veiled == (Try.f7.params.toList ++ Rows.linesRoomSpec.plain.varTypes Try.pinned.checked.prog ++ Try.f7.resultTypes.toList).any (Try.pinned.checked.prog.veiledRec ·))) = true := by kernel_rfl
theorem linesRoom_fact31 : (Rows.linesRoomRow.veiledFits Try.pinned.checked.prog Try.f7.params.toList (Try.f7.params.toList ++ Rows.linesRoomSpec.plain.varTypes Try.pinned.checked.prog ++ Try.f7.resultTypes.toList)) = true := by kernel_rfl
theorem linesRoom_facts : joinedFacts Try.pinned.checked.prog 7 Try.f7 Rows.linesRoomSpec Rows.linesRoomRow = true := by
  unfold joinedFacts
  simp only [Bool.and_eq_true]
  exact ⟨⟨⟨⟨⟨⟨⟨⟨⟨⟨⟨⟨⟨⟨⟨⟨⟨⟨⟨⟨⟨⟨⟨⟨⟨⟨⟨⟨⟨⟨⟨linesRoom_fact0, linesRoom_fact1⟩, linesRoom_fact2⟩, linesRoom_fact3⟩, linesRoom_fact4⟩, linesRoom_fact5⟩, linesRoom_fact6⟩, linesRoom_fact7⟩, linesRoom_fact8⟩, linesRoom_fact9⟩, linesRoom_fact10⟩, linesRoom_fact11⟩, linesRoom_fact12⟩, linesRoom_fact13⟩, linesRoom_fact14⟩, linesRoom_fact15⟩, linesRoom_fact16⟩, linesRoom_fact17⟩, linesRoom_fact18⟩, linesRoom_fact19⟩, linesRoom_fact20⟩, linesRoom_fact21⟩, linesRoom_fact22⟩, linesRoom_fact23⟩, linesRoom_fact24⟩, linesRoom_fact25⟩, linesRoom_fact26⟩, linesRoom_fact27⟩, linesRoom_fact28⟩, linesRoom_fact29⟩, linesRoom_fact30⟩, linesRoom_fact31⟩
theorem linesRoom_instance : Try.f7.isInstance Try.pinned.checked.prog Rows.linesRoomRow.origin Rows.linesRoomRow.targs := of_decide_eq_true (by kernel_rfl)
theorem linesRoom_wrapper : Try.f7.isWrapper Try.pinned.checked.prog Rows.linesRoomRow.wrapper Rows.linesRoomRow.mainSum := by unfold Func.isWrapper; rw [if_neg (by decide +kernel)]; exact ⟨rfl, rfl⟩
theorem linesRoom_named : Try.pinned.checked.prog.funcNamed Rows.linesRoomRow.func = some 7 := by kernel_rfl
end Go.Proofs.Ytgggokajapoopaa
