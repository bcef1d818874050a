/- The closed facts of the row LinesDrops. -/
import Derived.Test.YtgggokajapoopaaOrd
namespace Go.Proofs.Ytgggokajapoopaa
open Go.ChangeShapes Go.WideShapes Go.ChangeAt Go.RowKit
set_option maxRecDepth 100000
theorem linesDrops_fact0 : (Rows.linesDropsRow.wf (OpenSpec.ofChange Rows.linesDropsSpec)) = true := by kernel_rfl
theorem linesDrops_fact1 : (laidOutB Try.pinned.checked.prog) = true := Try.laidOut
theorem linesDrops_fact2 : (mapsRowed Try.pinned.checked.prog) = true := Try.rowed
theorem linesDrops_fact3 : (Try.f6.params.all (Try.pinned.checked.prog.readableRec ·)) = true := by kernel_rfl
theorem linesDrops_fact4 : (namedTie Try.pinned.checked.prog Rows.linesDropsRow.named Rows.linesDropsSpec.vars) = true := by kernel_rfl
theorem linesDrops_fact5 : ((Rows.linesDropsRow.stops == [])) = true := by kernel_rfl
theorem linesDrops_fact6 : ((Try.pinned.checked.prog.stops == [])) = true := Try.noStops
theorem linesDrops_fact7 : ((Rows.linesDropsRow.knobs == [])) = true := by kernel_rfl
theorem linesDrops_fact8 : ((Try.pinned.checked.prog.stopKnobs == [])) = true := Try.noKnobs
theorem linesDrops_fact9 : ((Rows.linesDropsRow.inPlace == Try.pinned.checked.prog.inPlace 6)) = true := by kernel_rfl
theorem linesDrops_fact10 : ((Rows.linesDropsRow.unfollowed == Try.pinned.checked.prog.unfollowed 6)) = true := by kernel_rfl
theorem linesDrops_fact11 : ((Rows.linesDropsRow.recurses == Try.pinned.checked.prog.recurses 6)) = true := by kernel_rfl
theorem linesDrops_fact12 : ((Rows.linesDropsRow.named == Try.pinned.checked.prog.varsNamed 6)) = true := by kernel_rfl
theorem linesDrops_fact13 : ((Rows.linesDropsRow.maps == (Try.f6.params.toList ++ Rows.linesDropsSpec.plain.varTypes Try.pinned.checked.prog).any (Try.pinned.checked.prog.mapsRec ·))) = true := by kernel_rfl
theorem linesDrops_fact14 : ((Rows.linesDropsRow.ifaces == (Try.f6.params.toList ++ Rows.linesDropsSpec.plain.varTypes Try.pinned.checked.prog).any (Try.pinned.checked.prog.ifacesRec ·))) = true := by kernel_rfl
theorem linesDrops_fact15 : ((Rows.linesDropsRow.mapsOut == Try.pinned.checked.prog.mapsAmong Try.f6.resultTypes.toList)) = true := by kernel_rfl
theorem linesDrops_fact16 : ((Rows.linesDropsRow.loops == (Try.f6.params.toList ++ Rows.linesDropsSpec.plain.varTypes Try.pinned.checked.prog).any (Try.pinned.checked.prog.loopsFrom ·))) = true := by kernel_rfl
theorem linesDrops_fact17 : ((Rows.linesDropsRow.wideKeys == (Try.f6.params.toList ++ Rows.linesDropsSpec.plain.varTypes Try.pinned.checked.prog ++ Try.f6.resultTypes.toList).any (Try.pinned.checked.prog.wideKeysFrom ·))) = true := by kernel_rfl
theorem linesDrops_fact18 : (Rows.linesDropsSpec.vars.all (Try.pinned.checked.prog.varReadable ·)) = true := by kernel_rfl
theorem linesDrops_fact19 : (Try.f6.resultTypes.all (fun t => Try.pinned.checked.prog.readableRec t && decide (t < Try.pinned.checked.prog.types.size))) = true := by kernel_rfl
theorem linesDrops_fact20 : ((Rows.linesDropsRow.ifacesOut == Try.f6.resultTypes.toList.any (Try.pinned.checked.prog.ifacesRec ·))) = true := by kernel_rfl
theorem linesDrops_fact21 : ((Rows.linesDropsRow.loopsOut == Try.f6.resultTypes.toList.any (Try.pinned.checked.prog.loopsFrom ·))) = true := by kernel_rfl
theorem linesDrops_fact22 : ((Rows.linesDropsRow.plainKeys == Try.pinned.checked.prog.plainKeys)) = true := Try.keysPlain
theorem linesDrops_fact23 : (Rows.linesDropsRow.shortTexts.isNone) = true := by kernel_rfl
theorem linesDrops_fact24 : (Try.pinned.checked.prog.stopsHeard) = true := Try.heard
theorem linesDrops_fact25 : (Try.pinned.checked.prog.mayEnter) = true := Try.entersMain
theorem linesDrops_fact26 : ((Rows.linesDropsRow.lifted == Try.pinned.checked.prog.liftsFinal)) = true := by rw [show Try.pinned.checked.prog = Try.prog from rfl, Try.lifted]; rfl
theorem linesDrops_fact27 : ((Try.pinned.checked.prog.make == some Rows.linesDropsRow.make)) = true := by rw [show Try.pinned.checked.prog = Try.prog from rfl, Try.make]; rfl
theorem linesDrops_fact28 : ((Rows.linesDropsRow.kinds == (if Rows.linesDropsRow.domain.isEmpty then [] else Try.f6.params.toList.map fun t => match Try.pinned.checked.prog.underlying t with | some (.int k) => some k | _ => none))) = true := by kernel_rfl
theorem linesDrops_fact29 : ((Rows.linesDropsRow.pinned == Rows.linesDropsRow.pinnedBy)) = true := by kernel_rfl
theorem linesDrops_fact30 : ((Rows.linesDropsRow.veiled == (Try.f6.params.toList ++ Rows.linesDropsSpec.plain.varTypes Try.pinned.checked.prog ++ Try.f6.resultTypes.toList).any (Try.pinned.checked.prog.veiledRec ·))) = true := by kernel_rfl
theorem linesDrops_fact31 : (Rows.linesDropsRow.veiledFits Try.pinned.checked.prog Try.f6.params.toList (Try.f6.params.toList ++ Rows.linesDropsSpec.plain.varTypes Try.pinned.checked.prog ++ Try.f6.resultTypes.toList)) = true := by kernel_rfl
theorem linesDrops_facts : joinedFacts Try.pinned.checked.prog 6 Try.f6 Rows.linesDropsSpec Rows.linesDropsRow = true := by
  unfold joinedFacts
  simp only [Bool.and_eq_true]
  exact ⟨⟨⟨⟨⟨⟨⟨⟨⟨⟨⟨⟨⟨⟨⟨⟨⟨⟨⟨⟨⟨⟨⟨⟨⟨⟨⟨⟨⟨⟨⟨linesDrops_fact0, linesDrops_fact1⟩, linesDrops_fact2⟩, linesDrops_fact3⟩, linesDrops_fact4⟩, linesDrops_fact5⟩, linesDrops_fact6⟩, linesDrops_fact7⟩, linesDrops_fact8⟩, linesDrops_fact9⟩, linesDrops_fact10⟩, linesDrops_fact11⟩, linesDrops_fact12⟩, linesDrops_fact13⟩, linesDrops_fact14⟩, linesDrops_fact15⟩, linesDrops_fact16⟩, linesDrops_fact17⟩, linesDrops_fact18⟩, linesDrops_fact19⟩, linesDrops_fact20⟩, linesDrops_fact21⟩, linesDrops_fact22⟩, linesDrops_fact23⟩, linesDrops_fact24⟩, linesDrops_fact25⟩, linesDrops_fact26⟩, linesDrops_fact27⟩, linesDrops_fact28⟩, linesDrops_fact29⟩, linesDrops_fact30⟩, linesDrops_fact31⟩
theorem linesDrops_instance : Try.f6.isInstance Try.pinned.checked.prog Rows.linesDropsRow.origin Rows.linesDropsRow.targs := of_decide_eq_true (by kernel_rfl)
theorem linesDrops_wrapper : Try.f6.isWrapper Try.pinned.checked.prog Rows.linesDropsRow.wrapper Rows.linesDropsRow.mainSum := by unfold Func.isWrapper; rw [if_neg (by decide +kernel)]; exact ⟨rfl, rfl⟩
theorem linesDrops_named : Try.pinned.checked.prog.funcNamed Rows.linesDropsRow.func = some 6 := by kernel_rfl
end Go.Proofs.Ytgggokajapoopaa
