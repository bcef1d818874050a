/- The closed facts of the row HomeApart. -/
import Derived.Test.YtgggokajapoopaaOrd
namespace Go.Proofs.Ytgggokajapoopaa
open Go.ChangeShapes Go.WideShapes Go.ChangeAt Go.RowKit
set_option maxRecDepth 100000
theorem homeApart_fact0 : (Rows.homeApartRow.wf (OpenSpec.ofChange Rows.homeApartSpec)) = true := by kernel_rfl
theorem homeApart_fact1 : (laidOutB Try.pinned.checked.prog) = true := Try.laidOut
theorem homeApart_fact2 : (mapsRowed Try.pinned.checked.prog) = true := Try.rowed
theorem homeApart_fact3 : (Try.f12.params.all (Try.pinned.checked.prog.readableRec ·)) = true := by kernel_rfl
theorem homeApart_fact4 : (namedTie Try.pinned.checked.prog Rows.homeApartRow.named Rows.homeApartSpec.vars) = true := by kernel_rfl
theorem homeApart_fact5 : ((Rows.homeApartRow.stops == [])) = true := by kernel_rfl
theorem homeApart_fact6 : ((Try.pinned.checked.prog.stops == [])) = true := Try.noStops
theorem homeApart_fact7 : ((Rows.homeApartRow.knobs == [])) = true := by kernel_rfl
theorem homeApart_fact8 : ((Try.pinned.checked.prog.stopKnobs == [])) = true := Try.noKnobs
theorem homeApart_fact9 : ((Rows.homeApartRow.inPlace == Try.pinned.checked.prog.inPlace 12)) = true := by kernel_rfl
theorem homeApart_fact10 : ((Rows.homeApartRow.unfollowed == Try.pinned.checked.prog.unfollowed 12)) = true := by kernel_rfl
theorem homeApart_fact11 : ((Rows.homeApartRow.recurses == Try.pinned.checked.prog.recurses 12)) = true := by kernel_rfl
theorem homeApart_fact12 : ((Rows.homeApartRow.named == Try.pinned.checked.prog.varsNamed 12)) = true := by kernel_rfl
theorem homeApart_fact13 : ((Rows.homeApartRow.maps == (Try.f12.params.toList ++ Rows.homeApartSpec.plain.varTypes Try.pinned.checked.prog).any (Try.pinned.checked.prog.mapsRec ·))) = true := by kernel_rfl
theorem homeApart_fact14 : ((Rows.homeApartRow.ifaces == (Try.f12.params.toList ++ Rows.homeApartSpec.plain.varTypes Try.pinned.checked.prog).any (Try.pinned.checked.prog.ifacesRec ·))) = true := by kernel_rfl
theorem homeApart_fact15 : ((Rows.homeApartRow.mapsOut == Try.pinned.checked.prog.mapsAmong Try.f12.resultTypes.toList)) = true := by kernel_rfl
theorem homeApart_fact16 : ((Rows.homeApartRow.loops == (Try.f12.params.toList ++ Rows.homeApartSpec.plain.varTypes Try.pinned.checked.prog).any (Try.pinned.checked.prog.loopsFrom ·))) = true := by kernel_rfl
theorem homeApart_fact17 : ((Rows.homeApartRow.wideKeys == (Try.f12.params.toList ++ Rows.homeApartSpec.plain.varTypes Try.pinned.checked.prog ++ Try.f12.resultTypes.toList).any (Try.pinned.checked.prog.wideKeysFrom ·))) = true := by kernel_rfl
theorem homeApart_fact18 : (Rows.homeApartSpec.vars.all (Try.pinned.checked.prog.varReadable ·)) = true := by kernel_rfl
theorem homeApart_fact19 : (Try.f12.resultTypes.all (fun t => Try.pinned.checked.prog.readableRec t && decide (t < Try.pinned.checked.prog.types.size))) = true := by kernel_rfl
theorem homeApart_fact20 : ((Rows.homeApartRow.ifacesOut == Try.f12.resultTypes.toList.any (Try.pinned.checked.prog.ifacesRec ·))) = true := by kernel_rfl
theorem homeApart_fact21 : ((Rows.homeApartRow.loopsOut == Try.f12.resultTypes.toList.any (Try.pinned.checked.prog.loopsFrom ·))) = true := by kernel_rfl
theorem homeApart_fact22 : ((Rows.homeApartRow.plainKeys == Try.pinned.checked.prog.plainKeys)) = true := Try.keysPlain
theorem homeApart_fact23 : (Rows.homeApartRow.shortTexts.isNone) = true := by kernel_rfl
theorem homeApart_fact24 : (Try.pinned.checked.prog.stopsHeard) = true := Try.heard
theorem homeApart_fact25 : (Try.pinned.checked.prog.mayEnter) = true := Try.entersMain
theorem homeApart_fact26 : ((Rows.homeApartRow.lifted == Try.pinned.checked.prog.liftsFinal)) = true := by rw [show Try.pinned.checked.prog = Try.prog from rfl, Try.lifted]; rfl
theorem homeApart_fact27 : ((Try.pinned.checked.prog.make == some Rows.homeApartRow.make)) = true := by rw [show Try.pinned.checked.prog = Try.prog from rfl, Try.make]; rfl
theorem homeApart_fact28 : ((Rows.homeApartRow.kinds == (if Rows.homeApartRow.domain.isEmpty then [] else Try.f12.params.toList.map fun t => match Try.pinned.checked.prog.underlying t with | some (.int k) => some k | _ => none))) = true := by kernel_rfl
theorem homeApart_fact29 : ((Rows.homeApartRow.pinned == Rows.homeApartRow.pinnedBy)) = true := by kernel_rfl
theorem homeApart_fact30 : ((Rows.homeApartRow.veiled == (Try.f12.params.toList ++ Rows.homeApartSpec.plain.varTypes Try.pinned.checked.prog ++ Try.f12.resultTypes.toList).any (Try.pinned.checked.prog.veiledRec ·))) = true := by kernel_rfl
theorem homeApart_fact31 : (Rows.homeApartRow.veiledFits Try.pinned.checked.prog Try.f12.params.toList (Try.f12.params.toList ++ Rows.homeApartSpec.plain.varTypes Try.pinned.checked.prog ++ Try.f12.resultTypes.toList)) = true := by kernel_rfl
theorem homeApart_facts : joinedFacts Try.pinned.checked.prog 12 Try.f12 Rows.homeApartSpec Rows.homeApartRow = true := by
  unfold joinedFacts
  simp only [Bool.and_eq_true]
  exact ⟨⟨⟨⟨⟨⟨⟨⟨⟨⟨⟨⟨⟨⟨⟨⟨⟨⟨⟨⟨⟨⟨⟨⟨⟨⟨⟨⟨⟨⟨⟨homeApart_fact0, homeApart_fact1⟩, homeApart_fact2⟩, homeApart_fact3⟩, homeApart_fact4⟩, homeApart_fact5⟩, homeApart_fact6⟩, homeApart_fact7⟩, homeApart_fact8⟩, homeApart_fact9⟩, homeApart_fact10⟩, homeApart_fact11⟩, homeApart_fact12⟩, homeApart_fact13⟩, homeApart_fact14⟩, homeApart_fact15⟩, homeApart_fact16⟩, homeApart_fact17⟩, homeApart_fact18⟩, homeApart_fact19⟩, homeApart_fact20⟩, homeApart_fact21⟩, homeApart_fact22⟩, homeApart_fact23⟩, homeApart_fact24⟩, homeApart_fact25⟩, homeApart_fact26⟩, homeApart_fact27⟩, homeApart_fact28⟩, homeApart_fact29⟩, homeApart_fact30⟩, homeApart_fact31⟩
theorem homeApart_instance : Try.f12.isInstance Try.pinned.checked.prog Rows.homeApartRow.origin Rows.homeApartRow.targs := of_decide_eq_true (by kernel_rfl)
theorem homeApart_wrapper : Try.f12.isWrapper Try.pinned.checked.prog Rows.homeApartRow.wrapper Rows.homeApartRow.mainSum := by unfold Func.isWrapper; rw [if_neg (by decide +kernel)]; exact ⟨rfl, rfl⟩
theorem homeApart_named : Try.pinned.checked.prog.funcNamed Rows.homeApartRow.func = some 12 := by kernel_rfl
end Go.Proofs.Ytgggokajapoopaa
