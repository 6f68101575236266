/- The closed facts of the row of FileForms, one by one. -/
import Derived.Test.YtbbnejehglonjaaGreatRows
import Derived.ProofKit
import Derived.JoinedOf
namespace Go.Proofs.YtbbnejehglonjaaGreat.fileForms
theorem c1 : (Rows.fileFormsRow.wf (OpenSpec.ofChange Rows.fileFormsSpec)) = true := by kernel_rfl
theorem c2 : (laidOutB Tryz.pinned.checked.prog) = true := by kernel_rfl
theorem c3 : (mapsRowed Tryz.pinned.checked.prog) = true := by kernel_rfl
theorem c4 : (Tryz.f6.params.all (Tryz.pinned.checked.prog.readableRec ·)) = true := by kernel_rfl
theorem c5 : (namedTie Tryz.pinned.checked.prog Rows.fileFormsRow.named Rows.fileFormsSpec.vars) = true := by kernel_rfl
theorem c6 : (Rows.fileFormsRow.stops == []) = true := by kernel_rfl
theorem c7 : (Tryz.pinned.checked.prog.stops == []) = true := by kernel_rfl
theorem c8 : (Rows.fileFormsRow.knobs == []) = true := by kernel_rfl
theorem c9 : (Tryz.pinned.checked.prog.stopKnobs == []) = true := by kernel_rfl
theorem c10 : (Rows.fileFormsRow.inPlace == Tryz.pinned.checked.prog.inPlace 6) = true := by kernel_rfl
theorem c11 : (Rows.fileFormsRow.unfollowed == Tryz.pinned.checked.prog.unfollowed 6) = true := by kernel_rfl
theorem c12 : (Rows.fileFormsRow.recurses == Tryz.pinned.checked.prog.recurses 6) = true := by kernel_rfl
theorem c13 : (Rows.fileFormsRow.named == Tryz.pinned.checked.prog.varsNamed 6) = true := by kernel_rfl
theorem c14 : (Rows.fileFormsRow.maps == (Tryz.f6.params.toList ++ Rows.fileFormsSpec.plain.varTypes Tryz.pinned.checked.prog).any (Tryz.pinned.checked.prog.mapsRec ·)) = true := by kernel_rfl
theorem c15 : (Rows.fileFormsRow.ifaces == (Tryz.f6.params.toList ++ Rows.fileFormsSpec.plain.varTypes Tryz.pinned.checked.prog).any (Tryz.pinned.checked.prog.ifacesRec ·)) = true := by kernel_rfl
theorem c16 : (Rows.fileFormsRow.mapsOut == Tryz.pinned.checked.prog.mapsAmong Tryz.f6.resultTypes.toList) = true := by kernel_rfl
theorem c17 : (Rows.fileFormsRow.loops == (Tryz.f6.params.toList ++ Rows.fileFormsSpec.plain.varTypes Tryz.pinned.checked.prog).any (Tryz.pinned.checked.prog.loopsFrom ·)) = true := by kernel_rfl
theorem c18 : (Rows.fileFormsRow.wideKeys == (Tryz.f6.params.toList ++ Rows.fileFormsSpec.plain.varTypes Tryz.pinned.checked.prog ++ Tryz.f6.resultTypes.toList).any (Tryz.pinned.checked.prog.wideKeysFrom ·)) = true := by kernel_rfl
theorem c19 : (Rows.fileFormsSpec.vars.all (Tryz.pinned.checked.prog.varReadable ·)) = true := by kernel_rfl
theorem c20 : (Tryz.f6.resultTypes.all (fun t => Tryz.pinned.checked.prog.readableRec t && decide (t < Tryz.pinned.checked.prog.types.size))) = true := by kernel_rfl
theorem c21 : (Rows.fileFormsRow.ifacesOut == Tryz.f6.resultTypes.toList.any (Tryz.pinned.checked.prog.ifacesRec ·)) = true := by kernel_rfl
theorem c22 : (Rows.fileFormsRow.loopsOut == Tryz.f6.resultTypes.toList.any (Tryz.pinned.checked.prog.loopsFrom ·)) = true := by kernel_rfl
theorem c23 : (Rows.fileFormsRow.plainKeys == Tryz.pinned.checked.prog.plainKeys) = true := by kernel_rfl
theorem c24 : (Rows.fileFormsRow.shortTexts.isNone) = true := by kernel_rfl
theorem c25 : (Tryz.pinned.checked.prog.stopsHeard) = true := by kernel_rfl
theorem c26 : (Tryz.pinned.checked.prog.mayEnter) = true := by kernel_rfl
theorem c27 : (Rows.fileFormsRow.lifted == Tryz.pinned.checked.prog.liftsFinal) = true := by kernel_rfl
theorem c28 : (Tryz.pinned.checked.prog.make == some Rows.fileFormsRow.make) = true := by kernel_rfl
theorem c29 : (Rows.fileFormsRow.kinds == (if Rows.fileFormsRow.domain.isEmpty then [] else Tryz.f6.params.toList.map fun t => match Tryz.pinned.checked.prog.underlying t with | some (.int k) => some k | _ => none)) = true := by kernel_rfl
theorem c30 : (Rows.fileFormsRow.pinned == Rows.fileFormsRow.pinnedBy) = true := by kernel_rfl
theorem c31 : (Rows.fileFormsRow.veiled == (Tryz.f6.params.toList ++ Rows.fileFormsSpec.plain.varTypes Tryz.pinned.checked.prog ++ Tryz.f6.resultTypes.toList).any (Tryz.pinned.checked.prog.veiledRec ·)) = true := by kernel_rfl
theorem c32 : (Rows.fileFormsRow.veiledFits Tryz.pinned.checked.prog Tryz.f6.params.toList (Tryz.f6.params.toList ++ Rows.fileFormsSpec.plain.varTypes Tryz.pinned.checked.prog ++ Tryz.f6.resultTypes.toList)) = true := by kernel_rfl
theorem named_ : Tryz.pinned.checked.prog.funcNamed Rows.fileFormsRow.func = some 6 := by kernel_rfl
theorem inst : Tryz.f6.isInstance Tryz.pinned.checked.prog Rows.fileFormsRow.origin Rows.fileFormsRow.targs := of_decide_eq_true (by kernel_rfl)
theorem wrap : Tryz.f6.isWrapper Tryz.pinned.checked.prog Rows.fileFormsRow.wrapper Rows.fileFormsRow.mainSum := by unfold Func.isWrapper; first | (rw [if_pos (by decide +kernel)]; kernel_rfl) | (rw [if_neg (by decide +kernel)]; exact ⟨rfl, rfl⟩)
end Go.Proofs.YtbbnejehglonjaaGreat.fileForms
