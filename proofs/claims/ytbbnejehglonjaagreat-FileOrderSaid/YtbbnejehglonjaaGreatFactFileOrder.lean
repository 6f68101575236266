/- The closed facts of the row of FileOrder, one by one. -/
import Derived.Test.YtbbnejehglonjaaGreatRows
import Derived.ProofKit
import Derived.JoinedOf
namespace Go.Proofs.YtbbnejehglonjaaGreat.fileOrder
theorem c1 : (Rows.fileOrderRow.wf (OpenSpec.ofChange Rows.fileOrderSpec)) = true := by kernel_rfl
theorem c2 : (laidOutB Tryz.pinned.checked.prog) = true := by kernel_rfl
theorem c3 : (mapsRowed Tryz.pinned.checked.prog) = true := by kernel_rfl
theorem c4 : (Tryz.f8.params.all (Tryz.pinned.checked.prog.readableRec ·)) = true := by kernel_rfl
theorem c5 : (namedTie Tryz.pinned.checked.prog Rows.fileOrderRow.named Rows.fileOrderSpec.vars) = true := by kernel_rfl
theorem c6 : (Rows.fileOrderRow.stops == []) = true := by kernel_rfl
theorem c7 : (Tryz.pinned.checked.prog.stops == []) = true := by kernel_rfl
theorem c8 : (Rows.fileOrderRow.knobs == []) = true := by kernel_rfl
theorem c9 : (Tryz.pinned.checked.prog.stopKnobs == []) = true := by kernel_rfl
theorem c10 : (Rows.fileOrderRow.inPlace == Tryz.pinned.checked.prog.inPlace 8) = true := by kernel_rfl
theorem c11 : (Rows.fileOrderRow.unfollowed == Tryz.pinned.checked.prog.unfollowed 8) = true := by kernel_rfl
theorem c12 : (Rows.fileOrderRow.recurses == Tryz.pinned.checked.prog.recurses 8) = true := by kernel_rfl
theorem c13 : (Rows.fileOrderRow.named == Tryz.pinned.checked.prog.varsNamed 8) = true := by kernel_rfl
theorem c14 : (Rows.fileOrderRow.maps == (Tryz.f8.params.toList ++ Rows.fileOrderSpec.plain.varTypes Tryz.pinned.checked.prog).any (Tryz.pinned.checked.prog.mapsRec ·)) = true := by kernel_rfl
theorem c15 : (Rows.fileOrderRow.ifaces == (Tryz.f8.params.toList ++ Rows.fileOrderSpec.plain.varTypes Tryz.pinned.checked.prog).any (Tryz.pinned.checked.prog.ifacesRec ·)) = true := by kernel_rfl
theorem c16 : (Rows.fileOrderRow.mapsOut == Tryz.pinned.checked.prog.mapsAmong Tryz.f8.resultTypes.toList) = true := by kernel_rfl
theorem c17 : (Rows.fileOrderRow.loops == (Tryz.f8.params.toList ++ Rows.fileOrderSpec.plain.varTypes Tryz.pinned.checked.prog).any (Tryz.pinned.checked.prog.loopsFrom ·)) = true := by kernel_rfl
theorem c18 : (Rows.fileOrderRow.wideKeys == (Tryz.f8.params.toList ++ Rows.fileOrderSpec.plain.varTypes Tryz.pinned.checked.prog ++ Tryz.f8.resultTypes.toList).any (Tryz.pinned.checked.prog.wideKeysFrom ·)) = true := by kernel_rfl
theorem c19 : (Rows.fileOrderSpec.vars.all (Tryz.pinned.checked.prog.varReadable ·)) = true := by kernel_rfl
theorem c20 : (Tryz.f8.resultTypes.all (fun t => Tryz.pinned.checked.prog.readableRec t && decide (t < Tryz.pinned.checked.prog.types.size))) = true := by kernel_rfl
theorem c21 : (Rows.fileOrderRow.ifacesOut == Tryz.f8.resultTypes.toList.any (Tryz.pinned.checked.prog.ifacesRec ·)) = true := by kernel_rfl
theorem c22 : (Rows.fileOrderRow.loopsOut == Tryz.f8.resultTypes.toList.any (Tryz.pinned.checked.prog.loopsFrom ·)) = true := by kernel_rfl
theorem c23 : (Rows.fileOrderRow.plainKeys == Tryz.pinned.checked.prog.plainKeys) = true := by kernel_rfl
theorem c24 : (Rows.fileOrderRow.shortTexts.isNone) = true := by kernel_rfl
theorem c25 : (Tryz.pinned.checked.prog.stopsHeard) = true := by kernel_rfl
theorem c26 : (Tryz.pinned.checked.prog.mayEnter) = true := by kernel_rfl
theorem c27 : (Rows.fileOrderRow.lifted == Tryz.pinned.checked.prog.liftsFinal) = true := by kernel_rfl
theorem c28 : (Tryz.pinned.checked.prog.make == some Rows.fileOrderRow.make) = true := by kernel_rfl
theorem c29 : (Rows.fileOrderRow.kinds == (if Rows.fileOrderRow.domain.isEmpty then [] else Tryz.f8.params.toList.map fun t => match Tryz.pinned.checked.prog.underlying t with | some (.int k) => some k | _ => none)) = true := by kernel_rfl
theorem c30 : (Rows.fileOrderRow.pinned == Rows.fileOrderRow.pinnedBy) = true := by kernel_rfl
theorem c31 : (Rows.fileOrderRow.veiled == (Tryz.f8.params.toList ++ Rows.fileOrderSpec.plain.varTypes Tryz.pinned.checked.prog ++ Tryz.f8.resultTypes.toList).any (Tryz.pinned.checked.prog.veiledRec ·)) = true := by kernel_rfl
theorem c32 : (Rows.fileOrderRow.veiledFits Tryz.pinned.checked.prog Tryz.f8.params.toList (Tryz.f8.params.toList ++ Rows.fileOrderSpec.plain.varTypes Tryz.pinned.checked.prog ++ Tryz.f8.resultTypes.toList)) = true := by kernel_rfl
theorem named_ : Tryz.pinned.checked.prog.funcNamed Rows.fileOrderRow.func = some 8 := by kernel_rfl
theorem inst : Tryz.f8.isInstance Tryz.pinned.checked.prog Rows.fileOrderRow.origin Rows.fileOrderRow.targs := of_decide_eq_true (by kernel_rfl)
theorem wrap : Tryz.f8.isWrapper Tryz.pinned.checked.prog Rows.fileOrderRow.wrapper Rows.fileOrderRow.mainSum := by unfold Func.isWrapper; first | (rw [if_pos (by decide +kernel)]; kernel_rfl) | (rw [if_neg (by decide +kernel)]; exact ⟨rfl, rfl⟩)
end Go.Proofs.YtbbnejehglonjaaGreat.fileOrder
