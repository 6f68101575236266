/- The closed facts of the row of FileHoles, one by one. -/
import Derived.Test.YtbbnejehglonjaaGreatRows
import Derived.ProofKit
import Derived.JoinedOf
namespace Go.Proofs.YtbbnejehglonjaaGreat.fileHoles
theorem c1 : (Rows.fileHolesRow.wf (OpenSpec.ofChange Rows.fileHolesSpec)) = true := by kernel_rfl
theorem c2 : (laidOutB Tryz.pinned.checked.prog) = true := by kernel_rfl
theorem c3 : (mapsRowed Tryz.pinned.checked.prog) = true := by kernel_rfl
theorem c4 : (Tryz.f7.params.all (Tryz.pinned.checked.prog.readableRec ·)) = true := by kernel_rfl
theorem c5 : (namedTie Tryz.pinned.checked.prog Rows.fileHolesRow.named Rows.fileHolesSpec.vars) = true := by kernel_rfl
theorem c6 : (Rows.fileHolesRow.stops == []) = true := by kernel_rfl
theorem c7 : (Tryz.pinned.checked.prog.stops == []) = true := by kernel_rfl
theorem c8 : (Rows.fileHolesRow.knobs == []) = true := by kernel_rfl
theorem c9 : (Tryz.pinned.checked.prog.stopKnobs == []) = true := by kernel_rfl
theorem c10 : (Rows.fileHolesRow.inPlace == Tryz.pinned.checked.prog.inPlace 7) = true := by kernel_rfl
theorem c11 : (Rows.fileHolesRow.unfollowed == Tryz.pinned.checked.prog.unfollowed 7) = true := by kernel_rfl
theorem c12 : (Rows.fileHolesRow.recurses == Tryz.pinned.checked.prog.recurses 7) = true := by kernel_rfl
theorem c13 : (Rows.fileHolesRow.named == Tryz.pinned.checked.prog.varsNamed 7) = true := by kernel_rfl
theorem c14 : (Rows.fileHolesRow.maps == (Tryz.f7.params.toList ++ Rows.fileHolesSpec.plain.varTypes Tryz.pinned.checked.prog).any (Tryz.pinned.checked.prog.mapsRec ·)) = true := by kernel_rfl
theorem c15 : (Rows.fileHolesRow.ifaces == (Tryz.f7.params.toList ++ Rows.fileHolesSpec.plain.varTypes Tryz.pinned.checked.prog).any (Tryz.pinned.checked.prog.ifacesRec ·)) = true := by kernel_rfl
theorem c16 : (Rows.fileHolesRow.mapsOut == Tryz.pinned.checked.prog.mapsAmong Tryz.f7.resultTypes.toList) = true := by kernel_rfl
theorem c17 : (Rows.fileHolesRow.loops == (Tryz.f7.params.toList ++ Rows.fileHolesSpec.plain.varTypes Tryz.pinned.checked.prog).any (Tryz.pinned.checked.prog.loopsFrom ·)) = true := by kernel_rfl
theorem c18 : (Rows.fileHolesRow.wideKeys == (Tryz.f7.params.toList ++ Rows.fileHolesSpec.plain.varTypes Tryz.pinned.checked.prog ++ Tryz.f7.resultTypes.toList).any (Tryz.pinned.checked.prog.wideKeysFrom ·)) = true := by kernel_rfl
theorem c19 : (Rows.fileHolesSpec.vars.all (Tryz.pinned.checked.prog.varReadable ·)) = true := by kernel_rfl
theorem c20 : (Tryz.f7.resultTypes.all (fun t => Tryz.pinned.checked.prog.readableRec t && decide (t < Tryz.pinned.checked.prog.types.size))) = true := by kernel_rfl
theorem c21 : (Rows.fileHolesRow.ifacesOut == Tryz.f7.resultTypes.toList.any (Tryz.pinned.checked.prog.ifacesRec ·)) = true := by kernel_rfl
theorem c22 : (Rows.fileHolesRow.loopsOut == Tryz.f7.resultTypes.toList.any (Tryz.pinned.checked.prog.loopsFrom ·)) = true := by kernel_rfl
theorem c23 : (Rows.fileHolesRow.plainKeys == Tryz.pinned.checked.prog.plainKeys) = true := by kernel_rfl
theorem c24 : (Rows.fileHolesRow.shortTexts.isNone) = true := by kernel_rfl
theorem c25 : (Tryz.pinned.checked.prog.stopsHeard) = true := by kernel_rfl
theorem c26 : (Tryz.pinned.checked.prog.mayEnter) = true := by kernel_rfl
theorem c27 : (Rows.fileHolesRow.lifted == Tryz.pinned.checked.prog.liftsFinal) = true := by kernel_rfl
theorem c28 : (Tryz.pinned.checked.prog.make == some Rows.fileHolesRow.make) = true := by kernel_rfl
theorem c29 : (Rows.fileHolesRow.kinds == (if Rows.fileHolesRow.domain.isEmpty then [] else Tryz.f7.params.toList.map fun t => match Tryz.pinned.checked.prog.underlying t with | some (.int k) => some k | _ => none)) = true := by kernel_rfl
theorem c30 : (Rows.fileHolesRow.pinned == Rows.fileHolesRow.pinnedBy) = true := by kernel_rfl
theorem c31 : (Rows.fileHolesRow.veiled == (Tryz.f7.params.toList ++ Rows.fileHolesSpec.plain.varTypes Tryz.pinned.checked.prog ++ Tryz.f7.resultTypes.toList).any (Tryz.pinned.checked.prog.veiledRec ·)) = true := by kernel_rfl
theorem c32 : (Rows.fileHolesRow.veiledFits Tryz.pinned.checked.prog Tryz.f7.params.toList (Tryz.f7.params.toList ++ Rows.fileHolesSpec.plain.varTypes Tryz.pinned.checked.prog ++ Tryz.f7.resultTypes.toList)) = true := by kernel_rfl
theorem named_ : Tryz.pinned.checked.prog.funcNamed Rows.fileHolesRow.func = some 7 := by kernel_rfl
theorem inst : Tryz.f7.isInstance Tryz.pinned.checked.prog Rows.fileHolesRow.origin Rows.fileHolesRow.targs := of_decide_eq_true (by kernel_rfl)
theorem wrap : Tryz.f7.isWrapper Tryz.pinned.checked.prog Rows.fileHolesRow.wrapper Rows.fileHolesRow.mainSum := by unfold Func.isWrapper; first | (rw [if_pos (by decide +kernel)]; kernel_rfl) | (rw [if_neg (by decide +kernel)]; exact ⟨rfl, rfl⟩)
end Go.Proofs.YtbbnejehglonjaaGreat.fileHoles
