/- The closed facts of the row of ShardLists, one by one. -/
import Derived.Test.YtbbnejehglonjaaGreatRows
import Derived.ProofKit
import Derived.JoinedOf
namespace Go.Proofs.YtbbnejehglonjaaGreat.shardLists
theorem c1 : (Rows.shardListsRow.wf (OpenSpec.ofChange Rows.shardListsSpec)) = true := by kernel_rfl
theorem c2 : (laidOutB Tryz.pinned.checked.prog) = true := by kernel_rfl
theorem c3 : (mapsRowed Tryz.pinned.checked.prog) = true := by kernel_rfl
theorem c4 : (Tryz.f13.params.all (Tryz.pinned.checked.prog.readableRec ·)) = true := by kernel_rfl
theorem c5 : (namedTie Tryz.pinned.checked.prog Rows.shardListsRow.named Rows.shardListsSpec.vars) = true := by kernel_rfl
theorem c6 : (Rows.shardListsRow.stops == []) = true := by kernel_rfl
theorem c7 : (Tryz.pinned.checked.prog.stops == []) = true := by kernel_rfl
theorem c8 : (Rows.shardListsRow.knobs == []) = true := by kernel_rfl
theorem c9 : (Tryz.pinned.checked.prog.stopKnobs == []) = true := by kernel_rfl
theorem c10 : (Rows.shardListsRow.inPlace == Tryz.pinned.checked.prog.inPlace 13) = true := by kernel_rfl
theorem c11 : (Rows.shardListsRow.unfollowed == Tryz.pinned.checked.prog.unfollowed 13) = true := by kernel_rfl
theorem c12 : (Rows.shardListsRow.recurses == Tryz.pinned.checked.prog.recurses 13) = true := by kernel_rfl
theorem c13 : (Rows.shardListsRow.named == Tryz.pinned.checked.prog.varsNamed 13) = true := by kernel_rfl
theorem c14 : (Rows.shardListsRow.maps == (Tryz.f13.params.toList ++ Rows.shardListsSpec.plain.varTypes Tryz.pinned.checked.prog).any (Tryz.pinned.checked.prog.mapsRec ·)) = true := by kernel_rfl
theorem c15 : (Rows.shardListsRow.ifaces == (Tryz.f13.params.toList ++ Rows.shardListsSpec.plain.varTypes Tryz.pinned.checked.prog).any (Tryz.pinned.checked.prog.ifacesRec ·)) = true := by kernel_rfl
theorem c16 : (Rows.shardListsRow.mapsOut == Tryz.pinned.checked.prog.mapsAmong Tryz.f13.resultTypes.toList) = true := by kernel_rfl
theorem c17 : (Rows.shardListsRow.loops == (Tryz.f13.params.toList ++ Rows.shardListsSpec.plain.varTypes Tryz.pinned.checked.prog).any (Tryz.pinned.checked.prog.loopsFrom ·)) = true := by kernel_rfl
theorem c18 : (Rows.shardListsRow.wideKeys == (Tryz.f13.params.toList ++ Rows.shardListsSpec.plain.varTypes Tryz.pinned.checked.prog ++ Tryz.f13.resultTypes.toList).any (Tryz.pinned.checked.prog.wideKeysFrom ·)) = true := by kernel_rfl
theorem c19 : (Rows.shardListsSpec.vars.all (Tryz.pinned.checked.prog.varReadable ·)) = true := by kernel_rfl
theorem c20 : (Tryz.f13.resultTypes.all (fun t => Tryz.pinned.checked.prog.readableRec t && decide (t < Tryz.pinned.checked.prog.types.size))) = true := by kernel_rfl
theorem c21 : (Rows.shardListsRow.ifacesOut == Tryz.f13.resultTypes.toList.any (Tryz.pinned.checked.prog.ifacesRec ·)) = true := by kernel_rfl
theorem c22 : (Rows.shardListsRow.loopsOut == Tryz.f13.resultTypes.toList.any (Tryz.pinned.checked.prog.loopsFrom ·)) = true := by kernel_rfl
theorem c23 : (Rows.shardListsRow.plainKeys == Tryz.pinned.checked.prog.plainKeys) = true := by kernel_rfl
theorem c24 : (Rows.shardListsRow.shortTexts.isNone) = true := by kernel_rfl
theorem c25 : (Tryz.pinned.checked.prog.stopsHeard) = true := by kernel_rfl
theorem c26 : (Tryz.pinned.checked.prog.mayEnter) = true := by kernel_rfl
theorem c27 : (Rows.shardListsRow.lifted == Tryz.pinned.checked.prog.liftsFinal) = true := by kernel_rfl
theorem c28 : (Tryz.pinned.checked.prog.make == some Rows.shardListsRow.make) = true := by kernel_rfl
theorem c29 : (Rows.shardListsRow.kinds == (if Rows.shardListsRow.domain.isEmpty then [] else Tryz.f13.params.toList.map fun t => match Tryz.pinned.checked.prog.underlying t with | some (.int k) => some k | _ => none)) = true := by kernel_rfl
theorem c30 : (Rows.shardListsRow.pinned == Rows.shardListsRow.pinnedBy) = true := by kernel_rfl
theorem c31 : (Rows.shardListsRow.veiled == (Tryz.f13.params.toList ++ Rows.shardListsSpec.plain.varTypes Tryz.pinned.checked.prog ++ Tryz.f13.resultTypes.toList).any (Tryz.pinned.checked.prog.veiledRec ·)) = true := by kernel_rfl
theorem c32 : (Rows.shardListsRow.veiledFits Tryz.pinned.checked.prog Tryz.f13.params.toList (Tryz.f13.params.toList ++ Rows.shardListsSpec.plain.varTypes Tryz.pinned.checked.prog ++ Tryz.f13.resultTypes.toList)) = true := by kernel_rfl
theorem named_ : Tryz.pinned.checked.prog.funcNamed Rows.shardListsRow.func = some 13 := by kernel_rfl
theorem inst : Tryz.f13.isInstance Tryz.pinned.checked.prog Rows.shardListsRow.origin Rows.shardListsRow.targs := of_decide_eq_true (by kernel_rfl)
theorem wrap : Tryz.f13.isWrapper Tryz.pinned.checked.prog Rows.shardListsRow.wrapper Rows.shardListsRow.mainSum := by unfold Func.isWrapper; first | (rw [if_pos (by decide +kernel)]; kernel_rfl) | (rw [if_neg (by decide +kernel)]; exact ⟨rfl, rfl⟩)
end Go.Proofs.YtbbnejehglonjaaGreat.shardLists
