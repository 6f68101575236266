/- The closed facts of the row of ShardOnce, one by one. -/
import Derived.Test.YtbbnejehglonjaaGreatRows
import Derived.ProofKit
import Derived.JoinedOf
namespace Go.Proofs.YtbbnejehglonjaaGreat.shardOnce
theorem c1 : (Rows.shardOnceRow.wf (OpenSpec.ofChange Rows.shardOnceSpec)) = true := by kernel_rfl
theorem c2 : (laidOutB Tryz.pinned.checked.prog) = true := by kernel_rfl
theorem c3 : (mapsRowed Tryz.pinned.checked.prog) = true := by kernel_rfl
theorem c4 : (Tryz.f14.params.all (Tryz.pinned.checked.prog.readableRec ·)) = true := by kernel_rfl
theorem c5 : (namedTie Tryz.pinned.checked.prog Rows.shardOnceRow.named Rows.shardOnceSpec.vars) = true := by kernel_rfl
theorem c6 : (Rows.shardOnceRow.stops == []) = true := by kernel_rfl
theorem c7 : (Tryz.pinned.checked.prog.stops == []) = true := by kernel_rfl
theorem c8 : (Rows.shardOnceRow.knobs == []) = true := by kernel_rfl
theorem c9 : (Tryz.pinned.checked.prog.stopKnobs == []) = true := by kernel_rfl
theorem c10 : (Rows.shardOnceRow.inPlace == Tryz.pinned.checked.prog.inPlace 14) = true := by kernel_rfl
theorem c11 : (Rows.shardOnceRow.unfollowed == Tryz.pinned.checked.prog.unfollowed 14) = true := by kernel_rfl
theorem c12 : (Rows.shardOnceRow.recurses == Tryz.pinned.checked.prog.recurses 14) = true := by kernel_rfl
theorem c13 : (Rows.shardOnceRow.named == Tryz.pinned.checked.prog.varsNamed 14) = true := by kernel_rfl
theorem c14 : (Rows.shardOnceRow.maps == (Tryz.f14.params.toList ++ Rows.shardOnceSpec.plain.varTypes Tryz.pinned.checked.prog).any (Tryz.pinned.checked.prog.mapsRec ·)) = true := by kernel_rfl
theorem c15 : (Rows.shardOnceRow.ifaces == (Tryz.f14.params.toList ++ Rows.shardOnceSpec.plain.varTypes Tryz.pinned.checked.prog).any (Tryz.pinned.checked.prog.ifacesRec ·)) = true := by kernel_rfl
theorem c16 : (Rows.shardOnceRow.mapsOut == Tryz.pinned.checked.prog.mapsAmong Tryz.f14.resultTypes.toList) = true := by kernel_rfl
theorem c17 : (Rows.shardOnceRow.loops == (Tryz.f14.params.toList ++ Rows.shardOnceSpec.plain.varTypes Tryz.pinned.checked.prog).any (Tryz.pinned.checked.prog.loopsFrom ·)) = true := by kernel_rfl
theorem c18 : (Rows.shardOnceRow.wideKeys == (Tryz.f14.params.toList ++ Rows.shardOnceSpec.plain.varTypes Tryz.pinned.checked.prog ++ Tryz.f14.resultTypes.toList).any (Tryz.pinned.checked.prog.wideKeysFrom ·)) = true := by kernel_rfl
theorem c19 : (Rows.shardOnceSpec.vars.all (Tryz.pinned.checked.prog.varReadable ·)) = true := by kernel_rfl
theorem c20 : (Tryz.f14.resultTypes.all (fun t => Tryz.pinned.checked.prog.readableRec t && decide (t < Tryz.pinned.checked.prog.types.size))) = true := by kernel_rfl
theorem c21 : (Rows.shardOnceRow.ifacesOut == Tryz.f14.resultTypes.toList.any (Tryz.pinned.checked.prog.ifacesRec ·)) = true := by kernel_rfl
theorem c22 : (Rows.shardOnceRow.loopsOut == Tryz.f14.resultTypes.toList.any (Tryz.pinned.checked.prog.loopsFrom ·)) = true := by kernel_rfl
theorem c23 : (Rows.shardOnceRow.plainKeys == Tryz.pinned.checked.prog.plainKeys) = true := by kernel_rfl
theorem c24 : (Rows.shardOnceRow.shortTexts.isNone) = true := by kernel_rfl
theorem c25 : (Tryz.pinned.checked.prog.stopsHeard) = true := by kernel_rfl
theorem c26 : (Tryz.pinned.checked.prog.mayEnter) = true := by kernel_rfl
theorem c27 : (Rows.shardOnceRow.lifted == Tryz.pinned.checked.prog.liftsFinal) = true := by kernel_rfl
theorem c28 : (Tryz.pinned.checked.prog.make == some Rows.shardOnceRow.make) = true := by kernel_rfl
theorem c29 : (Rows.shardOnceRow.kinds == (if Rows.shardOnceRow.domain.isEmpty then [] else Tryz.f14.params.toList.map fun t => match Tryz.pinned.checked.prog.underlying t with | some (.int k) => some k | _ => none)) = true := by kernel_rfl
theorem c30 : (Rows.shardOnceRow.pinned == Rows.shardOnceRow.pinnedBy) = true := by kernel_rfl
theorem c31 : (Rows.shardOnceRow.veiled == (Tryz.f14.params.toList ++ Rows.shardOnceSpec.plain.varTypes Tryz.pinned.checked.prog ++ Tryz.f14.resultTypes.toList).any (Tryz.pinned.checked.prog.veiledRec ·)) = true := by kernel_rfl
theorem c32 : (Rows.shardOnceRow.veiledFits Tryz.pinned.checked.prog Tryz.f14.params.toList (Tryz.f14.params.toList ++ Rows.shardOnceSpec.plain.varTypes Tryz.pinned.checked.prog ++ Tryz.f14.resultTypes.toList)) = true := by kernel_rfl
theorem named_ : Tryz.pinned.checked.prog.funcNamed Rows.shardOnceRow.func = some 14 := by kernel_rfl
theorem inst : Tryz.f14.isInstance Tryz.pinned.checked.prog Rows.shardOnceRow.origin Rows.shardOnceRow.targs := of_decide_eq_true (by kernel_rfl)
theorem wrap : Tryz.f14.isWrapper Tryz.pinned.checked.prog Rows.shardOnceRow.wrapper Rows.shardOnceRow.mainSum := by unfold Func.isWrapper; first | (rw [if_pos (by decide +kernel)]; kernel_rfl) | (rw [if_neg (by decide +kernel)]; exact ⟨rfl, rfl⟩)
end Go.Proofs.YtbbnejehglonjaaGreat.shardOnce
