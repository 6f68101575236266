/- DERIVED. Contracts and laws that the proofs of this seat share, part 31 of 40: PzD0. -/
import Derived.Test.YtbbnejehglonjaaGreatMg00
import Derived.Test.YtbbnejehglonjaaGreatMg02
/- DERIVED. An aggregate stored at an offset. -/
namespace Go.Proofs.YtbbnejehglonjaaGreat
open Go.RowKit

theorem run_storeOff {t : TypeId} {n : Nat} (A : AggOf Tryz.prog t n) (w : World) (g j : Nat) (ty : TypeId) {c c' : Array Value} (h : objAt w g = some (.cells c ty (0, 0))) (hc' : c'.size = n) (hj : j + n ≤ c.size) (h1 : ∀ v ∈ c'.toList, v.oneCell' = true) :
    (Instr.storeAt t (.pointer (some ⟨g, j, none⟩)) (.agg c')).run Tryz.prog w = .ok () (w.setRow g (c.toList.take j ++ c'.toList ++ c.toList.drop (j + n)).toArray) := by
  have hs : (sizeOf t).run Tryz.prog w = .ok n w := by
    obtain ⟨i, hi, hsz⟩ := Option.map_eq_some_iff.1 A.size
    simp [sizeOf, typeInfo, hi, hsz]
  have hst := run_storeCells_at Tryz.prog g j ty c'.toList 0 c w h (by simp; omega) h1
  simp only [Instr.storeAt, Instr.sureAddr, Sem.run_bind, Sem.run_pure, Result.andThen_ok, storeVar, hs, Value.cells, ne_eq]
  simp only [hc', not_true_eq_false, if_false]
  rw [hst]
  simp [hc']
theorem step_storeOff {t : TypeId} {n : Nat} (E : AggOf Tryz.prog t n) {ops : Array Oper} {o : Oper} {a b0 : Act} {w : World} {K : Act → World → Prop} {Q : Exit → Act → World → Prop} {F : Prop} (hgd : o.guard = none) (x y : Operand) (ho : o.op = .store t x y) {g j : Nat} {c c' : Array Value} {ty : TypeId}
    (hx : a.eval x = .pointer (some ⟨g, j, none⟩)) (hy : a.eval y = .agg c') (hg : objAt w g = some (.cells c ty (0, 0))) (hs' : c'.size = n) (hj : j + n ≤ c.size) (h1 : ∀ v ∈ c'.toList, v.oneCell' = true)
    (h : ∀ w', w' = w.setRow g (c.toList.take j ++ c'.toList ++ c.toList.drop (j + n)).toArray → K (a.put o.dst undef) w') :
    if Region.wanted o (yielded ops b0.tmps) = true then Oper.wp Tryz.prog o a w K Q else F := by
  have hw : Region.wanted o (yielded ops b0.tmps) = true := by simp [Region.wanted, hgd]
  rw [if_pos hw]
  have hr := run_storeOff E w g j ty hg hs' hj h1
  unfold Oper.wp execOp
  simp only [ho, hx, hy, Sem.run_bind]
  rw [hr]
  simp only [Result.andThen_ok, Sem.run_pure]
  exact h _ rfl
end Go.Proofs.YtbbnejehglonjaaGreat
