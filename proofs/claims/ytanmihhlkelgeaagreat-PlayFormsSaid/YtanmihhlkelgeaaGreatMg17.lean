/- DERIVED. Contracts and laws that the proofs of this seat share, part 17 of 32: Rf15A. -/
import Derived.Test.YtanmihhlkelgeaaGreatMg03
/- DERIVED. Contracts of clathriref15.isNode, holes, Named. -/
namespace Go.Proofs.YtanmihhlkelgeaaGreat
open Go.RowKit
attribute [local irreducible] Calls

theorem takeNode_true {b : Blk} {n : Nd} (h : takeNode b = (n, true)) : n = nodeOf b ∧ mayNode b.kind n = true := by
  unfold takeNode at h
  split at h
  · cases h
  · split at h
    · rename_i h2
      have e : n = nodeOf b := (congrArg Prod.fst h).symm
      refine ⟨e, ?_⟩
      rw [e]
      unfold putNode at h2
      split at h2
      · assumption
      · cases h2
    · cases h
theorem takeNode_small {b : Blk} {n : Nd} (h : takeNode b = (n, true)) : n.small := mayNode_small (takeNode_true h).2
theorem takeNode_wf {b : Blk} {n : Nd} {ok : Bool} (h : takeNode b = (n, ok)) : n.wf := by
  unfold takeNode at h
  split at h
  · have : n = Nd.zero := (congrArg Prod.fst h).symm
    rw [this]; exact ⟨by decide, by decide, by decide⟩
  · split at h
    · have : n = nodeOf b := (congrArg Prod.fst h).symm
      rw [this]; exact nodeOf_wf b
    · have : n = Nd.zero := (congrArg Prod.fst h).symm
      rw [this]; exact ⟨by decide, by decide, by decide⟩

theorem named_kind {bs : List Blk} {i : Nat} (h : (bs.getD i Blk.zero).kind ≠ 1) : named bs i = [] := by unfold named; rw [if_neg h]
theorem named_bad {bs : List Blk} {i : Nat} {n : Nd} (h : takeNode (bs.getD i Blk.zero) = (n, false)) : named bs i = [] := by
  unfold named; rw [h]; split <;> rfl
theorem named_ok {bs : List Blk} {i : Nat} {n : Nd} (hk : (bs.getD i Blk.zero).kind = 1) (h : takeNode (bs.getD i Blk.zero) = (n, true)) : named bs i = namesOf bs n := by
  unfold named; rw [h, if_pos hk]
theorem direct_ints {w : World} {H : Nat} {n : Nd} {t : TypeId} (h : objAt w H = some (.cells n.cells t (0, 0))) : IntsAt w (some ⟨H, 3, none⟩) n.direct := by
  refine ⟨H, 3, fun _ => rfl, fun i hi => ?_⟩
  rw [cell_of_row w H (3 + i) _ _ _ h]
  have : i < 4 := hi
  match i, this with
  | 0, _ => rfl
  | 1, _ => rfl
  | 2, _ => rfl
  | 3, _ => rfl

end Go.Proofs.YtanmihhlkelgeaaGreat
