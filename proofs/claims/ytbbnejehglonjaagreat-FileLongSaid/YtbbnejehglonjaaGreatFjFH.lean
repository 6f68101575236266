/- DERIVED. A commit of a file's change. -/
import Derived.Test.YtbbnejehglonjaaGreatMh00
import Derived.Test.YtbbnejehglonjaaGreatMh35
namespace Go.Proofs.YtbbnejehglonjaaGreat
set_option maxHeartbeats 8000000
set_option maxRecDepth 100000
set_option linter.unusedSimpArgs false
set_option linter.unusedVariables false
open Go.RowKit
attribute [local irreducible] Calls
theorem lkB_in {L : PL} {k : Int} {b : Blk} (h : lkB L k = some b) : ∃ p ∈ L, p.2 = b := by
 unfold lkB at h
 rw [Option.map_eq_some_iff] at h
 obtain ⟨p, hp, rfl⟩ := h
 exact ⟨p, List.mem_of_find?_eq_some hp, rfl⟩
theorem commitOk_of {n : Nat} {L : PL} (hd : (keysL (plM L)).Nodup) (hlk : LK L) (hl : L.length ≤ 12) (hn : n ≤ 200) (hk : ∀ k ∈ L.map (·.1), k < (n : Int)) : commitOk (shN n) L = true := by
 unfold commitOk
 by_cases h0 : L.isEmpty = true
 · rw [h0]; rfl
 · have hp : (sortedKeys (plM L)).Nodup := (List.mergeSort_perm _ _).nodup_iff.2 hd
   have hat : ∀ (i : Nat) (x : Wr), (writesOf L)[i]? = some x → (sortedKeys (plM L))[i]? = some x.at_ ∧ x.b = (lkB L x.at_).getD Blk.zero := fun i x hx => by
    unfold writesOf at hx
    rw [List.getElem?_map, Option.map_eq_some_iff] at hx
    obtain ⟨k, hk, rfl⟩ := hx
    exact ⟨hk, rfl⟩
   have hin : ∀ (i : Nat) (x : Wr), (writesOf L)[i]? = some x → x.at_ ∈ L.map (·.1) := fun i x hx => by
    have := List.mem_of_getElem? (hat i x hx).1
    rwa [sortedKeys_mem, plM_keys] at this
   have hlen := writesOf_length L
   have hpos : 0 < L.length := by
    rcases Nat.eq_zero_or_pos L.length with e | e
    · rw [List.length_eq_zero_iff.1 e] at h0; simp at h0
    · exact e
   have hm : mayRec (writesOf L) = true := by
    refine mayRec_iff.2 ⟨wrsOk_iff.2 fun i x hx => ?_, by omega, by omega⟩
    have h1 := hin i x hx
    have h2 := (hat i x hx).2
    obtain ⟨b, hb⟩ := Option.isSome_iff_exists.1 (lkB_iff.2 h1)
    rw [hb] at h2
    obtain ⟨p, hpm, hpb⟩ := lkB_in hb
    have h3 := hlk p hpm
    rw [hpb] at h3
    have h4 : 0 ≤ x.at_ := by
     obtain ⟨q, hq, e⟩ := List.mem_map.1 h1
     rw [← e]; exact (hlk q hq).1
    have h5 := hk _ h1
    refine ⟨wrOk_iff.2 ⟨by rw [h2]; exact h3.2.1, by rw [h2]; exact h3.2.2, h4, by omega⟩, ?_⟩
    unfold freshWr
    rw [Bool.not_eq_true', List.any_eq_false]
    intro y hy
    obtain ⟨j, hj⟩ := List.mem_iff_getElem?.1 hy
    rw [List.getElem?_take] at hj
    split at hj
    · rename_i hji
      have e1 := (hat j y hj).1
      have e2 := (hat i x hx).1
      intro e
      have e3 : y.at_ = x.at_ := by simpa using e
      rw [e3] at e1
      have := (List.getElem?_inj (List.getElem?_eq_some_iff.1 e1).1 hp).1 (e1.trans e2.symm)
      omega
    · cases hj
   have hpe : (writesOf L).any (pastEnd (shN n).blocks) = false := by
    rw [List.any_eq_false]
    intro x hx
    obtain ⟨i, hi⟩ := List.mem_iff_getElem?.1 hx
    have := hk _ (hin i x hi)
    unfold pastEnd
    rw [decide_eq_true_eq]
    show ¬ ((n : Nat) : Int) ≤ x.at_
    omega
   unfold changeOk
   rw [hm, hpe]
   simp
section
variable {w : World} {Sd : Nat → Prop} {t v mp mt : Nat} {L : PL} {T : ML} {d n : Nat} {gb cap m : Nat} {st : VSt} {c : Nat}
theorem tCommit (H : TxV w Sd t v mp mt L T d 0 (shN n) gb cap m st c) (hn : n ≤ 200) (hbn : st.bs.length = n) (hlk : LK L) (hl : L.length ≤ 12) (hc : c < 500000) :
 Calls Tryz.prog 22 #[.pointer (some ⟨t, 0, none⟩)] w fun e w' => e = .returned (.int .i64 0) ∧ ∃ (Sd' : Nat → Prop) (c' : Nat) (st' : VSt), c' ≤ c + 300 ∧ (∀ q, Sd' q → Sd q ∨ w.heap.size ≤ q) ∧ VolS w' Sd' v d 0 (shN n) gb cap m st' c' ∧ st'.bs = txV L st.bs ∧
  Keeps (fun k => Sd k ∨ k = v ∨ k = m ∨ k = gb ∨ k = mp ∨ k = mt) w w' := by
 have hk : commitOk (shN n) L = true := commitOk_of H.tx.put.nodup hlk hl hn (by rw [← hbn]; exact H.tx.inP)
 refine (txCommit_any H.tx H.vol H.ap (show 13 ≤ 40 by decide) hc).mono ?_
 rintro e w' ⟨_, h⟩
 obtain ⟨he, hkp, _, Sd', c', hc', hS, hv⟩ := h hk
 exact ⟨he, Sd', c', _, hc', hS, hv, commitV_bs (fun k hk => by obtain ⟨p, hp, e⟩ := List.mem_map.1 hk; rw [← e]; exact (hlk p hp).1), hkp⟩
end
end Go.Proofs.YtbbnejehglonjaaGreat
