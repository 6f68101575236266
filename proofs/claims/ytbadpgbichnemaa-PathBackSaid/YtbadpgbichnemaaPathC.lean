/- DERIVED. The contract of clathriref1.Split. -/
import Derived.Test.YtbadpgbichnemaaPathB
namespace Go.Proofs.Ytbadpgbichnemaa
open Go.RowKit

theorem splitOf_head {p : List UInt8} (h : ∀ r, p ≠ 47 :: r) : splitOf p = none := by
  cases p with
  | nil => rfl
  | cons c r =>
    have hc : c ≠ 47 := by rintro rfl; exact h r rfl
    simp [splitOf, hc]

/-- What is left at place k, q being read. -/
def refLeft (p : List UInt8) (k : Nat) (q : List UInt8) : Option (List (List UInt8)) := if k ≤ p.length then scan q (p.drop k) else some []

theorem byte_ne {c : UInt8} {d : UInt8} (h : c ≠ d) : c.toNat ≠ d.toNat := fun e => h (UInt8.toNat.inj e)

theorem byte47 {c : UInt8} (h : c ≠ 47) : (((c.toNat : Int)) == 47) = false := by
  have h1 := byte_ne h
  have h2 : (47 : UInt8).toNat = 47 := rfl
  rw [h2] at h1
  simp only [beq_eq_false_iff_ne, ne_eq]
  omega

theorem refLeft_end {p : List UInt8} {k : Nat} (h : k = p.length) (q : List UInt8) : refLeft p k q = partOn q (refLeft p (k + 1) []) := by
  subst h
  rw [refLeft, if_pos (Nat.le_refl _), List.drop_length, scan, refLeft, if_neg (by omega)]
theorem refLeft_slash {p : List UInt8} {k : Nat} (h : k < p.length) (hc : p[k] = 47) (q : List UInt8) : refLeft p k q = partOn q (refLeft p (k + 1) []) := by
  rw [refLeft, if_pos (by omega), List.drop_eq_getElem_cons h, hc, scan, if_pos rfl, refLeft, if_pos (by omega)]
theorem refLeft_byte {p : List UInt8} {k : Nat} (h : k < p.length) (hc : p[k] ≠ 47) (q : List UInt8) : refLeft p k q = refLeft p (k + 1) (q ++ [p[k]]) := by
  rw [refLeft, if_pos (by omega), List.drop_eq_getElem_cons h, scan, if_neg hc, refLeft, if_pos (by omega)]

set_option maxHeartbeats 1000000 in
theorem refSplit_any (p : ByteArray) (w : World) (hp : p.size ≤ 9223372036854775807) :
    Calls Try.prog 18 #[.string p] w fun e w' => SplitEnd w.heap.size p.data.toList e w' ∧ Below w.heap.size w w' := by
  have hlen := bsize p
  by_cases h0 : p.size < 1
  · have Hs := Lib.hid (show splitOf p.data.toList = none from by rw [List.length_eq_zero_iff.1 (by omega : p.data.toList.length = 0)]; rfl)
    clear hlen
    go_enter Try.func18, Try.ntmps18
    go_wp2_with fail
    go_ret2
    exact ⟨⟨.slice none 0 0, by rw [Hs.out]; exact ⟨rfl, rfl⟩⟩, Below.refl _ _⟩
  · have hp0 : 0 < p.size := by omega
    obtain ⟨c, r, hcr⟩ : ∃ c r, p.data.toList = c :: r := by
      cases h : p.data.toList with
      | nil => rw [h] at hlen; simp at hlen; omega
      | cons c r => exact ⟨c, r, rfl⟩
    have hc0 : p[0]'hp0 = c := by
      have hget : p.data.toList[0]'(by omega) = p[0]'hp0 := rfl
      rw [← hget]; simp [hcr]
    by_cases hc : c = 47
    · have d0 : ((((p[0]'hp0).toNat : Int)) == 47) = true := by rw [hc0, hc]; rfl
      have d1 : ((((p[0]'hp0).toNat : Int)) != 47) = false := by rw [bne, d0]; rfl
      by_cases h120 : p.size ≤ 120
      · have hs : splitOf p.data.toList = if r = [] then some [] else scan [] r := by
          rw [hcr, splitOf, if_pos ⟨hc, by rw [← hcr, hlen]; exact h120⟩]
        have hrl : p.size = r.length + 1 := by rw [← hlen, hcr]; rfl
        by_cases hr : r = []
        · have d2 : (p.toList == [47]) = true := by rw [eqs, hcr, hr, hc]; rfl
          rw [if_pos hr] at hs
          have Hs := Lib.hid hs
          clear hlen hcr hc0 hs hr hrl
          go_enter Try.func18, Try.ntmps18
          go_wp2_with fail
          go_ret2
          refine ⟨⟨.slice none 0 0, ?_⟩, Below.refl _ _⟩
          rw [Hs.out]
          exact ⟨rfl, World.ownsRow_nil _ _ _ _⟩
        · have d2 : (p.toList == [47]) = false := by rw [eqs, hcr]; simp [hr]
          rw [if_neg hr] at hs
          have hs2 : splitOf p.data.toList = refLeft p.data.toList 1 [] := by
            rw [hs, refLeft, if_pos (by omega), hcr]; rfl
          have Hs := Lib.hid hs2
          have Hlen := Lib.hid hlen
          clear hlen hcr hc0 hs hs2 hr hrl
          go_enter Try.func18, Try.ntmps18
          go_wp2_with fail
          go_loopw [4, 5, 6] (fun lv part i wr => ∃ (k : Nat) (acc : List (List UInt8)) (PS : ByteArray) (q : List UInt8), 1 ≤ k ∧ k ≤ p.size + 1 ∧ acc.length + 1 ≤ k ∧ q.length ≤ k ∧ i = .int .i64 k ∧ part = .string PS ∧ StrRow wr w.heap.size lv acc ∧ PS.data.toList = q ∧
              splitOf p.data.toList = (refLeft p.data.toList k q).map (acc ++ ·) ∧ Below w.heap.size w wr) (fun _ _ i _ => p.size + 1 - (intOf i).toNat)
          case atStart => exact ⟨1, [], ⟨#[]⟩, [], Nat.le_refl _, by omega, by simp, by simp, rfl, rfl, World.ownsRow_nil _ _ _ _, rfl, by rw [Hs.out]; cases refLeft p.data.toList 1 [] <;> simp, Below.refl _ _⟩
          case round =>
            clear Hs
            obtain ⟨k, acc, PS, q, hk1, hk2, hacc, hq, rfl, rfl, hrow, hpq, hs, hb⟩ := hrel
            have hps : PS.size ≤ 122 := by rw [← bsize, hpq]; omega
            have Hpq := Lib.hid hpq
            have Hs := Lib.hid hs
            clear hpq hs
            by_cases hlt : k < p.size
            · have hkl : k < p.data.toList.length := by rw [Hlen.out]; exact hlt
              by_cases hk47 : p[k]'hlt = 47
              · have e0 : ((((p[k]'hlt).toNat : Int)) == 47) = true := by rw [hk47]; rfl
                have e1 : ((((p[k]'hlt).toNat : Int)) != 47) = false := by rw [bne, e0]; rfl
                have Hnext := Lib.hid (refLeft_slash hkl (show p.data.toList[k]'hkl = 47 from hk47) q)
                clear hk47
                have Hps := Lib.hid (show PS = ⟨q.toArray⟩ from bytes_ext (by rw [Hpq.out]))
                by_cases hdot : q = [46]
                · have d1 : (PS.toList == [46]) = true := by rw [eqs, Hpq.out, hdot]; rfl
                  have d1' : (PS.toList != [46]) = false := by rw [bne, d1]; rfl
                  have Hdot := Lib.hid hdot
                  clear hdot
                  go_wp2_with fail
                  go_roundw
                  case rel => exact ⟨k + 1, acc, ⟨#[]⟩, [], by omega, by omega, by omega, by simp, by go_num, rfl, hrow, rfl, by rw [Hs.out, Hnext.out, partOn, if_pos Hdot.out], hb⟩
                  case measure => simp [intOf]; omega
                · have d1 : (PS.toList == [46]) = false := by rw [eqs, Hpq.out]; simpa using hdot
                  have d1' : (PS.toList != [46]) = true := by rw [bne, d1]; rfl
                  have Hdot := Lib.hid hdot
                  clear hdot
                  cases hm : mayName q
                  · have Hm := Lib.hid (show mayName PS.data.toList = false by rw [Hpq.out]; exact hm)
                    have Hm2 := Lib.hid hm
                    clear hm
                    go_wp2_with fail
                    refine (refMayName PS _ (by omega)).mono ?_
                    rintro e w' ⟨rfl, rfl⟩
                    rw [Hm.out]
                    go_wp2_with fail
                    go_ret2
                    exact ⟨⟨.slice none 0 0, by rw [Hs.out, Hnext.out, partOn, if_neg Hdot.out, if_neg (by rw [Hm2.out]; simp)]; exact ⟨rfl, rfl⟩⟩, hb⟩
                  · have Hm := Lib.hid (show mayName PS.data.toList = true by rw [Hpq.out]; exact hm)
                    have Hm2 := Lib.hid hm
                    clear hm
                    go_wp2_with fail
                    refine (refMayName PS _ (by omega)).mono ?_
                    rintro e w' ⟨rfl, rfl⟩
                    rw [Hm.out]
                    have hz := hb.size
                    go_wp2_with (at_builtin; refine wpList_app1 elemStr rfl _ _ rfl (hrow.alloc _) rfl _ (.string PS) rfl (by simp) rfl (by omega) (by simp; omega) ?_; intro lv3 w3 hrow3 hg3 b3)
                    go_roundw
                    case rel =>
                      refine ⟨k + 1, acc ++ [q], ⟨#[]⟩, [], by omega, by omega, by rw [List.length_append, List.length_singleton]; omega, by simp, by go_num, rfl, ?_, rfl, ?_, (hb.alloc hb.size _).trans b3⟩
                      · unfold StrRow
                        rw [List.length_append, List.length_singleton, List.map_append, List.map_singleton, ← Hps.out]
                        exact hrow3
                      · rw [Hs.out, Hnext.out, partOn, if_neg Hdot.out, if_pos Hm2.out]
                        cases refLeft p.data.toList (k + 1) [] <;> simp
                    case measure => simp [intOf]; omega
              · have e0 : ((((p[k]'hlt).toNat : Int)) == 47) = false := byte47 hk47
                have e1 : ((((p[k]'hlt).toNat : Int)) != 47) = true := by rw [bne, e0]; rfl
                have Hnext := Lib.hid (refLeft_byte hkl (show p.data.toList[k]'hkl ≠ 47 from hk47) q)
                clear hk47
                go_wp2_with fail
                go_roundw
                case rel =>
                  refine ⟨k + 1, acc, _, _, by omega, by omega, by omega, ?_, by go_num, rfl, hrow, ?_, by rw [Hs.out, Hnext.out], hb⟩
                  · rw [List.length_append, List.length_singleton]; omega
                  · rw [show (PS ++ p.extract k (k + 1)).data.toList = PS.data.toList ++ (p.extract k (k + 1)).data.toList from by simp, Hpq.out, Lib.extract_data, List.drop_eq_getElem_cons hkl]
                    simp
                case measure => simp [intOf]; omega
            · by_cases hk : k = p.size
              · have Hnext := Lib.hid (refLeft_end (p := p.data.toList) (k := k) (hk.trans Hlen.out.symm) q)
                have hk' : k ≤ p.size := by omega
                clear hk
                have Hps := Lib.hid (show PS = ⟨q.toArray⟩ from bytes_ext (by rw [Hpq.out]))
                by_cases hdot : q = [46]
                · have d1 : (PS.toList == [46]) = true := by rw [eqs, Hpq.out, hdot]; rfl
                  have d1' : (PS.toList != [46]) = false := by rw [bne, d1]; rfl
                  have Hdot := Lib.hid hdot
                  clear hdot
                  go_wp2_with fail
                  go_roundw
                  case rel => exact ⟨k + 1, acc, ⟨#[]⟩, [], by omega, by omega, by omega, by simp, by go_num, rfl, hrow, rfl, by rw [Hs.out, Hnext.out, partOn, if_pos Hdot.out], hb⟩
                  case measure => simp [intOf]; omega
                · have d1 : (PS.toList == [46]) = false := by rw [eqs, Hpq.out]; simpa using hdot
                  have d1' : (PS.toList != [46]) = true := by rw [bne, d1]; rfl
                  have Hdot := Lib.hid hdot
                  clear hdot
                  cases hm : mayName q
                  · have Hm := Lib.hid (show mayName PS.data.toList = false by rw [Hpq.out]; exact hm)
                    have Hm2 := Lib.hid hm
                    clear hm
                    go_wp2_with fail
                    refine (refMayName PS _ (by omega)).mono ?_
                    rintro e w' ⟨rfl, rfl⟩
                    rw [Hm.out]
                    go_wp2_with fail
                    go_ret2
                    exact ⟨⟨.slice none 0 0, by rw [Hs.out, Hnext.out, partOn, if_neg Hdot.out, if_neg (by rw [Hm2.out]; simp)]; exact ⟨rfl, rfl⟩⟩, hb⟩
                  · have Hm := Lib.hid (show mayName PS.data.toList = true by rw [Hpq.out]; exact hm)
                    have Hm2 := Lib.hid hm
                    clear hm
                    go_wp2_with fail
                    refine (refMayName PS _ (by omega)).mono ?_
                    rintro e w' ⟨rfl, rfl⟩
                    rw [Hm.out]
                    have hz := hb.size
                    go_wp2_with (at_builtin; refine wpList_app1 elemStr rfl _ _ rfl (hrow.alloc _) rfl _ (.string PS) rfl (by simp) rfl (by omega) (by simp; omega) ?_; intro lv3 w3 hrow3 hg3 b3)
                    go_roundw
                    case rel =>
                      refine ⟨k + 1, acc ++ [q], ⟨#[]⟩, [], by omega, by omega, by rw [List.length_append, List.length_singleton]; omega, by simp, by go_num, rfl, ?_, rfl, ?_, (hb.alloc hb.size _).trans b3⟩
                      · unfold StrRow
                        rw [List.length_append, List.length_singleton, List.map_append, List.map_singleton, ← Hps.out]
                        exact hrow3
                      · rw [Hs.out, Hnext.out, partOn, if_neg Hdot.out, if_pos Hm2.out]
                        cases refLeft p.data.toList (k + 1) [] <;> simp
                    case measure => simp [intOf]; omega
              · have Hnext := Lib.hid (show refLeft p.data.toList k q = some [] from by rw [refLeft, if_neg (by rw [Hlen.out]; omega)])
                go_wp2_with fail
                go_ret2
                refine ⟨⟨u4, ?_⟩, hb⟩
                rw [Hs.out, Hnext.out]
                refine ⟨rfl, ?_⟩
                simpa using hrow
      · have Hs := Lib.hid (splitOf_long (p := p.data.toList) (by omega))
        clear hlen hcr hc0
        go_enter Try.func18, Try.ntmps18
        go_wp2_with fail
        go_ret2
        exact ⟨⟨.slice none 0 0, by rw [Hs.out]; exact ⟨rfl, rfl⟩⟩, Below.refl _ _⟩
    · have d0 : ((((p[0]'hp0).toNat : Int)) == 47) = false := by rw [hc0]; exact byte47 hc
      have d1 : ((((p[0]'hp0).toNat : Int)) != 47) = true := by rw [bne, d0]; rfl
      have Hs := Lib.hid (splitOf_head (p := p.data.toList) (by rw [hcr]; rintro r' h; exact hc (List.cons.inj h).1))
      clear hlen hcr hc0
      go_enter Try.func18, Try.ntmps18
      go_wp2_with fail
      go_ret2
      exact ⟨⟨.slice none 0 0, by rw [Hs.out]; exact ⟨rfl, rfl⟩⟩, Below.refl _ _⟩

end Go.Proofs.Ytbadpgbichnemaa
