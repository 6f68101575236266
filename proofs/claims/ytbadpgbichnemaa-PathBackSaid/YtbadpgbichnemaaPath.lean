/- DERIVED. Contracts of entry.MayName and path.Split, of clathriref1.MayName and clathriref1.Split. -/
import Derived.Test.YtbadpgbichnemaaProg
import Derived.Test.YtbadpgbichnemaaShelf
import Derived.Test.YtbadpgbichnemaaLibS
namespace Go.Proofs.Ytbadpgbichnemaa
open Go.RowKit

theorem mayName_pred (w : World) : PredAt Try.prog 27 #[] encR badName w := fun W r _ => by
  unfold FnGives
  by_cases h1 : r < 33
  · have z1 : (r : Int) < 33 := by omega
    go_enter Try.func27, Try.ntmps27
    go_wp2
    go_ret
    exact ⟨by simp [badName, h1], 0, rfl⟩
  · have z1 : ¬ (r : Int) < 33 := by omega
    by_cases h2 : 126 < r
    · have z2 : (126 : Int) < (r : Int) := by omega
      go_enter Try.func27, Try.ntmps27
      go_wp2
      go_ret
      exact ⟨by simp [badName, h1, h2], 0, rfl⟩
    · have z2 : ¬ (126 : Int) < (r : Int) := by omega
      by_cases h3 : r = 47
      · subst h3
        go_enter Try.func27, Try.ntmps27
        go_wp2
        go_ret
        exact ⟨by simp [badName], 0, rfl⟩
      · have z3 : ((r : Int) == 47) = false := by simp; omega
        go_enter Try.func27, Try.ntmps27
        go_wp2
        go_ret
        exact ⟨by simp [badName, h1, h2, h3], 0, rfl⟩

theorem noBad_of_any {s : ByteArray} {b : Bool} (h : s.data.toList.any (fun c => badName c.toNat) = b) : decide (0 ≤ Lib.idxFunc badName true s) = b := by
  rw [idxFunc_bytes badName badName_high s, h]

theorem eqs (s : ByteArray) (l : List UInt8) : (s.toList == l) = (s.data.toList == l) := by rw [ByteArray.toList_eq]

theorem mayName_parts (l : List UInt8) (h1 : (l == [46]) = false) (h2 : (l == [46, 46]) = false) (h3 : 1 ≤ l.length) (h4 : l.length ≤ 14) :
    mayName l = !(l.any fun c => badName c.toNat) := by
  unfold mayName; rw [h1, h2]; simp [h3, h4]

theorem mayName_long {l : List UInt8} (h : 14 < l.length) : mayName l = false := by
  unfold mayName
  have : decide (l.length ≤ 14) = false := by simp; omega
  rw [this]; simp
theorem mayName_nil {l : List UInt8} (h : l.length < 1) : mayName l = false := by
  obtain rfl : l = [] := List.length_eq_zero_iff.1 (by omega)
  rfl
theorem mayName_bad {l : List UInt8} (h : (l.any fun c => badName c.toNat) = true) : mayName l = false := by
  unfold mayName; rw [h]; simp
theorem any_bad_at {l : List UInt8} {k : Nat} (h : k < l.length) (hb : badName (l[k]).toNat = true) : (l.any fun c => badName c.toNat) = true :=
  List.any_eq_true.2 ⟨l[k], List.getElem_mem h, hb⟩
theorem badName_cases (r : Nat) : (badName r = true ∧ r < 33) ∨ (badName r = true ∧ 33 ≤ r ∧ 126 < r) ∨ (badName r = true ∧ 33 ≤ r ∧ r ≤ 126 ∧ r = 47) ∨ (badName r = false ∧ 33 ≤ r ∧ r ≤ 126 ∧ r ≠ 47) := by
  unfold badName
  by_cases h1 : r < 33
  · left; simp [h1]
  · by_cases h2 : 126 < r
    · right; left; simp [h2]; omega
    · by_cases h3 : r = 47
      · right; right; left; subst h3; simp
      · right; right; right; simp [h1, h2, h3]; omega

theorem entryMayName (s : ByteArray) (w : World) :
    Calls Try.prog 22 #[.string s] w fun e w' => e = .returned (.bool (mayName s.data.toList)) ∧ Below w.heap.size w w' := by
  have hlen : s.data.toList.length = s.size := by simp
  by_cases h1 : s.data.toList = [46]
  · have d1 : (s.toList == [46]) = true := by rw [eqs, h1]; rfl
    have Hr := Lib.hid (show mayName s.data.toList = false by rw [h1]; rfl)
    clear h1 hlen
    go_enter Try.func22, Try.ntmps22
    go_wp2_with fail
    go_ret
    exact ⟨by rw [Hr.out]; rfl, Below.refl _ _⟩
  · have d1 : (s.toList == [46]) = false := by rw [eqs]; simpa using h1
    by_cases h2 : s.data.toList = [46, 46]
    · have d2 : (s.toList == [46, 46]) = true := by rw [eqs, h2]; rfl
      have Hr := Lib.hid (show mayName s.data.toList = false by rw [h2]; rfl)
      clear h1 h2 hlen
      go_enter Try.func22, Try.ntmps22
      go_wp2_with fail
      go_ret
      exact ⟨by rw [Hr.out]; rfl, Below.refl _ _⟩
    · have d2 : (s.toList == [46, 46]) = false := by rw [eqs]; simpa using h2
      by_cases h3 : 1 ≤ s.size
      · by_cases h4 : s.size ≤ 14
        · have Hr := Lib.hid (mayName_parts s.data.toList (by rw [← eqs]; exact d1) (by rw [← eqs]; exact d2) (by omega) (by omega))
          clear h1 h2 hlen
          go_enter Try.func22, Try.ntmps22
          go_wp2_with fail
          refine (Try.strings_ContainsFunc 27 #[] (fun _ _ => by kernel_rfl) badName s _ (mayName_pred _)).mono ?_
          rintro e w1 ⟨rfl, b1⟩
          rw [idxFunc_bytes badName badName_high s]
          generalize (s.data.toList.any fun c => badName c.toNat) = bb at *
          go_wp2_with fail
          go_ret
          exact ⟨by rw [Hr.out]; rfl, b1⟩
        · have Hr := Lib.hid (mayName_long (l := s.data.toList) (by omega))
          clear h1 h2 hlen
          go_enter Try.func22, Try.ntmps22
          go_wp2_with fail
          go_ret
          exact ⟨by rw [Hr.out]; rfl, Below.refl _ _⟩
      · have Hr := Lib.hid (mayName_nil (l := s.data.toList) (by omega))
        clear h1 h2 hlen
        go_enter Try.func22, Try.ntmps22
        go_wp2_with fail
        go_ret
        exact ⟨by rw [Hr.out]; rfl, Below.refl _ _⟩

theorem any_bad_false {l : List UInt8} {k : Nat} : (l.take k).any (fun c => badName c.toNat) = false → ∀ h : k < l.length, badName (l[k]).toNat = false → (l.take (k + 1)).any (fun c => badName c.toNat) = false := by
  intro h1 h h2
  rw [List.take_succ_eq_append_getElem h, List.any_append, h1]
  simp [h2]

theorem refMayName (s : ByteArray) (w : World) (hs : s.size ≤ 9223372036854775807) :
    Calls Try.prog 23 #[.string s] w fun e w' => e = .returned (.bool (mayName s.data.toList)) ∧ w = w' := by
  have hlen : s.data.toList.length = s.size := by simp
  have Hlen := Lib.hid hlen
  clear hlen
  go_enter Try.func23, Try.ntmps23
  go_wp2_with fail
  go_loop [3] (fun i => ∃ k : Nat, k ≤ s.size ∧ i = .int .i64 k ∧ (s.data.toList.take k).any (fun c => badName c.toNat) = false) (fun i => s.size - (intOf i).toNat)
  case atStart => exact ⟨0, Nat.zero_le _, rfl, rfl⟩
  case round =>
    obtain ⟨k, hk, rfl, hnb⟩ := hrel
    have Hnb := Lib.hid hnb
    clear hnb
    by_cases hlt : k < s.size
    · have hget : s.data.toList[k]'(by rw [Hlen.out]; exact hlt) = s[k] := rfl
      rcases badName_cases (s[k]).toNat with ⟨hb, h1⟩ | ⟨hb, h1, h2⟩ | ⟨hb, h1, h2, h3⟩ | ⟨hb, h1, h2, h3⟩
      · have Hbad := Lib.hid (mayName_bad (any_bad_at (l := s.data.toList) (by rw [Hlen.out]; exact hlt) (by rw [hget]; exact hb)))
        clear hget hb
        go_wp2_with fail
        go_ret
        exact ⟨by rw [Hbad.out]; rfl, rfl⟩
      · have Hbad := Lib.hid (mayName_bad (any_bad_at (l := s.data.toList) (by rw [Hlen.out]; exact hlt) (by rw [hget]; exact hb)))
        clear hget hb
        go_wp2_with fail
        go_ret
        exact ⟨by rw [Hbad.out]; rfl, rfl⟩
      · have Hbad := Lib.hid (mayName_bad (any_bad_at (l := s.data.toList) (by rw [Hlen.out]; exact hlt) (by rw [hget]; exact hb)))
        have d3 : (((s[k]).toNat : Int) == 47) = true := by rw [h3]; rfl
        clear hget hb h3
        go_wp2_with fail
        go_ret
        exact ⟨by rw [Hbad.out]; rfl, rfl⟩
      · have Hstep := Lib.hid (any_bad_false (l := s.data.toList) Hnb.out (by rw [Hlen.out]; exact hlt) (by rw [hget]; exact hb))
        have d3 : (((s[k]).toNat : Int) == 47) = false := by simpa using by omega
        clear hget hb h3
        go_wp2_with fail
        go_round
        case rel => exact ⟨k + 1, by omega, by go_num, Hstep.out⟩
        case measure => simp [intOf]; omega
    · have hall := Hnb.out
      rw [List.take_of_length_le (by rw [Hlen.out]; omega)] at hall
      have Hr := Lib.hid hall
      clear hall
      by_cases h3 : 1 ≤ s.size
      · by_cases h4 : s.size ≤ 14
        · by_cases h1 : s.data.toList = [46]
          · have d1 : (s.toList == [46]) = true := by rw [eqs, h1]; rfl
            have d1' : (s.toList != [46]) = false := by rw [bne, d1]; rfl
            have Hf := Lib.hid (show mayName s.data.toList = false by rw [h1]; rfl)
            clear h1
            go_wp2_with fail
            go_ret
            exact ⟨by rw [Hf.out]; rfl, rfl⟩
          · have d1 : (s.toList == [46]) = false := by rw [eqs]; simpa using h1
            have d1' : (s.toList != [46]) = true := by rw [bne, d1]; rfl
            by_cases h2 : s.data.toList = [46, 46]
            · have d2 : (s.toList == [46, 46]) = true := by rw [eqs, h2]; rfl
              have d2' : (s.toList != [46, 46]) = false := by rw [bne, d2]; rfl
              have Hf := Lib.hid (show mayName s.data.toList = false by rw [h2]; rfl)
              clear h1 h2
              go_wp2_with fail
              go_ret
              exact ⟨by rw [Hf.out]; rfl, rfl⟩
            · have d2 : (s.toList == [46, 46]) = false := by rw [eqs]; simpa using h2
              have d2' : (s.toList != [46, 46]) = true := by rw [bne, d2]; rfl
              have Hf := Lib.hid (mayName_parts s.data.toList (by rw [← eqs]; exact d1) (by rw [← eqs]; exact d2) (by rw [Hlen.out]; exact h3) (by rw [Hlen.out]; exact h4))
              clear h1 h2
              go_wp2_with fail
              go_ret
              exact ⟨by rw [Hf.out, Hr.out]; rfl, rfl⟩
        · have Hf := Lib.hid (mayName_long (l := s.data.toList) (by rw [Hlen.out]; omega))
          go_wp2_with fail
          go_ret
          exact ⟨by rw [Hf.out]; rfl, rfl⟩
      · have Hf := Lib.hid (mayName_nil (l := s.data.toList) (by rw [Hlen.out]; omega))
        go_wp2_with fail
        go_ret
        exact ⟨by rw [Hf.out]; rfl, rfl⟩

end Go.Proofs.Ytbadpgbichnemaa
