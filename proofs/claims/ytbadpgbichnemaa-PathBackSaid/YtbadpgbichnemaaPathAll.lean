/- DERIVED. clathrilaw20.begun, PathAll return true. -/
import Derived.Test.YtbadpgbichnemaaPathC
import Derived.Test.YtbadpgbichnemaaLibB
namespace Go.Proofs.Ytbadpgbichnemaa
open Go.RowKit

theorem StrRow.any {w : World} {B : Nat} {v : Value} {l : List (List UInt8)} (h : StrRow w B v l) : ∃ a cap, v = .slice a l.length cap := by
  rcases h.2 with ⟨rfl, h0⟩ | ⟨g, cap, cur, rfl, _⟩
  · exact ⟨none, 0, by rw [h0]⟩
  · exact ⟨_, _, rfl⟩

theorem StrRow.some {w : World} {B : Nat} {v : Value} {l : List (List UInt8)} (h : StrRow w B v l) (h0 : 0 < l.length) :
    ∃ g cap, v = .slice (some ⟨g, 0, none⟩) l.length cap ∧ ∀ i (hi : i < l.length), w.cell? ⟨g, i, none⟩ = some (.string ⟨(l[i]).toArray⟩) := by
  rcases h.2 with ⟨rfl, h1⟩ | ⟨g, cap, cur, rfl, _, hh, _⟩
  · omega
  · refine ⟨g, cap, rfl, fun i hi => ?_⟩
    have := World.ownsRow.cells h (g := g) rfl i (.string ⟨(l[i]).toArray⟩) (by simp [hi])
    rwa [add_off, Nat.zero_add] at this

theorem Split_ok (p : ByteArray) (l : List (List UInt8)) (hl : splitOf p.data.toList = some l) (w : World) (hp : p.size ≤ 9223372036854775807) :
    Calls Try.prog 17 #[.string p] w fun e w' => (∃ v, e = .returned (.tuple #[v, .int .i64 0]) ∧ StrRow w' w.heap.size v l) ∧ Below w.heap.size w w' := by
  refine (Split_any p w hp).mono ?_
  rintro e w' ⟨⟨v, h⟩, b⟩
  rw [hl] at h
  exact ⟨⟨v, h⟩, b⟩
theorem Split_no (p : ByteArray) (hl : splitOf p.data.toList = none) (w : World) (hp : p.size ≤ 9223372036854775807) :
    Calls Try.prog 17 #[.string p] w fun e w' => e = .returned (.tuple #[.slice none 0 0, .int .i64 1]) ∧ Below w.heap.size w w' := by
  refine (Split_any p w hp).mono ?_
  rintro e w' ⟨⟨v, h⟩, b⟩
  rw [hl] at h
  obtain ⟨rfl, rfl⟩ := h
  exact ⟨rfl, b⟩

theorem begun20 (w : World) : Calls Try.prog 16 #[] w fun e w' => e = .returned (.bool true) ∧ Below w.heap.size w w' := by
  go_enter Try.func16, Try.ntmps16
  go_wp2_with fail
  refine (Split_ok _ [[97], [98]] (by decide) _ (by decide)).mono ?_
  rintro e w1 ⟨⟨v1, rfl, h1⟩, b1⟩
  go_wp2_with fail
  refine (Split_ok _ [] (by decide) _ (by decide)).mono ?_
  rintro e w2 ⟨⟨v2, rfl, h2⟩, b2⟩
  go_wp2_with fail
  refine (Split_no _ (by decide) _ (by decide)).mono ?_
  rintro e w3 ⟨rfl, b3⟩
  obtain ⟨g, cap, rfl, hc⟩ := ((h1.below b2).below b3).some (by decide)
  have hc0 := hc 0 (by decide)
  have hc1 := hc 1 (by decide)
  obtain ⟨a2, cap2, rfl⟩ := h2.any
  clear hc
  simp only [List.getElem_cons_zero, List.getElem_cons_succ] at hc0 hc1
  go_wp2_with fail
  go_ret
  refine ⟨rfl, ?_⟩
  have z1 := b1.size
  have z2 := b2.size
  exact (b1.trans (b2.mono z1)).trans (b3.mono (by omega))

theorem refSplit_ok (p : ByteArray) (l : List (List UInt8)) (hl : splitOf p.data.toList = some l) (w : World) (hp : p.size ≤ 9223372036854775807) :
    Calls Try.prog 18 #[.string p] w fun e w' => (∃ v, e = .returned (.tuple #[v, .int .i64 0]) ∧ StrRow w' w.heap.size v l) ∧ Below w.heap.size w w' := by
  refine (refSplit_any p w hp).mono ?_
  rintro e w' ⟨⟨v, h⟩, b⟩
  rw [hl] at h
  exact ⟨⟨v, h⟩, b⟩
theorem refSplit_no (p : ByteArray) (hl : splitOf p.data.toList = none) (w : World) (hp : p.size ≤ 9223372036854775807) :
    Calls Try.prog 18 #[.string p] w fun e w' => e = .returned (.tuple #[.slice none 0 0, .int .i64 1]) ∧ Below w.heap.size w w' := by
  refine (refSplit_any p w hp).mono ?_
  rintro e w' ⟨⟨v, h⟩, b⟩
  rw [hl] at h
  obtain ⟨rfl, rfl⟩ := h
  exact ⟨rfl, b⟩

theorem scan_len (q s : List UInt8) (l : List (List UInt8)) (h : scan q s = some l) : l.length ≤ s.length + 1 := by
  induction s generalizing q l with
  | nil =>
    simp only [scan, partOn] at h
    split at h
    · cases h; simp
    · split at h
      · cases h; simp
      · cases h
  | cons c s ih =>
    rw [scan] at h
    split at h
    · unfold partOn at h
      split at h
      · have := ih [] l h; simp; omega
      · split at h
        · obtain ⟨l', hl', rfl⟩ := Option.map_eq_some_iff.1 h
          have := ih [] l' hl'
          simp; omega
        · cases h
    · have := ih _ l h; simp; omega
theorem splitOf_len {p : List UInt8} {l : List (List UInt8)} (h : splitOf p = some l) : l.length ≤ 200 := by
  cases p with
  | nil => cases h
  | cons c r =>
    unfold splitOf at h
    dsimp only at h
    split at h
    · rename_i h1
      split at h
      · cases h; simp
      · have := scan_len [] r l h
        have h2 := h1.2
        simp only [List.length_cons] at h2
        omega
    · cases h

set_option maxHeartbeats 1000000 in
theorem walk_PathAll (p : ByteArray) (w : World) (hp : p.size ≤ maxLen) :
    Calls Try.prog 6 #[.string p] w fun e w' => e = .returned (.bool true) ∧ Below w.heap.size w w' := by
  unfold maxLen at hp
  by_cases h150 : (p.size : Int) ≤ 150
  · cases hl : splitOf p.data.toList with
    | none =>
      have Hl := Lib.hid hl
      clear hl
      go_enter Try.func6, Try.ntmps6
      go_wp2_with fail
      refine (begun20 _).mono ?_
      rintro e w1 ⟨rfl, b1⟩
      go_wp2_with fail
      refine (Split_no p Hl.out _ (by omega)).mono ?_
      rintro e w2 ⟨rfl, b2⟩
      go_wp2_with fail
      refine (refSplit_no p Hl.out _ (by omega)).mono ?_
      rintro e w3 ⟨rfl, b3⟩
      go_wp2_with fail
      refine wp_loop_rounds 1 ?_
      rw [rounds_succ]
      go_wp2_with fail
      go_ret
      have z1 := b1.size
      have z2 := b2.size
      exact ⟨rfl, (b1.trans (b2.mono z1)).trans (b3.mono (by omega))⟩
    | some l =>
      have hlen := splitOf_len hl
      have Hl := Lib.hid hl
      clear hl
      go_enter Try.func6, Try.ntmps6
      go_wp2_with fail
      refine (begun20 _).mono ?_
      rintro e w1 ⟨rfl, b1⟩
      go_wp2_with fail
      refine (Split_ok p l Hl.out _ (by omega)).mono ?_
      rintro e w2 ⟨⟨v, rfl, hv⟩, b2⟩
      go_wp2_with fail
      refine (refSplit_ok p l Hl.out _ (by omega)).mono ?_
      rintro e w3 ⟨⟨u, rfl, hu⟩, b3⟩
      have hv3 := hv.below b3
      have z1 := b1.size
      have z2 := b2.size
      have bb : Below w.heap.size w w3 := (b1.trans (b2.mono z1)).trans (b3.mono (by omega))
      obtain ⟨av, cv, rfl⟩ := hv.any
      obtain ⟨au, cu, rfl⟩ := hu.any
      go_wp2_with fail
      go_loopw [7] (fun i wr => ∃ k : Nat, k ≤ l.length ∧ i = .int .i64 k ∧ Below w3.heap.size w3 wr) (fun i _ => l.length - (intOf i).toNat)
      case atStart => exact ⟨0, Nat.zero_le _, rfl, Below.refl _ _⟩
      case round =>
        obtain ⟨k, hk, rfl, hb⟩ := hrel
        by_cases hlt : k < l.length
        · obtain ⟨gv, _, ev, hcv⟩ := (hv3.below hb).some (by omega)
          obtain ⟨gu, _, eu, hcu⟩ := (hu.below hb).some (by omega)
          have hcv := hcv k hlt
          have hcu := hcu k hlt
          simp only [Value.slice.injEq, true_and] at ev eu
          obtain ⟨rfl, _⟩ := ev
          obtain ⟨rfl, _⟩ := eu
          generalize l[k] = x at *
          have f1 : (k : Int) < (l.length : Int) := by omega
          have f2 : (0 : Int) ≤ (k : Int) := by omega
          go_wp2_with fail
          go_quiet (fail)
          go_wp2_with fail
          go_roundw
          case rel => exact ⟨k + 1, by omega, by go_num, hb.trans ((below_drewN _ _).mono hb.size)⟩
          case measure => simp [intOf]; omega
        · go_wp2_with fail
          go_ret
          exact ⟨rfl, bb.trans (hb.mono bb.size)⟩
  · go_enter Try.func6, Try.ntmps6
    go_wp2_with fail
    refine (begun20 _).mono ?_
    rintro e w1 ⟨rfl, b1⟩
    go_wp2_with fail
    go_ret
    exact ⟨rfl, b1⟩

end Go.Proofs.Ytbadpgbichnemaa
