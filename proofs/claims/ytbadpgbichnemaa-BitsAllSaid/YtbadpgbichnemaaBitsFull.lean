/- DERIVED. clathrilaw10.BitsFull returns true. -/
import Derived.Test.YtbadpgbichnemaaBitsBegun
import Derived.Test.YtbadpgbichnemaaLibB
namespace Go.Proofs.Ytbadpgbichnemaa
open Go.RowKit

theorem first_some {l : List Bool} {f : Nat} : ∀ {k : Nat}, firstFrom l k = some f → k ≤ f ∧ l[f]? = some false ∧ ∀ j, k ≤ j → j < f → l[j]? = some true := by
  intro k
  induction h : l.length - k generalizing k with
  | zero => intro e; rw [firstFrom_none (by omega)] at e; cases e
  | succ n ih =>
    intro e
    have hk : k < l.length := by omega
    cases hv : l[k] with
    | false =>
      rw [firstFrom_no hk hv] at e
      cases e
      exact ⟨Nat.le_refl _, by rw [List.getElem?_eq_getElem hk, hv], fun j h1 h2 => by omega⟩
    | true =>
      rw [firstFrom_yes hk hv] at e
      obtain ⟨h1, h2, h3⟩ := ih (by omega) e
      refine ⟨by omega, h2, fun j h4 h5 => ?_⟩
      rcases Nat.lt_or_ge k j with h6 | h6
      · exact h3 j h6 h5
      · obtain rfl : j = k := by omega
        rw [List.getElem?_eq_getElem hk, hv]

theorem first_none {l : List Bool} : ∀ {k : Nat}, firstFrom l k = none → ∀ j, k ≤ j → j < l.length → l[j]? = some true := by
  intro k
  induction h : l.length - k generalizing k with
  | zero => intro _ j h1 h2; omega
  | succ n ih =>
    intro e j h1 h2
    have hk : k < l.length := by omega
    cases hv : l[k] with
    | false => rw [firstFrom_no hk hv] at e; cases e
    | true =>
      rw [firstFrom_yes hk hv] at e
      rcases Nat.lt_or_ge k j with h6 | h6
      · exact ih (by omega) e j h6 h2
      · obtain rfl : j = k := by omega
        rw [List.getElem?_eq_getElem hk, hv]

theorem count_zero_iff {l : List Bool} : l.count false = 0 ↔ firstFrom l 0 = none := by
  constructor
  · intro h
    cases hf : firstFrom l 0 with
    | none => rfl
    | some f =>
      obtain ⟨_, h2, _⟩ := first_some hf
      have : false ∈ l := List.mem_of_getElem? h2
      have := List.count_pos_iff.2 this
      omega
  · intro h
    rw [List.count_eq_zero]
    intro hm
    obtain ⟨j, hj⟩ := List.getElem?_of_mem hm
    have hlt : j < l.length := by
      rcases Nat.lt_or_ge j l.length with h' | h'
      · exact h'
      · rw [List.getElem?_eq_none h'] at hj; cases hj
    rw [first_none h j (Nat.zero_le _) hlt] at hj
    cases hj

theorem count_set_true {l : List Bool} {f : Nat} (h : l[f]? = some false) : (l.set f true).count false + 1 = l.count false := by
  induction l generalizing f with
  | nil => simp at h
  | cons x r ih =>
    cases f with
    | zero => simp at h; subst h; simp
    | succ f =>
      simp at h
      have := ih h
      simp only [List.set_cons_succ, List.count_cons]
      omega

theorem bitSet_count {l : List Bool} {i : Int} (h : (bitAt l i == some false) = true) : (bitSet l i true).count false + 1 = l.count false := by
  have h1 : bitAt l i = some false := by simpa using h
  rw [bitSet, h1, if_pos (by simp)]
  unfold bitAt at h1
  split at h1
  · exact count_set_true h1
  · cases h1
theorem bitSet_same {l : List Bool} {i : Int} (h : (bitAt l i == some false) = false) : bitSet l i true = l := by
  have h1 : bitAt l i ≠ some false := by simpa using h
  rw [bitSet, if_neg (by simpa using h1)]

/-- All places up to m are set. -/
def Risen (l : List Bool) (m : Int) : Prop := ∀ j : Nat, (j : Int) ≤ m → l[j]? = some true

theorem risen_set {l : List Bool} {m : Int} {x : Nat} (_ : Risen l m) (hf : firstFrom l 0 = some x) : Risen (bitSet l x true) x := by
  obtain ⟨_, h2, h3⟩ := first_some hf
  intro j hj
  have hb : bitSet l x true = l.set x true := by
    unfold bitSet
    rw [if_pos (by simp [bitAt, h2])]
    simp
  rw [hb, List.getElem?_set]
  split
  · rename_i h
    subst h
    rw [if_pos]
    rcases Nat.lt_or_ge x l.length with h' | h'
    · exact h'
    · rw [List.getElem?_eq_none h'] at h2; cases h2
  · exact h3 j (Nat.zero_le _) (by omega)

set_option maxHeartbeats 1000000 in
theorem walk_BitsFull {H : Type} {enc : TypeId × Value → H} {d : DataW H} {p : List MemPlace} (n : Int) (a : Option Addr) (len cap : Nat) (w : World) (wn : (Lit.int .u8 n).wf = true)
    (h : DataW.Trod enc Try.prog w 0 (fun _ => true) true 33 (.slice a len cap) d p) :
    Calls Try.prog 4 #[.int .u8 n, .slice a len cap] w fun e w' => e = .returned (.bool true) ∧ Below w.heap.size w w' := by
  obtain ⟨hmax, f, hf⟩ := flat_ints Try.underlying33 Try.underlying5 (by kernel_rfl) h
  have hn := bounds_u8 wn
  clear wn h
  unfold maxLen at hmax
  by_cases hlen : (len : Int) ≤ 40
  · go_enter Try.func4, Try.ntmps4
    go_wp2_with fail
    refine (begun10 _).mono ?_
    rintro e w0 ⟨rfl, b0⟩
    obtain ⟨K, hK⟩ : ∃ K : Nat, n % 120 = K := ⟨(n % 120).toNat, by omega⟩
    have hK2 : K < 120 := by omega
    go_wp2_with fail
    rw [hK]
    refine (New_to K _ (List.replicate K false) (by rw [show (min (max (K : Int) 0) 200).toNat = K by omega])).mono ?_
    rintro e w1 ⟨rfl, g1, b1⟩
    have z0 := b0.size
    have z1 := b1.size
    have s1 := block_lt g1.head
    have hc1 : (List.replicate K false).count false = K := by simp
    have bb := b0.trans (b1.mono z0)
    clear b0 b1
    generalize w0.heap.size = q at *
    have Hl : ∃ l : List Bool, BitsAt w1 (q + 1) q l ∧ l.length = K ∧ l.count false = K := ⟨_, g1, by simp, hc1⟩
    clear g1 hc1
    go_wp2_with fail
    go_loopw [7, 8] (fun left i wr => ∃ (k : Nat) (l : List Bool), k ≤ len ∧ i = .int .i64 k ∧ BitsAt wr (q + 1) q l ∧ l.length = K ∧ left = .int .i64 (l.count false : Nat) ∧ Below w.heap.size w wr) (fun _ i _ => len - (intOf i).toNat)
    case atStart =>
      obtain ⟨l, g, h1, h2⟩ := Hl
      exact ⟨0, l, Nat.zero_le _, rfl, g, h1, by rw [h2], bb⟩
    case round =>
      clear Hl bb
      obtain ⟨k, l, hk, rfl, g, hl, rfl, bb⟩ := hrel
      have hcl : l.count false ≤ K := by rw [← hl]; exact List.count_le_length
      have Hl := Lib.hid hl
      clear hl
      by_cases hlt : k < len
      · obtain ⟨fb, fo, fa, fc⟩ := hf.below bb
        obtain ⟨rfl, fbl⟩ := fa (by omega)
        obtain ⟨hc, hw⟩ := fc k hlt
        have hfb := bounds_u8 hw
        clear fa fc hw
        cases hv : bitAt l (f k) == some false
        · have hs := Lib.hid (bitSet_same hv)
          go_wp2_with ((go_at_call 11; refine (Set_to (f k) _ false _ g hv rfl).mono ?_; rintro e w2 ⟨rfl, g2, k2⟩))
          go_roundw
          case rel => exact ⟨k + 1, l, by omega, by go_num, by rw [← hs.out]; exact g2, Hl.out, rfl, bb.trans (k2.below bb.size (by rintro _ rfl; omega))⟩
          case measure => simp [intOf]; omega
        · have hs := bitSet_count hv
          have hs2 : 1 ≤ l.count false := by omega
          have Hs := Lib.hid hs
          have hlen2 : (bitSet l (f k) true).length = l.length := by unfold bitSet; split <;> simp
          have Hlen := Lib.hid hlen2
          clear hs hlen2
          go_wp2_with ((go_at_call 11; refine (Set_to (f k) _ true _ g hv rfl).mono ?_; rintro e w2 ⟨rfl, g2, k2⟩))
          go_roundw
          case rel => exact ⟨k + 1, _, by omega, by go_num, g2, Hlen.out.trans Hl.out, by rw [← Hs.out]; congr 1; omega, bb.trans (k2.below bb.size (by rintro _ rfl; omega))⟩
          case measure => simp [intOf]; omega
      · go_wp2_with fail
        go_loopw [7, 9] (fun left last wr => ∃ (l : List Bool) (m : Int), left = .int .i64 (l.count false : Nat) ∧ last = .int .i64 m ∧ -1 ≤ m ∧ m < 120 ∧ Risen l m ∧ BitsAt wr (q + 1) q l ∧ l.length = K ∧ Below w.heap.size w wr) (fun left _ _ => (intOf left).toNat)
        case atStart => exact ⟨l, -1, rfl, rfl, by omega, by omega, fun j h => absurd h (by omega), g, Hl.out, bb⟩
        case round =>
          clear hf Hl bb hcl g hk hlt hlen hmax
          obtain ⟨l, m, rfl, rfl, hm1, hm2, hr, g, hl, bb⟩ := hrel
          have hcl : l.count false ≤ K := by rw [← hl]; exact List.count_le_length
          have Hl := Lib.hid hl
          have Hr := Lib.hid hr
          clear hl hr
          cases hff : firstFrom l 0 with
          | none =>
            have hz := count_zero_iff.2 hff
            have Hff := Lib.hid hff
            clear hff
            rw [hz]
            clear hcl
            have hd : decide (0 < ((0 : Nat) : Int)) = false := rfl
            go_wp2_with fail
            refine (First_to _ (.tuple #[.int .i64 0, .bool false]) g (by rw [Hff.out]; rfl)).mono ?_
            rintro e w' ⟨rfl, rfl⟩
            go_wp2_with fail
            refine (Left_to _ 0 g (by rw [hz]; rfl)).mono ?_
            rintro e w' ⟨rfl, rfl⟩
            go_wp2_with fail
            go_ret
            exact ⟨rfl, bb⟩
          | some x =>
            obtain ⟨_, h2, _⟩ := first_some hff
            have hlx : x < K := by
              rcases Nat.lt_or_ge x l.length with h' | h'
              · have := Hl.out; omega
              · rw [List.getElem?_eq_none h'] at h2; cases h2
            have hmx : m < x := by
              rcases Int.lt_or_le m x with h' | h'
              · exact h'
              · rw [Hr.out x h'] at h2; cases h2
            have hpos : 1 ≤ l.count false := by
              have : false ∈ l := List.mem_of_getElem? h2
              exact List.count_pos_iff.2 this
            have hba : (bitAt l x == some false) = true := by simp [bitAt, h2]
            have Hn := Lib.hid (bitSet_count hba)
            have Hr2 := Lib.hid (risen_set Hr.out hff)
            have Hlen := Lib.hid (show (bitSet l x true).length = l.length by unfold bitSet; split <;> simp)
            have Hff := Lib.hid hff
            clear hff h2
            generalize hcc : l.count false = c at *
            have Hc := Lib.hid hcc
            clear hcc
            go_wp2_with fail
            refine (First_to _ (.tuple #[.int .i64 x, .bool true]) g (by rw [Hff.out]; rfl)).mono ?_
            rintro e w' ⟨rfl, rfl⟩
            go_wp2_with fail
            refine (Left_to _ c g (by rw [Hc.out])).mono ?_
            rintro e w' ⟨rfl, rfl⟩
            go_wp2_with fail
            refine (Set_to x _ true _ g hba rfl).mono ?_
            rintro e w2 ⟨rfl, g2, k2⟩
            go_wp2_with fail
            go_roundw
            case rel => exact ⟨_, x, by rw [← Hn.out]; congr 1; omega, rfl, by omega, by omega, Hr2.out, g2, Hlen.out.trans Hl.out, bb.trans (k2.below bb.size (by rintro _ rfl; omega))⟩
            case measure => simp [intOf]; omega
  · go_enter Try.func4, Try.ntmps4
    go_wp2_with fail
    refine (begun10 _).mono ?_
    rintro e w0 ⟨rfl, b0⟩
    go_wp2_with fail
    go_ret
    exact ⟨rfl, b0⟩

end Go.Proofs.Ytbadpgbichnemaa
