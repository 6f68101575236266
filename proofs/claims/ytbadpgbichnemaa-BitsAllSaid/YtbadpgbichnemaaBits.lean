/- DERIVED. Contracts of package bits: New, there, Set, Clear, Is, First, Left. -/
import Derived.Test.YtbadpgbichnemaaProg
import Derived.Test.YtbadpgbichnemaaLibA
namespace Go.Proofs.Ytbadpgbichnemaa
open Go.RowKit

/-- A Bits at block b: its slice's row is block q. -/
structure BitsAt (w : World) (b q : Nat) (l : List Bool) : Prop where
  head : w.heap[b]? = some (.cells #[.slice (some ⟨q, 0, none⟩) l.length l.length] 43 (0, 0))
  row : w.heap[q]? = some (.cells (l.map Value.bool).toArray 4 (0, 0))
  le : l.length ≤ 200

theorem BitsAt.cell0 {w : World} {b q : Nat} {l : List Bool} (h : BitsAt w b q l) : w.cell? ⟨b, 0, none⟩ = some (.slice (some ⟨q, 0, none⟩) l.length l.length) := by
  simp [World.cell?, h.head]
theorem BitsAt.cell {w : World} {b q : Nat} {l : List Bool} (h : BitsAt w b q l) (i : Nat) (hi : i < l.length) : w.cell? ⟨q, i, none⟩ = some (.bool l[i]) := by
  simp [World.cell?, h.row, hi]
theorem BitsAt.free {w : World} {b q : Nat} {l : List Bool} (h : BitsAt w b q l) (i : Nat) : w.frozen? ⟨q, i, none⟩ = false := by
  simp [World.frozen?, h.row]
theorem BitsAt.ne {w : World} {b q : Nat} {l : List Bool} (h : BitsAt w b q l) : b ≠ q := by
  rintro rfl
  have h2 := h.row
  rw [h.head] at h2
  simp at h2
theorem BitsAt.keeps {S : Nat → Prop} {w w' : World} {b q : Nat} {l : List Bool} (h : BitsAt w b q l) (k : Keeps S w w') (hb : ¬ S b) (hq : ¬ S q) : BitsAt w' b q l :=
  ⟨by rw [k.block b (block_lt h.head) hb]; exact h.head, by rw [k.block q (block_lt h.row) hq]; exact h.row, h.le⟩

section
attribute [local go_sem] ite_max ite_min

theorem mk_bools (n : Int) (w : World) (h0 : 0 ≤ n) (h1 : n ≤ 1000000) :
    (Instr.makeSlice 26 (.int .i64 n) (.int .i64 n)).run Try.prog w = .ok (.slice (some ⟨w.heap.size, 0, none⟩) n.toNat n.toNat) (w.alloc (.cells (List.replicate n.toNat (.bool false)).toArray 4)) :=
  run_make1 _ _ _ (.bool false) (by kernel_rfl) (Option.some_get (by kernel_rfl)).symm (by kernel_rfl) rfl (by kernel_rfl) (by decide +kernel) n w h0 h1

set_option maxHeartbeats 400000 in
theorem New_any (n : Int) (w : World) :
    Calls Try.prog 10 #[.int .i64 n] w fun e w' => e = .returned (.pointer (some ⟨w.heap.size + 1, 0, none⟩)) ∧
      BitsAt w' (w.heap.size + 1) w.heap.size (List.replicate (min (max n 0) 200).toNat false) ∧ Below w.heap.size w w' := by
  have hmk := mk_bools (min (max n 0) 200) w (by omega) (by omega)
  go_enter Try.func10, Try.ntmps10
  go_wp2
  go_ret
  refine ⟨rfl, ⟨?_, ?_, ?_⟩, ?_⟩
  · rw [heap_alloc_if, if_pos (by simp)]; simp
  · rw [heap_alloc_if, if_neg (by simp), heap_alloc_if, if_pos rfl]; simp
  · simp; omega
  · exact ((Below.refl _ _).alloc (Nat.le_refl _) _).alloc (by simp) _
end

theorem there_nil (i : Int) (w : World) :
    Calls Try.prog 19 #[.pointer none, .int .i64 i] w fun e w' => e = .returned (.bool false) ∧ w = w' := by
  go_enter Try.func19, Try.ntmps19
  go_wp2
  go_ret
  exact ⟨rfl, rfl⟩

def isIn (l : List Bool) (i : Int) : Bool := decide (0 ≤ i) && decide (i < l.length)

theorem there_any {b q : Nat} {l : List Bool} (i : Int) (w : World) (h : BitsAt w b q l) :
    Calls Try.prog 19 #[.pointer (some ⟨b, 0, none⟩), .int .i64 i] w fun e w' => e = .returned (.bool (isIn l i)) ∧ w = w' := by
  have h0 := h.cell0
  have hl := h.le
  clear h
  by_cases h1 : 0 ≤ i
  · have d1 : decide (0 ≤ i) = true := by simpa using h1
    go_enter Try.func19, Try.ntmps19
    go_wp2
    go_ret
    exact ⟨by simp [isIn, h1], rfl⟩
  · have d1 : decide (0 ≤ i) = false := by simpa using h1
    go_enter Try.func19, Try.ntmps19
    go_wp2
    go_ret
    exact ⟨by simp [isIn, d1], rfl⟩

theorem Is_nil (i : Int) (w : World) :
    Calls Try.prog 15 #[.pointer none, .int .i64 i] w fun e w' => e = .returned (.bool false) ∧ w = w' := by
  go_enter Try.func15, Try.ntmps15
  go_wp2_with (go_at_call 19; refine (there_nil _ _).mono ?_; rintro e w' ⟨rfl, rfl⟩)
  go_ret
  exact ⟨rfl, rfl⟩

/-- What place i holds. -/
def bitAt (l : List Bool) (i : Int) : Option Bool := if 0 ≤ i then l[i.toNat]? else none

theorem bitAt_in {l : List Bool} {i : Int} (h0 : 0 ≤ i) (h1 : i < l.length) : bitAt l i = some (l[i.toNat]'(by omega)) := by
  simp [bitAt, h0, show i.toNat < l.length by omega]
theorem bitAt_out {l : List Bool} {i : Int} (h : ¬ (0 ≤ i ∧ i < l.length)) : bitAt l i = none := by
  unfold bitAt
  split
  · rw [List.getElem?_eq_none]; omega
  · rfl

theorem Is_any {b q : Nat} {l : List Bool} (i : Int) (w : World) (h : BitsAt w b q l) :
    Calls Try.prog 15 #[.pointer (some ⟨b, 0, none⟩), .int .i64 i] w fun e w' => e = .returned (.bool (bitAt l i == some true)) ∧ w = w' := by
  have h0 := h.cell0
  have hl := h.le
  by_cases h1 : 0 ≤ i ∧ i < l.length
  · obtain ⟨h1, h2⟩ := h1
    have d1 : isIn l i = true := by simp [isIn, h1, h2]
    have hc := h.cell i.toNat (by omega)
    have hb := bitAt_in h1 h2
    have Hb := Lib.hid hb
    clear hb
    go_enter Try.func15, Try.ntmps15
    go_wp2_with (go_at_call 19; refine (there_any _ _ h).mono ?_; rintro e w' ⟨rfl, rfl⟩)
    go_ret
    exact ⟨by rw [Hb.out]; cases l[i.toNat] <;> rfl, rfl⟩
  · have d1 : isIn l i = false := by simpa [isIn] using h1
    have Hb := Lib.hid (bitAt_out h1)
    go_enter Try.func15, Try.ntmps15
    go_wp2_with (go_at_call 19; refine (there_any _ _ h).mono ?_; rintro e w' ⟨rfl, rfl⟩)
    go_ret
    exact ⟨by rw [Hb.out]; rfl, rfl⟩

theorem BitsAt.set {w : World} {b q : Nat} {l : List Bool} (h : BitsAt w b q l) (i : Nat) (v : Bool) : BitsAt (w.setCell ⟨q, i, none⟩ (.bool v)) b q (l.set i v) := by
  refine ⟨?_, ?_, by simpa using h.le⟩
  · rw [heap_setCell_ne (show b ≠ (⟨q, i, none⟩ : Addr).block from h.ne), h.head]; simp
  · rw [heap_setCell_same h.row]; simp [List.map_set]

theorem Set_nil (i : Int) (w : World) :
    Calls Try.prog 11 #[.pointer none, .int .i64 i] w fun e w' => e = .returned (.bool false) ∧ w = w' := by
  go_enter Try.func11, Try.ntmps11
  go_wp2_with (go_at_call 19; refine (there_nil _ _).mono ?_; rintro e w' ⟨rfl, rfl⟩)
  go_ret
  exact ⟨rfl, rfl⟩

def bitSet (l : List Bool) (i : Int) (v : Bool) : List Bool := if bitAt l i = some !v then l.set i.toNat v else l

theorem Set_any {b q : Nat} {l : List Bool} (i : Int) (w : World) (h : BitsAt w b q l) :
    Calls Try.prog 11 #[.pointer (some ⟨b, 0, none⟩), .int .i64 i] w fun e w' =>
      e = .returned (.bool (bitAt l i == some false)) ∧ BitsAt w' b q (bitSet l i true) ∧ Keeps (· = q) w w' := by
  have h0 := h.cell0
  have hl := h.le
  by_cases h1 : 0 ≤ i ∧ i < l.length
  · obtain ⟨h1, h2⟩ := h1
    have d1 : isIn l i = true := by simp [isIn, h1, h2]
    have hc := h.cell i.toNat (by omega)
    have hf := h.free i.toNat
    have hb := bitAt_in h1 h2
    have hs := h.set i.toNat true
    rcases hv : l[i.toNat] with _ | _ <;> rw [hv] at hc hb <;> have Hb := Lib.hid hb <;> clear hb hv
    · go_enter Try.func11, Try.ntmps11
      go_wp2_with (go_at_call 19; refine (there_any _ _ h).mono ?_; rintro e w' ⟨rfl, rfl⟩)
      go_ret
      refine ⟨by rw [Hb.out]; rfl, ?_, Keeps.setCell _ _ _ rfl⟩
      rw [bitSet, Hb.out, if_pos (by simp)]
      exact hs
    · go_enter Try.func11, Try.ntmps11
      go_wp2_with (go_at_call 19; refine (there_any _ _ h).mono ?_; rintro e w' ⟨rfl, rfl⟩)
      go_ret
      refine ⟨by rw [Hb.out]; rfl, ?_, Keeps.refl _ _⟩
      rw [bitSet, Hb.out, if_neg (by simp)]
      exact h
  · have d1 : isIn l i = false := by simpa [isIn] using h1
    have Hb := Lib.hid (bitAt_out h1)
    go_enter Try.func11, Try.ntmps11
    go_wp2_with (go_at_call 19; refine (there_any _ _ h).mono ?_; rintro e w' ⟨rfl, rfl⟩)
    go_ret
    refine ⟨by rw [Hb.out]; rfl, ?_, Keeps.refl _ _⟩
    rw [bitSet, Hb.out, if_neg (by simp)]
    exact h

theorem Clear_nil (i : Int) (w : World) :
    Calls Try.prog 12 #[.pointer none, .int .i64 i] w fun e w' => e = .returned (.bool false) ∧ w = w' := by
  go_enter Try.func12, Try.ntmps12
  go_wp2_with (go_at_call 15; refine (Is_nil _ _).mono ?_; rintro e w' ⟨rfl, rfl⟩)
  go_ret
  exact ⟨rfl, rfl⟩

theorem Clear_any {b q : Nat} {l : List Bool} (i : Int) (w : World) (h : BitsAt w b q l) :
    Calls Try.prog 12 #[.pointer (some ⟨b, 0, none⟩), .int .i64 i] w fun e w' =>
      e = .returned (.bool (bitAt l i == some true)) ∧ BitsAt w' b q (bitSet l i false) ∧ Keeps (· = q) w w' := by
  have h0 := h.cell0
  have hl := h.le
  by_cases h1 : bitAt l i = some true
  · have d1 : (bitAt l i == some true) = true := by rw [h1]; rfl
    have hin : 0 ≤ i ∧ i < l.length := by
      by_cases hn : 0 ≤ i ∧ i < l.length
      · exact hn
      · rw [bitAt_out hn] at h1; cases h1
    obtain ⟨h2, h3⟩ := hin
    have hf := h.free i.toNat
    have hc := h.cell i.toNat (by omega)
    have hs := h.set i.toNat false
    have Hb := Lib.hid h1
    clear h1
    go_enter Try.func12, Try.ntmps12
    go_wp2_with (go_at_call 15; refine (Is_any _ _ h).mono ?_; rintro e w' ⟨rfl, rfl⟩)
    go_ret
    refine ⟨by rw [Hb.out]; rfl, ?_, Keeps.setCell _ _ _ rfl⟩
    rw [bitSet, Hb.out, if_pos (by simp)]
    exact hs
  · have d1 : (bitAt l i == some true) = false := by simpa using h1
    have Hb := Lib.hid h1
    clear h1
    go_enter Try.func12, Try.ntmps12
    go_wp2_with (go_at_call 15; refine (Is_any _ _ h).mono ?_; rintro e w' ⟨rfl, rfl⟩)
    go_ret
    refine ⟨by rw [d1]; rfl, ?_, Keeps.refl _ _⟩
    rw [bitSet, if_neg (by simpa using Hb.out)]
    exact h

/-- The least place from k on that is not set. -/
def firstFrom (l : List Bool) (k : Nat) : Option Nat := if h : k < l.length then (if l[k] then firstFrom l (k + 1) else some k) else none
  termination_by l.length - k

theorem firstFrom_none {l : List Bool} {k : Nat} (h : ¬ k < l.length) : firstFrom l k = none := by rw [firstFrom, dif_neg h]
theorem firstFrom_yes {l : List Bool} {k : Nat} (h : k < l.length) (hs : l[k] = true) : firstFrom l k = firstFrom l (k + 1) := by
  rw [firstFrom, dif_pos h, if_pos hs]
theorem firstFrom_no {l : List Bool} {k : Nat} (h : k < l.length) (hs : l[k] = false) : firstFrom l k = some k := by
  rw [firstFrom, dif_pos h, if_neg (by simp [hs])]

def firstVal (o : Option Nat) : Value := match o with | some k => .tuple #[.int .i64 k, .bool true] | none => .tuple #[.int .i64 0, .bool false]

theorem First_nil (w : World) :
    Calls Try.prog 13 #[.pointer none] w fun e w' => e = .returned (firstVal none) ∧ w = w' := by
  go_enter Try.func13, Try.ntmps13
  go_wp2
  go_step3
  go_wp2_with (first | go_step3 | (go_at_call 19; refine (there_nil _ _).mono ?_; rintro e w' ⟨rfl, rfl⟩))
  rw [Exit.noGoto_ret]
  go_ret2
  exact ⟨rfl, rfl⟩

def FirstJ (w : World) (b : Nat) (l : List Bool) (a' : Act) (w' : World) : Prop :=
  w' = w ∧ ∃ k : Nat, k ≤ l.length ∧ firstFrom l 0 = firstFrom l k ∧ ∃ u1 u5 u6 u7 u8 u9 u10 u11 u12 u13 u14 : Value, a' = { tmps := #[.pointer (some ⟨b, 0, none⟩), u1, .int .i64 0, .bool false, .int .i64 k, u5, u6, u7, u8, u9, u10, u11, u12, u13, u14], defers := [] }

theorem First_any {b q : Nat} {l : List Bool} (w : World) (h : BitsAt w b q l) :
    Calls Try.prog 13 #[.pointer (some ⟨b, 0, none⟩)] w fun e w' => e = .returned (firstVal (firstFrom l 0)) ∧ w = w' := by
  have hl := h.le
  go_enter Try.func13, Try.ntmps13
  go_wp2
  refine wp_scope_label 0 (FirstJ w b l) (fun a' _ => l.length - (intOf (a'.tmps.getD 4 undef)).toNat) rfl ?_ ?_
  · go_wp2
    exact ⟨rfl, 0, Nat.zero_le _, rfl, _, _, _, _, _, _, _, _, _, _, _, rfl⟩
  · rintro _ _ ⟨rfl, k, hk, hf, u1, u5, u6, u7, u8, u9, u10, u11, u12, u13, u14, rfl⟩
    have Hf := Lib.hid hf
    clear hf
    by_cases hlt : k < l.length
    · have d1 : isIn l k = true := by simp [isIn, hlt]
      have hb := bitAt_in (l := l) (i := k) (by omega) (by omega)
      rcases hv : l[k] with _ | _ <;> simp only [Int.toNat_natCast, hv] at hb
      · have d2 : (bitAt l k == some true) = false := by rw [hb]; rfl
        clear hb
        go_wp2_with (first | go_step3 | (go_at_call 19; refine (there_any _ _ h).mono ?_; rintro e w' ⟨rfl, rfl⟩) | (go_at_call 15; refine (Is_any _ _ h).mono ?_; rintro e w' ⟨rfl, rfl⟩))
        simp only [Exit.jump]
        go_ret2
        exact ⟨by rw [Hf.out, firstFrom_no hlt hv]; rfl, rfl⟩
      · have d2 : (bitAt l k == some true) = true := by rw [hb]; rfl
        clear hb
        go_wp2_with (first | go_step3 | (go_at_call 19; refine (there_any _ _ h).mono ?_; rintro e w' ⟨rfl, rfl⟩) | (go_at_call 15; refine (Is_any _ _ h).mono ?_; rintro e w' ⟨rfl, rfl⟩))
        refine ⟨rfl, ⟨rfl, k + 1, by omega, by rw [Hf.out, firstFrom_yes hlt hv], _, _, _, _, _, _, _, _, _, _, _, rfl⟩, ?_⟩
        simp [intOf]
        omega
    · have d1 : isIn l k = false := by simp [isIn]; omega
      go_wp2_with (first | go_step3 | (go_at_call 19; refine (there_any _ _ h).mono ?_; rintro e w' ⟨rfl, rfl⟩))
      simp only [Exit.jump]
      go_ret2
      exact ⟨by rw [Hf.out, firstFrom_none hlt]; rfl, rfl⟩

theorem Left_nil (w : World) :
    Calls Try.prog 14 #[.pointer none] w fun e w' => e = .returned (.int .i64 0) ∧ w = w' := by
  go_enter Try.func14, Try.ntmps14
  go_wp2
  go_ret
  exact ⟨rfl, rfl⟩

theorem count_succ (l : List Bool) (k : Nat) (h : k < l.length) : (l.take (k + 1)).count false = (l.take k).count false + if l[k] then 0 else 1 := by
  rw [List.take_succ_eq_append_getElem h, List.count_append]
  cases l[k] <;> rfl

theorem Left_any {b q : Nat} {l : List Bool} (w : World) (h : BitsAt w b q l) :
    Calls Try.prog 14 #[.pointer (some ⟨b, 0, none⟩)] w fun e w' => e = .returned (.int .i64 (l.count false : Nat)) ∧ w = w' := by
  have hl := h.le
  have h0 := h.cell0
  go_enter Try.func14, Try.ntmps14
  go_wp2
  go_loop [2, 12] (fun n i => ∃ k : Nat, k ≤ l.length ∧ i = .int .i64 k ∧ n = .int .i64 ((l.take k).count false : Nat)) (fun _ i => l.length - (intOf i).toNat)
  case atStart => exact ⟨0, Nat.zero_le _, rfl, rfl⟩
  case round =>
    obtain ⟨k, hk, rfl, rfl⟩ := hrel
    have hle : (l.take k).count false ≤ k := Nat.le_trans List.count_le_length (List.length_take_le _ _)
    by_cases hlt : k < l.length
    · have hc := h.cell k hlt
      have hs := count_succ l k hlt
      rcases hv : l[k] with _ | _ <;> rw [hv] at hs hc <;> simp at hs <;> have Hs := Lib.hid hs <;> clear hs hv
      · go_wp2
        go_round
        case rel => exact ⟨k + 1, by omega, by go_num, by rw [Hs.out]; go_num⟩
        case measure => simp [intOf]; omega
      · go_wp2
        go_round
        case rel => exact ⟨k + 1, by omega, by go_num, by rw [Hs.out]⟩
        case measure => simp [intOf]; omega
    · go_wp2
      go_ret
      exact ⟨by rw [List.take_of_length_le (by omega : l.length ≤ k)]; rfl, rfl⟩

end Go.Proofs.Ytbadpgbichnemaa
