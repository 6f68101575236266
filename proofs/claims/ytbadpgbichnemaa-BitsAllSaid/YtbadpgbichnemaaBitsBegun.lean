/- DERIVED. clathrilaw10.begun returns true. -/
import Derived.Test.YtbadpgbichnemaaBits
namespace Go.Proofs.Ytbadpgbichnemaa
open Go.RowKit

theorem Set_to {b q : Nat} {l : List Bool} (i : Int) (w : World) (r : Bool) (l' : List Bool) (h : BitsAt w b q l) (hr : (bitAt l i == some false) = r) (hl : bitSet l i true = l') :
    Calls Try.prog 11 #[.pointer (some ⟨b, 0, none⟩), .int .i64 i] w fun e w' => e = .returned (.bool r) ∧ BitsAt w' b q l' ∧ Keeps (· = q) w w' := by
  subst hr hl; exact Set_any i w h
theorem Clear_to {b q : Nat} {l : List Bool} (i : Int) (w : World) (r : Bool) (l' : List Bool) (h : BitsAt w b q l) (hr : (bitAt l i == some true) = r) (hl : bitSet l i false = l') :
    Calls Try.prog 12 #[.pointer (some ⟨b, 0, none⟩), .int .i64 i] w fun e w' => e = .returned (.bool r) ∧ BitsAt w' b q l' ∧ Keeps (· = q) w w' := by
  subst hr hl; exact Clear_any i w h
theorem Is_to {b q : Nat} {l : List Bool} (i : Int) (w : World) (r : Bool) (h : BitsAt w b q l) (hr : (bitAt l i == some true) = r) :
    Calls Try.prog 15 #[.pointer (some ⟨b, 0, none⟩), .int .i64 i] w fun e w' => e = .returned (.bool r) ∧ w = w' := by
  subst hr; exact Is_any i w h
theorem First_to {b q : Nat} {l : List Bool} (w : World) (r : Value) (h : BitsAt w b q l) (hr : firstVal (firstFrom l 0) = r) :
    Calls Try.prog 13 #[.pointer (some ⟨b, 0, none⟩)] w fun e w' => e = .returned r ∧ w = w' := by
  subst hr; exact First_any w h
theorem Left_to {b q : Nat} {l : List Bool} (w : World) (n : Int) (h : BitsAt w b q l) (hr : ((l.count false : Nat) : Int) = n) :
    Calls Try.prog 14 #[.pointer (some ⟨b, 0, none⟩)] w fun e w' => e = .returned (.int .i64 n) ∧ w = w' := by
  subst hr; exact Left_any w h
theorem New_to (n : Int) (w : World) (l : List Bool) (hl : List.replicate (min (max n 0) 200).toNat false = l) :
    Calls Try.prog 10 #[.int .i64 n] w fun e w' => e = .returned (.pointer (some ⟨w.heap.size + 1, 0, none⟩)) ∧
      BitsAt w' (w.heap.size + 1) w.heap.size l ∧ Below w.heap.size w w' := by
  subst hl; exact New_any n w

set_option maxHeartbeats 400000 in
theorem begun10 (w : World) : Calls Try.prog 9 #[] w fun e w' => e = .returned (.bool true) ∧ Below w.heap.size w w' := by
  go_enter Try.func9, Try.ntmps9
  go_wp2_with fail
  refine (New_to 2 _ [false, false] rfl).mono ?_
  rintro e w1 ⟨rfl, h1, b1⟩
  go_wp2_with fail
  refine (Set_to 0 _ true [true, false] h1 rfl rfl).mono ?_
  rintro e w2 ⟨rfl, h2, k2⟩
  go_wp2_with fail
  refine (First_to _ (.tuple #[.int .i64 1, .bool true]) h2 (by simp [firstFrom, firstVal])).mono ?_
  rintro e w' ⟨rfl, rfl⟩
  go_wp2_with fail
  refine (Set_to 0 _ false [true, false] h2 rfl rfl).mono ?_
  rintro e w3 ⟨rfl, h3, k3⟩
  go_wp2_with fail
  refine (Is_to 0 _ true h3 rfl).mono ?_
  rintro e w' ⟨rfl, rfl⟩
  go_wp2_with fail
  refine (Left_to _ 1 h3 rfl).mono ?_
  rintro e w' ⟨rfl, rfl⟩
  go_wp2_with fail
  refine (Clear_to 0 _ true [false, false] h3 rfl rfl).mono ?_
  rintro e w4 ⟨rfl, h4, k4⟩
  go_wp2_with fail
  refine (Clear_to 0 _ false [false, false] h4 rfl rfl).mono ?_
  rintro e w5 ⟨rfl, h5, k5⟩
  go_wp2_with fail
  go_ret
  refine ⟨rfl, ?_⟩
  have hs := b1.size
  exact b1.trans ((((k2.trans k3).trans k4).trans k5).below hs (by rintro _ rfl; exact Nat.le_refl _))

end Go.Proofs.Ytbadpgbichnemaa
