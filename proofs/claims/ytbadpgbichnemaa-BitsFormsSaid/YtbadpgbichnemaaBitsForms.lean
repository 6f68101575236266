/- DERIVED. clathrilaw10.BitsForms returns true. -/
import Derived.Test.YtbadpgbichnemaaBitsBegun
namespace Go.Proofs.Ytbadpgbichnemaa
open Go.RowKit

set_option maxHeartbeats 400000 in
theorem walk_BitsForms (w : World) : Calls Try.prog 5 #[] w fun e w' => e = .returned (.bool true) ∧ Below w.heap.size w w' := by
  go_enter Try.func5, Try.ntmps5
  go_wp2_with fail
  refine (begun10 _).mono ?_
  rintro e w0 ⟨rfl, b0⟩
  go_wp2_with fail
  refine (New_to (-3) _ [] rfl).mono ?_
  rintro e w1 ⟨rfl, g1, b1⟩
  go_wp2_with fail
  refine (New_to 1000 _ (List.replicate 200 false) (by decide +kernel)).mono ?_
  rintro e w2 ⟨rfl, h2, b2⟩
  have g2 := g1.keeps (Keeps.of_below (S := fun _ => False) b2) id id
  go_wp2_with fail
  refine (First_to _ (.tuple #[.int .i64 0, .bool false]) g2 (by simp [firstFrom, firstVal])).mono ?_
  rintro e w' ⟨rfl, rfl⟩
  go_wp2_with fail
  refine (Left_to _ 0 g2 rfl).mono ?_
  rintro e w' ⟨rfl, rfl⟩
  go_wp2_with fail
  refine (Set_to 0 _ false [] g2 rfl rfl).mono ?_
  rintro e w3 ⟨rfl, g3, k3⟩
  have s1 := block_lt g1.head
  have h3 := h2.keeps k3 (by omega) (by omega)
  go_wp2_with fail
  refine (Left_to _ 200 h3 (by decide +kernel)).mono ?_
  rintro e w' ⟨rfl, rfl⟩
  go_wp2_with fail
  refine (Set_to 199 _ true (List.replicate 199 false ++ [true]) h3 (by decide +kernel) (by decide +kernel)).mono ?_
  rintro e w4 ⟨rfl, h4, k4⟩
  go_wp2_with fail
  refine (Set_to 200 _ false (List.replicate 199 false ++ [true]) h4 (by decide +kernel) (by decide +kernel)).mono ?_
  rintro e w5 ⟨rfl, h5, k5⟩
  go_wp2_with fail
  refine (Is_to 199 _ true h5 (by decide +kernel)).mono ?_
  rintro e w' ⟨rfl, rfl⟩
  go_wp2_with fail
  refine (Is_to 198 _ false h5 (by decide +kernel)).mono ?_
  rintro e w' ⟨rfl, rfl⟩
  go_wp2_with fail
  refine (Left_to _ 199 h5 (by decide +kernel)).mono ?_
  rintro e w' ⟨rfl, rfl⟩
  go_wp2_with fail
  go_ret
  refine ⟨rfl, ?_⟩
  have z0 := b0.size
  have z1 := b1.size
  have z2 := b2.size
  exact (((b0.trans (b1.mono z0)).trans (b2.mono (by omega))).trans (k3.below (by omega) (by rintro _ rfl; omega))).trans ((k4.trans k5).below (by have := k3.size; omega) (by rintro _ rfl; omega))

end Go.Proofs.Ytbadpgbichnemaa
