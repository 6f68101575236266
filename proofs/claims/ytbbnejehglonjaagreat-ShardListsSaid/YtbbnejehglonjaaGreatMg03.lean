/- DERIVED. Contracts and laws that the proofs of this seat share, part 3 of 40: InA InB. -/
import Derived.Test.YtbbnejehglonjaaGreatMg00
import Derived.Test.YtbbnejehglonjaaGreatMg02
/- DERIVED. Contracts of ino's spot, within, May, of whole numbers that floats hold. -/
namespace Go.Proofs.YtbbnejehglonjaaGreat
open Go.RowKit
attribute [local irreducible] Calls
set_option maxRecDepth 100000

/-- Floats of whole numbers from -1 on, held against others. -/
theorem ord_z (x : Int) (y : Nat) (h0 : -1 ≤ x) (hx : x < 9007199254740992) (hy : y < 9007199254740992) :
    (x < (y : Int) ∧ FloatKind.f64.format.order (floatOfInt .f64 x) (floatOfInt .f64 (y : Int)) = some .lt) ∨ (x = (y : Int) ∧ FloatKind.f64.format.order (floatOfInt .f64 x) (floatOfInt .f64 (y : Int)) = some .eq) ∨ ((y : Int) < x ∧ FloatKind.f64.format.order (floatOfInt .f64 x) (floatOfInt .f64 (y : Int)) = some .gt) := by
  obtain ⟨n, j, hr2, hj, h2⟩ := fz_scale y hy
  by_cases hneg : x < 0
  · obtain rfl : x = -1 := by omega
    have hr := read_fz (-1) (by decide) (by decide)
    left
    refine ⟨by omega, ?_⟩
    show Ieee.double.order _ _ = _
    unfold Ieee.Format.order
    rw [hr2, hr]
    unfold Ieee.Datum.order Ieee.signed
    simp only [Bool.false_eq_true, if_false, Nat.shiftLeft_eq]
    refine congrArg some (Int.compare_eq_lt.2 ?_)
    simp only [decide_eq_true (show (-1 : Int) < 0 by decide), if_true]
    have hp : 0 < ((-1 : Int).natAbs * 2 ^ (52 - (-1 : Int).natAbs.log2)) * 2 ^ (((-1 : Int).natAbs.log2 : Int) - 52 - min (((-1 : Int).natAbs.log2 : Int) - 52) j).toNat := Nat.mul_pos (Nat.mul_pos (by decide) (Nat.two_pow_pos _)) (Nat.two_pow_pos _)
    omega
  · obtain ⟨m, rfl⟩ := Int.eq_ofNat_of_zero_le (show 0 ≤ x by omega)
    have hm : m < 9007199254740992 := by omega
    obtain ⟨k, i, hr1, hi, h1⟩ := fz_scale m hm
    have hlt := scale_lt hi hj h1 h2
    have hgt := scale_lt hj hi h2 h1
    have ho : Ieee.double.order (floatOfInt .f64 (m : Int)) (floatOfInt .f64 (y : Int)) = some (compare ((k * 2 ^ (i - min i j).toNat : Nat) : Int) ((n * 2 ^ (j - min i j).toNat : Nat) : Int)) := by
      unfold Ieee.Format.order
      rw [hr1, hr2]
      unfold Ieee.Datum.order Ieee.signed
      simp only [Bool.false_eq_true, if_false, Nat.shiftLeft_eq]
    have hmin : min j i = min i j := Int.min_comm j i
    rw [hmin] at hgt
    by_cases h : m < y
    · left
      refine ⟨by omega, ?_⟩
      show Ieee.double.order _ _ = _
      rw [ho]
      exact congrArg some (Int.compare_eq_lt.2 (by have := hlt.2 h; omega))
    · right
      by_cases h' : y < m
      · right
        refine ⟨by omega, ?_⟩
        show Ieee.double.order _ _ = _
        rw [ho]
        exact congrArg some (Int.compare_eq_gt.2 (by have := hgt.2 h'; omega))
      · left
        refine ⟨by omega, ?_⟩
        show Ieee.double.order _ _ = _
        rw [ho]
        have e1 : ¬ (k * 2 ^ (i - min i j).toNat < n * 2 ^ (j - min i j).toNat) := fun e => h (hlt.1 e)
        have e2 : ¬ (n * 2 ^ (j - min i j).toNat < k * 2 ^ (i - min i j).toNat) := fun e => h' (hgt.1 e)
        exact congrArg some (Int.compare_eq_eq.2 (by omega))
/-- Is a number from one on, below another one? -/
def inside (x : Int) (a b : Nat) : Bool := decide ((a : Int) ≤ x) && decide (x < (b : Int))
theorem inoWithin_any (x : Int) (a b : Nat) (h0 : -1 ≤ x) (hx : x < 9007199254740992) (ha : a < 1000) (hb : b < 1000) (w : World) :
    Calls Tryz.prog 223 #[.float .f64 (floatOfInt .f64 x), .int .i64 a, .int .i64 b] w fun e w' => e = .returned (.bool (inside x a b)) ∧ w' = w := by
  rcases ord_z x a h0 hx (by omega) with ⟨h1, ho⟩ | ⟨h1, ho⟩ | ⟨h1, ho⟩
  · have Hr := Lib.hid (show inside x a b = false by unfold inside; rw [decide_eq_false (by omega)]; rfl)
    clear h1 h0 hx
    go_enter Tryz.func223, Tryz.ntmps223
    go_wp2_with fail
    go_ret
    exact ⟨by rw [Hr.out]; rfl, rfl⟩
  all_goals rcases ord_z x b h0 hx (by omega) with ⟨h2, hp⟩ | ⟨h2, hp⟩ | ⟨h2, hp⟩
  all_goals have Hr := Lib.hid (show inside x a b = decide (x < (b : Int)) by unfold inside; rw [decide_eq_true (show (a : Int) ≤ x by omega)]; rfl)
  all_goals have Hx := Lib.hid h2
  all_goals clear h1 h2 h0 hx
  all_goals go_enter Tryz.func223, Tryz.ntmps223
  all_goals go_wp2_with fail
  all_goals go_ret
  all_goals (have hh := Hx.out; refine ⟨?_, rfl⟩; rw [Hr.out]; first | (rw [decide_eq_true (show x < (b : Int) by omega)]; rfl) | (rw [decide_eq_false (show ¬ x < (b : Int) by omega)]; rfl))
theorem spot_any (l a g : Int) (w : World) : Calls Tryz.prog 221 #[.agg #[.int .i64 l, .int .i64 a, .int .u32 g]] w fun e w' => e = .returned (.complex .f64 (floatOfInt .f64 l) (floatOfInt .f64 a)) ∧ Below w.heap.size w w' := by
  go_enter Tryz.func221, Tryz.ntmps221
  go_wp2_with fail
  go_ret
  exact ⟨rfl, grow_alloc (Below.refl _ _) _⟩
theorem inoRoot_any (w : World) : Calls Tryz.prog 222 #[] w fun e w' => e = .returned (.agg #[.int .i64 (-1), .int .i64 0, .int .u32 0]) ∧ Below w.heap.size w w' := by
  go_enter Tryz.func222, Tryz.ntmps222
  go_wp2_with fail
  refine bodyPost_ret (results_one rfl (resOne_agg aggId rfl (rowAt_heap (show objAt _ _ = some (.cells _ 66 (0, 0)) by rw [objAt_alloc, if_pos rfl])) rfl)) rfl ?_
  exact ⟨rfl, grow_alloc (Below.refl _ _) _⟩
end Go.Proofs.YtbbnejehglonjaaGreat

/- DERIVED. Contract of ino.May. -/
namespace Go.Proofs.YtbbnejehglonjaaGreat
open Go.RowKit
attribute [local irreducible] Calls
set_option maxRecDepth 100000

theorem mayIns_ways (l a g : Int) : ((l == -1) = true ∧ (a == 0) = true ∧ (g == 0) = true ∧ mayID ⟨l, a, g⟩ = true) ∨
    ((l == -1) = true ∧ (a == 0) = false ∧ mayID ⟨l, a, g⟩ = false ∧ inside l 0 8 = false) ∨ ((l == -1) = true ∧ (a == 0) = true ∧ (g == 0) = false ∧ mayID ⟨l, a, g⟩ = false ∧ inside l 0 8 = false) ∨
    ((l == -1) = false ∧ mayID ⟨l, a, g⟩ = false ∧ inside l 0 8 = false) ∨ ((l == -1) = false ∧ mayID ⟨l, a, g⟩ = false ∧ inside l 0 8 = true ∧ inside a 1 200 = false) ∨
    ((l == -1) = false ∧ mayID ⟨l, a, g⟩ = decide (1 ≤ g) ∧ inside l 0 8 = true ∧ inside a 1 200 = true) := by
  have e : mayID ⟨l, a, g⟩ = ((decide (l = -1) && decide (a = 0) && decide (g = 0)) || (decide (0 ≤ l) && decide (l < 8) && decide (1 ≤ a) && decide (a < 200) && decide (1 ≤ g))) := by
    simp [mayID, Id.root, Bool.and_assoc]
  rw [e]
  unfold inside
  by_cases h1 : l = -1
  · subst h1
    by_cases h2 : a = 0 <;> by_cases h3 : g = 0 <;> simp [h2, h3]
  · by_cases h2 : 0 ≤ l
    · by_cases h3 : l < 8 <;> by_cases h4 : 1 ≤ a <;> by_cases h5 : a < 200 <;> simp [h1, h2, h3, h4, h5]
    · simp [h1, h2]
set_option maxHeartbeats 4000000 in
theorem inoMay_any (i : Id) (h0 : -1 ≤ i.label) (h1 : i.label < 9007199254740992) (h2 : -1 ≤ i.at_) (h3 : i.at_ < 9007199254740992) (w : World) : Calls Tryz.prog 191 #[.agg i.cells] w fun e w' => e = .returned (.bool (mayID i)) ∧ Below w.heap.size w w' := by
  obtain ⟨l, at_, gen⟩ := i
  dsimp only at h0 h1 h2 h3
  rw [show (⟨l, at_, gen⟩ : Id).cells = #[.int .i64 l, .int .i64 at_, .int .u32 gen] from rfl]
  have hW1 := fun w => inoWithin_any l 0 8 h0 h1 (by decide) (by decide) w
  have hW2 := fun w => inoWithin_any at_ 1 200 h2 h3 (by decide) (by decide) w
  rw [show ((0 : Nat) : Int) = 0 from rfl, show ((8 : Nat) : Int) = 8 from rfl] at hW1
  rw [show ((1 : Nat) : Int) = 1 from rfl, show ((200 : Nat) : Int) = 200 from rfl] at hW2
  have hc0 : (w.alloc (.cells #[.int .i64 l, .int .i64 at_, .int .u32 gen] 66)).cell? ⟨w.heap.size, 0, none⟩ = some (.int .i64 l) := World.cell?_alloc_new ..
  have hc1 : (w.alloc (.cells #[.int .i64 l, .int .i64 at_, .int .u32 gen] 66)).cell? ⟨w.heap.size, 1, none⟩ = some (.int .i64 at_) := World.cell?_alloc_new ..
  have hc2 : (w.alloc (.cells #[.int .i64 l, .int .i64 at_, .int .u32 gen] 66)).cell? ⟨w.heap.size, 2, none⟩ = some (.int .u32 gen) := World.cell?_alloc_new ..
  have hw : Below w.heap.size w (w.alloc (.cells #[.int .i64 l, .int .i64 at_, .int .u32 gen] 66)) := (Below.refl _ _).alloc (Nat.le_refl _) _
  obtain ⟨G, hG⟩ : ∃ G, G = w.heap.size := ⟨_, rfl⟩
  rw [← hG] at hc0 hc1 hc2
  have Hw := Lib.hid hw
  clear h0 h1 h2 h3 hw
  rcases mayIns_ways l at_ gen with ⟨e1, e2, e3, hm⟩ | ⟨e1, e2, hm, i1⟩ | ⟨e1, e2, e3, hm, i1⟩ | ⟨e1, hm, i1⟩ | ⟨e1, hm, i1, i2⟩ | ⟨e1, hm, i1, i2⟩
  · rw [hm]
    have HW1 := Lib.hid hW1
    have HW2 := Lib.hid hW2
    clear hW1 hW2 hm
    go_enter Tryz.func191, Tryz.ntmps191
    go_upto_region 1 with fail
    obtain ⟨w0, hw0⟩ : ∃ w0, w0 = w.alloc (.cells #[.int .i64 l, .int .i64 at_, .int .u32 gen] 66) := ⟨_, rfl⟩
    rw [← hw0] at hc0 hc1 hc2 Hw ⊢
    rw [← hG]
    clear hw0 hG
    go_upto_region 2 with (go_at_call 221; refine (spot_any l at_ gen _).mono ?_; rintro e w1 ⟨rfl, b1⟩)
    have hS : ∀ w', Below w1.heap.size w1 w' → (w'.cell? ⟨G, 0, none⟩ = some (.int .i64 l) ∧ w'.cell? ⟨G, 1, none⟩ = some (.int .i64 at_) ∧ w'.cell? ⟨G, 2, none⟩ = some (.int .u32 gen) ∧ Below w1.heap.size w1 w') :=
      fun w' hb => ⟨grow_cell (grow_trans b1 hb) hc0, grow_cell (grow_trans b1 hb) hc1, grow_cell (grow_trans b1 hb) hc2, hb⟩
    have Hb := Lib.hid (grow_trans Hw.out b1)
    clear b1
    refine wp_region_held_drew (S := fun w' => w'.cell? ⟨G, 0, none⟩ = some (.int .i64 l) ∧ w'.cell? ⟨G, 1, none⟩ = some (.int .i64 at_) ∧ w'.cell? ⟨G, 2, none⟩ = some (.int .u32 gen) ∧ Below w1.heap.size w1 w') (by kernel_rfl) (hS _ (Below.refl _ _).drew) (fun hHeld => ?_)
    show wpAnyH _ _ _ _ _ 19 #[false, false, false, false, false, false, false, false, false, false, false, false, false, false, false, false, false, false, false] _ _
    refine wpAnyH_take (i := 0) (v := ?kv1) rfl (by kernel_rfl) (by kernel_rfl) (by kernel_rfl) (fun _ _ _ h => h) (Or.inl ⟨by rfl, ?ky1⟩) (by assumption) ?kr1
    case ky1 => (intro w hSw; (try dsimp only at hSw); go_split_ands; (try simp only [qA, qB]); go_simp; (try with_reducible rfl))
    try simp only [Act.put, qA, qB, qD, qE, qF]
    refine wpAnyH_ready (rs := [1]) (by kernel_rfl) (by simp) ?_
    refine (AllReadyH.cons rfl (fun K hK => ?_) AllReadyH.nil)
    try simp only [qA, qB, qC]
    go_simp
    go_at_call 222; refine (inoRoot_any _).mono ?_; rintro e x1 ⟨rfl, y1⟩
    refine hK.out _ _ (by exact hS _ (grow_trans hHeld.2.2.2 y1)) (fun hHeldn => ?_)
    clear hHeld hK K
    have hHeld := hHeldn
    clear hHeldn
    try simp only [qD, qE, qF]
    refine wpAnyH_take (i := 2) (v := ?kv3) rfl (by kernel_rfl) (by kernel_rfl) (by kernel_rfl) (fun _ _ _ h => h) (Or.inl ⟨by rfl, ?ky3⟩) (by assumption) ?kr3
    case ky3 => (intro w hSw; (try dsimp only at hSw); go_split_ands; (try simp only [qA, qB, qC]); go_simp; (try with_reducible rfl))
    try simp only [Act.put, qA, qB, qC, qD, qE, qF]
    refine wpAnyH_take (i := 3) (v := ?kv4) rfl (by kernel_rfl) (by kernel_rfl) (by kernel_rfl) (fun _ _ _ h => h) (Or.inl ⟨by rfl, ?ky4⟩) (by assumption) ?kr4
    case ky4 => (intro w hSw; (try dsimp only at hSw); go_split_ands; (try simp only [qA, qB, qC]); go_simp; (try with_reducible rfl))
    try simp only [Act.put, qA, qB, qC, qD, qE, qF]
    refine wpAnyH_take (i := 4) (v := undef) rfl (by kernel_rfl) (by kernel_rfl) (by kernel_rfl) (fun _ _ _ h => h) (Or.inr ⟨?kz5, rfl⟩) (by assumption) ?kr5
    case kz5 => rfl
    try simp only [Act.put, qA, qB, qC, qD, qE, qF]
    refine wpAnyH_take (i := 5) (v := undef) rfl (by kernel_rfl) (by kernel_rfl) (by kernel_rfl) (fun _ _ _ h => h) (Or.inr ⟨?kz6, rfl⟩) (by assumption) ?kr6
    case kz6 => rfl
    try simp only [Act.put, qA, qB, qC, qD, qE, qF]
    refine wpAnyH_take (i := 6) (v := undef) rfl (by kernel_rfl) (by kernel_rfl) (by kernel_rfl) (fun _ _ _ h => h) (Or.inr ⟨?kz7, rfl⟩) (by assumption) ?kr7
    case kz7 => rfl
    try simp only [Act.put, qA, qB, qC, qD, qE, qF]
    refine wpAnyH_take (i := 7) (v := undef) rfl (by kernel_rfl) (by kernel_rfl) (by kernel_rfl) (fun _ _ _ h => h) (Or.inr ⟨?kz8, rfl⟩) (by assumption) ?kr8
    case kz8 => rfl
    try simp only [Act.put, qA, qB, qC, qD, qE, qF]
    refine wpAnyH_take (i := 8) (v := undef) rfl (by kernel_rfl) (by kernel_rfl) (by kernel_rfl) (fun _ _ _ h => h) (Or.inr ⟨?kz9, rfl⟩) (by assumption) ?kr9
    case kz9 => rfl
    try simp only [Act.put, qA, qB, qC, qD, qE, qF]
    refine wpAnyH_take (i := 9) (v := undef) rfl (by kernel_rfl) (by kernel_rfl) (by kernel_rfl) (fun _ _ _ h => h) (Or.inr ⟨?kz10, rfl⟩) (by assumption) ?kr10
    case kz10 => rfl
    try simp only [Act.put, qA, qB, qC, qD, qE, qF]
    refine wpAnyH_take (i := 10) (v := undef) rfl (by kernel_rfl) (by kernel_rfl) (by kernel_rfl) (fun _ _ _ h => h) (Or.inr ⟨?kz11, rfl⟩) (by assumption) ?kr11
    case kz11 => rfl
    try simp only [Act.put, qA, qB, qC, qD, qE, qF]
    refine wpAnyH_take (i := 11) (v := undef) rfl (by kernel_rfl) (by kernel_rfl) (by kernel_rfl) (fun _ _ _ h => h) (Or.inr ⟨?kz12, rfl⟩) (by assumption) ?kr12
    case kz12 => rfl
    try simp only [Act.put, qA, qB, qC, qD, qE, qF]
    refine wpAnyH_take (i := 12) (v := undef) rfl (by kernel_rfl) (by kernel_rfl) (by kernel_rfl) (fun _ _ _ h => h) (Or.inr ⟨?kz13, rfl⟩) (by assumption) ?kr13
    case kz13 => rfl
    try simp only [Act.put, qA, qB, qC, qD, qE, qF]
    refine wpAnyH_take (i := 13) (v := undef) rfl (by kernel_rfl) (by kernel_rfl) (by kernel_rfl) (fun _ _ _ h => h) (Or.inr ⟨?kz14, rfl⟩) (by assumption) ?kr14
    case kz14 => rfl
    try simp only [Act.put, qA, qB, qC, qD, qE, qF]
    refine wpAnyH_take (i := 14) (v := undef) rfl (by kernel_rfl) (by kernel_rfl) (by kernel_rfl) (fun _ _ _ h => h) (Or.inr ⟨?kz15, rfl⟩) (by assumption) ?kr15
    case kz15 => rfl
    try simp only [Act.put, qA, qB, qC, qD, qE, qF]
    refine wpAnyH_take (i := 15) (v := undef) rfl (by kernel_rfl) (by kernel_rfl) (by kernel_rfl) (fun _ _ _ h => h) (Or.inr ⟨?kz16, rfl⟩) (by assumption) ?kr16
    case kz16 => rfl
    try simp only [Act.put, qA, qB, qC, qD, qE, qF]
    refine wpAnyH_take (i := 16) (v := undef) rfl (by kernel_rfl) (by kernel_rfl) (by kernel_rfl) (fun _ _ _ h => h) (Or.inr ⟨?kz17, rfl⟩) (by assumption) ?kr17
    case kz17 => rfl
    try simp only [Act.put, qA, qB, qC, qD, qE, qF]
    refine wpAnyH_take (i := 17) (v := ?kv18) rfl (by kernel_rfl) (by kernel_rfl) (by kernel_rfl) (fun _ _ _ h => h) (Or.inl ⟨by rfl, ?ky18⟩) (by assumption) ?kr18
    case ky18 => (intro w hSw; (try dsimp only at hSw); go_split_ands; (try simp only [qA, qB, qC]); go_simp; (try with_reducible rfl))
    try simp only [Act.put, qA, qB, qC, qD, qE, qF]
    refine wpAnyH_take (i := 18) (v := ?kv19) rfl (by kernel_rfl) (by kernel_rfl) (by kernel_rfl) (fun _ _ _ h => h) (Or.inl ⟨by rfl, ?ky19⟩) (by assumption) ?kr19
    case ky19 => (intro w hSw; (try dsimp only at hSw); go_split_ands; (try simp only [qA, qB, qC]); go_simp; (try with_reducible rfl))
    try simp only [Act.put, qA, qB, qC, qD, qE, qF]
    refine wpAnyH_done (by kernel_rfl) ?_ _
    go_wp2_with fail
    go_ret
    exact ⟨rfl, grow_trans Hb.out hHeld.2.2.2⟩
  · rw [hm]
    rw [i1] at hW1
    have HW1 := Lib.hid hW1
    have HW2 := Lib.hid hW2
    clear hW1 hW2 hm
    go_enter Tryz.func191, Tryz.ntmps191
    go_upto_region 1 with fail
    obtain ⟨w0, hw0⟩ : ∃ w0, w0 = w.alloc (.cells #[.int .i64 l, .int .i64 at_, .int .u32 gen] 66) := ⟨_, rfl⟩
    rw [← hw0] at hc0 hc1 hc2 Hw ⊢
    rw [← hG]
    clear hw0 hG
    go_upto_region 2 with (go_at_call 221; refine (spot_any l at_ gen _).mono ?_; rintro e w1 ⟨rfl, b1⟩)
    have hS : ∀ w', Below w1.heap.size w1 w' → (w'.cell? ⟨G, 0, none⟩ = some (.int .i64 l) ∧ w'.cell? ⟨G, 1, none⟩ = some (.int .i64 at_) ∧ w'.cell? ⟨G, 2, none⟩ = some (.int .u32 gen) ∧ Below w1.heap.size w1 w') :=
      fun w' hb => ⟨grow_cell (grow_trans b1 hb) hc0, grow_cell (grow_trans b1 hb) hc1, grow_cell (grow_trans b1 hb) hc2, hb⟩
    have Hb := Lib.hid (grow_trans Hw.out b1)
    clear b1
    refine wp_region_held_drew (S := fun w' => w'.cell? ⟨G, 0, none⟩ = some (.int .i64 l) ∧ w'.cell? ⟨G, 1, none⟩ = some (.int .i64 at_) ∧ w'.cell? ⟨G, 2, none⟩ = some (.int .u32 gen) ∧ Below w1.heap.size w1 w') (by kernel_rfl) (hS _ (Below.refl _ _).drew) (fun hHeld => ?_)
    show wpAnyH _ _ _ _ _ 19 #[false, false, false, false, false, false, false, false, false, false, false, false, false, false, false, false, false, false, false] _ _
    refine wpAnyH_take (i := 0) (v := ?kv20) rfl (by kernel_rfl) (by kernel_rfl) (by kernel_rfl) (fun _ _ _ h => h) (Or.inl ⟨by rfl, ?ky20⟩) (by assumption) ?kr20
    case ky20 => (intro w hSw; (try dsimp only at hSw); go_split_ands; (try simp only [qA, qB]); go_simp; (try with_reducible rfl))
    try simp only [Act.put, qA, qB, qD, qE, qF]
    refine wpAnyH_ready (rs := [1]) (by kernel_rfl) (by simp) ?_
    refine (AllReadyH.cons rfl (fun K hK => ?_) AllReadyH.nil)
    try simp only [qA, qB, qC]
    go_simp
    go_at_call 222; refine (inoRoot_any _).mono ?_; rintro e x1 ⟨rfl, y1⟩
    refine hK.out _ _ (by exact hS _ (grow_trans hHeld.2.2.2 y1)) (fun hHeldn => ?_)
    clear hHeld hK K
    have hHeld := hHeldn
    clear hHeldn
    try simp only [qD, qE, qF]
    refine wpAnyH_take (i := 2) (v := ?kv22) rfl (by kernel_rfl) (by kernel_rfl) (by kernel_rfl) (fun _ _ _ h => h) (Or.inl ⟨by rfl, ?ky22⟩) (by assumption) ?kr22
    case ky22 => (intro w hSw; (try dsimp only at hSw); go_split_ands; (try simp only [qA, qB, qC]); go_simp; (try with_reducible rfl))
    try simp only [Act.put, qA, qB, qC, qD, qE, qF]
    refine wpAnyH_take (i := 3) (v := ?kv23) rfl (by kernel_rfl) (by kernel_rfl) (by kernel_rfl) (fun _ _ _ h => h) (Or.inl ⟨by rfl, ?ky23⟩) (by assumption) ?kr23
    case ky23 => (intro w hSw; (try dsimp only at hSw); go_split_ands; (try simp only [qA, qB, qC]); go_simp; (try with_reducible rfl))
    try simp only [Act.put, qA, qB, qC, qD, qE, qF]
    refine wpAnyH_take (i := 4) (v := ?kv24) rfl (by kernel_rfl) (by kernel_rfl) (by kernel_rfl) (fun _ _ _ h => h) (Or.inl ⟨by rfl, ?ky24⟩) (by assumption) ?kr24
    case ky24 => (intro w hSw; (try dsimp only at hSw); go_split_ands; (try simp only [qA, qB, qC]); go_simp; (try with_reducible rfl))
    try simp only [Act.put, qA, qB, qC, qD, qE, qF]
    refine wpAnyH_take (i := 5) (v := ?kv25) rfl (by kernel_rfl) (by kernel_rfl) (by kernel_rfl) (fun _ _ _ h => h) (Or.inl ⟨by rfl, ?ky25⟩) (by assumption) ?kr25
    case ky25 => (intro w hSw; (try dsimp only at hSw); go_split_ands; (try simp only [qA, qB, qC]); go_simp; (try with_reducible rfl))
    try simp only [Act.put, qA, qB, qC, qD, qE, qF]
    refine wpAnyH_ready (rs := [6]) (by kernel_rfl) (by simp) ?_
    refine (AllReadyH.cons rfl (fun K hK => ?_) AllReadyH.nil)
    try simp only [qA, qB, qC]
    go_simp
    go_at_call 223; refine (HW1.out _).mono ?_; rintro e x2 ⟨rfl, hx2⟩; obtain rfl := hx2.symm
    refine hK.out _ _ (by exact hHeld) (fun hHeldn => ?_)
    clear hHeld hK K
    have hHeld := hHeldn
    clear hHeldn
    try simp only [qD, qE, qF]
    refine wpAnyH_take (i := 7) (v := ?kv27) rfl (by kernel_rfl) (by kernel_rfl) (by kernel_rfl) (fun _ _ _ h => h) (Or.inl ⟨by rfl, ?ky27⟩) (by assumption) ?kr27
    case ky27 => (intro w hSw; (try dsimp only at hSw); go_split_ands; (try simp only [qA, qB, qC]); go_simp; (try with_reducible rfl))
    try simp only [Act.put, qA, qB, qC, qD, qE, qF]
    refine wpAnyH_take (i := 8) (v := undef) rfl (by kernel_rfl) (by kernel_rfl) (by kernel_rfl) (fun _ _ _ h => h) (Or.inr ⟨?kz28, rfl⟩) (by assumption) ?kr28
    case kz28 => rfl
    try simp only [Act.put, qA, qB, qC, qD, qE, qF]
    refine wpAnyH_take (i := 9) (v := undef) rfl (by kernel_rfl) (by kernel_rfl) (by kernel_rfl) (fun _ _ _ h => h) (Or.inr ⟨?kz29, rfl⟩) (by assumption) ?kr29
    case kz29 => rfl
    try simp only [Act.put, qA, qB, qC, qD, qE, qF]
    refine wpAnyH_take (i := 10) (v := undef) rfl (by kernel_rfl) (by kernel_rfl) (by kernel_rfl) (fun _ _ _ h => h) (Or.inr ⟨?kz30, rfl⟩) (by assumption) ?kr30
    case kz30 => rfl
    try simp only [Act.put, qA, qB, qC, qD, qE, qF]
    refine wpAnyH_take (i := 11) (v := ?kv31) rfl (by kernel_rfl) (by kernel_rfl) (by kernel_rfl) (fun _ _ _ h => h) (Or.inl ⟨by rfl, ?ky31⟩) (by assumption) ?kr31
    case ky31 => (intro w hSw; (try dsimp only at hSw); go_split_ands; (try simp only [qA, qB, qC]); go_simp; (try with_reducible rfl))
    try simp only [Act.put, qA, qB, qC, qD, qE, qF]
    refine wpAnyH_take (i := 12) (v := ?kv32) rfl (by kernel_rfl) (by kernel_rfl) (by kernel_rfl) (fun _ _ _ h => h) (Or.inl ⟨by rfl, ?ky32⟩) (by assumption) ?kr32
    case ky32 => (intro w hSw; (try dsimp only at hSw); go_split_ands; (try simp only [qA, qB, qC]); go_simp; (try with_reducible rfl))
    try simp only [Act.put, qA, qB, qC, qD, qE, qF]
    refine wpAnyH_take (i := 13) (v := undef) rfl (by kernel_rfl) (by kernel_rfl) (by kernel_rfl) (fun _ _ _ h => h) (Or.inr ⟨?kz33, rfl⟩) (by assumption) ?kr33
    case kz33 => rfl
    try simp only [Act.put, qA, qB, qC, qD, qE, qF]
    refine wpAnyH_take (i := 14) (v := undef) rfl (by kernel_rfl) (by kernel_rfl) (by kernel_rfl) (fun _ _ _ h => h) (Or.inr ⟨?kz34, rfl⟩) (by assumption) ?kr34
    case kz34 => rfl
    try simp only [Act.put, qA, qB, qC, qD, qE, qF]
    refine wpAnyH_take (i := 15) (v := undef) rfl (by kernel_rfl) (by kernel_rfl) (by kernel_rfl) (fun _ _ _ h => h) (Or.inr ⟨?kz35, rfl⟩) (by assumption) ?kr35
    case kz35 => rfl
    try simp only [Act.put, qA, qB, qC, qD, qE, qF]
    refine wpAnyH_take (i := 16) (v := ?kv36) rfl (by kernel_rfl) (by kernel_rfl) (by kernel_rfl) (fun _ _ _ h => h) (Or.inl ⟨by rfl, ?ky36⟩) (by assumption) ?kr36
    case ky36 => (intro w hSw; (try dsimp only at hSw); go_split_ands; (try simp only [qA, qB, qC]); go_simp; (try with_reducible rfl))
    try simp only [Act.put, qA, qB, qC, qD, qE, qF]
    refine wpAnyH_take (i := 17) (v := ?kv37) rfl (by kernel_rfl) (by kernel_rfl) (by kernel_rfl) (fun _ _ _ h => h) (Or.inl ⟨by rfl, ?ky37⟩) (by assumption) ?kr37
    case ky37 => (intro w hSw; (try dsimp only at hSw); go_split_ands; (try simp only [qA, qB, qC]); go_simp; (try with_reducible rfl))
    try simp only [Act.put, qA, qB, qC, qD, qE, qF]
    refine wpAnyH_take (i := 18) (v := ?kv38) rfl (by kernel_rfl) (by kernel_rfl) (by kernel_rfl) (fun _ _ _ h => h) (Or.inl ⟨by rfl, ?ky38⟩) (by assumption) ?kr38
    case ky38 => (intro w hSw; (try dsimp only at hSw); go_split_ands; (try simp only [qA, qB, qC]); go_simp; (try with_reducible rfl))
    try simp only [Act.put, qA, qB, qC, qD, qE, qF]
    refine wpAnyH_done (by kernel_rfl) ?_ _
    go_wp2_with fail
    go_ret
    exact ⟨rfl, grow_trans Hb.out hHeld.2.2.2⟩
  · rw [hm]
    rw [i1] at hW1
    have HW1 := Lib.hid hW1
    have HW2 := Lib.hid hW2
    clear hW1 hW2 hm
    go_enter Tryz.func191, Tryz.ntmps191
    go_upto_region 1 with fail
    obtain ⟨w0, hw0⟩ : ∃ w0, w0 = w.alloc (.cells #[.int .i64 l, .int .i64 at_, .int .u32 gen] 66) := ⟨_, rfl⟩
    rw [← hw0] at hc0 hc1 hc2 Hw ⊢
    rw [← hG]
    clear hw0 hG
    go_upto_region 2 with (go_at_call 221; refine (spot_any l at_ gen _).mono ?_; rintro e w1 ⟨rfl, b1⟩)
    have hS : ∀ w', Below w1.heap.size w1 w' → (w'.cell? ⟨G, 0, none⟩ = some (.int .i64 l) ∧ w'.cell? ⟨G, 1, none⟩ = some (.int .i64 at_) ∧ w'.cell? ⟨G, 2, none⟩ = some (.int .u32 gen) ∧ Below w1.heap.size w1 w') :=
      fun w' hb => ⟨grow_cell (grow_trans b1 hb) hc0, grow_cell (grow_trans b1 hb) hc1, grow_cell (grow_trans b1 hb) hc2, hb⟩
    have Hb := Lib.hid (grow_trans Hw.out b1)
    clear b1
    refine wp_region_held_drew (S := fun w' => w'.cell? ⟨G, 0, none⟩ = some (.int .i64 l) ∧ w'.cell? ⟨G, 1, none⟩ = some (.int .i64 at_) ∧ w'.cell? ⟨G, 2, none⟩ = some (.int .u32 gen) ∧ Below w1.heap.size w1 w') (by kernel_rfl) (hS _ (Below.refl _ _).drew) (fun hHeld => ?_)
    show wpAnyH _ _ _ _ _ 19 #[false, false, false, false, false, false, false, false, false, false, false, false, false, false, false, false, false, false, false] _ _
    refine wpAnyH_take (i := 0) (v := ?kv39) rfl (by kernel_rfl) (by kernel_rfl) (by kernel_rfl) (fun _ _ _ h => h) (Or.inl ⟨by rfl, ?ky39⟩) (by assumption) ?kr39
    case ky39 => (intro w hSw; (try dsimp only at hSw); go_split_ands; (try simp only [qA, qB]); go_simp; (try with_reducible rfl))
    try simp only [Act.put, qA, qB, qD, qE, qF]
    refine wpAnyH_ready (rs := [1]) (by kernel_rfl) (by simp) ?_
    refine (AllReadyH.cons rfl (fun K hK => ?_) AllReadyH.nil)
    try simp only [qA, qB, qC]
    go_simp
    go_at_call 222; refine (inoRoot_any _).mono ?_; rintro e x1 ⟨rfl, y1⟩
    refine hK.out _ _ (by exact hS _ (grow_trans hHeld.2.2.2 y1)) (fun hHeldn => ?_)
    clear hHeld hK K
    have hHeld := hHeldn
    clear hHeldn
    try simp only [qD, qE, qF]
    refine wpAnyH_take (i := 2) (v := ?kv41) rfl (by kernel_rfl) (by kernel_rfl) (by kernel_rfl) (fun _ _ _ h => h) (Or.inl ⟨by rfl, ?ky41⟩) (by assumption) ?kr41
    case ky41 => (intro w hSw; (try dsimp only at hSw); go_split_ands; (try simp only [qA, qB, qC]); go_simp; (try with_reducible rfl))
    try simp only [Act.put, qA, qB, qC, qD, qE, qF]
    refine wpAnyH_take (i := 3) (v := ?kv42) rfl (by kernel_rfl) (by kernel_rfl) (by kernel_rfl) (fun _ _ _ h => h) (Or.inl ⟨by rfl, ?ky42⟩) (by assumption) ?kr42
    case ky42 => (intro w hSw; (try dsimp only at hSw); go_split_ands; (try simp only [qA, qB, qC]); go_simp; (try with_reducible rfl))
    try simp only [Act.put, qA, qB, qC, qD, qE, qF]
    refine wpAnyH_take (i := 4) (v := ?kv43) rfl (by kernel_rfl) (by kernel_rfl) (by kernel_rfl) (fun _ _ _ h => h) (Or.inl ⟨by rfl, ?ky43⟩) (by assumption) ?kr43
    case ky43 => (intro w hSw; (try dsimp only at hSw); go_split_ands; (try simp only [qA, qB, qC]); go_simp; (try with_reducible rfl))
    try simp only [Act.put, qA, qB, qC, qD, qE, qF]
    refine wpAnyH_take (i := 5) (v := ?kv44) rfl (by kernel_rfl) (by kernel_rfl) (by kernel_rfl) (fun _ _ _ h => h) (Or.inl ⟨by rfl, ?ky44⟩) (by assumption) ?kr44
    case ky44 => (intro w hSw; (try dsimp only at hSw); go_split_ands; (try simp only [qA, qB, qC]); go_simp; (try with_reducible rfl))
    try simp only [Act.put, qA, qB, qC, qD, qE, qF]
    refine wpAnyH_ready (rs := [6]) (by kernel_rfl) (by simp) ?_
    refine (AllReadyH.cons rfl (fun K hK => ?_) AllReadyH.nil)
    try simp only [qA, qB, qC]
    go_simp
    go_at_call 223; refine (HW1.out _).mono ?_; rintro e x2 ⟨rfl, hx2⟩; obtain rfl := hx2.symm
    refine hK.out _ _ (by exact hHeld) (fun hHeldn => ?_)
    clear hHeld hK K
    have hHeld := hHeldn
    clear hHeldn
    try simp only [qD, qE, qF]
    refine wpAnyH_take (i := 7) (v := ?kv46) rfl (by kernel_rfl) (by kernel_rfl) (by kernel_rfl) (fun _ _ _ h => h) (Or.inl ⟨by rfl, ?ky46⟩) (by assumption) ?kr46
    case ky46 => (intro w hSw; (try dsimp only at hSw); go_split_ands; (try simp only [qA, qB, qC]); go_simp; (try with_reducible rfl))
    try simp only [Act.put, qA, qB, qC, qD, qE, qF]
    refine wpAnyH_take (i := 8) (v := undef) rfl (by kernel_rfl) (by kernel_rfl) (by kernel_rfl) (fun _ _ _ h => h) (Or.inr ⟨?kz47, rfl⟩) (by assumption) ?kr47
    case kz47 => rfl
    try simp only [Act.put, qA, qB, qC, qD, qE, qF]
    refine wpAnyH_take (i := 9) (v := undef) rfl (by kernel_rfl) (by kernel_rfl) (by kernel_rfl) (fun _ _ _ h => h) (Or.inr ⟨?kz48, rfl⟩) (by assumption) ?kr48
    case kz48 => rfl
    try simp only [Act.put, qA, qB, qC, qD, qE, qF]
    refine wpAnyH_take (i := 10) (v := undef) rfl (by kernel_rfl) (by kernel_rfl) (by kernel_rfl) (fun _ _ _ h => h) (Or.inr ⟨?kz49, rfl⟩) (by assumption) ?kr49
    case kz49 => rfl
    try simp only [Act.put, qA, qB, qC, qD, qE, qF]
    refine wpAnyH_take (i := 11) (v := ?kv50) rfl (by kernel_rfl) (by kernel_rfl) (by kernel_rfl) (fun _ _ _ h => h) (Or.inl ⟨by rfl, ?ky50⟩) (by assumption) ?kr50
    case ky50 => (intro w hSw; (try dsimp only at hSw); go_split_ands; (try simp only [qA, qB, qC]); go_simp; (try with_reducible rfl))
    try simp only [Act.put, qA, qB, qC, qD, qE, qF]
    refine wpAnyH_take (i := 12) (v := ?kv51) rfl (by kernel_rfl) (by kernel_rfl) (by kernel_rfl) (fun _ _ _ h => h) (Or.inl ⟨by rfl, ?ky51⟩) (by assumption) ?kr51
    case ky51 => (intro w hSw; (try dsimp only at hSw); go_split_ands; (try simp only [qA, qB, qC]); go_simp; (try with_reducible rfl))
    try simp only [Act.put, qA, qB, qC, qD, qE, qF]
    refine wpAnyH_take (i := 13) (v := undef) rfl (by kernel_rfl) (by kernel_rfl) (by kernel_rfl) (fun _ _ _ h => h) (Or.inr ⟨?kz52, rfl⟩) (by assumption) ?kr52
    case kz52 => rfl
    try simp only [Act.put, qA, qB, qC, qD, qE, qF]
    refine wpAnyH_take (i := 14) (v := undef) rfl (by kernel_rfl) (by kernel_rfl) (by kernel_rfl) (fun _ _ _ h => h) (Or.inr ⟨?kz53, rfl⟩) (by assumption) ?kr53
    case kz53 => rfl
    try simp only [Act.put, qA, qB, qC, qD, qE, qF]
    refine wpAnyH_take (i := 15) (v := undef) rfl (by kernel_rfl) (by kernel_rfl) (by kernel_rfl) (fun _ _ _ h => h) (Or.inr ⟨?kz54, rfl⟩) (by assumption) ?kr54
    case kz54 => rfl
    try simp only [Act.put, qA, qB, qC, qD, qE, qF]
    refine wpAnyH_take (i := 16) (v := ?kv55) rfl (by kernel_rfl) (by kernel_rfl) (by kernel_rfl) (fun _ _ _ h => h) (Or.inl ⟨by rfl, ?ky55⟩) (by assumption) ?kr55
    case ky55 => (intro w hSw; (try dsimp only at hSw); go_split_ands; (try simp only [qA, qB, qC]); go_simp; (try with_reducible rfl))
    try simp only [Act.put, qA, qB, qC, qD, qE, qF]
    refine wpAnyH_take (i := 17) (v := ?kv56) rfl (by kernel_rfl) (by kernel_rfl) (by kernel_rfl) (fun _ _ _ h => h) (Or.inl ⟨by rfl, ?ky56⟩) (by assumption) ?kr56
    case ky56 => (intro w hSw; (try dsimp only at hSw); go_split_ands; (try simp only [qA, qB, qC]); go_simp; (try with_reducible rfl))
    try simp only [Act.put, qA, qB, qC, qD, qE, qF]
    refine wpAnyH_take (i := 18) (v := ?kv57) rfl (by kernel_rfl) (by kernel_rfl) (by kernel_rfl) (fun _ _ _ h => h) (Or.inl ⟨by rfl, ?ky57⟩) (by assumption) ?kr57
    case ky57 => (intro w hSw; (try dsimp only at hSw); go_split_ands; (try simp only [qA, qB, qC]); go_simp; (try with_reducible rfl))
    try simp only [Act.put, qA, qB, qC, qD, qE, qF]
    refine wpAnyH_done (by kernel_rfl) ?_ _
    go_wp2_with fail
    go_ret
    exact ⟨rfl, grow_trans Hb.out hHeld.2.2.2⟩
  · rw [hm]
    rw [i1] at hW1
    have HW1 := Lib.hid hW1
    have HW2 := Lib.hid hW2
    clear hW1 hW2 hm
    go_enter Tryz.func191, Tryz.ntmps191
    go_upto_region 1 with fail
    obtain ⟨w0, hw0⟩ : ∃ w0, w0 = w.alloc (.cells #[.int .i64 l, .int .i64 at_, .int .u32 gen] 66) := ⟨_, rfl⟩
    rw [← hw0] at hc0 hc1 hc2 Hw ⊢
    rw [← hG]
    clear hw0 hG
    go_upto_region 2 with (go_at_call 221; refine (spot_any l at_ gen _).mono ?_; rintro e w1 ⟨rfl, b1⟩)
    have hS : ∀ w', Below w1.heap.size w1 w' → (w'.cell? ⟨G, 0, none⟩ = some (.int .i64 l) ∧ w'.cell? ⟨G, 1, none⟩ = some (.int .i64 at_) ∧ w'.cell? ⟨G, 2, none⟩ = some (.int .u32 gen) ∧ Below w1.heap.size w1 w') :=
      fun w' hb => ⟨grow_cell (grow_trans b1 hb) hc0, grow_cell (grow_trans b1 hb) hc1, grow_cell (grow_trans b1 hb) hc2, hb⟩
    have Hb := Lib.hid (grow_trans Hw.out b1)
    clear b1
    refine wp_region_held_drew (S := fun w' => w'.cell? ⟨G, 0, none⟩ = some (.int .i64 l) ∧ w'.cell? ⟨G, 1, none⟩ = some (.int .i64 at_) ∧ w'.cell? ⟨G, 2, none⟩ = some (.int .u32 gen) ∧ Below w1.heap.size w1 w') (by kernel_rfl) (hS _ (Below.refl _ _).drew) (fun hHeld => ?_)
    show wpAnyH _ _ _ _ _ 19 #[false, false, false, false, false, false, false, false, false, false, false, false, false, false, false, false, false, false, false] _ _
    refine wpAnyH_take (i := 0) (v := ?kv58) rfl (by kernel_rfl) (by kernel_rfl) (by kernel_rfl) (fun _ _ _ h => h) (Or.inl ⟨by rfl, ?ky58⟩) (by assumption) ?kr58
    case ky58 => (intro w hSw; (try dsimp only at hSw); go_split_ands; (try simp only [qA, qB]); go_simp; (try with_reducible rfl))
    try simp only [Act.put, qA, qB, qD, qE, qF]
    refine wpAnyH_ready (rs := [1]) (by kernel_rfl) (by simp) ?_
    refine (AllReadyH.cons rfl (fun K hK => ?_) AllReadyH.nil)
    try simp only [qA, qB, qC]
    go_simp
    go_at_call 222; refine (inoRoot_any _).mono ?_; rintro e x1 ⟨rfl, y1⟩
    refine hK.out _ _ (by exact hS _ (grow_trans hHeld.2.2.2 y1)) (fun hHeldn => ?_)
    clear hHeld hK K
    have hHeld := hHeldn
    clear hHeldn
    try simp only [qD, qE, qF]
    refine wpAnyH_take (i := 2) (v := ?kv60) rfl (by kernel_rfl) (by kernel_rfl) (by kernel_rfl) (fun _ _ _ h => h) (Or.inl ⟨by rfl, ?ky60⟩) (by assumption) ?kr60
    case ky60 => (intro w hSw; (try dsimp only at hSw); go_split_ands; (try simp only [qA, qB, qC]); go_simp; (try with_reducible rfl))
    try simp only [Act.put, qA, qB, qC, qD, qE, qF]
    refine wpAnyH_take (i := 3) (v := ?kv61) rfl (by kernel_rfl) (by kernel_rfl) (by kernel_rfl) (fun _ _ _ h => h) (Or.inl ⟨by rfl, ?ky61⟩) (by assumption) ?kr61
    case ky61 => (intro w hSw; (try dsimp only at hSw); go_split_ands; (try simp only [qA, qB, qC]); go_simp; (try with_reducible rfl))
    try simp only [Act.put, qA, qB, qC, qD, qE, qF]
    refine wpAnyH_take (i := 4) (v := ?kv62) rfl (by kernel_rfl) (by kernel_rfl) (by kernel_rfl) (fun _ _ _ h => h) (Or.inl ⟨by rfl, ?ky62⟩) (by assumption) ?kr62
    case ky62 => (intro w hSw; (try dsimp only at hSw); go_split_ands; (try simp only [qA, qB, qC]); go_simp; (try with_reducible rfl))
    try simp only [Act.put, qA, qB, qC, qD, qE, qF]
    refine wpAnyH_take (i := 5) (v := ?kv63) rfl (by kernel_rfl) (by kernel_rfl) (by kernel_rfl) (fun _ _ _ h => h) (Or.inl ⟨by rfl, ?ky63⟩) (by assumption) ?kr63
    case ky63 => (intro w hSw; (try dsimp only at hSw); go_split_ands; (try simp only [qA, qB, qC]); go_simp; (try with_reducible rfl))
    try simp only [Act.put, qA, qB, qC, qD, qE, qF]
    refine wpAnyH_ready (rs := [6]) (by kernel_rfl) (by simp) ?_
    refine (AllReadyH.cons rfl (fun K hK => ?_) AllReadyH.nil)
    try simp only [qA, qB, qC]
    go_simp
    go_at_call 223; refine (HW1.out _).mono ?_; rintro e x2 ⟨rfl, hx2⟩; obtain rfl := hx2.symm
    refine hK.out _ _ (by exact hHeld) (fun hHeldn => ?_)
    clear hHeld hK K
    have hHeld := hHeldn
    clear hHeldn
    try simp only [qD, qE, qF]
    refine wpAnyH_take (i := 7) (v := ?kv65) rfl (by kernel_rfl) (by kernel_rfl) (by kernel_rfl) (fun _ _ _ h => h) (Or.inl ⟨by rfl, ?ky65⟩) (by assumption) ?kr65
    case ky65 => (intro w hSw; (try dsimp only at hSw); go_split_ands; (try simp only [qA, qB, qC]); go_simp; (try with_reducible rfl))
    try simp only [Act.put, qA, qB, qC, qD, qE, qF]
    refine wpAnyH_take (i := 8) (v := undef) rfl (by kernel_rfl) (by kernel_rfl) (by kernel_rfl) (fun _ _ _ h => h) (Or.inr ⟨?kz66, rfl⟩) (by assumption) ?kr66
    case kz66 => rfl
    try simp only [Act.put, qA, qB, qC, qD, qE, qF]
    refine wpAnyH_take (i := 9) (v := undef) rfl (by kernel_rfl) (by kernel_rfl) (by kernel_rfl) (fun _ _ _ h => h) (Or.inr ⟨?kz67, rfl⟩) (by assumption) ?kr67
    case kz67 => rfl
    try simp only [Act.put, qA, qB, qC, qD, qE, qF]
    refine wpAnyH_take (i := 10) (v := undef) rfl (by kernel_rfl) (by kernel_rfl) (by kernel_rfl) (fun _ _ _ h => h) (Or.inr ⟨?kz68, rfl⟩) (by assumption) ?kr68
    case kz68 => rfl
    try simp only [Act.put, qA, qB, qC, qD, qE, qF]
    refine wpAnyH_take (i := 11) (v := ?kv69) rfl (by kernel_rfl) (by kernel_rfl) (by kernel_rfl) (fun _ _ _ h => h) (Or.inl ⟨by rfl, ?ky69⟩) (by assumption) ?kr69
    case ky69 => (intro w hSw; (try dsimp only at hSw); go_split_ands; (try simp only [qA, qB, qC]); go_simp; (try with_reducible rfl))
    try simp only [Act.put, qA, qB, qC, qD, qE, qF]
    refine wpAnyH_take (i := 12) (v := ?kv70) rfl (by kernel_rfl) (by kernel_rfl) (by kernel_rfl) (fun _ _ _ h => h) (Or.inl ⟨by rfl, ?ky70⟩) (by assumption) ?kr70
    case ky70 => (intro w hSw; (try dsimp only at hSw); go_split_ands; (try simp only [qA, qB, qC]); go_simp; (try with_reducible rfl))
    try simp only [Act.put, qA, qB, qC, qD, qE, qF]
    refine wpAnyH_take (i := 13) (v := undef) rfl (by kernel_rfl) (by kernel_rfl) (by kernel_rfl) (fun _ _ _ h => h) (Or.inr ⟨?kz71, rfl⟩) (by assumption) ?kr71
    case kz71 => rfl
    try simp only [Act.put, qA, qB, qC, qD, qE, qF]
    refine wpAnyH_take (i := 14) (v := undef) rfl (by kernel_rfl) (by kernel_rfl) (by kernel_rfl) (fun _ _ _ h => h) (Or.inr ⟨?kz72, rfl⟩) (by assumption) ?kr72
    case kz72 => rfl
    try simp only [Act.put, qA, qB, qC, qD, qE, qF]
    refine wpAnyH_take (i := 15) (v := undef) rfl (by kernel_rfl) (by kernel_rfl) (by kernel_rfl) (fun _ _ _ h => h) (Or.inr ⟨?kz73, rfl⟩) (by assumption) ?kr73
    case kz73 => rfl
    try simp only [Act.put, qA, qB, qC, qD, qE, qF]
    refine wpAnyH_take (i := 16) (v := ?kv74) rfl (by kernel_rfl) (by kernel_rfl) (by kernel_rfl) (fun _ _ _ h => h) (Or.inl ⟨by rfl, ?ky74⟩) (by assumption) ?kr74
    case ky74 => (intro w hSw; (try dsimp only at hSw); go_split_ands; (try simp only [qA, qB, qC]); go_simp; (try with_reducible rfl))
    try simp only [Act.put, qA, qB, qC, qD, qE, qF]
    refine wpAnyH_take (i := 17) (v := ?kv75) rfl (by kernel_rfl) (by kernel_rfl) (by kernel_rfl) (fun _ _ _ h => h) (Or.inl ⟨by rfl, ?ky75⟩) (by assumption) ?kr75
    case ky75 => (intro w hSw; (try dsimp only at hSw); go_split_ands; (try simp only [qA, qB, qC]); go_simp; (try with_reducible rfl))
    try simp only [Act.put, qA, qB, qC, qD, qE, qF]
    refine wpAnyH_take (i := 18) (v := ?kv76) rfl (by kernel_rfl) (by kernel_rfl) (by kernel_rfl) (fun _ _ _ h => h) (Or.inl ⟨by rfl, ?ky76⟩) (by assumption) ?kr76
    case ky76 => (intro w hSw; (try dsimp only at hSw); go_split_ands; (try simp only [qA, qB, qC]); go_simp; (try with_reducible rfl))
    try simp only [Act.put, qA, qB, qC, qD, qE, qF]
    refine wpAnyH_done (by kernel_rfl) ?_ _
    go_wp2_with fail
    go_ret
    exact ⟨rfl, grow_trans Hb.out hHeld.2.2.2⟩
  · rw [hm]
    rw [i1] at hW1
    rw [i2] at hW2
    have HW1 := Lib.hid hW1
    have HW2 := Lib.hid hW2
    clear hW1 hW2 hm
    go_enter Tryz.func191, Tryz.ntmps191
    go_upto_region 1 with fail
    obtain ⟨w0, hw0⟩ : ∃ w0, w0 = w.alloc (.cells #[.int .i64 l, .int .i64 at_, .int .u32 gen] 66) := ⟨_, rfl⟩
    rw [← hw0] at hc0 hc1 hc2 Hw ⊢
    rw [← hG]
    clear hw0 hG
    go_upto_region 2 with (go_at_call 221; refine (spot_any l at_ gen _).mono ?_; rintro e w1 ⟨rfl, b1⟩)
    have hS : ∀ w', Below w1.heap.size w1 w' → (w'.cell? ⟨G, 0, none⟩ = some (.int .i64 l) ∧ w'.cell? ⟨G, 1, none⟩ = some (.int .i64 at_) ∧ w'.cell? ⟨G, 2, none⟩ = some (.int .u32 gen) ∧ Below w1.heap.size w1 w') :=
      fun w' hb => ⟨grow_cell (grow_trans b1 hb) hc0, grow_cell (grow_trans b1 hb) hc1, grow_cell (grow_trans b1 hb) hc2, hb⟩
    have Hb := Lib.hid (grow_trans Hw.out b1)
    clear b1
    refine wp_region_held_drew (S := fun w' => w'.cell? ⟨G, 0, none⟩ = some (.int .i64 l) ∧ w'.cell? ⟨G, 1, none⟩ = some (.int .i64 at_) ∧ w'.cell? ⟨G, 2, none⟩ = some (.int .u32 gen) ∧ Below w1.heap.size w1 w') (by kernel_rfl) (hS _ (Below.refl _ _).drew) (fun hHeld => ?_)
    show wpAnyH _ _ _ _ _ 19 #[false, false, false, false, false, false, false, false, false, false, false, false, false, false, false, false, false, false, false] _ _
    refine wpAnyH_take (i := 0) (v := ?kv77) rfl (by kernel_rfl) (by kernel_rfl) (by kernel_rfl) (fun _ _ _ h => h) (Or.inl ⟨by rfl, ?ky77⟩) (by assumption) ?kr77
    case ky77 => (intro w hSw; (try dsimp only at hSw); go_split_ands; (try simp only [qA, qB]); go_simp; (try with_reducible rfl))
    try simp only [Act.put, qA, qB, qD, qE, qF]
    refine wpAnyH_ready (rs := [1]) (by kernel_rfl) (by simp) ?_
    refine (AllReadyH.cons rfl (fun K hK => ?_) AllReadyH.nil)
    try simp only [qA, qB, qC]
    go_simp
    go_at_call 222; refine (inoRoot_any _).mono ?_; rintro e x1 ⟨rfl, y1⟩
    refine hK.out _ _ (by exact hS _ (grow_trans hHeld.2.2.2 y1)) (fun hHeldn => ?_)
    clear hHeld hK K
    have hHeld := hHeldn
    clear hHeldn
    try simp only [qD, qE, qF]
    refine wpAnyH_take (i := 2) (v := ?kv79) rfl (by kernel_rfl) (by kernel_rfl) (by kernel_rfl) (fun _ _ _ h => h) (Or.inl ⟨by rfl, ?ky79⟩) (by assumption) ?kr79
    case ky79 => (intro w hSw; (try dsimp only at hSw); go_split_ands; (try simp only [qA, qB, qC]); go_simp; (try with_reducible rfl))
    try simp only [Act.put, qA, qB, qC, qD, qE, qF]
    refine wpAnyH_take (i := 3) (v := ?kv80) rfl (by kernel_rfl) (by kernel_rfl) (by kernel_rfl) (fun _ _ _ h => h) (Or.inl ⟨by rfl, ?ky80⟩) (by assumption) ?kr80
    case ky80 => (intro w hSw; (try dsimp only at hSw); go_split_ands; (try simp only [qA, qB, qC]); go_simp; (try with_reducible rfl))
    try simp only [Act.put, qA, qB, qC, qD, qE, qF]
    refine wpAnyH_take (i := 4) (v := ?kv81) rfl (by kernel_rfl) (by kernel_rfl) (by kernel_rfl) (fun _ _ _ h => h) (Or.inl ⟨by rfl, ?ky81⟩) (by assumption) ?kr81
    case ky81 => (intro w hSw; (try dsimp only at hSw); go_split_ands; (try simp only [qA, qB, qC]); go_simp; (try with_reducible rfl))
    try simp only [Act.put, qA, qB, qC, qD, qE, qF]
    refine wpAnyH_take (i := 5) (v := ?kv82) rfl (by kernel_rfl) (by kernel_rfl) (by kernel_rfl) (fun _ _ _ h => h) (Or.inl ⟨by rfl, ?ky82⟩) (by assumption) ?kr82
    case ky82 => (intro w hSw; (try dsimp only at hSw); go_split_ands; (try simp only [qA, qB, qC]); go_simp; (try with_reducible rfl))
    try simp only [Act.put, qA, qB, qC, qD, qE, qF]
    refine wpAnyH_ready (rs := [6]) (by kernel_rfl) (by simp) ?_
    refine (AllReadyH.cons rfl (fun K hK => ?_) AllReadyH.nil)
    try simp only [qA, qB, qC]
    go_simp
    go_at_call 223; refine (HW1.out _).mono ?_; rintro e x2 ⟨rfl, hx2⟩; obtain rfl := hx2.symm
    refine hK.out _ _ (by exact hHeld) (fun hHeldn => ?_)
    clear hHeld hK K
    have hHeld := hHeldn
    clear hHeldn
    try simp only [qD, qE, qF]
    refine wpAnyH_take (i := 7) (v := ?kv84) rfl (by kernel_rfl) (by kernel_rfl) (by kernel_rfl) (fun _ _ _ h => h) (Or.inl ⟨by rfl, ?ky84⟩) (by assumption) ?kr84
    case ky84 => (intro w hSw; (try dsimp only at hSw); go_split_ands; (try simp only [qA, qB, qC]); go_simp; (try with_reducible rfl))
    try simp only [Act.put, qA, qB, qC, qD, qE, qF]
    refine wpAnyH_take (i := 8) (v := ?kv85) rfl (by kernel_rfl) (by kernel_rfl) (by kernel_rfl) (fun _ _ _ h => h) (Or.inl ⟨by rfl, ?ky85⟩) (by assumption) ?kr85
    case ky85 => (intro w hSw; (try dsimp only at hSw); go_split_ands; (try simp only [qA, qB, qC]); go_simp; (try with_reducible rfl))
    try simp only [Act.put, qA, qB, qC, qD, qE, qF]
    refine wpAnyH_take (i := 9) (v := ?kv86) rfl (by kernel_rfl) (by kernel_rfl) (by kernel_rfl) (fun _ _ _ h => h) (Or.inl ⟨by rfl, ?ky86⟩) (by assumption) ?kr86
    case ky86 => (intro w hSw; (try dsimp only at hSw); go_split_ands; (try simp only [qA, qB, qC]); go_simp; (try with_reducible rfl))
    try simp only [Act.put, qA, qB, qC, qD, qE, qF]
    refine wpAnyH_ready (rs := [10]) (by kernel_rfl) (by simp) ?_
    refine (AllReadyH.cons rfl (fun K hK => ?_) AllReadyH.nil)
    try simp only [qA, qB, qC]
    go_simp
    go_at_call 223; refine (HW2.out _).mono ?_; rintro e x3 ⟨rfl, hx3⟩; obtain rfl := hx3.symm
    refine hK.out _ _ (by exact hHeld) (fun hHeldn => ?_)
    clear hHeld hK K
    have hHeld := hHeldn
    clear hHeldn
    try simp only [qD, qE, qF]
    refine wpAnyH_take (i := 11) (v := ?kv88) rfl (by kernel_rfl) (by kernel_rfl) (by kernel_rfl) (fun _ _ _ h => h) (Or.inl ⟨by rfl, ?ky88⟩) (by assumption) ?kr88
    case ky88 => (intro w hSw; (try dsimp only at hSw); go_split_ands; (try simp only [qA, qB, qC]); go_simp; (try with_reducible rfl))
    try simp only [Act.put, qA, qB, qC, qD, qE, qF]
    refine wpAnyH_take (i := 12) (v := ?kv89) rfl (by kernel_rfl) (by kernel_rfl) (by kernel_rfl) (fun _ _ _ h => h) (Or.inl ⟨by rfl, ?ky89⟩) (by assumption) ?kr89
    case ky89 => (intro w hSw; (try dsimp only at hSw); go_split_ands; (try simp only [qA, qB, qC]); go_simp; (try with_reducible rfl))
    try simp only [Act.put, qA, qB, qC, qD, qE, qF]
    refine wpAnyH_take (i := 13) (v := undef) rfl (by kernel_rfl) (by kernel_rfl) (by kernel_rfl) (fun _ _ _ h => h) (Or.inr ⟨?kz90, rfl⟩) (by assumption) ?kr90
    case kz90 => rfl
    try simp only [Act.put, qA, qB, qC, qD, qE, qF]
    refine wpAnyH_take (i := 14) (v := undef) rfl (by kernel_rfl) (by kernel_rfl) (by kernel_rfl) (fun _ _ _ h => h) (Or.inr ⟨?kz91, rfl⟩) (by assumption) ?kr91
    case kz91 => rfl
    try simp only [Act.put, qA, qB, qC, qD, qE, qF]
    refine wpAnyH_take (i := 15) (v := undef) rfl (by kernel_rfl) (by kernel_rfl) (by kernel_rfl) (fun _ _ _ h => h) (Or.inr ⟨?kz92, rfl⟩) (by assumption) ?kr92
    case kz92 => rfl
    try simp only [Act.put, qA, qB, qC, qD, qE, qF]
    refine wpAnyH_take (i := 16) (v := ?kv93) rfl (by kernel_rfl) (by kernel_rfl) (by kernel_rfl) (fun _ _ _ h => h) (Or.inl ⟨by rfl, ?ky93⟩) (by assumption) ?kr93
    case ky93 => (intro w hSw; (try dsimp only at hSw); go_split_ands; (try simp only [qA, qB, qC]); go_simp; (try with_reducible rfl))
    try simp only [Act.put, qA, qB, qC, qD, qE, qF]
    refine wpAnyH_take (i := 17) (v := ?kv94) rfl (by kernel_rfl) (by kernel_rfl) (by kernel_rfl) (fun _ _ _ h => h) (Or.inl ⟨by rfl, ?ky94⟩) (by assumption) ?kr94
    case ky94 => (intro w hSw; (try dsimp only at hSw); go_split_ands; (try simp only [qA, qB, qC]); go_simp; (try with_reducible rfl))
    try simp only [Act.put, qA, qB, qC, qD, qE, qF]
    refine wpAnyH_take (i := 18) (v := ?kv95) rfl (by kernel_rfl) (by kernel_rfl) (by kernel_rfl) (fun _ _ _ h => h) (Or.inl ⟨by rfl, ?ky95⟩) (by assumption) ?kr95
    case ky95 => (intro w hSw; (try dsimp only at hSw); go_split_ands; (try simp only [qA, qB, qC]); go_simp; (try with_reducible rfl))
    try simp only [Act.put, qA, qB, qC, qD, qE, qF]
    refine wpAnyH_done (by kernel_rfl) ?_ _
    go_wp2_with fail
    go_ret
    exact ⟨rfl, grow_trans Hb.out hHeld.2.2.2⟩
  · rw [hm]
    rw [i1] at hW1
    rw [i2] at hW2
    have HW1 := Lib.hid hW1
    have HW2 := Lib.hid hW2
    clear hW1 hW2 hm
    go_enter Tryz.func191, Tryz.ntmps191
    go_upto_region 1 with fail
    obtain ⟨w0, hw0⟩ : ∃ w0, w0 = w.alloc (.cells #[.int .i64 l, .int .i64 at_, .int .u32 gen] 66) := ⟨_, rfl⟩
    rw [← hw0] at hc0 hc1 hc2 Hw ⊢
    rw [← hG]
    clear hw0 hG
    go_upto_region 2 with (go_at_call 221; refine (spot_any l at_ gen _).mono ?_; rintro e w1 ⟨rfl, b1⟩)
    have hS : ∀ w', Below w1.heap.size w1 w' → (w'.cell? ⟨G, 0, none⟩ = some (.int .i64 l) ∧ w'.cell? ⟨G, 1, none⟩ = some (.int .i64 at_) ∧ w'.cell? ⟨G, 2, none⟩ = some (.int .u32 gen) ∧ Below w1.heap.size w1 w') :=
      fun w' hb => ⟨grow_cell (grow_trans b1 hb) hc0, grow_cell (grow_trans b1 hb) hc1, grow_cell (grow_trans b1 hb) hc2, hb⟩
    have Hb := Lib.hid (grow_trans Hw.out b1)
    clear b1
    refine wp_region_held_drew (S := fun w' => w'.cell? ⟨G, 0, none⟩ = some (.int .i64 l) ∧ w'.cell? ⟨G, 1, none⟩ = some (.int .i64 at_) ∧ w'.cell? ⟨G, 2, none⟩ = some (.int .u32 gen) ∧ Below w1.heap.size w1 w') (by kernel_rfl) (hS _ (Below.refl _ _).drew) (fun hHeld => ?_)
    show wpAnyH _ _ _ _ _ 19 #[false, false, false, false, false, false, false, false, false, false, false, false, false, false, false, false, false, false, false] _ _
    refine wpAnyH_take (i := 0) (v := ?kv96) rfl (by kernel_rfl) (by kernel_rfl) (by kernel_rfl) (fun _ _ _ h => h) (Or.inl ⟨by rfl, ?ky96⟩) (by assumption) ?kr96
    case ky96 => (intro w hSw; (try dsimp only at hSw); go_split_ands; (try simp only [qA, qB]); go_simp; (try with_reducible rfl))
    try simp only [Act.put, qA, qB, qD, qE, qF]
    refine wpAnyH_ready (rs := [1]) (by kernel_rfl) (by simp) ?_
    refine (AllReadyH.cons rfl (fun K hK => ?_) AllReadyH.nil)
    try simp only [qA, qB, qC]
    go_simp
    go_at_call 222; refine (inoRoot_any _).mono ?_; rintro e x1 ⟨rfl, y1⟩
    refine hK.out _ _ (by exact hS _ (grow_trans hHeld.2.2.2 y1)) (fun hHeldn => ?_)
    clear hHeld hK K
    have hHeld := hHeldn
    clear hHeldn
    try simp only [qD, qE, qF]
    refine wpAnyH_take (i := 2) (v := ?kv98) rfl (by kernel_rfl) (by kernel_rfl) (by kernel_rfl) (fun _ _ _ h => h) (Or.inl ⟨by rfl, ?ky98⟩) (by assumption) ?kr98
    case ky98 => (intro w hSw; (try dsimp only at hSw); go_split_ands; (try simp only [qA, qB, qC]); go_simp; (try with_reducible rfl))
    try simp only [Act.put, qA, qB, qC, qD, qE, qF]
    refine wpAnyH_take (i := 3) (v := ?kv99) rfl (by kernel_rfl) (by kernel_rfl) (by kernel_rfl) (fun _ _ _ h => h) (Or.inl ⟨by rfl, ?ky99⟩) (by assumption) ?kr99
    case ky99 => (intro w hSw; (try dsimp only at hSw); go_split_ands; (try simp only [qA, qB, qC]); go_simp; (try with_reducible rfl))
    try simp only [Act.put, qA, qB, qC, qD, qE, qF]
    refine wpAnyH_take (i := 4) (v := ?kv100) rfl (by kernel_rfl) (by kernel_rfl) (by kernel_rfl) (fun _ _ _ h => h) (Or.inl ⟨by rfl, ?ky100⟩) (by assumption) ?kr100
    case ky100 => (intro w hSw; (try dsimp only at hSw); go_split_ands; (try simp only [qA, qB, qC]); go_simp; (try with_reducible rfl))
    try simp only [Act.put, qA, qB, qC, qD, qE, qF]
    refine wpAnyH_take (i := 5) (v := ?kv101) rfl (by kernel_rfl) (by kernel_rfl) (by kernel_rfl) (fun _ _ _ h => h) (Or.inl ⟨by rfl, ?ky101⟩) (by assumption) ?kr101
    case ky101 => (intro w hSw; (try dsimp only at hSw); go_split_ands; (try simp only [qA, qB, qC]); go_simp; (try with_reducible rfl))
    try simp only [Act.put, qA, qB, qC, qD, qE, qF]
    refine wpAnyH_ready (rs := [6]) (by kernel_rfl) (by simp) ?_
    refine (AllReadyH.cons rfl (fun K hK => ?_) AllReadyH.nil)
    try simp only [qA, qB, qC]
    go_simp
    go_at_call 223; refine (HW1.out _).mono ?_; rintro e x2 ⟨rfl, hx2⟩; obtain rfl := hx2.symm
    refine hK.out _ _ (by exact hHeld) (fun hHeldn => ?_)
    clear hHeld hK K
    have hHeld := hHeldn
    clear hHeldn
    try simp only [qD, qE, qF]
    refine wpAnyH_take (i := 7) (v := ?kv103) rfl (by kernel_rfl) (by kernel_rfl) (by kernel_rfl) (fun _ _ _ h => h) (Or.inl ⟨by rfl, ?ky103⟩) (by assumption) ?kr103
    case ky103 => (intro w hSw; (try dsimp only at hSw); go_split_ands; (try simp only [qA, qB, qC]); go_simp; (try with_reducible rfl))
    try simp only [Act.put, qA, qB, qC, qD, qE, qF]
    refine wpAnyH_take (i := 8) (v := ?kv104) rfl (by kernel_rfl) (by kernel_rfl) (by kernel_rfl) (fun _ _ _ h => h) (Or.inl ⟨by rfl, ?ky104⟩) (by assumption) ?kr104
    case ky104 => (intro w hSw; (try dsimp only at hSw); go_split_ands; (try simp only [qA, qB, qC]); go_simp; (try with_reducible rfl))
    try simp only [Act.put, qA, qB, qC, qD, qE, qF]
    refine wpAnyH_take (i := 9) (v := ?kv105) rfl (by kernel_rfl) (by kernel_rfl) (by kernel_rfl) (fun _ _ _ h => h) (Or.inl ⟨by rfl, ?ky105⟩) (by assumption) ?kr105
    case ky105 => (intro w hSw; (try dsimp only at hSw); go_split_ands; (try simp only [qA, qB, qC]); go_simp; (try with_reducible rfl))
    try simp only [Act.put, qA, qB, qC, qD, qE, qF]
    refine wpAnyH_ready (rs := [10]) (by kernel_rfl) (by simp) ?_
    refine (AllReadyH.cons rfl (fun K hK => ?_) AllReadyH.nil)
    try simp only [qA, qB, qC]
    go_simp
    go_at_call 223; refine (HW2.out _).mono ?_; rintro e x3 ⟨rfl, hx3⟩; obtain rfl := hx3.symm
    refine hK.out _ _ (by exact hHeld) (fun hHeldn => ?_)
    clear hHeld hK K
    have hHeld := hHeldn
    clear hHeldn
    try simp only [qD, qE, qF]
    refine wpAnyH_take (i := 11) (v := ?kv107) rfl (by kernel_rfl) (by kernel_rfl) (by kernel_rfl) (fun _ _ _ h => h) (Or.inl ⟨by rfl, ?ky107⟩) (by assumption) ?kr107
    case ky107 => (intro w hSw; (try dsimp only at hSw); go_split_ands; (try simp only [qA, qB, qC]); go_simp; (try with_reducible rfl))
    try simp only [Act.put, qA, qB, qC, qD, qE, qF]
    refine wpAnyH_take (i := 12) (v := ?kv108) rfl (by kernel_rfl) (by kernel_rfl) (by kernel_rfl) (fun _ _ _ h => h) (Or.inl ⟨by rfl, ?ky108⟩) (by assumption) ?kr108
    case ky108 => (intro w hSw; (try dsimp only at hSw); go_split_ands; (try simp only [qA, qB, qC]); go_simp; (try with_reducible rfl))
    try simp only [Act.put, qA, qB, qC, qD, qE, qF]
    refine wpAnyH_take (i := 13) (v := ?kv109) rfl (by kernel_rfl) (by kernel_rfl) (by kernel_rfl) (fun _ _ _ h => h) (Or.inl ⟨by rfl, ?ky109⟩) (by assumption) ?kr109
    case ky109 => (intro w hSw; (try dsimp only at hSw); go_split_ands; (try simp only [qA, qB, qC]); go_simp; (try with_reducible rfl))
    try simp only [Act.put, qA, qB, qC, qD, qE, qF]
    refine wpAnyH_take (i := 14) (v := ?kv110) rfl (by kernel_rfl) (by kernel_rfl) (by kernel_rfl) (fun _ _ _ h => h) (Or.inl ⟨by rfl, ?ky110⟩) (by assumption) ?kr110
    case ky110 => (intro w hSw; (try dsimp only at hSw); go_split_ands; (try simp only [qA, qB, qC]); go_simp; (try with_reducible rfl))
    try simp only [Act.put, qA, qB, qC, qD, qE, qF]
    refine wpAnyH_take (i := 15) (v := ?kv111) rfl (by kernel_rfl) (by kernel_rfl) (by kernel_rfl) (fun _ _ _ h => h) (Or.inl ⟨by rfl, ?ky111⟩) (by assumption) ?kr111
    case ky111 => (intro w hSw; (try dsimp only at hSw); go_split_ands; (try simp only [qA, qB, qC]); go_simp; (try with_reducible rfl))
    try simp only [Act.put, qA, qB, qC, qD, qE, qF]
    refine wpAnyH_take (i := 16) (v := ?kv112) rfl (by kernel_rfl) (by kernel_rfl) (by kernel_rfl) (fun _ _ _ h => h) (Or.inl ⟨by rfl, ?ky112⟩) (by assumption) ?kr112
    case ky112 => (intro w hSw; (try dsimp only at hSw); go_split_ands; (try simp only [qA, qB, qC]); go_simp; (try with_reducible rfl))
    try simp only [Act.put, qA, qB, qC, qD, qE, qF]
    refine wpAnyH_take (i := 17) (v := ?kv113) rfl (by kernel_rfl) (by kernel_rfl) (by kernel_rfl) (fun _ _ _ h => h) (Or.inl ⟨by rfl, ?ky113⟩) (by assumption) ?kr113
    case ky113 => (intro w hSw; (try dsimp only at hSw); go_split_ands; (try simp only [qA, qB, qC]); go_simp; (try with_reducible rfl))
    try simp only [Act.put, qA, qB, qC, qD, qE, qF]
    refine wpAnyH_take (i := 18) (v := ?kv114) rfl (by kernel_rfl) (by kernel_rfl) (by kernel_rfl) (fun _ _ _ h => h) (Or.inl ⟨by rfl, ?ky114⟩) (by assumption) ?kr114
    case ky114 => (intro w hSw; (try dsimp only at hSw); go_split_ands; (try simp only [qA, qB, qC]); go_simp; (try with_reducible rfl))
    try simp only [Act.put, qA, qB, qC, qD, qE, qF]
    refine wpAnyH_done (by kernel_rfl) ?_ _
    go_wp2_with fail
    go_ret
    exact ⟨rfl, grow_trans Hb.out hHeld.2.2.2⟩
end Go.Proofs.YtbbnejehglonjaaGreat
