/- DERIVED. Contracts and laws that the proofs of this seat share, part 30 of 32: PyN. -/
import Derived.Test.YtanmihhlkelgeaaGreatMg29
/- DERIVED. Contract of clathriref28.SameSteps. -/
namespace Go.Proofs.YtanmihhlkelgeaaGreat
open Go.RowKit
attribute [local irreducible] Calls
set_option maxRecDepth 100000

theorem StpsAt.below {w w' : World} {W : Nat} {ka : Option Addr} {ss : List Stp} (h : StpsAt w W ka ss) (hb : Below w.heap.size w w') (hW : W ≤ w.heap.size) : StpsAt w' W ka ss := h.keeps (Keeps.of_below_size hb) (fun _ e => Nat.le_trans hW e) hW
theorem take_eq_succS {l1 l2 : List Stp} {k : Nat} {x : Stp} (h : l1.take k = l2.take k) (h1 : l1[k]? = some x) (h2 : l2[k]? = some x) : l1.take (k + 1) = l2.take (k + 1) := by
  obtain ⟨a, rfl⟩ := List.getElem?_eq_some_iff.1 h1
  obtain ⟨b, e⟩ := List.getElem?_eq_some_iff.1 h2
  rw [List.take_succ_eq_append_getElem a, List.take_succ_eq_append_getElem b, h, e]
set_option maxHeartbeats 8000000 in
theorem sameSteps_any {w : World} {l1 l2 : List Stp} {ka kb : Option Addr} {ca cb : Nat} (h1 : StpsAt w w.heap.size ka l1) (h2 : StpsAt w w.heap.size kb l2) (hk : ∀ s ∈ l1, s.keep.length ≤ 1000000) (hl : l1.length ≤ 1000000) :
    Calls Tryz.prog 10 #[.slice ka l1.length ca, .slice kb l2.length cb] w fun e w' => e = .returned (.bool (decide (l1 = l2))) ∧ Below w.heap.size w w' := by
  have H := Lib.hid (And.intro h1 (And.intro h2 hk))
  clear h1 h2 hk
  by_cases hlen : l1.length = l2.length
  · have z0 : ((l1.length : Int) != (l2.length : Int)) = false := by rw [hlen]; simp
    have HL := Lib.hid hlen
    clear hlen
    go_enter Tryz.func10, Tryz.ntmps10
    go_wp2_with fail
    clear z0
    go_loopw [5] (fun i wr => ∃ k : Nat, k ≤ l1.length ∧ i = .int .i64 k ∧ l1.take k = l2.take k ∧ Below w.heap.size w wr) (fun i _ => l1.length - (Go.RowKit.intOf i).toNat)
    case atStart => exact ⟨0, Nat.zero_le _, rfl, rfl, Below.refl _ _⟩
    case round =>
      obtain ⟨k, hk, rfl, ht, hb⟩ := hrel
      by_cases hlt : k < l1.length
      · obtain ⟨x1, hx1⟩ : ∃ x, l1[k]? = some x := ⟨_, List.getElem?_eq_getElem hlt⟩
        obtain ⟨x2, hx2⟩ : ∃ x, l2[k]? = some x := ⟨_, List.getElem?_eq_getElem (by rw [← HL.out]; exact hlt)⟩
        obtain ⟨kb1, ko1, ad1, dc1, k1, kc1, rfl, hkb1, hc1, hs1⟩ := (H.out.1.below hb (Nat.le_refl _)) k x1 hx1
        obtain ⟨kb2, ko2, ad2, dc2, k2, kc2, rfl, hkb2, hc2, hs2⟩ := (H.out.2.1.below hb (Nat.le_refl _)) k x2 hx2
        have hlt1 : (k : Int) < (l1.length : Int) := by omega
        have hlt2 : (k : Int) < (l2.length : Int) := by rw [← HL.out]; exact hlt1
        have hlt2n : k < l2.length := by rw [← HL.out]; exact hlt
        have hd : Below wr.heap.size wr wr.drew := (Below.refl _ _).drew
        have b10 : wr.cell? ⟨kb1, ko1 + k * 11, none⟩ = some (.int .i64 x1.kind) := by exact hc1 0 _ rfl
        have b11 : wr.cell? ⟨kb1, ko1 + k * 11 + 1, none⟩ = some (.int .i64 x1.n) := by rw [Nat.add_assoc]; exact hc1 1 _ rfl
        have b12 : wr.cell? ⟨kb1, ko1 + k * 11 + 2, none⟩ = some (.int .i64 x1.ask) := by rw [Nat.add_assoc]; exact hc1 2 _ rfl
        have b13 : wr.cell? ⟨kb1, ko1 + k * 11 + 3, none⟩ = some (.string x1.path) := by rw [Nat.add_assoc]; exact hc1 3 _ rfl
        have b14 : wr.cell? ⟨kb1, ko1 + k * 11 + 4, none⟩ = some (.string x1.dest) := by rw [Nat.add_assoc]; exact hc1 4 _ rfl
        have b15 : wr.cell? ⟨kb1, ko1 + k * 11 + 5, none⟩ = some (.int .i64 x1.an) := by rw [Nat.add_assoc]; exact hc1 5 _ rfl
        have b16 : wr.cell? ⟨kb1, ko1 + k * 11 + 6, none⟩ = some (.int .i64 x1.off) := by rw [Nat.add_assoc]; exact hc1 6 _ rfl
        have b17 : wr.cell? ⟨kb1, ko1 + k * 11 + 7, none⟩ = some (.int .i64 x1.len) := by rw [Nat.add_assoc]; exact hc1 7 _ rfl
        have b18 : wr.cell? ⟨kb1, ko1 + k * 11 + 8, none⟩ = some (.slice ad1 x1.data.length dc1) := by rw [Nat.add_assoc]; exact hc1 8 _ rfl
        have b19 : wr.cell? ⟨kb1, ko1 + k * 11 + 9, none⟩ = some (.int .i64 x1.cut) := by rw [Nat.add_assoc]; exact hc1 9 _ rfl
        have b1a : wr.cell? ⟨kb1, ko1 + k * 11 + 10, none⟩ = some (.slice k1 x1.keep.length kc1) := by rw [Nat.add_assoc]; exact hc1 10 _ rfl
        have b20 : wr.cell? ⟨kb2, ko2 + k * 11, none⟩ = some (.int .i64 x2.kind) := by exact hc2 0 _ rfl
        have b21 : wr.cell? ⟨kb2, ko2 + k * 11 + 1, none⟩ = some (.int .i64 x2.n) := by rw [Nat.add_assoc]; exact hc2 1 _ rfl
        have b22 : wr.cell? ⟨kb2, ko2 + k * 11 + 2, none⟩ = some (.int .i64 x2.ask) := by rw [Nat.add_assoc]; exact hc2 2 _ rfl
        have b23 : wr.cell? ⟨kb2, ko2 + k * 11 + 3, none⟩ = some (.string x2.path) := by rw [Nat.add_assoc]; exact hc2 3 _ rfl
        have b24 : wr.cell? ⟨kb2, ko2 + k * 11 + 4, none⟩ = some (.string x2.dest) := by rw [Nat.add_assoc]; exact hc2 4 _ rfl
        have b25 : wr.cell? ⟨kb2, ko2 + k * 11 + 5, none⟩ = some (.int .i64 x2.an) := by rw [Nat.add_assoc]; exact hc2 5 _ rfl
        have b26 : wr.cell? ⟨kb2, ko2 + k * 11 + 6, none⟩ = some (.int .i64 x2.off) := by rw [Nat.add_assoc]; exact hc2 6 _ rfl
        have b27 : wr.cell? ⟨kb2, ko2 + k * 11 + 7, none⟩ = some (.int .i64 x2.len) := by rw [Nat.add_assoc]; exact hc2 7 _ rfl
        have b28 : wr.cell? ⟨kb2, ko2 + k * 11 + 8, none⟩ = some (.slice ad2 x2.data.length dc2) := by rw [Nat.add_assoc]; exact hc2 8 _ rfl
        have b29 : wr.cell? ⟨kb2, ko2 + k * 11 + 9, none⟩ = some (.int .i64 x2.cut) := by rw [Nat.add_assoc]; exact hc2 9 _ rfl
        have b2a : wr.cell? ⟨kb2, ko2 + k * 11 + 10, none⟩ = some (.slice k2 x2.keep.length kc2) := by rw [Nat.add_assoc]; exact hc2 10 _ rfl
        have HS := Lib.hid (sameStep_any x1 x2 (c1 := dc1) (c2 := dc2) (e1 := kc1) (e2 := kc2) (hs1.data.below hd) (hs2.data.below hd) (hs1.keepAt.below hd) (hs2.keepAt.below hd) (H.out.2.2 x1 (List.mem_of_getElem? hx1)))
        have HX := Lib.hid (And.intro hx1 (And.intro hx2 (And.intro ht hb)))
        clear hx1 hx2 ht hb hc1 hc2 hs1 hs2 hd hkb1 hkb2
        by_cases hxy : x1 = x2
        · have Hq := Lib.hid (stpEq_iff.2 hxy)
          have HXY := Lib.hid hxy
          clear hxy
          rw [Hq.out] at HS
          unfold stpCells at HS
          go_upto_region 6 with fail
          refine wp_region_F [8] (S := fun w' => w'.cell? ⟨kb1, ko1 + k * 11, none⟩ = some (.int .i64 x1.kind) ∧ w'.cell? ⟨kb1, ko1 + k * 11 + 1, none⟩ = some (.int .i64 x1.n) ∧ w'.cell? ⟨kb1, ko1 + k * 11 + 2, none⟩ = some (.int .i64 x1.ask) ∧ w'.cell? ⟨kb1, ko1 + k * 11 + 3, none⟩ = some (.string x1.path) ∧ w'.cell? ⟨kb1, ko1 + k * 11 + 4, none⟩ = some (.string x1.dest) ∧ w'.cell? ⟨kb1, ko1 + k * 11 + 5, none⟩ = some (.int .i64 x1.an) ∧ w'.cell? ⟨kb1, ko1 + k * 11 + 6, none⟩ = some (.int .i64 x1.off) ∧ w'.cell? ⟨kb1, ko1 + k * 11 + 7, none⟩ = some (.int .i64 x1.len) ∧ w'.cell? ⟨kb1, ko1 + k * 11 + 8, none⟩ = some (.slice ad1 x1.data.length dc1) ∧ w'.cell? ⟨kb1, ko1 + k * 11 + 9, none⟩ = some (.int .i64 x1.cut) ∧ w'.cell? ⟨kb1, ko1 + k * 11 + 10, none⟩ = some (.slice k1 x1.keep.length kc1) ∧ w'.cell? ⟨kb2, ko2 + k * 11, none⟩ = some (.int .i64 x2.kind) ∧ w'.cell? ⟨kb2, ko2 + k * 11 + 1, none⟩ = some (.int .i64 x2.n) ∧ w'.cell? ⟨kb2, ko2 + k * 11 + 2, none⟩ = some (.int .i64 x2.ask) ∧ w'.cell? ⟨kb2, ko2 + k * 11 + 3, none⟩ = some (.string x2.path) ∧ w'.cell? ⟨kb2, ko2 + k * 11 + 4, none⟩ = some (.string x2.dest) ∧ w'.cell? ⟨kb2, ko2 + k * 11 + 5, none⟩ = some (.int .i64 x2.an) ∧ w'.cell? ⟨kb2, ko2 + k * 11 + 6, none⟩ = some (.int .i64 x2.off) ∧ w'.cell? ⟨kb2, ko2 + k * 11 + 7, none⟩ = some (.int .i64 x2.len) ∧ w'.cell? ⟨kb2, ko2 + k * 11 + 8, none⟩ = some (.slice ad2 x2.data.length dc2) ∧ w'.cell? ⟨kb2, ko2 + k * 11 + 9, none⟩ = some (.int .i64 x2.cut) ∧ w'.cell? ⟨kb2, ko2 + k * 11 + 10, none⟩ = some (.slice k2 x2.keep.length kc2) ∧ True) (by kernel_rfl) (⟨b10, b11, b12, b13, b14, b15, b16, b17, b18, b19, b1a, b20, b21, b22, b23, b24, b25, b26, b27, b28, b29, b2a, trivial⟩) (fun hHeld => ?_)
          show wpAnyF _ _ _ _ _ _ 10 #[false, false, false, false, false, false, false, false, false, false] _ _
          refine wpAnyF_take [0, 2, 3, 8, 9] (i := 0) (v := ?kv1) rfl (by kernel_rfl) (by kernel_rfl) (by kernel_rfl) (by kernel_rfl) (fun _ _ _ h => h) (Or.inl ⟨by rfl, ?ky1⟩) (by assumption) ?kr1
          case ky1 => (intro w hSw; (try dsimp only at hSw); go_split_ands; (try simp only [List.getElem_toArray, List.getElem_cons_zero]); go_simp; (try with_reducible rfl))
          try simp only [Act.put, List.getElem_toArray, List.getElem_cons_zero, List.setIfInBounds_toArray, List.set_cons_zero, List.set_cons_succ]
          refine wpAnyF_take [1, 2, 3, 8, 9] (i := 1) (v := ?kv2) rfl (by kernel_rfl) (by kernel_rfl) (by kernel_rfl) (by kernel_rfl) (fun _ _ _ h => h) (Or.inl ⟨by rfl, ?ky2⟩) (by assumption) ?kr2
          case ky2 => (intro w hSw; (try dsimp only at hSw); go_split_ands; (try simp only [List.getElem_toArray, List.getElem_cons_zero, List.getElem_cons_succ]); go_simp; (try with_reducible rfl))
          try simp only [Act.put, List.getElem_toArray, List.getElem_cons_zero, List.getElem_cons_succ, List.setIfInBounds_toArray, List.set_cons_zero, List.set_cons_succ]
          refine wpAnyF_take [2, 3, 8, 9] (i := 2) (v := ?kv3) rfl (by kernel_rfl) (by kernel_rfl) (by kernel_rfl) (by kernel_rfl) (fun _ _ _ h => h) (Or.inl ⟨by rfl, ?ky3⟩) (by assumption) ?kr3
          case ky3 => (intro w hSw; (try dsimp only at hSw); go_split_ands; (try simp only [List.getElem_toArray, List.getElem_cons_zero, List.getElem_cons_succ]); go_simp; (try with_reducible rfl))
          try simp only [Act.put, List.getElem_toArray, List.getElem_cons_zero, List.getElem_cons_succ, List.setIfInBounds_toArray, List.set_cons_zero, List.set_cons_succ]
          refine wpAnyF_take [3, 8, 9] (i := 3) (v := ?kv4) rfl (by kernel_rfl) (by kernel_rfl) (by kernel_rfl) (by kernel_rfl) (fun _ _ _ h => h) (Or.inl ⟨by rfl, ?ky4⟩) (by assumption) ?kr4
          case ky4 => (intro w hSw; (try dsimp only at hSw); go_split_ands; (try simp only [List.getElem_toArray, List.getElem_cons_zero, List.getElem_cons_succ]); go_simp; (try with_reducible rfl))
          try simp only [Act.put, List.getElem_toArray, List.getElem_cons_zero, List.getElem_cons_succ, List.setIfInBounds_toArray, List.set_cons_zero, List.set_cons_succ]
          refine wpAnyF_take [4, 6, 7, 8, 9] (i := 4) (v := ?kv5) rfl (by kernel_rfl) (by kernel_rfl) (by kernel_rfl) (by kernel_rfl) (fun _ _ _ h => h) (Or.inl ⟨by rfl, ?ky5⟩) (by assumption) ?kr5
          case ky5 => (intro w hSw; (try dsimp only at hSw); go_split_ands; (try simp only [List.getElem_toArray, List.getElem_cons_zero, List.getElem_cons_succ]); go_simp; (try with_reducible rfl))
          try simp only [Act.put, List.getElem_toArray, List.getElem_cons_zero, List.getElem_cons_succ, List.setIfInBounds_toArray, List.set_cons_zero, List.set_cons_succ]
          refine wpAnyF_take [5, 6, 7, 8, 9] (i := 5) (v := ?kv6) rfl (by kernel_rfl) (by kernel_rfl) (by kernel_rfl) (by kernel_rfl) (fun _ _ _ h => h) (Or.inl ⟨by rfl, ?ky6⟩) (by assumption) ?kr6
          case ky6 => (intro w hSw; (try dsimp only at hSw); go_split_ands; (try simp only [List.getElem_toArray, List.getElem_cons_zero, List.getElem_cons_succ]); go_simp; (try with_reducible rfl))
          try simp only [Act.put, List.getElem_toArray, List.getElem_cons_zero, List.getElem_cons_succ, List.setIfInBounds_toArray, List.set_cons_zero, List.set_cons_succ]
          refine wpAnyF_take [6, 7, 8, 9] (i := 6) (v := ?kv7) rfl (by kernel_rfl) (by kernel_rfl) (by kernel_rfl) (by kernel_rfl) (fun _ _ _ h => h) (Or.inl ⟨by rfl, ?ky7⟩) (by assumption) ?kr7
          case ky7 => (intro w hSw; (try dsimp only at hSw); go_split_ands; (try simp only [List.getElem_toArray, List.getElem_cons_zero, List.getElem_cons_succ]); go_simp; (try with_reducible rfl))
          try simp only [Act.put, List.getElem_toArray, List.getElem_cons_zero, List.getElem_cons_succ, List.setIfInBounds_toArray, List.set_cons_zero, List.set_cons_succ]
          refine wpAnyF_take [7, 8, 9] (i := 7) (v := ?kv8) rfl (by kernel_rfl) (by kernel_rfl) (by kernel_rfl) (by kernel_rfl) (fun _ _ _ h => h) (Or.inl ⟨by rfl, ?ky8⟩) (by assumption) ?kr8
          case ky8 => (intro w hSw; (try dsimp only at hSw); go_split_ands; (try simp only [List.getElem_toArray, List.getElem_cons_zero, List.getElem_cons_succ]); go_simp; (try with_reducible rfl))
          try simp only [Act.put, List.getElem_toArray, List.getElem_cons_zero, List.getElem_cons_succ, List.setIfInBounds_toArray, List.set_cons_zero, List.set_cons_succ]
          refine wpAnyF_ready (rs := [8]) (by kernel_rfl) (by simp) ?_
          refine (AllReadyF.last rfl (by kernel_rfl) (fun K hK => ?_) AllReadyF.nil)
          try simp only [List.getElem_toArray, List.getElem_cons_zero, List.getElem_cons_succ]
          go_simp
          go_at_call 11; refine HS.out.mono ?_; rintro e w4 ⟨rfl, b4⟩
          refine hK.out _ _ (trivial) (fun hHeldn => ?_)
          clear hHeld hK K
          have hHeld := hHeldn
          clear hHeldn
          try simp only [List.setIfInBounds_toArray, List.set_cons_zero, List.set_cons_succ]
          refine wpAnyF_pure (i := 9) (v := ?kv10) rfl (by kernel_rfl) (by kernel_rfl) (by kernel_rfl) (by kernel_rfl) (fun _ _ _ h => h) (Or.inl ⟨by rfl, ?ky10⟩) (by first | (intro _; assumption) | (intro h; exact absurd h (by decide))) ?kr10
          case ky10 => (intro w hSw; clear hSw; (try simp only [List.getElem_toArray, List.getElem_cons_zero, List.getElem_cons_succ]); go_simp; (try with_reducible rfl))
          try simp only [Act.put, List.getElem_toArray, List.getElem_cons_zero, List.getElem_cons_succ, List.setIfInBounds_toArray, List.set_cons_zero, List.set_cons_succ]
          refine wpAnyF_done (by kernel_rfl) ?_ _
          go_wp2_with fail
          go_roundw
          case rel => exact ⟨k + 1, by omega, by go_num, take_eq_succS HX.out.2.2.1 HX.out.1 (by rw [HXY.out]; exact HX.out.2.1), HX.out.2.2.2.trans (((Below.refl _ wr).drew.trans b4).mono HX.out.2.2.2.size)⟩
          case measure => simp [Go.RowKit.intOf]; omega
        · have Hq := Lib.hid (stpEq_no hxy)
          have Hn := Lib.hid (decide_eq_false (show ¬ l1 = l2 from fun e => hxy (by have h1 := HX.out.1; rw [e, HX.out.2.1] at h1; exact (Option.some.inj h1).symm)))
          rw [Hq.out] at HS
          unfold stpCells at HS
          clear hxy
          go_upto_region 6 with fail
          refine wp_region_F [8] (S := fun w' => w'.cell? ⟨kb1, ko1 + k * 11, none⟩ = some (.int .i64 x1.kind) ∧ w'.cell? ⟨kb1, ko1 + k * 11 + 1, none⟩ = some (.int .i64 x1.n) ∧ w'.cell? ⟨kb1, ko1 + k * 11 + 2, none⟩ = some (.int .i64 x1.ask) ∧ w'.cell? ⟨kb1, ko1 + k * 11 + 3, none⟩ = some (.string x1.path) ∧ w'.cell? ⟨kb1, ko1 + k * 11 + 4, none⟩ = some (.string x1.dest) ∧ w'.cell? ⟨kb1, ko1 + k * 11 + 5, none⟩ = some (.int .i64 x1.an) ∧ w'.cell? ⟨kb1, ko1 + k * 11 + 6, none⟩ = some (.int .i64 x1.off) ∧ w'.cell? ⟨kb1, ko1 + k * 11 + 7, none⟩ = some (.int .i64 x1.len) ∧ w'.cell? ⟨kb1, ko1 + k * 11 + 8, none⟩ = some (.slice ad1 x1.data.length dc1) ∧ w'.cell? ⟨kb1, ko1 + k * 11 + 9, none⟩ = some (.int .i64 x1.cut) ∧ w'.cell? ⟨kb1, ko1 + k * 11 + 10, none⟩ = some (.slice k1 x1.keep.length kc1) ∧ w'.cell? ⟨kb2, ko2 + k * 11, none⟩ = some (.int .i64 x2.kind) ∧ w'.cell? ⟨kb2, ko2 + k * 11 + 1, none⟩ = some (.int .i64 x2.n) ∧ w'.cell? ⟨kb2, ko2 + k * 11 + 2, none⟩ = some (.int .i64 x2.ask) ∧ w'.cell? ⟨kb2, ko2 + k * 11 + 3, none⟩ = some (.string x2.path) ∧ w'.cell? ⟨kb2, ko2 + k * 11 + 4, none⟩ = some (.string x2.dest) ∧ w'.cell? ⟨kb2, ko2 + k * 11 + 5, none⟩ = some (.int .i64 x2.an) ∧ w'.cell? ⟨kb2, ko2 + k * 11 + 6, none⟩ = some (.int .i64 x2.off) ∧ w'.cell? ⟨kb2, ko2 + k * 11 + 7, none⟩ = some (.int .i64 x2.len) ∧ w'.cell? ⟨kb2, ko2 + k * 11 + 8, none⟩ = some (.slice ad2 x2.data.length dc2) ∧ w'.cell? ⟨kb2, ko2 + k * 11 + 9, none⟩ = some (.int .i64 x2.cut) ∧ w'.cell? ⟨kb2, ko2 + k * 11 + 10, none⟩ = some (.slice k2 x2.keep.length kc2) ∧ True) (by kernel_rfl) (⟨b10, b11, b12, b13, b14, b15, b16, b17, b18, b19, b1a, b20, b21, b22, b23, b24, b25, b26, b27, b28, b29, b2a, trivial⟩) (fun hHeld => ?_)
          show wpAnyF _ _ _ _ _ _ 10 #[false, false, false, false, false, false, false, false, false, false] _ _
          refine wpAnyF_take [0, 2, 3, 8, 9] (i := 0) (v := ?kv11) rfl (by kernel_rfl) (by kernel_rfl) (by kernel_rfl) (by kernel_rfl) (fun _ _ _ h => h) (Or.inl ⟨by rfl, ?ky11⟩) (by assumption) ?kr11
          case ky11 => (intro w hSw; (try dsimp only at hSw); go_split_ands; (try simp only [List.getElem_toArray, List.getElem_cons_zero]); go_simp; (try with_reducible rfl))
          try simp only [Act.put, List.getElem_toArray, List.getElem_cons_zero, List.setIfInBounds_toArray, List.set_cons_zero, List.set_cons_succ]
          refine wpAnyF_take [1, 2, 3, 8, 9] (i := 1) (v := ?kv12) rfl (by kernel_rfl) (by kernel_rfl) (by kernel_rfl) (by kernel_rfl) (fun _ _ _ h => h) (Or.inl ⟨by rfl, ?ky12⟩) (by assumption) ?kr12
          case ky12 => (intro w hSw; (try dsimp only at hSw); go_split_ands; (try simp only [List.getElem_toArray, List.getElem_cons_zero, List.getElem_cons_succ]); go_simp; (try with_reducible rfl))
          try simp only [Act.put, List.getElem_toArray, List.getElem_cons_zero, List.getElem_cons_succ, List.setIfInBounds_toArray, List.set_cons_zero, List.set_cons_succ]
          refine wpAnyF_take [2, 3, 8, 9] (i := 2) (v := ?kv13) rfl (by kernel_rfl) (by kernel_rfl) (by kernel_rfl) (by kernel_rfl) (fun _ _ _ h => h) (Or.inl ⟨by rfl, ?ky13⟩) (by assumption) ?kr13
          case ky13 => (intro w hSw; (try dsimp only at hSw); go_split_ands; (try simp only [List.getElem_toArray, List.getElem_cons_zero, List.getElem_cons_succ]); go_simp; (try with_reducible rfl))
          try simp only [Act.put, List.getElem_toArray, List.getElem_cons_zero, List.getElem_cons_succ, List.setIfInBounds_toArray, List.set_cons_zero, List.set_cons_succ]
          refine wpAnyF_take [3, 8, 9] (i := 3) (v := ?kv14) rfl (by kernel_rfl) (by kernel_rfl) (by kernel_rfl) (by kernel_rfl) (fun _ _ _ h => h) (Or.inl ⟨by rfl, ?ky14⟩) (by assumption) ?kr14
          case ky14 => (intro w hSw; (try dsimp only at hSw); go_split_ands; (try simp only [List.getElem_toArray, List.getElem_cons_zero, List.getElem_cons_succ]); go_simp; (try with_reducible rfl))
          try simp only [Act.put, List.getElem_toArray, List.getElem_cons_zero, List.getElem_cons_succ, List.setIfInBounds_toArray, List.set_cons_zero, List.set_cons_succ]
          refine wpAnyF_take [4, 6, 7, 8, 9] (i := 4) (v := ?kv15) rfl (by kernel_rfl) (by kernel_rfl) (by kernel_rfl) (by kernel_rfl) (fun _ _ _ h => h) (Or.inl ⟨by rfl, ?ky15⟩) (by assumption) ?kr15
          case ky15 => (intro w hSw; (try dsimp only at hSw); go_split_ands; (try simp only [List.getElem_toArray, List.getElem_cons_zero, List.getElem_cons_succ]); go_simp; (try with_reducible rfl))
          try simp only [Act.put, List.getElem_toArray, List.getElem_cons_zero, List.getElem_cons_succ, List.setIfInBounds_toArray, List.set_cons_zero, List.set_cons_succ]
          refine wpAnyF_take [5, 6, 7, 8, 9] (i := 5) (v := ?kv16) rfl (by kernel_rfl) (by kernel_rfl) (by kernel_rfl) (by kernel_rfl) (fun _ _ _ h => h) (Or.inl ⟨by rfl, ?ky16⟩) (by assumption) ?kr16
          case ky16 => (intro w hSw; (try dsimp only at hSw); go_split_ands; (try simp only [List.getElem_toArray, List.getElem_cons_zero, List.getElem_cons_succ]); go_simp; (try with_reducible rfl))
          try simp only [Act.put, List.getElem_toArray, List.getElem_cons_zero, List.getElem_cons_succ, List.setIfInBounds_toArray, List.set_cons_zero, List.set_cons_succ]
          refine wpAnyF_take [6, 7, 8, 9] (i := 6) (v := ?kv17) rfl (by kernel_rfl) (by kernel_rfl) (by kernel_rfl) (by kernel_rfl) (fun _ _ _ h => h) (Or.inl ⟨by rfl, ?ky17⟩) (by assumption) ?kr17
          case ky17 => (intro w hSw; (try dsimp only at hSw); go_split_ands; (try simp only [List.getElem_toArray, List.getElem_cons_zero, List.getElem_cons_succ]); go_simp; (try with_reducible rfl))
          try simp only [Act.put, List.getElem_toArray, List.getElem_cons_zero, List.getElem_cons_succ, List.setIfInBounds_toArray, List.set_cons_zero, List.set_cons_succ]
          refine wpAnyF_take [7, 8, 9] (i := 7) (v := ?kv18) rfl (by kernel_rfl) (by kernel_rfl) (by kernel_rfl) (by kernel_rfl) (fun _ _ _ h => h) (Or.inl ⟨by rfl, ?ky18⟩) (by assumption) ?kr18
          case ky18 => (intro w hSw; (try dsimp only at hSw); go_split_ands; (try simp only [List.getElem_toArray, List.getElem_cons_zero, List.getElem_cons_succ]); go_simp; (try with_reducible rfl))
          try simp only [Act.put, List.getElem_toArray, List.getElem_cons_zero, List.getElem_cons_succ, List.setIfInBounds_toArray, List.set_cons_zero, List.set_cons_succ]
          refine wpAnyF_ready (rs := [8]) (by kernel_rfl) (by simp) ?_
          refine (AllReadyF.last rfl (by kernel_rfl) (fun K hK => ?_) AllReadyF.nil)
          try simp only [List.getElem_toArray, List.getElem_cons_zero, List.getElem_cons_succ]
          go_simp
          go_at_call 11; refine HS.out.mono ?_; rintro e w4 ⟨rfl, b4⟩
          refine hK.out _ _ (trivial) (fun hHeldn => ?_)
          clear hHeld hK K
          have hHeld := hHeldn
          clear hHeldn
          try simp only [List.setIfInBounds_toArray, List.set_cons_zero, List.set_cons_succ]
          refine wpAnyF_pure (i := 9) (v := ?kv20) rfl (by kernel_rfl) (by kernel_rfl) (by kernel_rfl) (by kernel_rfl) (fun _ _ _ h => h) (Or.inl ⟨by rfl, ?ky20⟩) (by first | (intro _; assumption) | (intro h; exact absurd h (by decide))) ?kr20
          case ky20 => (intro w hSw; clear hSw; (try simp only [List.getElem_toArray, List.getElem_cons_zero, List.getElem_cons_succ]); go_simp; (try with_reducible rfl))
          try simp only [Act.put, List.getElem_toArray, List.getElem_cons_zero, List.getElem_cons_succ, List.setIfInBounds_toArray, List.set_cons_zero, List.set_cons_succ]
          refine wpAnyF_done (by kernel_rfl) ?_ _
          go_wp2_with fail
          go_ret
          exact ⟨by rw [Hn.out]; rfl, HX.out.2.2.2.trans (((Below.refl _ wr).drew.trans b4).mono HX.out.2.2.2.size)⟩
      · obtain rfl : k = l1.length := by omega
        rw [List.take_length, HL.out, List.take_length] at ht
        have Hn := Lib.hid (decide_eq_true ht)
        have HX := Lib.hid hb
        clear ht hb
        go_wp2_with fail
        go_ret
        exact ⟨by rw [Hn.out]; rfl, HX.out⟩
  · have z0 : ((l1.length : Int) != (l2.length : Int)) = true := by simpa using by omega
    have Hn := Lib.hid (decide_eq_false (fun e : l1 = l2 => hlen (by rw [e])))
    clear hlen
    go_enter Tryz.func10, Tryz.ntmps10
    go_wp2_with fail
    go_ret
    exact ⟨by rw [Hn.out]; rfl, Below.refl _ _⟩
end Go.Proofs.YtanmihhlkelgeaaGreat
