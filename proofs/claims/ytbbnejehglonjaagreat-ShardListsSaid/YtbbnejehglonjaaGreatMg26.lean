/- DERIVED. Contracts and laws that the proofs of this seat share, part 26 of 40: DvF. -/
import Derived.Test.YtbbnejehglonjaaGreatMg00
import Derived.Test.YtbbnejehglonjaaGreatMg25
/- DERIVED. A device as it lies: contract of dev.New. -/
namespace Go.Proofs.YtbbnejehglonjaaGreat
open Go.RowKit
attribute [local go_sem] hasBlk
attribute [local irreducible] Calls
set_option maxRecDepth 100000
set_option maxHeartbeats 8000000 in
theorem DevNew_any (a : Option Addr) (l : List Int) (cap : Nat) (w : World) (hi : IntsAt w a l) (h0 : 0 < l.length) (h8 : l.length ≤ 8) (hl : ∀ n ∈ l, 1 ≤ n ∧ n ≤ 1000) :
    Calls Tryz.prog 53 #[.slice a l.length cap] w fun e w' => ∃ d, e = .returned (.tuple #[.pointer (some ⟨d, 0, none⟩), .bool true]) ∧ DevAt w' (fun q => w.heap.size ≤ q ∧ q < w'.heap.size) d ⟨l.map fun n => Reg.new n.toNat, -1⟩ 0 ∧ Below w.heap.size w w' := by
  obtain ⟨ba, off, ha, hc⟩ := hi
  obtain rfl := ha h0
  have Hc := Lib.hid (And.intro hc hl)
  have n1 : ¬ ((l.length : Int) < 1) := by omega
  have n2 : ¬ ((8 : Int) < (l.length : Int)) := by omega
  clear hc hl ha
  go_enter Tryz.func53, Tryz.ntmps53
  go_wp2_with fail
  obtain ⟨d, hd⟩ : ∃ d, d = w.heap.size := ⟨_, rfl⟩
  obtain ⟨w0, hw0⟩ : ∃ w0, w0 = w.alloc (.cells #[.slice none 0 0, .int .i64 (-1)] 202) := ⟨_, rfl⟩
  have hM0 : MidV w w0 d l 0 (.slice none 0 0) [] (fun _ _ => False) := by
    refine ⟨by rw [hw0]; exact grow_alloc (Below.refl _ _) _, by omega, by rw [hw0, hd, objAt_alloc, if_pos rfl], RowG.nil _ _ _ _ _, rfl, fun j r n hj => by simp at hj, fun j q h => h.elim, fun i j q h => h.elim⟩
  rw [← hd, ← hw0]
  have HB := Lib.hid hM0
  clear hw0 hM0 hd n1 n2
  go_loopw [20] (fun i wr => ∃ k : Nat, k ≤ l.length ∧ i = .int .i64 k ∧ Mid w wr d l k) (fun i _ => l.length - (intOf i).toNat)
  case atStart => exact ⟨0, Nat.zero_le _, rfl, _, _, _, HB.out⟩
  case round =>
    obtain ⟨ko, hko, rfl, lv, rs, SS, hM⟩ := hrel
    by_cases hlo : ko < l.length
    · have hlo' : (ko : Int) < (l.length : Int) := by omega
      have hmem : l[ko] ∈ l := List.getElem_mem hlo
      obtain ⟨n, hn⟩ := Int.eq_ofNat_of_zero_le (show 0 ≤ l[ko] by have := Hc.out.2 _ hmem; omega)
      have hge : l.getD ko 0 = (n : Int) := by rw [List.getD_eq_getElem?_getD, List.getElem?_eq_getElem hlo]; exact hn
      have hgk : l[ko]? = some (n : Int) := by rw [List.getElem?_eq_getElem hlo, hn]
      have hck := grow_cell hM.below (Hc.out.1 ko hlo)
      rw [hge] at hck
      have hb := Hc.out.2 _ hmem
      rw [hn] at hb
      have h0 : 0 < n := by omega
      have hnn : n ≤ 1000 := by omega
      have n1 : ¬ ((n : Int) < 1) := by omega
      have n2 : ¬ ((1000 : Int) < (n : Int)) := by omega
      have HM := Lib.hid (And.intro hM hgk)
      clear hM hmem hn hge hgk hb
      go_upto_region 10 with fail
      obtain ⟨r, hr⟩ : ∃ r, r = wr.heap.size := ⟨_, rfl⟩
      obtain ⟨w1, hw1⟩ : ∃ w1, w1 = wr.alloc (.cells #[.slice none 0 0, .slice none 0 0, .slice none 0 0, .slice none 0 0] 207) := ⟨_, rfl⟩
      have hr1 : objAt w1 r = some (.cells #[.slice none 0 0, .slice none 0 0, .slice none 0 0, .slice none 0 0] 207 (0, 0)) := by rw [hw1, hr, objAt_alloc, if_pos rfl]
      have hB1 : Below r wr w1 := by rw [hw1, hr]; exact grow_alloc (Below.refl _ _) _
      have hst : NewSt wr w1 r 0 := ⟨hB1, block_lt hr1, _, _, hr1, SeenRow.nil _ _, SeenRow.nil _ _, fun g hg => by cases hg⟩
      rw [← hr, ← hw1]
      obtain ⟨wo, rfl⟩ : ∃ wo, wo = wr := ⟨_, rfl⟩
      have H1 := Lib.hid (And.intro hst hr)
      clear hw1 hr hr1 hB1 hst n1 n2 hck
      go_wp2_with fail
      go_loopw [33] (fun i wi => ∃ k : Nat, k ≤ n ∧ i = .int .i64 k ∧ NewSt wo wi r k) (fun i _ => n - (intOf i).toNat)
      case atStart => exact ⟨0, Nat.zero_le _, rfl, H1.out.1⟩
      case round =>
        obtain ⟨k, hk, rfl, hst⟩ := hrel
        by_cases hlt : k < n
        · have hlt' : (k : Int) < (n : Int) := by omega
          obtain ⟨hbel, hrl, s0, s1, ho, hr0, hr1, hne⟩ := hst
          have c0 := cell_obj ho 0
          have c1 := cell_obj ho 1
          have H2 := Lib.hid (And.intro hbel (And.intro hrl (And.intro ho (And.intro hr0 (And.intro hr1 hne)))))
          clear hbel ho hne hr0
          go_upto_region 12 with fail
          have hr : ¬ s0.ownBlock = some r := fun e => by have := H2.out.2.2.2.1.choose_spec.2.1 r e; omega
          have hS : ∀ w', Keeps (fun q => s0.ownBlock = some q) wr w' → w'.cell? ⟨r, 0, none⟩ = some s0 ∧ w'.cell? ⟨r, 1, none⟩ = some s1 ∧ Keeps (fun q => s0.ownBlock = some q) wr w' := fun w' hb => ⟨cell_obj (hb.obj H2.out.2.2.1 hr) 0, cell_obj (hb.obj H2.out.2.2.1 hr) 1, hb⟩
          have hown0 : ∀ q, s0.ownBlock = some q → q < wr.heap.size := fun q hq => by obtain ⟨c, hc⟩ := H2.out.2.2.2.1.obj hq; exact block_lt hc
          have hown1 : ∀ q, s1.ownBlock = some q → q < wr.heap.size := fun q hq => by obtain ⟨c, hc⟩ := H2.out.2.2.2.2.1.obj hq; exact block_lt hc
          have f0 : SeenRow wr.drew (r + 1) s0 k := H2.out.2.2.2.1.below (Below.refl _ _).drew
          have f1 : SeenRow wr.drew (r + 1) s1 k := H2.out.2.2.2.2.1.below (Below.refl _ _).drew
          have fr : objAt wr.drew r = some (.cells #[s0, s1, .slice none 0 0, .slice none 0 0] 207 (0, 0)) := H2.out.2.2.1
          have fK : Keeps (fun q => s0.ownBlock = some q) wr wr.drew := Keeps.of_below (Below.refl _ _).drew
          clear hr1
          refine wp_region_F [15, 18, 21] (S := fun w' => w'.cell? ⟨r, 0, none⟩ = some s0 ∧ w'.cell? ⟨r, 1, none⟩ = some s1 ∧ Keeps (fun q => s0.ownBlock = some q) wr w') (by kernel_rfl) (hS _ fK) (fun hHeld => ?_)
          show wpAnyF _ _ _ _ _ _ 22 #[false, false, false, false, false, false, false, false, false, false, false, false, false, false, false, false, false, false, false, false, false, false] _ _
          refine wpAnyF_pure (i := 0) (v := ?kv1) rfl (by kernel_rfl) (by kernel_rfl) (by kernel_rfl) (by kernel_rfl) (fun _ _ _ h => h) (Or.inl ⟨by rfl, ?ky1⟩) (by first | (intro _; assumption) | (intro h; exact absurd h (by decide))) ?kr1
          case ky1 => (intro w hSw; clear hSw; (try simp only [qA, qB]); go_simp; (try with_reducible rfl))
          try simp only [Act.put, qA, qB, qD, qE, qF]
          refine wpAnyF_pure (i := 1) (v := ?kv2) rfl (by kernel_rfl) (by kernel_rfl) (by kernel_rfl) (by kernel_rfl) (fun _ _ _ h => h) (Or.inl ⟨by rfl, ?ky2⟩) (by first | (intro _; assumption) | (intro h; exact absurd h (by decide))) ?kr2
          case ky2 => (intro w hSw; clear hSw; (try simp only [qA, qB, qC]); go_simp; (try with_reducible rfl))
          try simp only [Act.put, qA, qB, qC, qD, qE, qF]
          refine wpAnyF_take [2, 3, 4, 5, 8, 15, 16, 17, 18, 19, 20, 21] (i := 2) (v := ?kv3) rfl (by kernel_rfl) (by kernel_rfl) (by kernel_rfl) (by kernel_rfl) (fun _ _ _ h => h) (Or.inl ⟨by rfl, ?ky3⟩) (by assumption) ?kr3
          case ky3 => (intro w hSw; (try dsimp only at hSw); go_split_ands; (try simp only [qA, qB, qC]); go_simp; (try with_reducible rfl))
          try simp only [Act.put, qA, qB, qC, qD, qE, qF]
          refine wpAnyF_take [3, 4, 5, 8, 15, 16, 17, 18, 19, 20, 21] (i := 3) (v := ?kv4) rfl (by kernel_rfl) (by kernel_rfl) (by kernel_rfl) (by kernel_rfl) (fun _ _ _ h => h) (Or.inl ⟨by rfl, ?ky4⟩) (by assumption) ?kr4
          case ky4 => (intro w hSw; (try dsimp only at hSw); go_split_ands; (try simp only [qA, qB, qC]); go_simp; (try with_reducible rfl))
          try simp only [Act.put, qA, qB, qC, qD, qE, qF]
          refine wpAnyF_take [4, 5, 8, 15, 16, 17, 18, 19, 20, 21] (i := 4) (v := ?kv5) rfl (by kernel_rfl) (by kernel_rfl) (by kernel_rfl) (by kernel_rfl) (fun _ _ _ h => h) (Or.inl ⟨by rfl, ?ky5⟩) (by assumption) ?kr5
          case ky5 => (intro w hSw; (try dsimp only at hSw); go_split_ands; (try simp only [qA, qB, qC]); go_simp; (try with_reducible rfl))
          try simp only [Act.put, qA, qB, qC, qD, qE, qF]
          refine wpAnyF_take [5, 8, 15, 16, 17, 18, 19, 20, 21] (i := 5) (v := ?kv6) rfl (by kernel_rfl) (by kernel_rfl) (by kernel_rfl) (by kernel_rfl) (fun _ _ _ h => h) (Or.inl ⟨by rfl, ?ky6⟩) (by assumption) ?kr6
          case ky6 => (intro w hSw; (try dsimp only at hSw); go_split_ands; (try simp only [qA, qB, qC]); go_simp; (try with_reducible rfl))
          try simp only [Act.put, qA, qB, qC, qD, qE, qF]
          refine wpAnyF_take [9, 10, 11, 12, 15, 16, 17, 18, 19, 20, 21] (i := 9) (v := ?kv7) rfl (by kernel_rfl) (by kernel_rfl) (by kernel_rfl) (by kernel_rfl) (fun _ _ _ h => h) (Or.inl ⟨by rfl, ?ky7⟩) (by assumption) ?kr7
          case ky7 => (intro w hSw; (try dsimp only at hSw); go_split_ands; (try simp only [qA, qB, qC]); go_simp; (try with_reducible rfl))
          try simp only [Act.put, qA, qB, qC, qD, qE, qF]
          refine wpAnyF_take [10, 11, 12, 15, 16, 17, 18, 19, 20, 21] (i := 10) (v := ?kv8) rfl (by kernel_rfl) (by kernel_rfl) (by kernel_rfl) (by kernel_rfl) (fun _ _ _ h => h) (Or.inl ⟨by rfl, ?ky8⟩) (by assumption) ?kr8
          case ky8 => (intro w hSw; (try dsimp only at hSw); go_split_ands; (try simp only [qA, qB, qC]); go_simp; (try with_reducible rfl))
          try simp only [Act.put, qA, qB, qC, qD, qE, qF]
          refine wpAnyF_take [11, 12, 15, 16, 17, 18, 19, 20, 21] (i := 11) (v := ?kv9) rfl (by kernel_rfl) (by kernel_rfl) (by kernel_rfl) (by kernel_rfl) (fun _ _ _ h => h) (Or.inl ⟨by rfl, ?ky9⟩) (by assumption) ?kr9
          case ky9 => (intro w hSw; (try dsimp only at hSw); go_split_ands; (try simp only [qA, qB, qC]); go_simp; (try with_reducible rfl))
          try simp only [Act.put, qA, qB, qC, qD, qE, qF]
          refine wpAnyF_take [12, 15, 16, 17, 18, 19, 20, 21] (i := 12) (v := ?kv10) rfl (by kernel_rfl) (by kernel_rfl) (by kernel_rfl) (by kernel_rfl) (fun _ _ _ h => h) (Or.inl ⟨by rfl, ?ky10⟩) (by assumption) ?kr10
          case ky10 => (intro w hSw; (try dsimp only at hSw); go_split_ands; (try simp only [qA, qB, qC]); go_simp; (try with_reducible rfl))
          try simp only [Act.put, qA, qB, qC, qD, qE, qF]
          refine wpAnyF_ready (rs := [6, 13]) (by kernel_rfl) (by simp) ?_
          refine (AllReadyF.cons rfl (fun K hK => ?kb11x0) (AllReadyF.cons rfl (fun K hK => ?kb11x1) AllReadyF.nil))
          case kb11x0 =>
            refine step_make64 rfl rfl ?_; intro x6 hx6; have n41 := Nat.le_trans hrl fK.size; (try replace f0 := f0.below (below_alloc hx6)); (try replace f1 := f1.below (below_alloc hx6)); (try replace f8 := f8.below (below_alloc hx6)); (try replace fz41 := grow_obj (below_alloc hx6) fz41); (try replace fu42 := grow_obj (below_alloc hx6) fu42); (try replace fz48 := grow_obj (below_alloc hx6) fz48); (try replace fu49 := grow_obj (below_alloc hx6) fu49); replace fr := grow_obj (below_alloc hx6) fr; replace fK := fK.trans (Keeps.of_below (below_alloc hx6)); have fz41 := obj_alloc hx6; clear hx6
            refine hK.out _ _ (by exact hS _ fK) (fun hHeldn => ?_)
            clear hHeld hK K
            have hHeld := hHeldn
            clear hHeldn
            try simp only [Act.put, qA, qB, qC, qD, qE, qF]
            refine wpAnyF_ready (rs := [7, 13]) (by kernel_rfl) (by simp) ?_
            refine (AllReadyF.cons rfl (fun K hK => ?kb12x0) (AllReadyF.cons rfl (fun K hK => ?kb12x1) AllReadyF.nil))
            case kb12x0 =>
              refine step_lit64 rfl _ rfl rfl ?_; intro x7 hx7; (try replace f0 := f0.below (below_alloc hx7)); (try replace f1 := f1.below (below_alloc hx7)); (try replace f8 := f8.below (below_alloc hx7)); (try replace fz41 := grow_obj (below_alloc hx7) fz41); (try replace fu42 := grow_obj (below_alloc hx7) fu42); (try replace fz48 := grow_obj (below_alloc hx7) fz48); (try replace fu49 := grow_obj (below_alloc hx7) fu49); replace fr := grow_obj (below_alloc hx7) fr; replace fK := fK.trans (Keeps.of_below (below_alloc hx7)); have fu42 := obj_alloc hx7; clear hx7
              refine hK.out _ _ (by exact hS _ fK) (fun hHeldn => ?_)
              clear hHeld hK K
              have hHeld := hHeldn
              clear hHeldn
              try simp only [Act.put, qA, qB, qC, qD, qE, qF]
              refine wpAnyF_ready (rs := [8, 13]) (by kernel_rfl) (by simp) ?_
              refine (AllReadyF.cons rfl (fun K hK => ?kb13x0) (AllReadyF.cons rfl (fun K hK => ?kb13x1) AllReadyF.nil))
              case kb13x0 =>
                refine step_app64 rfl _ _ (.tmp 41) rfl rfl f0 rfl rfl fu42 fz41 n41 (Nat.le_trans hrl fK.size) (by omega) ?_; intro g8 c8 x8 f8 k8 o8; have hg8 : ∀ q, s1.ownBlock = some q → g8 ≠ q := (fun q hq e => by rcases o8 with h | h; exact H2.out.2.2.2.2.2 g8 h (by rw [hq, e]); have := hown1 q hq; have := fK.size; omega); replace f1 := f1.keepsRow f0 k8 (fun q hq e => H2.out.2.2.2.2.2 q e hq); (try replace fz48 := k8.obj fz48 (fun e => by obtain ⟨c, hc⟩ := f0.obj e; exact ne_of_obj fz48 hc (by decide) rfl)); (try replace fu49 := k8.obj fu49 (fun e => by have := hown0 _ e; omega)); replace fr := k8.obj fr hr; replace fK := fK.trans k8; clear f0 fz41 fu42 o8 k8
                refine hK.out _ _ (by exact hS _ fK) (fun hHeldn => ?_)
                clear hHeld hK K
                have hHeld := hHeldn
                clear hHeldn
                try simp only [Act.put, qA, qB, qC, qD, qE, qF]
                refine wpAnyF_ready (rs := [13]) (by kernel_rfl) (by simp) ?_
                refine (AllReadyF.cons rfl (fun K hK => ?_) AllReadyF.nil)
                refine step_make64 rfl rfl ?_; intro x13 hx13; have n48 := Nat.le_trans hrl fK.size; (try replace f0 := f0.below (below_alloc hx13)); (try replace f1 := f1.below (below_alloc hx13)); (try replace f8 := f8.below (below_alloc hx13)); (try replace fz41 := grow_obj (below_alloc hx13) fz41); (try replace fu42 := grow_obj (below_alloc hx13) fu42); (try replace fz48 := grow_obj (below_alloc hx13) fz48); (try replace fu49 := grow_obj (below_alloc hx13) fu49); replace fr := grow_obj (below_alloc hx13) fr; replace fK := fK.trans (Keeps.of_below (below_alloc hx13)); have fz48 := obj_alloc hx13; clear hx13
                refine hK.out _ _ (by exact hS _ fK) (fun hHeldn => ?_)
                clear hHeld hK K
                have hHeld := hHeldn
                clear hHeldn
                try simp only [Act.put, qA, qB, qC, qD, qE, qF]
                refine wpAnyF_ready (rs := [14]) (by kernel_rfl) (by simp) ?_
                refine (AllReadyF.cons rfl (fun K hK => ?_) AllReadyF.nil)
                refine step_lit64 rfl _ rfl rfl ?_; intro x14 hx14; have n49 := fK.size; (try replace f0 := f0.below (below_alloc hx14)); (try replace f1 := f1.below (below_alloc hx14)); (try replace f8 := f8.below (below_alloc hx14)); (try replace fz41 := grow_obj (below_alloc hx14) fz41); (try replace fu42 := grow_obj (below_alloc hx14) fu42); (try replace fz48 := grow_obj (below_alloc hx14) fz48); (try replace fu49 := grow_obj (below_alloc hx14) fu49); replace fr := grow_obj (below_alloc hx14) fr; replace fK := fK.trans (Keeps.of_below (below_alloc hx14)); have fu49 := obj_alloc hx14; clear hx14
                refine hK.out _ _ (by exact hS _ fK) (fun hHeldn => ?_)
                clear hHeld hK K
                have hHeld := hHeldn
                clear hHeldn
                try simp only [Act.put, qA, qB, qC, qD, qE, qF]
                refine wpAnyF_ready (rs := [15]) (by kernel_rfl) (by simp) ?_
                refine (AllReadyF.last rfl (by kernel_rfl) (fun K hK => ?_) AllReadyF.nil)
                refine step_app64 rfl _ _ (.tmp 48) rfl rfl f1 rfl rfl fu49 fz48 n48 (Nat.le_trans hrl fK.size) (by omega) ?_; intro g15 c15 x15 f15 k15 o15; have hne15 : g8 ≠ g15 := (fun e => by rcases o15 with h | h; exact hg8 g15 h e; obtain ⟨c, hc⟩ := f8.obj (g := g8) rfl; have := block_lt hc; omega); replace f8 := f8.keepsRow f1 k15 (fun q hq e => hg8 q e (Option.some.inj hq)); have hr1 : ¬ s1.ownBlock = some r := (fun e => by have := f1.choose_spec.2.1 r e; omega); replace fr := k15.obj fr hr1; have fB : Below r wo x15 := H2.out.1.trans ((fK.below (Nat.le_of_lt hrl) (fun q hq => by have := H2.out.2.2.2.1.choose_spec.2.1 q hq; omega)).trans (k15.below (Nat.le_trans (Nat.le_of_lt hrl) fK.size) (fun q hq => by have := f1.choose_spec.2.1 q hq; omega))); have d0 := cell_obj fr 0; have d1 := cell_obj fr 1; have e0 := free_obj fr 0; have e1 := free_obj fr 1; clear fu49 fz48 f1
                refine hK.out _ _ (trivial) (fun hHeldn => ?_)
                clear hHeld hK K
                have hHeld := hHeldn
                clear hHeldn
                try simp only [Act.put, qA, qB, qC, qD, qE, qF]
                refine wpAnyF_pure (i := 16) (v := ?kv17) rfl (by kernel_rfl) (by kernel_rfl) (by kernel_rfl) (by kernel_rfl) (fun _ _ _ h => h) (Or.inl ⟨by rfl, ?ky17⟩) (by first | (intro _; assumption) | (intro h; exact absurd h (by decide))) ?kr17
                case ky17 => (intro w hSw; clear hSw; (try simp only [qA, qB, qC]); go_simp; (try with_reducible rfl))
                try simp only [Act.put, qA, qB, qC, qD, qE, qF]
                refine wpAnyF_pure (i := 17) (v := ?kv18) rfl (by kernel_rfl) (by kernel_rfl) (by kernel_rfl) (by kernel_rfl) (fun _ _ _ h => h) (Or.inl ⟨by rfl, ?ky18⟩) (by first | (intro _; assumption) | (intro h; exact absurd h (by decide))) ?kr18
                case ky18 => (intro w hSw; clear hSw; (try simp only [qA, qB, qC]); go_simp; (try with_reducible rfl))
                try simp only [Act.put, qA, qB, qC, qD, qE, qF]
                refine wpAnyF_ready (rs := [18]) (by kernel_rfl) (by simp) ?_
                refine (AllReadyF.last rfl (by kernel_rfl) (fun K hK => ?_) AllReadyF.nil)
                try simp only [qA, qB, qC]
                go_simp
                refine hK.out _ _ (trivial) (fun hHeldn => ?_)
                clear hHeld hK K
                have hHeld := hHeldn
                clear hHeldn
                try simp only [qD, qE, qF]
                refine wpAnyF_pure (i := 19) (v := ?kv20) rfl (by kernel_rfl) (by kernel_rfl) (by kernel_rfl) (by kernel_rfl) (fun _ _ _ h => h) (Or.inl ⟨by rfl, ?ky20⟩) (by first | (intro _; assumption) | (intro h; exact absurd h (by decide))) ?kr20
                case ky20 => (intro w hSw; clear hSw; (try simp only [qA, qB, qC]); go_simp; (try with_reducible rfl))
                try simp only [Act.put, qA, qB, qC, qD, qE, qF]
                refine wpAnyF_pure (i := 20) (v := ?kv21) rfl (by kernel_rfl) (by kernel_rfl) (by kernel_rfl) (by kernel_rfl) (fun _ _ _ h => h) (Or.inl ⟨by rfl, ?ky21⟩) (by first | (intro _; assumption) | (intro h; exact absurd h (by decide))) ?kr21
                case ky21 => (intro w hSw; clear hSw; (try simp only [qA, qB, qC]); go_simp; (try with_reducible rfl))
                try simp only [Act.put, qA, qB, qC, qD, qE, qF]
                refine wpAnyF_ready (rs := [21]) (by kernel_rfl) (by simp) ?_
                refine (AllReadyF.last rfl (by kernel_rfl) (fun K hK => ?_) AllReadyF.nil)
                try simp only [qA, qB, qC]
                go_simp
                refine hK.out _ _ (trivial) (fun hHeldn => ?_)
                clear hHeld hK K
                have hHeld := hHeldn
                clear hHeldn
                try simp only [qD, qE, qF]
                refine wpAnyF_done (by kernel_rfl) ?_ _
                have hfin := NewSt.next fB fr f8 f15 (fun q hq e => hne15 ((Option.some.inj hq).trans (Option.some.inj e).symm))
                go_wp2_with fail
                go_roundw
                case rel => exact ⟨k + 1, by omega, by go_num, hfin⟩
                case measure => simp [intOf]; omega
              case kb13x1 =>
                refine step_make64 rfl rfl ?_; intro x13 hx13; have n48 := Nat.le_trans hrl fK.size; (try replace f0 := f0.below (below_alloc hx13)); (try replace f1 := f1.below (below_alloc hx13)); (try replace f8 := f8.below (below_alloc hx13)); (try replace fz41 := grow_obj (below_alloc hx13) fz41); (try replace fu42 := grow_obj (below_alloc hx13) fu42); (try replace fz48 := grow_obj (below_alloc hx13) fz48); (try replace fu49 := grow_obj (below_alloc hx13) fu49); replace fr := grow_obj (below_alloc hx13) fr; replace fK := fK.trans (Keeps.of_below (below_alloc hx13)); have fz48 := obj_alloc hx13; clear hx13
                refine hK.out _ _ (by exact hS _ fK) (fun hHeldn => ?_)
                clear hHeld hK K
                have hHeld := hHeldn
                clear hHeldn
                try simp only [Act.put, qA, qB, qC, qD, qE, qF]
                refine wpAnyF_ready (rs := [8, 14]) (by kernel_rfl) (by simp) ?_
                refine (AllReadyF.cons rfl (fun K hK => ?kb23x0) (AllReadyF.cons rfl (fun K hK => ?kb23x1) AllReadyF.nil))
                case kb23x0 =>
                  refine step_app64 rfl _ _ (.tmp 41) rfl rfl f0 rfl rfl fu42 fz41 n41 (Nat.le_trans hrl fK.size) (by omega) ?_; intro g8 c8 x8 f8 k8 o8; have hg8 : ∀ q, s1.ownBlock = some q → g8 ≠ q := (fun q hq e => by rcases o8 with h | h; exact H2.out.2.2.2.2.2 g8 h (by rw [hq, e]); have := hown1 q hq; have := fK.size; omega); replace f1 := f1.keepsRow f0 k8 (fun q hq e => H2.out.2.2.2.2.2 q e hq); (try replace fz48 := k8.obj fz48 (fun e => by obtain ⟨c, hc⟩ := f0.obj e; exact ne_of_obj fz48 hc (by decide) rfl)); (try replace fu49 := k8.obj fu49 (fun e => by have := hown0 _ e; omega)); replace fr := k8.obj fr hr; replace fK := fK.trans k8; clear f0 fz41 fu42 o8 k8
                  refine hK.out _ _ (by exact hS _ fK) (fun hHeldn => ?_)
                  clear hHeld hK K
                  have hHeld := hHeldn
                  clear hHeldn
                  try simp only [Act.put, qA, qB, qC, qD, qE, qF]
                  refine wpAnyF_ready (rs := [14]) (by kernel_rfl) (by simp) ?_
                  refine (AllReadyF.cons rfl (fun K hK => ?_) AllReadyF.nil)
                  refine step_lit64 rfl _ rfl rfl ?_; intro x14 hx14; have n49 := fK.size; (try replace f0 := f0.below (below_alloc hx14)); (try replace f1 := f1.below (below_alloc hx14)); (try replace f8 := f8.below (below_alloc hx14)); (try replace fz41 := grow_obj (below_alloc hx14) fz41); (try replace fu42 := grow_obj (below_alloc hx14) fu42); (try replace fz48 := grow_obj (below_alloc hx14) fz48); (try replace fu49 := grow_obj (below_alloc hx14) fu49); replace fr := grow_obj (below_alloc hx14) fr; replace fK := fK.trans (Keeps.of_below (below_alloc hx14)); have fu49 := obj_alloc hx14; clear hx14
                  refine hK.out _ _ (by exact hS _ fK) (fun hHeldn => ?_)
                  clear hHeld hK K
                  have hHeld := hHeldn
                  clear hHeldn
                  try simp only [Act.put, qA, qB, qC, qD, qE, qF]
                  refine wpAnyF_ready (rs := [15]) (by kernel_rfl) (by simp) ?_
                  refine (AllReadyF.last rfl (by kernel_rfl) (fun K hK => ?_) AllReadyF.nil)
                  refine step_app64 rfl _ _ (.tmp 48) rfl rfl f1 rfl rfl fu49 fz48 n48 (Nat.le_trans hrl fK.size) (by omega) ?_; intro g15 c15 x15 f15 k15 o15; have hne15 : g8 ≠ g15 := (fun e => by rcases o15 with h | h; exact hg8 g15 h e; obtain ⟨c, hc⟩ := f8.obj (g := g8) rfl; have := block_lt hc; omega); replace f8 := f8.keepsRow f1 k15 (fun q hq e => hg8 q e (Option.some.inj hq)); have hr1 : ¬ s1.ownBlock = some r := (fun e => by have := f1.choose_spec.2.1 r e; omega); replace fr := k15.obj fr hr1; have fB : Below r wo x15 := H2.out.1.trans ((fK.below (Nat.le_of_lt hrl) (fun q hq => by have := H2.out.2.2.2.1.choose_spec.2.1 q hq; omega)).trans (k15.below (Nat.le_trans (Nat.le_of_lt hrl) fK.size) (fun q hq => by have := f1.choose_spec.2.1 q hq; omega))); have d0 := cell_obj fr 0; have d1 := cell_obj fr 1; have e0 := free_obj fr 0; have e1 := free_obj fr 1; clear fu49 fz48 f1
                  refine hK.out _ _ (trivial) (fun hHeldn => ?_)
                  clear hHeld hK K
                  have hHeld := hHeldn
                  clear hHeldn
                  try simp only [Act.put, qA, qB, qC, qD, qE, qF]
                  refine wpAnyF_pure (i := 16) (v := ?kv26) rfl (by kernel_rfl) (by kernel_rfl) (by kernel_rfl) (by kernel_rfl) (fun _ _ _ h => h) (Or.inl ⟨by rfl, ?ky26⟩) (by first | (intro _; assumption) | (intro h; exact absurd h (by decide))) ?kr26
                  case ky26 => (intro w hSw; clear hSw; (try simp only [qA, qB, qC]); go_simp; (try with_reducible rfl))
                  try simp only [Act.put, qA, qB, qC, qD, qE, qF]
                  refine wpAnyF_pure (i := 17) (v := ?kv27) rfl (by kernel_rfl) (by kernel_rfl) (by kernel_rfl) (by kernel_rfl) (fun _ _ _ h => h) (Or.inl ⟨by rfl, ?ky27⟩) (by first | (intro _; assumption) | (intro h; exact absurd h (by decide))) ?kr27
                  case ky27 => (intro w hSw; clear hSw; (try simp only [qA, qB, qC]); go_simp; (try with_reducible rfl))
                  try simp only [Act.put, qA, qB, qC, qD, qE, qF]
                  refine wpAnyF_ready (rs := [18]) (by kernel_rfl) (by simp) ?_
                  refine (AllReadyF.last rfl (by kernel_rfl) (fun K hK => ?_) AllReadyF.nil)
                  try simp only [qA, qB, qC]
                  go_simp
                  refine hK.out _ _ (trivial) (fun hHeldn => ?_)
                  clear hHeld hK K
                  have hHeld := hHeldn
                  clear hHeldn
                  try simp only [qD, qE, qF]
                  refine wpAnyF_pure (i := 19) (v := ?kv29) rfl (by kernel_rfl) (by kernel_rfl) (by kernel_rfl) (by kernel_rfl) (fun _ _ _ h => h) (Or.inl ⟨by rfl, ?ky29⟩) (by first | (intro _; assumption) | (intro h; exact absurd h (by decide))) ?kr29
                  case ky29 => (intro w hSw; clear hSw; (try simp only [qA, qB, qC]); go_simp; (try with_reducible rfl))
                  try simp only [Act.put, qA, qB, qC, qD, qE, qF]
                  refine wpAnyF_pure (i := 20) (v := ?kv30) rfl (by kernel_rfl) (by kernel_rfl) (by kernel_rfl) (by kernel_rfl) (fun _ _ _ h => h) (Or.inl ⟨by rfl, ?ky30⟩) (by first | (intro _; assumption) | (intro h; exact absurd h (by decide))) ?kr30
                  case ky30 => (intro w hSw; clear hSw; (try simp only [qA, qB, qC]); go_simp; (try with_reducible rfl))
                  try simp only [Act.put, qA, qB, qC, qD, qE, qF]
                  refine wpAnyF_ready (rs := [21]) (by kernel_rfl) (by simp) ?_
                  refine (AllReadyF.last rfl (by kernel_rfl) (fun K hK => ?_) AllReadyF.nil)
                  try simp only [qA, qB, qC]
                  go_simp
                  refine hK.out _ _ (trivial) (fun hHeldn => ?_)
                  clear hHeld hK K
                  have hHeld := hHeldn
                  clear hHeldn
                  try simp only [qD, qE, qF]
                  refine wpAnyF_done (by kernel_rfl) ?_ _
                  have hfin := NewSt.next fB fr f8 f15 (fun q hq e => hne15 ((Option.some.inj hq).trans (Option.some.inj e).symm))
                  go_wp2_with fail
                  go_roundw
                  case rel => exact ⟨k + 1, by omega, by go_num, hfin⟩
                  case measure => simp [intOf]; omega
                case kb23x1 =>
                  refine step_lit64 rfl _ rfl rfl ?_; intro x14 hx14; have n49 := fK.size; (try replace f0 := f0.below (below_alloc hx14)); (try replace f1 := f1.below (below_alloc hx14)); (try replace f8 := f8.below (below_alloc hx14)); (try replace fz41 := grow_obj (below_alloc hx14) fz41); (try replace fu42 := grow_obj (below_alloc hx14) fu42); (try replace fz48 := grow_obj (below_alloc hx14) fz48); (try replace fu49 := grow_obj (below_alloc hx14) fu49); replace fr := grow_obj (below_alloc hx14) fr; replace fK := fK.trans (Keeps.of_below (below_alloc hx14)); have fu49 := obj_alloc hx14; clear hx14
                  refine hK.out _ _ (by exact hS _ fK) (fun hHeldn => ?_)
                  clear hHeld hK K
                  have hHeld := hHeldn
                  clear hHeldn
                  try simp only [Act.put, qA, qB, qC, qD, qE, qF]
                  refine wpAnyF_ready (rs := [8]) (by kernel_rfl) (by simp) ?_
                  refine (AllReadyF.cons rfl (fun K hK => ?_) AllReadyF.nil)
                  refine step_app64 rfl _ _ (.tmp 41) rfl rfl f0 rfl rfl fu42 fz41 n41 (Nat.le_trans hrl fK.size) (by omega) ?_; intro g8 c8 x8 f8 k8 o8; have hg8 : ∀ q, s1.ownBlock = some q → g8 ≠ q := (fun q hq e => by rcases o8 with h | h; exact H2.out.2.2.2.2.2 g8 h (by rw [hq, e]); have := hown1 q hq; have := fK.size; omega); replace f1 := f1.keepsRow f0 k8 (fun q hq e => H2.out.2.2.2.2.2 q e hq); (try replace fz48 := k8.obj fz48 (fun e => by obtain ⟨c, hc⟩ := f0.obj e; exact ne_of_obj fz48 hc (by decide) rfl)); (try replace fu49 := k8.obj fu49 (fun e => by have := hown0 _ e; omega)); replace fr := k8.obj fr hr; replace fK := fK.trans k8; clear f0 fz41 fu42 o8 k8
                  refine hK.out _ _ (by exact hS _ fK) (fun hHeldn => ?_)
                  clear hHeld hK K
                  have hHeld := hHeldn
                  clear hHeldn
                  try simp only [Act.put, qA, qB, qC, qD, qE, qF]
                  refine wpAnyF_ready (rs := [15]) (by kernel_rfl) (by simp) ?_
                  refine (AllReadyF.last rfl (by kernel_rfl) (fun K hK => ?_) AllReadyF.nil)
                  refine step_app64 rfl _ _ (.tmp 48) rfl rfl f1 rfl rfl fu49 fz48 n48 (Nat.le_trans hrl fK.size) (by omega) ?_; intro g15 c15 x15 f15 k15 o15; have hne15 : g8 ≠ g15 := (fun e => by rcases o15 with h | h; exact hg8 g15 h e; obtain ⟨c, hc⟩ := f8.obj (g := g8) rfl; have := block_lt hc; omega); replace f8 := f8.keepsRow f1 k15 (fun q hq e => hg8 q e (Option.some.inj hq)); have hr1 : ¬ s1.ownBlock = some r := (fun e => by have := f1.choose_spec.2.1 r e; omega); replace fr := k15.obj fr hr1; have fB : Below r wo x15 := H2.out.1.trans ((fK.below (Nat.le_of_lt hrl) (fun q hq => by have := H2.out.2.2.2.1.choose_spec.2.1 q hq; omega)).trans (k15.below (Nat.le_trans (Nat.le_of_lt hrl) fK.size) (fun q hq => by have := f1.choose_spec.2.1 q hq; omega))); have d0 := cell_obj fr 0; have d1 := cell_obj fr 1; have e0 := free_obj fr 0; have e1 := free_obj fr 1; clear fu49 fz48 f1
                  refine hK.out _ _ (trivial) (fun hHeldn => ?_)
                  clear hHeld hK K
                  have hHeld := hHeldn
                  clear hHeldn
                  try simp only [Act.put, qA, qB, qC, qD, qE, qF]
                  refine wpAnyF_pure (i := 16) (v := ?kv34) rfl (by kernel_rfl) (by kernel_rfl) (by kernel_rfl) (by kernel_rfl) (fun _ _ _ h => h) (Or.inl ⟨by rfl, ?ky34⟩) (by first | (intro _; assumption) | (intro h; exact absurd h (by decide))) ?kr34
                  case ky34 => (intro w hSw; clear hSw; (try simp only [qA, qB, qC]); go_simp; (try with_reducible rfl))
                  try simp only [Act.put, qA, qB, qC, qD, qE, qF]
                  refine wpAnyF_pure (i := 17) (v := ?kv35) rfl (by kernel_rfl) (by kernel_rfl) (by kernel_rfl) (by kernel_rfl) (fun _ _ _ h => h) (Or.inl ⟨by rfl, ?ky35⟩) (by first | (intro _; assumption) | (intro h; exact absurd h (by decide))) ?kr35
                  case ky35 => (intro w hSw; clear hSw; (try simp only [qA, qB, qC]); go_simp; (try with_reducible rfl))
                  try simp only [Act.put, qA, qB, qC, qD, qE, qF]
                  refine wpAnyF_ready (rs := [18]) (by kernel_rfl) (by simp) ?_
                  refine (AllReadyF.last rfl (by kernel_rfl) (fun K hK => ?_) AllReadyF.nil)
                  try simp only [qA, qB, qC]
                  go_simp
                  refine hK.out _ _ (trivial) (fun hHeldn => ?_)
                  clear hHeld hK K
                  have hHeld := hHeldn
                  clear hHeldn
                  try simp only [qD, qE, qF]
                  refine wpAnyF_pure (i := 19) (v := ?kv37) rfl (by kernel_rfl) (by kernel_rfl) (by kernel_rfl) (by kernel_rfl) (fun _ _ _ h => h) (Or.inl ⟨by rfl, ?ky37⟩) (by first | (intro _; assumption) | (intro h; exact absurd h (by decide))) ?kr37
                  case ky37 => (intro w hSw; clear hSw; (try simp only [qA, qB, qC]); go_simp; (try with_reducible rfl))
                  try simp only [Act.put, qA, qB, qC, qD, qE, qF]
                  refine wpAnyF_pure (i := 20) (v := ?kv38) rfl (by kernel_rfl) (by kernel_rfl) (by kernel_rfl) (by kernel_rfl) (fun _ _ _ h => h) (Or.inl ⟨by rfl, ?ky38⟩) (by first | (intro _; assumption) | (intro h; exact absurd h (by decide))) ?kr38
                  case ky38 => (intro w hSw; clear hSw; (try simp only [qA, qB, qC]); go_simp; (try with_reducible rfl))
                  try simp only [Act.put, qA, qB, qC, qD, qE, qF]
                  refine wpAnyF_ready (rs := [21]) (by kernel_rfl) (by simp) ?_
                  refine (AllReadyF.last rfl (by kernel_rfl) (fun K hK => ?_) AllReadyF.nil)
                  try simp only [qA, qB, qC]
                  go_simp
                  refine hK.out _ _ (trivial) (fun hHeldn => ?_)
                  clear hHeld hK K
                  have hHeld := hHeldn
                  clear hHeldn
                  try simp only [qD, qE, qF]
                  refine wpAnyF_done (by kernel_rfl) ?_ _
                  have hfin := NewSt.next fB fr f8 f15 (fun q hq e => hne15 ((Option.some.inj hq).trans (Option.some.inj e).symm))
                  go_wp2_with fail
                  go_roundw
                  case rel => exact ⟨k + 1, by omega, by go_num, hfin⟩
                  case measure => simp [intOf]; omega
            case kb12x1 =>
              refine step_make64 rfl rfl ?_; intro x13 hx13; have n48 := Nat.le_trans hrl fK.size; (try replace f0 := f0.below (below_alloc hx13)); (try replace f1 := f1.below (below_alloc hx13)); (try replace f8 := f8.below (below_alloc hx13)); (try replace fz41 := grow_obj (below_alloc hx13) fz41); (try replace fu42 := grow_obj (below_alloc hx13) fu42); (try replace fz48 := grow_obj (below_alloc hx13) fz48); (try replace fu49 := grow_obj (below_alloc hx13) fu49); replace fr := grow_obj (below_alloc hx13) fr; replace fK := fK.trans (Keeps.of_below (below_alloc hx13)); have fz48 := obj_alloc hx13; clear hx13
              refine hK.out _ _ (by exact hS _ fK) (fun hHeldn => ?_)
              clear hHeld hK K
              have hHeld := hHeldn
              clear hHeldn
              try simp only [Act.put, qA, qB, qC, qD, qE, qF]
              refine wpAnyF_ready (rs := [7, 14]) (by kernel_rfl) (by simp) ?_
              refine (AllReadyF.cons rfl (fun K hK => ?kb40x0) (AllReadyF.cons rfl (fun K hK => ?kb40x1) AllReadyF.nil))
              case kb40x0 =>
                refine step_lit64 rfl _ rfl rfl ?_; intro x7 hx7; (try replace f0 := f0.below (below_alloc hx7)); (try replace f1 := f1.below (below_alloc hx7)); (try replace f8 := f8.below (below_alloc hx7)); (try replace fz41 := grow_obj (below_alloc hx7) fz41); (try replace fu42 := grow_obj (below_alloc hx7) fu42); (try replace fz48 := grow_obj (below_alloc hx7) fz48); (try replace fu49 := grow_obj (below_alloc hx7) fu49); replace fr := grow_obj (below_alloc hx7) fr; replace fK := fK.trans (Keeps.of_below (below_alloc hx7)); have fu42 := obj_alloc hx7; clear hx7
                refine hK.out _ _ (by exact hS _ fK) (fun hHeldn => ?_)
                clear hHeld hK K
                have hHeld := hHeldn
                clear hHeldn
                try simp only [Act.put, qA, qB, qC, qD, qE, qF]
                refine wpAnyF_ready (rs := [8, 14]) (by kernel_rfl) (by simp) ?_
                refine (AllReadyF.cons rfl (fun K hK => ?kb41x0) (AllReadyF.cons rfl (fun K hK => ?kb41x1) AllReadyF.nil))
                case kb41x0 =>
                  refine step_app64 rfl _ _ (.tmp 41) rfl rfl f0 rfl rfl fu42 fz41 n41 (Nat.le_trans hrl fK.size) (by omega) ?_; intro g8 c8 x8 f8 k8 o8; have hg8 : ∀ q, s1.ownBlock = some q → g8 ≠ q := (fun q hq e => by rcases o8 with h | h; exact H2.out.2.2.2.2.2 g8 h (by rw [hq, e]); have := hown1 q hq; have := fK.size; omega); replace f1 := f1.keepsRow f0 k8 (fun q hq e => H2.out.2.2.2.2.2 q e hq); (try replace fz48 := k8.obj fz48 (fun e => by obtain ⟨c, hc⟩ := f0.obj e; exact ne_of_obj fz48 hc (by decide) rfl)); (try replace fu49 := k8.obj fu49 (fun e => by have := hown0 _ e; omega)); replace fr := k8.obj fr hr; replace fK := fK.trans k8; clear f0 fz41 fu42 o8 k8
                  refine hK.out _ _ (by exact hS _ fK) (fun hHeldn => ?_)
                  clear hHeld hK K
                  have hHeld := hHeldn
                  clear hHeldn
                  try simp only [Act.put, qA, qB, qC, qD, qE, qF]
                  refine wpAnyF_ready (rs := [14]) (by kernel_rfl) (by simp) ?_
                  refine (AllReadyF.cons rfl (fun K hK => ?_) AllReadyF.nil)
                  refine step_lit64 rfl _ rfl rfl ?_; intro x14 hx14; have n49 := fK.size; (try replace f0 := f0.below (below_alloc hx14)); (try replace f1 := f1.below (below_alloc hx14)); (try replace f8 := f8.below (below_alloc hx14)); (try replace fz41 := grow_obj (below_alloc hx14) fz41); (try replace fu42 := grow_obj (below_alloc hx14) fu42); (try replace fz48 := grow_obj (below_alloc hx14) fz48); (try replace fu49 := grow_obj (below_alloc hx14) fu49); replace fr := grow_obj (below_alloc hx14) fr; replace fK := fK.trans (Keeps.of_below (below_alloc hx14)); have fu49 := obj_alloc hx14; clear hx14
                  refine hK.out _ _ (by exact hS _ fK) (fun hHeldn => ?_)
                  clear hHeld hK K
                  have hHeld := hHeldn
                  clear hHeldn
                  try simp only [Act.put, qA, qB, qC, qD, qE, qF]
                  refine wpAnyF_ready (rs := [15]) (by kernel_rfl) (by simp) ?_
                  refine (AllReadyF.last rfl (by kernel_rfl) (fun K hK => ?_) AllReadyF.nil)
                  refine step_app64 rfl _ _ (.tmp 48) rfl rfl f1 rfl rfl fu49 fz48 n48 (Nat.le_trans hrl fK.size) (by omega) ?_; intro g15 c15 x15 f15 k15 o15; have hne15 : g8 ≠ g15 := (fun e => by rcases o15 with h | h; exact hg8 g15 h e; obtain ⟨c, hc⟩ := f8.obj (g := g8) rfl; have := block_lt hc; omega); replace f8 := f8.keepsRow f1 k15 (fun q hq e => hg8 q e (Option.some.inj hq)); have hr1 : ¬ s1.ownBlock = some r := (fun e => by have := f1.choose_spec.2.1 r e; omega); replace fr := k15.obj fr hr1; have fB : Below r wo x15 := H2.out.1.trans ((fK.below (Nat.le_of_lt hrl) (fun q hq => by have := H2.out.2.2.2.1.choose_spec.2.1 q hq; omega)).trans (k15.below (Nat.le_trans (Nat.le_of_lt hrl) fK.size) (fun q hq => by have := f1.choose_spec.2.1 q hq; omega))); have d0 := cell_obj fr 0; have d1 := cell_obj fr 1; have e0 := free_obj fr 0; have e1 := free_obj fr 1; clear fu49 fz48 f1
                  refine hK.out _ _ (trivial) (fun hHeldn => ?_)
                  clear hHeld hK K
                  have hHeld := hHeldn
                  clear hHeldn
                  try simp only [Act.put, qA, qB, qC, qD, qE, qF]
                  refine wpAnyF_pure (i := 16) (v := ?kv44) rfl (by kernel_rfl) (by kernel_rfl) (by kernel_rfl) (by kernel_rfl) (fun _ _ _ h => h) (Or.inl ⟨by rfl, ?ky44⟩) (by first | (intro _; assumption) | (intro h; exact absurd h (by decide))) ?kr44
                  case ky44 => (intro w hSw; clear hSw; (try simp only [qA, qB, qC]); go_simp; (try with_reducible rfl))
                  try simp only [Act.put, qA, qB, qC, qD, qE, qF]
                  refine wpAnyF_pure (i := 17) (v := ?kv45) rfl (by kernel_rfl) (by kernel_rfl) (by kernel_rfl) (by kernel_rfl) (fun _ _ _ h => h) (Or.inl ⟨by rfl, ?ky45⟩) (by first | (intro _; assumption) | (intro h; exact absurd h (by decide))) ?kr45
                  case ky45 => (intro w hSw; clear hSw; (try simp only [qA, qB, qC]); go_simp; (try with_reducible rfl))
                  try simp only [Act.put, qA, qB, qC, qD, qE, qF]
                  refine wpAnyF_ready (rs := [18]) (by kernel_rfl) (by simp) ?_
                  refine (AllReadyF.last rfl (by kernel_rfl) (fun K hK => ?_) AllReadyF.nil)
                  try simp only [qA, qB, qC]
                  go_simp
                  refine hK.out _ _ (trivial) (fun hHeldn => ?_)
                  clear hHeld hK K
                  have hHeld := hHeldn
                  clear hHeldn
                  try simp only [qD, qE, qF]
                  refine wpAnyF_pure (i := 19) (v := ?kv47) rfl (by kernel_rfl) (by kernel_rfl) (by kernel_rfl) (by kernel_rfl) (fun _ _ _ h => h) (Or.inl ⟨by rfl, ?ky47⟩) (by first | (intro _; assumption) | (intro h; exact absurd h (by decide))) ?kr47
                  case ky47 => (intro w hSw; clear hSw; (try simp only [qA, qB, qC]); go_simp; (try with_reducible rfl))
                  try simp only [Act.put, qA, qB, qC, qD, qE, qF]
                  refine wpAnyF_pure (i := 20) (v := ?kv48) rfl (by kernel_rfl) (by kernel_rfl) (by kernel_rfl) (by kernel_rfl) (fun _ _ _ h => h) (Or.inl ⟨by rfl, ?ky48⟩) (by first | (intro _; assumption) | (intro h; exact absurd h (by decide))) ?kr48
                  case ky48 => (intro w hSw; clear hSw; (try simp only [qA, qB, qC]); go_simp; (try with_reducible rfl))
                  try simp only [Act.put, qA, qB, qC, qD, qE, qF]
                  refine wpAnyF_ready (rs := [21]) (by kernel_rfl) (by simp) ?_
                  refine (AllReadyF.last rfl (by kernel_rfl) (fun K hK => ?_) AllReadyF.nil)
                  try simp only [qA, qB, qC]
                  go_simp
                  refine hK.out _ _ (trivial) (fun hHeldn => ?_)
                  clear hHeld hK K
                  have hHeld := hHeldn
                  clear hHeldn
                  try simp only [qD, qE, qF]
                  refine wpAnyF_done (by kernel_rfl) ?_ _
                  have hfin := NewSt.next fB fr f8 f15 (fun q hq e => hne15 ((Option.some.inj hq).trans (Option.some.inj e).symm))
                  go_wp2_with fail
                  go_roundw
                  case rel => exact ⟨k + 1, by omega, by go_num, hfin⟩
                  case measure => simp [intOf]; omega
                case kb41x1 =>
                  refine step_lit64 rfl _ rfl rfl ?_; intro x14 hx14; have n49 := fK.size; (try replace f0 := f0.below (below_alloc hx14)); (try replace f1 := f1.below (below_alloc hx14)); (try replace f8 := f8.below (below_alloc hx14)); (try replace fz41 := grow_obj (below_alloc hx14) fz41); (try replace fu42 := grow_obj (below_alloc hx14) fu42); (try replace fz48 := grow_obj (below_alloc hx14) fz48); (try replace fu49 := grow_obj (below_alloc hx14) fu49); replace fr := grow_obj (below_alloc hx14) fr; replace fK := fK.trans (Keeps.of_below (below_alloc hx14)); have fu49 := obj_alloc hx14; clear hx14
                  refine hK.out _ _ (by exact hS _ fK) (fun hHeldn => ?_)
                  clear hHeld hK K
                  have hHeld := hHeldn
                  clear hHeldn
                  try simp only [Act.put, qA, qB, qC, qD, qE, qF]
                  refine wpAnyF_ready (rs := [8]) (by kernel_rfl) (by simp) ?_
                  refine (AllReadyF.cons rfl (fun K hK => ?_) AllReadyF.nil)
                  refine step_app64 rfl _ _ (.tmp 41) rfl rfl f0 rfl rfl fu42 fz41 n41 (Nat.le_trans hrl fK.size) (by omega) ?_; intro g8 c8 x8 f8 k8 o8; have hg8 : ∀ q, s1.ownBlock = some q → g8 ≠ q := (fun q hq e => by rcases o8 with h | h; exact H2.out.2.2.2.2.2 g8 h (by rw [hq, e]); have := hown1 q hq; have := fK.size; omega); replace f1 := f1.keepsRow f0 k8 (fun q hq e => H2.out.2.2.2.2.2 q e hq); (try replace fz48 := k8.obj fz48 (fun e => by obtain ⟨c, hc⟩ := f0.obj e; exact ne_of_obj fz48 hc (by decide) rfl)); (try replace fu49 := k8.obj fu49 (fun e => by have := hown0 _ e; omega)); replace fr := k8.obj fr hr; replace fK := fK.trans k8; clear f0 fz41 fu42 o8 k8
                  refine hK.out _ _ (by exact hS _ fK) (fun hHeldn => ?_)
                  clear hHeld hK K
                  have hHeld := hHeldn
                  clear hHeldn
                  try simp only [Act.put, qA, qB, qC, qD, qE, qF]
                  refine wpAnyF_ready (rs := [15]) (by kernel_rfl) (by simp) ?_
                  refine (AllReadyF.last rfl (by kernel_rfl) (fun K hK => ?_) AllReadyF.nil)
                  refine step_app64 rfl _ _ (.tmp 48) rfl rfl f1 rfl rfl fu49 fz48 n48 (Nat.le_trans hrl fK.size) (by omega) ?_; intro g15 c15 x15 f15 k15 o15; have hne15 : g8 ≠ g15 := (fun e => by rcases o15 with h | h; exact hg8 g15 h e; obtain ⟨c, hc⟩ := f8.obj (g := g8) rfl; have := block_lt hc; omega); replace f8 := f8.keepsRow f1 k15 (fun q hq e => hg8 q e (Option.some.inj hq)); have hr1 : ¬ s1.ownBlock = some r := (fun e => by have := f1.choose_spec.2.1 r e; omega); replace fr := k15.obj fr hr1; have fB : Below r wo x15 := H2.out.1.trans ((fK.below (Nat.le_of_lt hrl) (fun q hq => by have := H2.out.2.2.2.1.choose_spec.2.1 q hq; omega)).trans (k15.below (Nat.le_trans (Nat.le_of_lt hrl) fK.size) (fun q hq => by have := f1.choose_spec.2.1 q hq; omega))); have d0 := cell_obj fr 0; have d1 := cell_obj fr 1; have e0 := free_obj fr 0; have e1 := free_obj fr 1; clear fu49 fz48 f1
                  refine hK.out _ _ (trivial) (fun hHeldn => ?_)
                  clear hHeld hK K
                  have hHeld := hHeldn
                  clear hHeldn
                  try simp only [Act.put, qA, qB, qC, qD, qE, qF]
                  refine wpAnyF_pure (i := 16) (v := ?kv52) rfl (by kernel_rfl) (by kernel_rfl) (by kernel_rfl) (by kernel_rfl) (fun _ _ _ h => h) (Or.inl ⟨by rfl, ?ky52⟩) (by first | (intro _; assumption) | (intro h; exact absurd h (by decide))) ?kr52
                  case ky52 => (intro w hSw; clear hSw; (try simp only [qA, qB, qC]); go_simp; (try with_reducible rfl))
                  try simp only [Act.put, qA, qB, qC, qD, qE, qF]
                  refine wpAnyF_pure (i := 17) (v := ?kv53) rfl (by kernel_rfl) (by kernel_rfl) (by kernel_rfl) (by kernel_rfl) (fun _ _ _ h => h) (Or.inl ⟨by rfl, ?ky53⟩) (by first | (intro _; assumption) | (intro h; exact absurd h (by decide))) ?kr53
                  case ky53 => (intro w hSw; clear hSw; (try simp only [qA, qB, qC]); go_simp; (try with_reducible rfl))
                  try simp only [Act.put, qA, qB, qC, qD, qE, qF]
                  refine wpAnyF_ready (rs := [18]) (by kernel_rfl) (by simp) ?_
                  refine (AllReadyF.last rfl (by kernel_rfl) (fun K hK => ?_) AllReadyF.nil)
                  try simp only [qA, qB, qC]
                  go_simp
                  refine hK.out _ _ (trivial) (fun hHeldn => ?_)
                  clear hHeld hK K
                  have hHeld := hHeldn
                  clear hHeldn
                  try simp only [qD, qE, qF]
                  refine wpAnyF_pure (i := 19) (v := ?kv55) rfl (by kernel_rfl) (by kernel_rfl) (by kernel_rfl) (by kernel_rfl) (fun _ _ _ h => h) (Or.inl ⟨by rfl, ?ky55⟩) (by first | (intro _; assumption) | (intro h; exact absurd h (by decide))) ?kr55
                  case ky55 => (intro w hSw; clear hSw; (try simp only [qA, qB, qC]); go_simp; (try with_reducible rfl))
                  try simp only [Act.put, qA, qB, qC, qD, qE, qF]
                  refine wpAnyF_pure (i := 20) (v := ?kv56) rfl (by kernel_rfl) (by kernel_rfl) (by kernel_rfl) (by kernel_rfl) (fun _ _ _ h => h) (Or.inl ⟨by rfl, ?ky56⟩) (by first | (intro _; assumption) | (intro h; exact absurd h (by decide))) ?kr56
                  case ky56 => (intro w hSw; clear hSw; (try simp only [qA, qB, qC]); go_simp; (try with_reducible rfl))
                  try simp only [Act.put, qA, qB, qC, qD, qE, qF]
                  refine wpAnyF_ready (rs := [21]) (by kernel_rfl) (by simp) ?_
                  refine (AllReadyF.last rfl (by kernel_rfl) (fun K hK => ?_) AllReadyF.nil)
                  try simp only [qA, qB, qC]
                  go_simp
                  refine hK.out _ _ (trivial) (fun hHeldn => ?_)
                  clear hHeld hK K
                  have hHeld := hHeldn
                  clear hHeldn
                  try simp only [qD, qE, qF]
                  refine wpAnyF_done (by kernel_rfl) ?_ _
                  have hfin := NewSt.next fB fr f8 f15 (fun q hq e => hne15 ((Option.some.inj hq).trans (Option.some.inj e).symm))
                  go_wp2_with fail
                  go_roundw
                  case rel => exact ⟨k + 1, by omega, by go_num, hfin⟩
                  case measure => simp [intOf]; omega
              case kb40x1 =>
                refine step_lit64 rfl _ rfl rfl ?_; intro x14 hx14; have n49 := fK.size; (try replace f0 := f0.below (below_alloc hx14)); (try replace f1 := f1.below (below_alloc hx14)); (try replace f8 := f8.below (below_alloc hx14)); (try replace fz41 := grow_obj (below_alloc hx14) fz41); (try replace fu42 := grow_obj (below_alloc hx14) fu42); (try replace fz48 := grow_obj (below_alloc hx14) fz48); (try replace fu49 := grow_obj (below_alloc hx14) fu49); replace fr := grow_obj (below_alloc hx14) fr; replace fK := fK.trans (Keeps.of_below (below_alloc hx14)); have fu49 := obj_alloc hx14; clear hx14
                refine hK.out _ _ (by exact hS _ fK) (fun hHeldn => ?_)
                clear hHeld hK K
                have hHeld := hHeldn
                clear hHeldn
                try simp only [Act.put, qA, qB, qC, qD, qE, qF]
                refine wpAnyF_ready (rs := [7]) (by kernel_rfl) (by simp) ?_
                refine (AllReadyF.cons rfl (fun K hK => ?_) AllReadyF.nil)
                refine step_lit64 rfl _ rfl rfl ?_; intro x7 hx7; (try replace f0 := f0.below (below_alloc hx7)); (try replace f1 := f1.below (below_alloc hx7)); (try replace f8 := f8.below (below_alloc hx7)); (try replace fz41 := grow_obj (below_alloc hx7) fz41); (try replace fu42 := grow_obj (below_alloc hx7) fu42); (try replace fz48 := grow_obj (below_alloc hx7) fz48); (try replace fu49 := grow_obj (below_alloc hx7) fu49); replace fr := grow_obj (below_alloc hx7) fr; replace fK := fK.trans (Keeps.of_below (below_alloc hx7)); have fu42 := obj_alloc hx7; clear hx7
                refine hK.out _ _ (by exact hS _ fK) (fun hHeldn => ?_)
                clear hHeld hK K
                have hHeld := hHeldn
                clear hHeldn
                try simp only [Act.put, qA, qB, qC, qD, qE, qF]
                refine wpAnyF_ready (rs := [8]) (by kernel_rfl) (by simp) ?_
                refine (AllReadyF.cons rfl (fun K hK => ?_) AllReadyF.nil)
                refine step_app64 rfl _ _ (.tmp 41) rfl rfl f0 rfl rfl fu42 fz41 n41 (Nat.le_trans hrl fK.size) (by omega) ?_; intro g8 c8 x8 f8 k8 o8; have hg8 : ∀ q, s1.ownBlock = some q → g8 ≠ q := (fun q hq e => by rcases o8 with h | h; exact H2.out.2.2.2.2.2 g8 h (by rw [hq, e]); have := hown1 q hq; have := fK.size; omega); replace f1 := f1.keepsRow f0 k8 (fun q hq e => H2.out.2.2.2.2.2 q e hq); (try replace fz48 := k8.obj fz48 (fun e => by obtain ⟨c, hc⟩ := f0.obj e; exact ne_of_obj fz48 hc (by decide) rfl)); (try replace fu49 := k8.obj fu49 (fun e => by have := hown0 _ e; omega)); replace fr := k8.obj fr hr; replace fK := fK.trans k8; clear f0 fz41 fu42 o8 k8
                refine hK.out _ _ (by exact hS _ fK) (fun hHeldn => ?_)
                clear hHeld hK K
                have hHeld := hHeldn
                clear hHeldn
                try simp only [Act.put, qA, qB, qC, qD, qE, qF]
                refine wpAnyF_ready (rs := [15]) (by kernel_rfl) (by simp) ?_
                refine (AllReadyF.last rfl (by kernel_rfl) (fun K hK => ?_) AllReadyF.nil)
                refine step_app64 rfl _ _ (.tmp 48) rfl rfl f1 rfl rfl fu49 fz48 n48 (Nat.le_trans hrl fK.size) (by omega) ?_; intro g15 c15 x15 f15 k15 o15; have hne15 : g8 ≠ g15 := (fun e => by rcases o15 with h | h; exact hg8 g15 h e; obtain ⟨c, hc⟩ := f8.obj (g := g8) rfl; have := block_lt hc; omega); replace f8 := f8.keepsRow f1 k15 (fun q hq e => hg8 q e (Option.some.inj hq)); have hr1 : ¬ s1.ownBlock = some r := (fun e => by have := f1.choose_spec.2.1 r e; omega); replace fr := k15.obj fr hr1; have fB : Below r wo x15 := H2.out.1.trans ((fK.below (Nat.le_of_lt hrl) (fun q hq => by have := H2.out.2.2.2.1.choose_spec.2.1 q hq; omega)).trans (k15.below (Nat.le_trans (Nat.le_of_lt hrl) fK.size) (fun q hq => by have := f1.choose_spec.2.1 q hq; omega))); have d0 := cell_obj fr 0; have d1 := cell_obj fr 1; have e0 := free_obj fr 0; have e1 := free_obj fr 1; clear fu49 fz48 f1
                refine hK.out _ _ (trivial) (fun hHeldn => ?_)
                clear hHeld hK K
                have hHeld := hHeldn
                clear hHeldn
                try simp only [Act.put, qA, qB, qC, qD, qE, qF]
                refine wpAnyF_pure (i := 16) (v := ?kv61) rfl (by kernel_rfl) (by kernel_rfl) (by kernel_rfl) (by kernel_rfl) (fun _ _ _ h => h) (Or.inl ⟨by rfl, ?ky61⟩) (by first | (intro _; assumption) | (intro h; exact absurd h (by decide))) ?kr61
                case ky61 => (intro w hSw; clear hSw; (try simp only [qA, qB, qC]); go_simp; (try with_reducible rfl))
                try simp only [Act.put, qA, qB, qC, qD, qE, qF]
                refine wpAnyF_pure (i := 17) (v := ?kv62) rfl (by kernel_rfl) (by kernel_rfl) (by kernel_rfl) (by kernel_rfl) (fun _ _ _ h => h) (Or.inl ⟨by rfl, ?ky62⟩) (by first | (intro _; assumption) | (intro h; exact absurd h (by decide))) ?kr62
                case ky62 => (intro w hSw; clear hSw; (try simp only [qA, qB, qC]); go_simp; (try with_reducible rfl))
                try simp only [Act.put, qA, qB, qC, qD, qE, qF]
                refine wpAnyF_ready (rs := [18]) (by kernel_rfl) (by simp) ?_
                refine (AllReadyF.last rfl (by kernel_rfl) (fun K hK => ?_) AllReadyF.nil)
                try simp only [qA, qB, qC]
                go_simp
                refine hK.out _ _ (trivial) (fun hHeldn => ?_)
                clear hHeld hK K
                have hHeld := hHeldn
                clear hHeldn
                try simp only [qD, qE, qF]
                refine wpAnyF_pure (i := 19) (v := ?kv64) rfl (by kernel_rfl) (by kernel_rfl) (by kernel_rfl) (by kernel_rfl) (fun _ _ _ h => h) (Or.inl ⟨by rfl, ?ky64⟩) (by first | (intro _; assumption) | (intro h; exact absurd h (by decide))) ?kr64
                case ky64 => (intro w hSw; clear hSw; (try simp only [qA, qB, qC]); go_simp; (try with_reducible rfl))
                try simp only [Act.put, qA, qB, qC, qD, qE, qF]
                refine wpAnyF_pure (i := 20) (v := ?kv65) rfl (by kernel_rfl) (by kernel_rfl) (by kernel_rfl) (by kernel_rfl) (fun _ _ _ h => h) (Or.inl ⟨by rfl, ?ky65⟩) (by first | (intro _; assumption) | (intro h; exact absurd h (by decide))) ?kr65
                case ky65 => (intro w hSw; clear hSw; (try simp only [qA, qB, qC]); go_simp; (try with_reducible rfl))
                try simp only [Act.put, qA, qB, qC, qD, qE, qF]
                refine wpAnyF_ready (rs := [21]) (by kernel_rfl) (by simp) ?_
                refine (AllReadyF.last rfl (by kernel_rfl) (fun K hK => ?_) AllReadyF.nil)
                try simp only [qA, qB, qC]
                go_simp
                refine hK.out _ _ (trivial) (fun hHeldn => ?_)
                clear hHeld hK K
                have hHeld := hHeldn
                clear hHeldn
                try simp only [qD, qE, qF]
                refine wpAnyF_done (by kernel_rfl) ?_ _
                have hfin := NewSt.next fB fr f8 f15 (fun q hq e => hne15 ((Option.some.inj hq).trans (Option.some.inj e).symm))
                go_wp2_with fail
                go_roundw
                case rel => exact ⟨k + 1, by omega, by go_num, hfin⟩
                case measure => simp [intOf]; omega
          case kb11x1 =>
            refine step_make64 rfl rfl ?_; intro x13 hx13; have n48 := Nat.le_trans hrl fK.size; (try replace f0 := f0.below (below_alloc hx13)); (try replace f1 := f1.below (below_alloc hx13)); (try replace f8 := f8.below (below_alloc hx13)); (try replace fz41 := grow_obj (below_alloc hx13) fz41); (try replace fu42 := grow_obj (below_alloc hx13) fu42); (try replace fz48 := grow_obj (below_alloc hx13) fz48); (try replace fu49 := grow_obj (below_alloc hx13) fu49); replace fr := grow_obj (below_alloc hx13) fr; replace fK := fK.trans (Keeps.of_below (below_alloc hx13)); have fz48 := obj_alloc hx13; clear hx13
            refine hK.out _ _ (by exact hS _ fK) (fun hHeldn => ?_)
            clear hHeld hK K
            have hHeld := hHeldn
            clear hHeldn
            try simp only [Act.put, qA, qB, qC, qD, qE, qF]
            refine wpAnyF_ready (rs := [6, 14]) (by kernel_rfl) (by simp) ?_
            refine (AllReadyF.cons rfl (fun K hK => ?kb67x0) (AllReadyF.cons rfl (fun K hK => ?kb67x1) AllReadyF.nil))
            case kb67x0 =>
              refine step_make64 rfl rfl ?_; intro x6 hx6; have n41 := Nat.le_trans hrl fK.size; (try replace f0 := f0.below (below_alloc hx6)); (try replace f1 := f1.below (below_alloc hx6)); (try replace f8 := f8.below (below_alloc hx6)); (try replace fz41 := grow_obj (below_alloc hx6) fz41); (try replace fu42 := grow_obj (below_alloc hx6) fu42); (try replace fz48 := grow_obj (below_alloc hx6) fz48); (try replace fu49 := grow_obj (below_alloc hx6) fu49); replace fr := grow_obj (below_alloc hx6) fr; replace fK := fK.trans (Keeps.of_below (below_alloc hx6)); have fz41 := obj_alloc hx6; clear hx6
              refine hK.out _ _ (by exact hS _ fK) (fun hHeldn => ?_)
              clear hHeld hK K
              have hHeld := hHeldn
              clear hHeldn
              try simp only [Act.put, qA, qB, qC, qD, qE, qF]
              refine wpAnyF_ready (rs := [7, 14]) (by kernel_rfl) (by simp) ?_
              refine (AllReadyF.cons rfl (fun K hK => ?kb68x0) (AllReadyF.cons rfl (fun K hK => ?kb68x1) AllReadyF.nil))
              case kb68x0 =>
                refine step_lit64 rfl _ rfl rfl ?_; intro x7 hx7; (try replace f0 := f0.below (below_alloc hx7)); (try replace f1 := f1.below (below_alloc hx7)); (try replace f8 := f8.below (below_alloc hx7)); (try replace fz41 := grow_obj (below_alloc hx7) fz41); (try replace fu42 := grow_obj (below_alloc hx7) fu42); (try replace fz48 := grow_obj (below_alloc hx7) fz48); (try replace fu49 := grow_obj (below_alloc hx7) fu49); replace fr := grow_obj (below_alloc hx7) fr; replace fK := fK.trans (Keeps.of_below (below_alloc hx7)); have fu42 := obj_alloc hx7; clear hx7
                refine hK.out _ _ (by exact hS _ fK) (fun hHeldn => ?_)
                clear hHeld hK K
                have hHeld := hHeldn
                clear hHeldn
                try simp only [Act.put, qA, qB, qC, qD, qE, qF]
                refine wpAnyF_ready (rs := [8, 14]) (by kernel_rfl) (by simp) ?_
                refine (AllReadyF.cons rfl (fun K hK => ?kb69x0) (AllReadyF.cons rfl (fun K hK => ?kb69x1) AllReadyF.nil))
                case kb69x0 =>
                  refine step_app64 rfl _ _ (.tmp 41) rfl rfl f0 rfl rfl fu42 fz41 n41 (Nat.le_trans hrl fK.size) (by omega) ?_; intro g8 c8 x8 f8 k8 o8; have hg8 : ∀ q, s1.ownBlock = some q → g8 ≠ q := (fun q hq e => by rcases o8 with h | h; exact H2.out.2.2.2.2.2 g8 h (by rw [hq, e]); have := hown1 q hq; have := fK.size; omega); replace f1 := f1.keepsRow f0 k8 (fun q hq e => H2.out.2.2.2.2.2 q e hq); (try replace fz48 := k8.obj fz48 (fun e => by obtain ⟨c, hc⟩ := f0.obj e; exact ne_of_obj fz48 hc (by decide) rfl)); (try replace fu49 := k8.obj fu49 (fun e => by have := hown0 _ e; omega)); replace fr := k8.obj fr hr; replace fK := fK.trans k8; clear f0 fz41 fu42 o8 k8
                  refine hK.out _ _ (by exact hS _ fK) (fun hHeldn => ?_)
                  clear hHeld hK K
                  have hHeld := hHeldn
                  clear hHeldn
                  try simp only [Act.put, qA, qB, qC, qD, qE, qF]
                  refine wpAnyF_ready (rs := [14]) (by kernel_rfl) (by simp) ?_
                  refine (AllReadyF.cons rfl (fun K hK => ?_) AllReadyF.nil)
                  refine step_lit64 rfl _ rfl rfl ?_; intro x14 hx14; have n49 := fK.size; (try replace f0 := f0.below (below_alloc hx14)); (try replace f1 := f1.below (below_alloc hx14)); (try replace f8 := f8.below (below_alloc hx14)); (try replace fz41 := grow_obj (below_alloc hx14) fz41); (try replace fu42 := grow_obj (below_alloc hx14) fu42); (try replace fz48 := grow_obj (below_alloc hx14) fz48); (try replace fu49 := grow_obj (below_alloc hx14) fu49); replace fr := grow_obj (below_alloc hx14) fr; replace fK := fK.trans (Keeps.of_below (below_alloc hx14)); have fu49 := obj_alloc hx14; clear hx14
                  refine hK.out _ _ (by exact hS _ fK) (fun hHeldn => ?_)
                  clear hHeld hK K
                  have hHeld := hHeldn
                  clear hHeldn
                  try simp only [Act.put, qA, qB, qC, qD, qE, qF]
                  refine wpAnyF_ready (rs := [15]) (by kernel_rfl) (by simp) ?_
                  refine (AllReadyF.last rfl (by kernel_rfl) (fun K hK => ?_) AllReadyF.nil)
                  refine step_app64 rfl _ _ (.tmp 48) rfl rfl f1 rfl rfl fu49 fz48 n48 (Nat.le_trans hrl fK.size) (by omega) ?_; intro g15 c15 x15 f15 k15 o15; have hne15 : g8 ≠ g15 := (fun e => by rcases o15 with h | h; exact hg8 g15 h e; obtain ⟨c, hc⟩ := f8.obj (g := g8) rfl; have := block_lt hc; omega); replace f8 := f8.keepsRow f1 k15 (fun q hq e => hg8 q e (Option.some.inj hq)); have hr1 : ¬ s1.ownBlock = some r := (fun e => by have := f1.choose_spec.2.1 r e; omega); replace fr := k15.obj fr hr1; have fB : Below r wo x15 := H2.out.1.trans ((fK.below (Nat.le_of_lt hrl) (fun q hq => by have := H2.out.2.2.2.1.choose_spec.2.1 q hq; omega)).trans (k15.below (Nat.le_trans (Nat.le_of_lt hrl) fK.size) (fun q hq => by have := f1.choose_spec.2.1 q hq; omega))); have d0 := cell_obj fr 0; have d1 := cell_obj fr 1; have e0 := free_obj fr 0; have e1 := free_obj fr 1; clear fu49 fz48 f1
                  refine hK.out _ _ (trivial) (fun hHeldn => ?_)
                  clear hHeld hK K
                  have hHeld := hHeldn
                  clear hHeldn
                  try simp only [Act.put, qA, qB, qC, qD, qE, qF]
                  refine wpAnyF_pure (i := 16) (v := ?kv72) rfl (by kernel_rfl) (by kernel_rfl) (by kernel_rfl) (by kernel_rfl) (fun _ _ _ h => h) (Or.inl ⟨by rfl, ?ky72⟩) (by first | (intro _; assumption) | (intro h; exact absurd h (by decide))) ?kr72
                  case ky72 => (intro w hSw; clear hSw; (try simp only [qA, qB, qC]); go_simp; (try with_reducible rfl))
                  try simp only [Act.put, qA, qB, qC, qD, qE, qF]
                  refine wpAnyF_pure (i := 17) (v := ?kv73) rfl (by kernel_rfl) (by kernel_rfl) (by kernel_rfl) (by kernel_rfl) (fun _ _ _ h => h) (Or.inl ⟨by rfl, ?ky73⟩) (by first | (intro _; assumption) | (intro h; exact absurd h (by decide))) ?kr73
                  case ky73 => (intro w hSw; clear hSw; (try simp only [qA, qB, qC]); go_simp; (try with_reducible rfl))
                  try simp only [Act.put, qA, qB, qC, qD, qE, qF]
                  refine wpAnyF_ready (rs := [18]) (by kernel_rfl) (by simp) ?_
                  refine (AllReadyF.last rfl (by kernel_rfl) (fun K hK => ?_) AllReadyF.nil)
                  try simp only [qA, qB, qC]
                  go_simp
                  refine hK.out _ _ (trivial) (fun hHeldn => ?_)
                  clear hHeld hK K
                  have hHeld := hHeldn
                  clear hHeldn
                  try simp only [qD, qE, qF]
                  refine wpAnyF_pure (i := 19) (v := ?kv75) rfl (by kernel_rfl) (by kernel_rfl) (by kernel_rfl) (by kernel_rfl) (fun _ _ _ h => h) (Or.inl ⟨by rfl, ?ky75⟩) (by first | (intro _; assumption) | (intro h; exact absurd h (by decide))) ?kr75
                  case ky75 => (intro w hSw; clear hSw; (try simp only [qA, qB, qC]); go_simp; (try with_reducible rfl))
                  try simp only [Act.put, qA, qB, qC, qD, qE, qF]
                  refine wpAnyF_pure (i := 20) (v := ?kv76) rfl (by kernel_rfl) (by kernel_rfl) (by kernel_rfl) (by kernel_rfl) (fun _ _ _ h => h) (Or.inl ⟨by rfl, ?ky76⟩) (by first | (intro _; assumption) | (intro h; exact absurd h (by decide))) ?kr76
                  case ky76 => (intro w hSw; clear hSw; (try simp only [qA, qB, qC]); go_simp; (try with_reducible rfl))
                  try simp only [Act.put, qA, qB, qC, qD, qE, qF]
                  refine wpAnyF_ready (rs := [21]) (by kernel_rfl) (by simp) ?_
                  refine (AllReadyF.last rfl (by kernel_rfl) (fun K hK => ?_) AllReadyF.nil)
                  try simp only [qA, qB, qC]
                  go_simp
                  refine hK.out _ _ (trivial) (fun hHeldn => ?_)
                  clear hHeld hK K
                  have hHeld := hHeldn
                  clear hHeldn
                  try simp only [qD, qE, qF]
                  refine wpAnyF_done (by kernel_rfl) ?_ _
                  have hfin := NewSt.next fB fr f8 f15 (fun q hq e => hne15 ((Option.some.inj hq).trans (Option.some.inj e).symm))
                  go_wp2_with fail
                  go_roundw
                  case rel => exact ⟨k + 1, by omega, by go_num, hfin⟩
                  case measure => simp [intOf]; omega
                case kb69x1 =>
                  refine step_lit64 rfl _ rfl rfl ?_; intro x14 hx14; have n49 := fK.size; (try replace f0 := f0.below (below_alloc hx14)); (try replace f1 := f1.below (below_alloc hx14)); (try replace f8 := f8.below (below_alloc hx14)); (try replace fz41 := grow_obj (below_alloc hx14) fz41); (try replace fu42 := grow_obj (below_alloc hx14) fu42); (try replace fz48 := grow_obj (below_alloc hx14) fz48); (try replace fu49 := grow_obj (below_alloc hx14) fu49); replace fr := grow_obj (below_alloc hx14) fr; replace fK := fK.trans (Keeps.of_below (below_alloc hx14)); have fu49 := obj_alloc hx14; clear hx14
                  refine hK.out _ _ (by exact hS _ fK) (fun hHeldn => ?_)
                  clear hHeld hK K
                  have hHeld := hHeldn
                  clear hHeldn
                  try simp only [Act.put, qA, qB, qC, qD, qE, qF]
                  refine wpAnyF_ready (rs := [8]) (by kernel_rfl) (by simp) ?_
                  refine (AllReadyF.cons rfl (fun K hK => ?_) AllReadyF.nil)
                  refine step_app64 rfl _ _ (.tmp 41) rfl rfl f0 rfl rfl fu42 fz41 n41 (Nat.le_trans hrl fK.size) (by omega) ?_; intro g8 c8 x8 f8 k8 o8; have hg8 : ∀ q, s1.ownBlock = some q → g8 ≠ q := (fun q hq e => by rcases o8 with h | h; exact H2.out.2.2.2.2.2 g8 h (by rw [hq, e]); have := hown1 q hq; have := fK.size; omega); replace f1 := f1.keepsRow f0 k8 (fun q hq e => H2.out.2.2.2.2.2 q e hq); (try replace fz48 := k8.obj fz48 (fun e => by obtain ⟨c, hc⟩ := f0.obj e; exact ne_of_obj fz48 hc (by decide) rfl)); (try replace fu49 := k8.obj fu49 (fun e => by have := hown0 _ e; omega)); replace fr := k8.obj fr hr; replace fK := fK.trans k8; clear f0 fz41 fu42 o8 k8
                  refine hK.out _ _ (by exact hS _ fK) (fun hHeldn => ?_)
                  clear hHeld hK K
                  have hHeld := hHeldn
                  clear hHeldn
                  try simp only [Act.put, qA, qB, qC, qD, qE, qF]
                  refine wpAnyF_ready (rs := [15]) (by kernel_rfl) (by simp) ?_
                  refine (AllReadyF.last rfl (by kernel_rfl) (fun K hK => ?_) AllReadyF.nil)
                  refine step_app64 rfl _ _ (.tmp 48) rfl rfl f1 rfl rfl fu49 fz48 n48 (Nat.le_trans hrl fK.size) (by omega) ?_; intro g15 c15 x15 f15 k15 o15; have hne15 : g8 ≠ g15 := (fun e => by rcases o15 with h | h; exact hg8 g15 h e; obtain ⟨c, hc⟩ := f8.obj (g := g8) rfl; have := block_lt hc; omega); replace f8 := f8.keepsRow f1 k15 (fun q hq e => hg8 q e (Option.some.inj hq)); have hr1 : ¬ s1.ownBlock = some r := (fun e => by have := f1.choose_spec.2.1 r e; omega); replace fr := k15.obj fr hr1; have fB : Below r wo x15 := H2.out.1.trans ((fK.below (Nat.le_of_lt hrl) (fun q hq => by have := H2.out.2.2.2.1.choose_spec.2.1 q hq; omega)).trans (k15.below (Nat.le_trans (Nat.le_of_lt hrl) fK.size) (fun q hq => by have := f1.choose_spec.2.1 q hq; omega))); have d0 := cell_obj fr 0; have d1 := cell_obj fr 1; have e0 := free_obj fr 0; have e1 := free_obj fr 1; clear fu49 fz48 f1
                  refine hK.out _ _ (trivial) (fun hHeldn => ?_)
                  clear hHeld hK K
                  have hHeld := hHeldn
                  clear hHeldn
                  try simp only [Act.put, qA, qB, qC, qD, qE, qF]
                  refine wpAnyF_pure (i := 16) (v := ?kv80) rfl (by kernel_rfl) (by kernel_rfl) (by kernel_rfl) (by kernel_rfl) (fun _ _ _ h => h) (Or.inl ⟨by rfl, ?ky80⟩) (by first | (intro _; assumption) | (intro h; exact absurd h (by decide))) ?kr80
                  case ky80 => (intro w hSw; clear hSw; (try simp only [qA, qB, qC]); go_simp; (try with_reducible rfl))
                  try simp only [Act.put, qA, qB, qC, qD, qE, qF]
                  refine wpAnyF_pure (i := 17) (v := ?kv81) rfl (by kernel_rfl) (by kernel_rfl) (by kernel_rfl) (by kernel_rfl) (fun _ _ _ h => h) (Or.inl ⟨by rfl, ?ky81⟩) (by first | (intro _; assumption) | (intro h; exact absurd h (by decide))) ?kr81
                  case ky81 => (intro w hSw; clear hSw; (try simp only [qA, qB, qC]); go_simp; (try with_reducible rfl))
                  try simp only [Act.put, qA, qB, qC, qD, qE, qF]
                  refine wpAnyF_ready (rs := [18]) (by kernel_rfl) (by simp) ?_
                  refine (AllReadyF.last rfl (by kernel_rfl) (fun K hK => ?_) AllReadyF.nil)
                  try simp only [qA, qB, qC]
                  go_simp
                  refine hK.out _ _ (trivial) (fun hHeldn => ?_)
                  clear hHeld hK K
                  have hHeld := hHeldn
                  clear hHeldn
                  try simp only [qD, qE, qF]
                  refine wpAnyF_pure (i := 19) (v := ?kv83) rfl (by kernel_rfl) (by kernel_rfl) (by kernel_rfl) (by kernel_rfl) (fun _ _ _ h => h) (Or.inl ⟨by rfl, ?ky83⟩) (by first | (intro _; assumption) | (intro h; exact absurd h (by decide))) ?kr83
                  case ky83 => (intro w hSw; clear hSw; (try simp only [qA, qB, qC]); go_simp; (try with_reducible rfl))
                  try simp only [Act.put, qA, qB, qC, qD, qE, qF]
                  refine wpAnyF_pure (i := 20) (v := ?kv84) rfl (by kernel_rfl) (by kernel_rfl) (by kernel_rfl) (by kernel_rfl) (fun _ _ _ h => h) (Or.inl ⟨by rfl, ?ky84⟩) (by first | (intro _; assumption) | (intro h; exact absurd h (by decide))) ?kr84
                  case ky84 => (intro w hSw; clear hSw; (try simp only [qA, qB, qC]); go_simp; (try with_reducible rfl))
                  try simp only [Act.put, qA, qB, qC, qD, qE, qF]
                  refine wpAnyF_ready (rs := [21]) (by kernel_rfl) (by simp) ?_
                  refine (AllReadyF.last rfl (by kernel_rfl) (fun K hK => ?_) AllReadyF.nil)
                  try simp only [qA, qB, qC]
                  go_simp
                  refine hK.out _ _ (trivial) (fun hHeldn => ?_)
                  clear hHeld hK K
                  have hHeld := hHeldn
                  clear hHeldn
                  try simp only [qD, qE, qF]
                  refine wpAnyF_done (by kernel_rfl) ?_ _
                  have hfin := NewSt.next fB fr f8 f15 (fun q hq e => hne15 ((Option.some.inj hq).trans (Option.some.inj e).symm))
                  go_wp2_with fail
                  go_roundw
                  case rel => exact ⟨k + 1, by omega, by go_num, hfin⟩
                  case measure => simp [intOf]; omega
              case kb68x1 =>
                refine step_lit64 rfl _ rfl rfl ?_; intro x14 hx14; have n49 := fK.size; (try replace f0 := f0.below (below_alloc hx14)); (try replace f1 := f1.below (below_alloc hx14)); (try replace f8 := f8.below (below_alloc hx14)); (try replace fz41 := grow_obj (below_alloc hx14) fz41); (try replace fu42 := grow_obj (below_alloc hx14) fu42); (try replace fz48 := grow_obj (below_alloc hx14) fz48); (try replace fu49 := grow_obj (below_alloc hx14) fu49); replace fr := grow_obj (below_alloc hx14) fr; replace fK := fK.trans (Keeps.of_below (below_alloc hx14)); have fu49 := obj_alloc hx14; clear hx14
                refine hK.out _ _ (by exact hS _ fK) (fun hHeldn => ?_)
                clear hHeld hK K
                have hHeld := hHeldn
                clear hHeldn
                try simp only [Act.put, qA, qB, qC, qD, qE, qF]
                refine wpAnyF_ready (rs := [7]) (by kernel_rfl) (by simp) ?_
                refine (AllReadyF.cons rfl (fun K hK => ?_) AllReadyF.nil)
                refine step_lit64 rfl _ rfl rfl ?_; intro x7 hx7; (try replace f0 := f0.below (below_alloc hx7)); (try replace f1 := f1.below (below_alloc hx7)); (try replace f8 := f8.below (below_alloc hx7)); (try replace fz41 := grow_obj (below_alloc hx7) fz41); (try replace fu42 := grow_obj (below_alloc hx7) fu42); (try replace fz48 := grow_obj (below_alloc hx7) fz48); (try replace fu49 := grow_obj (below_alloc hx7) fu49); replace fr := grow_obj (below_alloc hx7) fr; replace fK := fK.trans (Keeps.of_below (below_alloc hx7)); have fu42 := obj_alloc hx7; clear hx7
                refine hK.out _ _ (by exact hS _ fK) (fun hHeldn => ?_)
                clear hHeld hK K
                have hHeld := hHeldn
                clear hHeldn
                try simp only [Act.put, qA, qB, qC, qD, qE, qF]
                refine wpAnyF_ready (rs := [8]) (by kernel_rfl) (by simp) ?_
                refine (AllReadyF.cons rfl (fun K hK => ?_) AllReadyF.nil)
                refine step_app64 rfl _ _ (.tmp 41) rfl rfl f0 rfl rfl fu42 fz41 n41 (Nat.le_trans hrl fK.size) (by omega) ?_; intro g8 c8 x8 f8 k8 o8; have hg8 : ∀ q, s1.ownBlock = some q → g8 ≠ q := (fun q hq e => by rcases o8 with h | h; exact H2.out.2.2.2.2.2 g8 h (by rw [hq, e]); have := hown1 q hq; have := fK.size; omega); replace f1 := f1.keepsRow f0 k8 (fun q hq e => H2.out.2.2.2.2.2 q e hq); (try replace fz48 := k8.obj fz48 (fun e => by obtain ⟨c, hc⟩ := f0.obj e; exact ne_of_obj fz48 hc (by decide) rfl)); (try replace fu49 := k8.obj fu49 (fun e => by have := hown0 _ e; omega)); replace fr := k8.obj fr hr; replace fK := fK.trans k8; clear f0 fz41 fu42 o8 k8
                refine hK.out _ _ (by exact hS _ fK) (fun hHeldn => ?_)
                clear hHeld hK K
                have hHeld := hHeldn
                clear hHeldn
                try simp only [Act.put, qA, qB, qC, qD, qE, qF]
                refine wpAnyF_ready (rs := [15]) (by kernel_rfl) (by simp) ?_
                refine (AllReadyF.last rfl (by kernel_rfl) (fun K hK => ?_) AllReadyF.nil)
                refine step_app64 rfl _ _ (.tmp 48) rfl rfl f1 rfl rfl fu49 fz48 n48 (Nat.le_trans hrl fK.size) (by omega) ?_; intro g15 c15 x15 f15 k15 o15; have hne15 : g8 ≠ g15 := (fun e => by rcases o15 with h | h; exact hg8 g15 h e; obtain ⟨c, hc⟩ := f8.obj (g := g8) rfl; have := block_lt hc; omega); replace f8 := f8.keepsRow f1 k15 (fun q hq e => hg8 q e (Option.some.inj hq)); have hr1 : ¬ s1.ownBlock = some r := (fun e => by have := f1.choose_spec.2.1 r e; omega); replace fr := k15.obj fr hr1; have fB : Below r wo x15 := H2.out.1.trans ((fK.below (Nat.le_of_lt hrl) (fun q hq => by have := H2.out.2.2.2.1.choose_spec.2.1 q hq; omega)).trans (k15.below (Nat.le_trans (Nat.le_of_lt hrl) fK.size) (fun q hq => by have := f1.choose_spec.2.1 q hq; omega))); have d0 := cell_obj fr 0; have d1 := cell_obj fr 1; have e0 := free_obj fr 0; have e1 := free_obj fr 1; clear fu49 fz48 f1
                refine hK.out _ _ (trivial) (fun hHeldn => ?_)
                clear hHeld hK K
                have hHeld := hHeldn
                clear hHeldn
                try simp only [Act.put, qA, qB, qC, qD, qE, qF]
                refine wpAnyF_pure (i := 16) (v := ?kv89) rfl (by kernel_rfl) (by kernel_rfl) (by kernel_rfl) (by kernel_rfl) (fun _ _ _ h => h) (Or.inl ⟨by rfl, ?ky89⟩) (by first | (intro _; assumption) | (intro h; exact absurd h (by decide))) ?kr89
                case ky89 => (intro w hSw; clear hSw; (try simp only [qA, qB, qC]); go_simp; (try with_reducible rfl))
                try simp only [Act.put, qA, qB, qC, qD, qE, qF]
                refine wpAnyF_pure (i := 17) (v := ?kv90) rfl (by kernel_rfl) (by kernel_rfl) (by kernel_rfl) (by kernel_rfl) (fun _ _ _ h => h) (Or.inl ⟨by rfl, ?ky90⟩) (by first | (intro _; assumption) | (intro h; exact absurd h (by decide))) ?kr90
                case ky90 => (intro w hSw; clear hSw; (try simp only [qA, qB, qC]); go_simp; (try with_reducible rfl))
                try simp only [Act.put, qA, qB, qC, qD, qE, qF]
                refine wpAnyF_ready (rs := [18]) (by kernel_rfl) (by simp) ?_
                refine (AllReadyF.last rfl (by kernel_rfl) (fun K hK => ?_) AllReadyF.nil)
                try simp only [qA, qB, qC]
                go_simp
                refine hK.out _ _ (trivial) (fun hHeldn => ?_)
                clear hHeld hK K
                have hHeld := hHeldn
                clear hHeldn
                try simp only [qD, qE, qF]
                refine wpAnyF_pure (i := 19) (v := ?kv92) rfl (by kernel_rfl) (by kernel_rfl) (by kernel_rfl) (by kernel_rfl) (fun _ _ _ h => h) (Or.inl ⟨by rfl, ?ky92⟩) (by first | (intro _; assumption) | (intro h; exact absurd h (by decide))) ?kr92
                case ky92 => (intro w hSw; clear hSw; (try simp only [qA, qB, qC]); go_simp; (try with_reducible rfl))
                try simp only [Act.put, qA, qB, qC, qD, qE, qF]
                refine wpAnyF_pure (i := 20) (v := ?kv93) rfl (by kernel_rfl) (by kernel_rfl) (by kernel_rfl) (by kernel_rfl) (fun _ _ _ h => h) (Or.inl ⟨by rfl, ?ky93⟩) (by first | (intro _; assumption) | (intro h; exact absurd h (by decide))) ?kr93
                case ky93 => (intro w hSw; clear hSw; (try simp only [qA, qB, qC]); go_simp; (try with_reducible rfl))
                try simp only [Act.put, qA, qB, qC, qD, qE, qF]
                refine wpAnyF_ready (rs := [21]) (by kernel_rfl) (by simp) ?_
                refine (AllReadyF.last rfl (by kernel_rfl) (fun K hK => ?_) AllReadyF.nil)
                try simp only [qA, qB, qC]
                go_simp
                refine hK.out _ _ (trivial) (fun hHeldn => ?_)
                clear hHeld hK K
                have hHeld := hHeldn
                clear hHeldn
                try simp only [qD, qE, qF]
                refine wpAnyF_done (by kernel_rfl) ?_ _
                have hfin := NewSt.next fB fr f8 f15 (fun q hq e => hne15 ((Option.some.inj hq).trans (Option.some.inj e).symm))
                go_wp2_with fail
                go_roundw
                case rel => exact ⟨k + 1, by omega, by go_num, hfin⟩
                case measure => simp [intOf]; omega
            case kb67x1 =>
              refine step_lit64 rfl _ rfl rfl ?_; intro x14 hx14; have n49 := fK.size; (try replace f0 := f0.below (below_alloc hx14)); (try replace f1 := f1.below (below_alloc hx14)); (try replace f8 := f8.below (below_alloc hx14)); (try replace fz41 := grow_obj (below_alloc hx14) fz41); (try replace fu42 := grow_obj (below_alloc hx14) fu42); (try replace fz48 := grow_obj (below_alloc hx14) fz48); (try replace fu49 := grow_obj (below_alloc hx14) fu49); replace fr := grow_obj (below_alloc hx14) fr; replace fK := fK.trans (Keeps.of_below (below_alloc hx14)); have fu49 := obj_alloc hx14; clear hx14
              refine hK.out _ _ (by exact hS _ fK) (fun hHeldn => ?_)
              clear hHeld hK K
              have hHeld := hHeldn
              clear hHeldn
              try simp only [Act.put, qA, qB, qC, qD, qE, qF]
              refine wpAnyF_ready (rs := [6]) (by kernel_rfl) (by simp) ?_
              refine (AllReadyF.cons rfl (fun K hK => ?_) AllReadyF.nil)
              refine step_make64 rfl rfl ?_; intro x6 hx6; have n41 := Nat.le_trans hrl fK.size; (try replace f0 := f0.below (below_alloc hx6)); (try replace f1 := f1.below (below_alloc hx6)); (try replace f8 := f8.below (below_alloc hx6)); (try replace fz41 := grow_obj (below_alloc hx6) fz41); (try replace fu42 := grow_obj (below_alloc hx6) fu42); (try replace fz48 := grow_obj (below_alloc hx6) fz48); (try replace fu49 := grow_obj (below_alloc hx6) fu49); replace fr := grow_obj (below_alloc hx6) fr; replace fK := fK.trans (Keeps.of_below (below_alloc hx6)); have fz41 := obj_alloc hx6; clear hx6
              refine hK.out _ _ (by exact hS _ fK) (fun hHeldn => ?_)
              clear hHeld hK K
              have hHeld := hHeldn
              clear hHeldn
              try simp only [Act.put, qA, qB, qC, qD, qE, qF]
              refine wpAnyF_ready (rs := [7]) (by kernel_rfl) (by simp) ?_
              refine (AllReadyF.cons rfl (fun K hK => ?_) AllReadyF.nil)
              refine step_lit64 rfl _ rfl rfl ?_; intro x7 hx7; (try replace f0 := f0.below (below_alloc hx7)); (try replace f1 := f1.below (below_alloc hx7)); (try replace f8 := f8.below (below_alloc hx7)); (try replace fz41 := grow_obj (below_alloc hx7) fz41); (try replace fu42 := grow_obj (below_alloc hx7) fu42); (try replace fz48 := grow_obj (below_alloc hx7) fz48); (try replace fu49 := grow_obj (below_alloc hx7) fu49); replace fr := grow_obj (below_alloc hx7) fr; replace fK := fK.trans (Keeps.of_below (below_alloc hx7)); have fu42 := obj_alloc hx7; clear hx7
              refine hK.out _ _ (by exact hS _ fK) (fun hHeldn => ?_)
              clear hHeld hK K
              have hHeld := hHeldn
              clear hHeldn
              try simp only [Act.put, qA, qB, qC, qD, qE, qF]
              refine wpAnyF_ready (rs := [8]) (by kernel_rfl) (by simp) ?_
              refine (AllReadyF.cons rfl (fun K hK => ?_) AllReadyF.nil)
              refine step_app64 rfl _ _ (.tmp 41) rfl rfl f0 rfl rfl fu42 fz41 n41 (Nat.le_trans hrl fK.size) (by omega) ?_; intro g8 c8 x8 f8 k8 o8; have hg8 : ∀ q, s1.ownBlock = some q → g8 ≠ q := (fun q hq e => by rcases o8 with h | h; exact H2.out.2.2.2.2.2 g8 h (by rw [hq, e]); have := hown1 q hq; have := fK.size; omega); replace f1 := f1.keepsRow f0 k8 (fun q hq e => H2.out.2.2.2.2.2 q e hq); (try replace fz48 := k8.obj fz48 (fun e => by obtain ⟨c, hc⟩ := f0.obj e; exact ne_of_obj fz48 hc (by decide) rfl)); (try replace fu49 := k8.obj fu49 (fun e => by have := hown0 _ e; omega)); replace fr := k8.obj fr hr; replace fK := fK.trans k8; clear f0 fz41 fu42 o8 k8
              refine hK.out _ _ (by exact hS _ fK) (fun hHeldn => ?_)
              clear hHeld hK K
              have hHeld := hHeldn
              clear hHeldn
              try simp only [Act.put, qA, qB, qC, qD, qE, qF]
              refine wpAnyF_ready (rs := [15]) (by kernel_rfl) (by simp) ?_
              refine (AllReadyF.last rfl (by kernel_rfl) (fun K hK => ?_) AllReadyF.nil)
              refine step_app64 rfl _ _ (.tmp 48) rfl rfl f1 rfl rfl fu49 fz48 n48 (Nat.le_trans hrl fK.size) (by omega) ?_; intro g15 c15 x15 f15 k15 o15; have hne15 : g8 ≠ g15 := (fun e => by rcases o15 with h | h; exact hg8 g15 h e; obtain ⟨c, hc⟩ := f8.obj (g := g8) rfl; have := block_lt hc; omega); replace f8 := f8.keepsRow f1 k15 (fun q hq e => hg8 q e (Option.some.inj hq)); have hr1 : ¬ s1.ownBlock = some r := (fun e => by have := f1.choose_spec.2.1 r e; omega); replace fr := k15.obj fr hr1; have fB : Below r wo x15 := H2.out.1.trans ((fK.below (Nat.le_of_lt hrl) (fun q hq => by have := H2.out.2.2.2.1.choose_spec.2.1 q hq; omega)).trans (k15.below (Nat.le_trans (Nat.le_of_lt hrl) fK.size) (fun q hq => by have := f1.choose_spec.2.1 q hq; omega))); have d0 := cell_obj fr 0; have d1 := cell_obj fr 1; have e0 := free_obj fr 0; have e1 := free_obj fr 1; clear fu49 fz48 f1
              refine hK.out _ _ (trivial) (fun hHeldn => ?_)
              clear hHeld hK K
              have hHeld := hHeldn
              clear hHeldn
              try simp only [Act.put, qA, qB, qC, qD, qE, qF]
              refine wpAnyF_pure (i := 16) (v := ?kv99) rfl (by kernel_rfl) (by kernel_rfl) (by kernel_rfl) (by kernel_rfl) (fun _ _ _ h => h) (Or.inl ⟨by rfl, ?ky99⟩) (by first | (intro _; assumption) | (intro h; exact absurd h (by decide))) ?kr99
              case ky99 => (intro w hSw; clear hSw; (try simp only [qA, qB, qC]); go_simp; (try with_reducible rfl))
              try simp only [Act.put, qA, qB, qC, qD, qE, qF]
              refine wpAnyF_pure (i := 17) (v := ?kv100) rfl (by kernel_rfl) (by kernel_rfl) (by kernel_rfl) (by kernel_rfl) (fun _ _ _ h => h) (Or.inl ⟨by rfl, ?ky100⟩) (by first | (intro _; assumption) | (intro h; exact absurd h (by decide))) ?kr100
              case ky100 => (intro w hSw; clear hSw; (try simp only [qA, qB, qC]); go_simp; (try with_reducible rfl))
              try simp only [Act.put, qA, qB, qC, qD, qE, qF]
              refine wpAnyF_ready (rs := [18]) (by kernel_rfl) (by simp) ?_
              refine (AllReadyF.last rfl (by kernel_rfl) (fun K hK => ?_) AllReadyF.nil)
              try simp only [qA, qB, qC]
              go_simp
              refine hK.out _ _ (trivial) (fun hHeldn => ?_)
              clear hHeld hK K
              have hHeld := hHeldn
              clear hHeldn
              try simp only [qD, qE, qF]
              refine wpAnyF_pure (i := 19) (v := ?kv102) rfl (by kernel_rfl) (by kernel_rfl) (by kernel_rfl) (by kernel_rfl) (fun _ _ _ h => h) (Or.inl ⟨by rfl, ?ky102⟩) (by first | (intro _; assumption) | (intro h; exact absurd h (by decide))) ?kr102
              case ky102 => (intro w hSw; clear hSw; (try simp only [qA, qB, qC]); go_simp; (try with_reducible rfl))
              try simp only [Act.put, qA, qB, qC, qD, qE, qF]
              refine wpAnyF_pure (i := 20) (v := ?kv103) rfl (by kernel_rfl) (by kernel_rfl) (by kernel_rfl) (by kernel_rfl) (fun _ _ _ h => h) (Or.inl ⟨by rfl, ?ky103⟩) (by first | (intro _; assumption) | (intro h; exact absurd h (by decide))) ?kr103
              case ky103 => (intro w hSw; clear hSw; (try simp only [qA, qB, qC]); go_simp; (try with_reducible rfl))
              try simp only [Act.put, qA, qB, qC, qD, qE, qF]
              refine wpAnyF_ready (rs := [21]) (by kernel_rfl) (by simp) ?_
              refine (AllReadyF.last rfl (by kernel_rfl) (fun K hK => ?_) AllReadyF.nil)
              try simp only [qA, qB, qC]
              go_simp
              refine hK.out _ _ (trivial) (fun hHeldn => ?_)
              clear hHeld hK K
              have hHeld := hHeldn
              clear hHeldn
              try simp only [qD, qE, qF]
              refine wpAnyF_done (by kernel_rfl) ?_ _
              have hfin := NewSt.next fB fr f8 f15 (fun q hq e => hne15 ((Option.some.inj hq).trans (Option.some.inj e).symm))
              go_wp2_with fail
              go_roundw
              case rel => exact ⟨k + 1, by omega, by go_num, hfin⟩
              case measure => simp [intOf]; omega
        · obtain rfl : k = n := by omega
          have hkk : ¬ ((k : Int) < (k : Int)) := by omega
          have hbb := hst.below
          rw [H1.out.2] at hbb
          have hM2 := HM.out.1.grow hbb
          have c0 := cell_obj hM2.obj 0
          have hM3 := hM2.grow (grow_alloc (Below.refl wr.heap.size wr) (.cells #[.pointer (some ⟨r, 0, none⟩)] 203))
          have hreg := hst.reg.keeps (S' := fun q => r ≤ q ∧ q < wr.heap.size) (Keeps.of_below_size (grow_alloc (Below.refl wr.heap.size wr) (.cells #[.pointer (some ⟨r, 0, none⟩)] 203))) (fun g hg e => by omega) (fun _ h _ => h)
          have hx3 : objAt (wr.alloc (.cells #[.pointer (some ⟨r, 0, none⟩)] 203)) wr.heap.size = some (.cells #[.pointer (some ⟨r, 0, none⟩)] 203 (0, 0)) := by rw [objAt_alloc, if_pos rfl]
          have H3 := Lib.hid (And.intro hM3 (And.intro hreg hx3))
          have hd : d < r := by rw [H1.out.2]; exact block_lt HM.out.1.obj
          have hrw := hst.lt
          have hrs : rs.length < 1000000 := by have := HM.out.1.len; omega
          clear hst hbb hM2 hM3 hreg hx3
          go_wp2_with (at_builtin; refine list_appG elemRegionK (v := lv) rfl _ _ rfl rfl H3.out.1.row rfl H3.out.2.2 rfl (by simp [Value.oneCell']) hrs PEl r (fun _ _ => ⟨fun _ _ h => h, rfl⟩) ?_; intro g2 cap2 w2 hv2 hk2 ho2 hl2; obtain ⟨hod2, hM4⟩ := H3.out.1.push H3.out.2.1 HM.out.2 (fun g hg => by rw [H1.out.2]; exact HM.out.1.row.lt hg) (fun j q hq => by rw [H1.out.2]; exact (HM.out.1.foot j q hq).2.1) hd (by rw [size_alloc]; omega) hv2 (fun q hq => hq.elim id (fun h => by rw [size_alloc] at h; have := H3.out.2.1; omega)) hk2 ho2; have d0 := cell_obj hod2 0; have e0 := free_obj hod2 0)
          go_roundw
          case rel => exact ⟨ko + 1, by omega, by go_num, hM4⟩
          case measure => simp [intOf]; omega
    · have hn : ¬ ((ko : Int) < (l.length : Int)) := by omega
      have HM := Lib.hid hM
      clear hM
      go_wp2_with fail
      go_ret2
      have hM := HM.out
      exact ⟨d, rfl, Mid.done ⟨_, _, _, hM⟩ (by omega) (by omega) (by omega) Hc.out.2, hM.below⟩
end Go.Proofs.YtbbnejehglonjaaGreat
