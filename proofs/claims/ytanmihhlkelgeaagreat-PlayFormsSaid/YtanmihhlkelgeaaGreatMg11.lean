/- DERIVED. Contracts and laws that the proofs of this seat share, part 11 of 32: PvE LibW. -/
import Derived.Test.YtanmihhlkelgeaaGreatMg05
import Derived.Test.YtanmihhlkelgeaaGreatMg10
/- DERIVED. Contracts of vol's begins, read. -/
namespace Go.Proofs.YtanmihhlkelgeaaGreat
open Go.RowKit
attribute [local irreducible] Calls
set_option maxRecDepth 100000

/-- What one anchor tells. -/
def beginsStep (lb : UInt8) (st : Nat × Bool) (k : Nat) (b : List UInt8) : Nat × Bool :=
  if (takeAnchor lb b).2 = true ∧ (takeAnchor lb b).1 % 2 = k ∧ (st.2 = false ∨ st.1 < (takeAnchor lb b).1) then ((takeAnchor lb b).1, true) else st
def beginsUpto (lb : UInt8) (e0 : Nat) (seen : List (List UInt8)) (k : Nat) : Nat × Bool := (List.range k).foldl (fun st i => beginsStep lb st i (seen.getD i [])) (e0, false)
theorem beginsUpto_succ (lb : UInt8) (e0 : Nat) (seen : List (List UInt8)) (k : Nat) : beginsUpto lb e0 seen (k + 1) = beginsStep lb (beginsUpto lb e0 seen k) k (seen.getD k []) := by
  unfold beginsUpto; rw [List.range_succ, List.foldl_append]; rfl
theorem VolO.epoch {w : World} {v d reg : Nat} {s : Sh} {epoch seq : Nat} {used : Int} {bv : Value} {m : Nat} (h : VolO w v d reg s epoch seq used bv m) (e : Nat) : VolO (w.setCell ⟨v, 4 + 4, none⟩ (.int .u32 e)) v d reg s e seq used bv m := by
  unfold VolO at *
  rw [objAt_setCell h]; rfl
set_option maxHeartbeats 4000000 in
theorem begins_any {w : World} {Sd : Nat → Prop} {v d reg : Nat} {s : Sh} {e0 seq m : Nat} {used : Int} {bv : Value} {D : Dv} {c : Nat} {R : Reg} (hv : VolO w v d reg s e0 seq used bv m) (hvS : ¬ Sd v) (hd : DevAt w Sd d D c) (hR : D.regs[reg]? = some R) (h2 : 2 ≤ R.seen.length) :
    Calls Tryz.prog 81 #[.pointer (some ⟨v, 0, none⟩)] w fun e w' => e = .returned (.bool (beginsUpto s.lb e0 R.seen 2).2) ∧ Keeps (fun q => q = v) w w' ∧ VolO w' v d reg s (beginsUpto s.lb e0 R.seen 2).1 seq used bv m := by
  have H0 := Lib.hid (And.intro hv (And.intro hvS (And.intro hd (And.intro hR h2))))
  clear hv hvS hd hR h2
  go_enter Tryz.func81, Tryz.ntmps81
  go_wp2_with fail
  go_loopw [2, 8] (fun s2 i wr => ∃ k : Nat, k ≤ 2 ∧ i = .int .i64 k ∧ s2 = .bool (beginsUpto s.lb e0 R.seen k).2 ∧ Keeps (fun q => q = v) w wr ∧ VolO wr v d reg s (beginsUpto s.lb e0 R.seen k).1 seq used bv m) (fun _ i _ => 2 - (Go.RowKit.intOf i).toNat)
  case atStart => exact ⟨0, by decide, rfl, rfl, Keeps.refl _ _, H0.out.1⟩
  case round =>
    obtain ⟨k, hk, rfl, rfl, hK, hV⟩ := hrel
    by_cases hlt : k < 2
    · have hlti : (k : Int) < 2 := by omega
      obtain ⟨l, hl⟩ : ∃ l, R.seen[k]? = some l := ⟨_, List.getElem?_eq_getElem (by have := H0.out.2.2.2.2; omega)⟩
      have hgl : R.seen.getD k [] = l := by rw [List.getD_eq_getElem?_getD, hl]; rfl
      have hl64 : l.length = 64 := (H0.out.2.2.1.ok.regs R (List.mem_of_getElem? H0.out.2.2.2.1)).l1 l (List.mem_of_getElem? hl)
      have hd := H0.out.2.2.1.keeps hK (fun g hg e => H0.out.2.1 (e ▸ hg))
      have Hrd := Lib.hid (fun w' (hb : Below wr.heap.size wr w') => (hd.below hb).read H0.out.2.2.2.1 hl)
      have Hst := Lib.hid (beginsUpto_succ s.lb e0 R.seen k)
      rw [hgl] at Hst
      have c0 := VolO.c0 hV
      have c1 := VolO.c1 hV
      have HV := Lib.hid (And.intro hV hK)
      obtain ⟨st, hst⟩ : ∃ st, st = beginsUpto s.lb e0 R.seen k := ⟨_, rfl⟩
      rw [← hst] at HV Hst ⊢
      clear hV hK hd hl hgl hst
      go_upto_region 4 with fail
      refine wp_region_F [9] (S := fun w' => w'.cell? ⟨v, 0, none⟩ = some (.pointer (some ⟨d, 0, none⟩)) ∧ w'.cell? ⟨v, 1, none⟩ = some (.int .i64 reg) ∧ True) (by kernel_rfl) (⟨c0, c1, trivial⟩) (fun hHeld => ?_)
      show wpAnyF _ _ _ _ _ _ 15 #[false, false, false, false, false, false, false, false, false, false, false, false, false, false, false] _ _
      refine wpAnyF_take [0, 1, 2, 3, 9, 10, 11, 12, 13, 14] (i := 0) (v := ?kv1) rfl (by kernel_rfl) (by kernel_rfl) (by kernel_rfl) (by kernel_rfl) (fun _ _ _ h => h) (Or.inl ⟨by rfl, ?ky1⟩) (by assumption) ?kr1
      case ky1 => (intro w hSw; (try dsimp only at hSw); go_split_ands; (try simp only [List.getElem_toArray, List.getElem_cons_zero]); go_simp; (try with_reducible rfl))
      try simp only [Act.put, List.getElem_toArray, List.getElem_cons_zero, List.setIfInBounds_toArray, List.set_cons_zero, List.set_cons_succ]
      refine wpAnyF_take [1, 2, 3, 9, 10, 11, 12, 13, 14] (i := 1) (v := ?kv2) rfl (by kernel_rfl) (by kernel_rfl) (by kernel_rfl) (by kernel_rfl) (fun _ _ _ h => h) (Or.inl ⟨by rfl, ?ky2⟩) (by assumption) ?kr2
      case ky2 => (intro w hSw; (try dsimp only at hSw); go_split_ands; (try simp only [List.getElem_toArray, List.getElem_cons_zero, List.getElem_cons_succ]); go_simp; (try with_reducible rfl))
      try simp only [Act.put, List.getElem_toArray, List.getElem_cons_zero, List.getElem_cons_succ, List.setIfInBounds_toArray, List.set_cons_zero, List.set_cons_succ]
      refine wpAnyF_take [2, 3, 9, 10, 11, 12, 13, 14] (i := 2) (v := ?kv3) rfl (by kernel_rfl) (by kernel_rfl) (by kernel_rfl) (by kernel_rfl) (fun _ _ _ h => h) (Or.inl ⟨by rfl, ?ky3⟩) (by assumption) ?kr3
      case ky3 => (intro w hSw; (try dsimp only at hSw); go_split_ands; (try simp only [List.getElem_toArray, List.getElem_cons_zero, List.getElem_cons_succ]); go_simp; (try with_reducible rfl))
      try simp only [Act.put, List.getElem_toArray, List.getElem_cons_zero, List.getElem_cons_succ, List.setIfInBounds_toArray, List.set_cons_zero, List.set_cons_succ]
      refine wpAnyF_take [3, 9, 10, 11, 12, 13, 14] (i := 3) (v := ?kv4) rfl (by kernel_rfl) (by kernel_rfl) (by kernel_rfl) (by kernel_rfl) (fun _ _ _ h => h) (Or.inl ⟨by rfl, ?ky4⟩) (by assumption) ?kr4
      case ky4 => (intro w hSw; (try dsimp only at hSw); go_split_ands; (try simp only [List.getElem_toArray, List.getElem_cons_zero, List.getElem_cons_succ]); go_simp; (try with_reducible rfl))
      try simp only [Act.put, List.getElem_toArray, List.getElem_cons_zero, List.getElem_cons_succ, List.setIfInBounds_toArray, List.set_cons_zero, List.set_cons_succ]
      refine wpAnyF_take [4, 5, 6, 7, 9, 10, 11, 12, 13, 14] (i := 4) (v := ?kv5) rfl (by kernel_rfl) (by kernel_rfl) (by kernel_rfl) (by kernel_rfl) (fun _ _ _ h => h) (Or.inl ⟨by rfl, ?ky5⟩) (by assumption) ?kr5
      case ky5 => (intro w hSw; (try dsimp only at hSw); go_split_ands; (try simp only [List.getElem_toArray, List.getElem_cons_zero, List.getElem_cons_succ]); go_simp; (try with_reducible rfl))
      try simp only [Act.put, List.getElem_toArray, List.getElem_cons_zero, List.getElem_cons_succ, List.setIfInBounds_toArray, List.set_cons_zero, List.set_cons_succ]
      refine wpAnyF_take [5, 6, 7, 9, 10, 11, 12, 13, 14] (i := 5) (v := ?kv6) rfl (by kernel_rfl) (by kernel_rfl) (by kernel_rfl) (by kernel_rfl) (fun _ _ _ h => h) (Or.inl ⟨by rfl, ?ky6⟩) (by assumption) ?kr6
      case ky6 => (intro w hSw; (try dsimp only at hSw); go_split_ands; (try simp only [List.getElem_toArray, List.getElem_cons_zero, List.getElem_cons_succ]); go_simp; (try with_reducible rfl))
      try simp only [Act.put, List.getElem_toArray, List.getElem_cons_zero, List.getElem_cons_succ, List.setIfInBounds_toArray, List.set_cons_zero, List.set_cons_succ]
      refine wpAnyF_take [6, 7, 9, 10, 11, 12, 13, 14] (i := 6) (v := ?kv7) rfl (by kernel_rfl) (by kernel_rfl) (by kernel_rfl) (by kernel_rfl) (fun _ _ _ h => h) (Or.inl ⟨by rfl, ?ky7⟩) (by assumption) ?kr7
      case ky7 => (intro w hSw; (try dsimp only at hSw); go_split_ands; (try simp only [List.getElem_toArray, List.getElem_cons_zero, List.getElem_cons_succ]); go_simp; (try with_reducible rfl))
      try simp only [Act.put, List.getElem_toArray, List.getElem_cons_zero, List.getElem_cons_succ, List.setIfInBounds_toArray, List.set_cons_zero, List.set_cons_succ]
      refine wpAnyF_take [7, 9, 10, 11, 12, 13, 14] (i := 7) (v := ?kv8) rfl (by kernel_rfl) (by kernel_rfl) (by kernel_rfl) (by kernel_rfl) (fun _ _ _ h => h) (Or.inl ⟨by rfl, ?ky8⟩) (by assumption) ?kr8
      case ky8 => (intro w hSw; (try dsimp only at hSw); go_split_ands; (try simp only [List.getElem_toArray, List.getElem_cons_zero, List.getElem_cons_succ]); go_simp; (try with_reducible rfl))
      try simp only [Act.put, List.getElem_toArray, List.getElem_cons_zero, List.getElem_cons_succ, List.setIfInBounds_toArray, List.set_cons_zero, List.set_cons_succ]
      refine wpAnyF_take [8, 9, 10, 11, 12, 13, 14] (i := 8) (v := ?kv9) rfl (by kernel_rfl) (by kernel_rfl) (by kernel_rfl) (by kernel_rfl) (fun _ _ _ h => h) (Or.inl ⟨by rfl, ?ky9⟩) (by assumption) ?kr9
      case ky9 => (intro w hSw; (try dsimp only at hSw); go_split_ands; (try simp only [List.getElem_toArray, List.getElem_cons_zero, List.getElem_cons_succ]); go_simp; (try with_reducible rfl))
      try simp only [Act.put, List.getElem_toArray, List.getElem_cons_zero, List.getElem_cons_succ, List.setIfInBounds_toArray, List.set_cons_zero, List.set_cons_succ]
      refine wpAnyF_ready (rs := [9]) (by kernel_rfl) (by simp) ?_
      refine (AllReadyF.last rfl (by kernel_rfl) (fun K hK => ?_) AllReadyF.nil)
      try simp only [List.getElem_toArray, List.getElem_cons_zero, List.getElem_cons_succ]
      go_simp
      go_at_call 73; refine (Hrd.out _ (Below.refl _ _).drew).mono ?_; rintro e w2 ⟨g2, cap2, rfl, hr2, hc2, b2⟩
      refine hK.out _ _ (trivial) (fun hHeldn => ?_)
      clear hHeld hK K
      have hHeld := hHeldn
      clear hHeldn
      try simp only [List.setIfInBounds_toArray, List.set_cons_zero, List.set_cons_succ]
      refine wpAnyF_pure (i := 10) (v := ?kv11) rfl (by kernel_rfl) (by kernel_rfl) (by kernel_rfl) (by kernel_rfl) (fun _ _ _ h => h) (Or.inl ⟨by rfl, ?ky11⟩) (by first | (intro _; assumption) | (intro h; exact absurd h (by decide))) ?kr11
      case ky11 => (intro w hSw; clear hSw; (try simp only [List.getElem_toArray, List.getElem_cons_zero, List.getElem_cons_succ]); go_simp; (try with_reducible rfl))
      try simp only [Act.put, List.getElem_toArray, List.getElem_cons_zero, List.getElem_cons_succ, List.setIfInBounds_toArray, List.set_cons_zero, List.set_cons_succ]
      refine wpAnyF_pure (i := 11) (v := ?kv12) rfl (by kernel_rfl) (by kernel_rfl) (by kernel_rfl) (by kernel_rfl) (fun _ _ _ h => h) (Or.inl ⟨by rfl, ?ky12⟩) (by first | (intro _; assumption) | (intro h; exact absurd h (by decide))) ?kr12
      case ky12 => (intro w hSw; clear hSw; (try simp only [List.getElem_toArray, List.getElem_cons_zero, List.getElem_cons_succ]); go_simp; (try with_reducible rfl))
      try simp only [Act.put, List.getElem_toArray, List.getElem_cons_zero, List.getElem_cons_succ, List.setIfInBounds_toArray, List.set_cons_zero, List.set_cons_succ]
      refine wpAnyF_pure (i := 12) (v := ?kv13) rfl (by kernel_rfl) (by kernel_rfl) (by kernel_rfl) (by kernel_rfl) (fun _ _ _ h => h) (Or.inl ⟨by rfl, ?ky13⟩) (by first | (intro _; assumption) | (intro h; exact absurd h (by decide))) ?kr13
      case ky13 => (intro w hSw; clear hSw; (try simp only [List.getElem_toArray, List.getElem_cons_zero, List.getElem_cons_succ]); go_simp; (try with_reducible rfl))
      try simp only [Act.put, List.getElem_toArray, List.getElem_cons_zero, List.getElem_cons_succ, List.setIfInBounds_toArray, List.set_cons_zero, List.set_cons_succ]
      refine wpAnyF_pure (i := 13) (v := ?kv14) rfl (by kernel_rfl) (by kernel_rfl) (by kernel_rfl) (by kernel_rfl) (fun _ _ _ h => h) (Or.inl ⟨by rfl, ?ky14⟩) (by first | (intro _; assumption) | (intro h; exact absurd h (by decide))) ?kr14
      case ky14 => (intro w hSw; clear hSw; (try simp only [List.getElem_toArray, List.getElem_cons_zero, List.getElem_cons_succ]); go_simp; (try with_reducible rfl))
      try simp only [Act.put, List.getElem_toArray, List.getElem_cons_zero, List.getElem_cons_succ, List.setIfInBounds_toArray, List.set_cons_zero, List.set_cons_succ]
      refine wpAnyF_pure (i := 14) (v := ?kv15) rfl (by kernel_rfl) (by kernel_rfl) (by kernel_rfl) (by kernel_rfl) (fun _ _ _ h => h) (Or.inl ⟨by rfl, ?ky15⟩) (by first | (intro _; assumption) | (intro h; exact absurd h (by decide))) ?kr15
      case ky15 => (intro w hSw; clear hSw; (try simp only [List.getElem_toArray, List.getElem_cons_zero, List.getElem_cons_succ]); go_simp; (try with_reducible rfl))
      try simp only [Act.put, List.getElem_toArray, List.getElem_cons_zero, List.getElem_cons_succ, List.setIfInBounds_toArray, List.set_cons_zero, List.set_cons_succ]
      refine wpAnyF_done (by kernel_rfl) ?_ _
      have hB2 : Below wr.heap.size wr w2 := (Below.refl wr.heap.size wr).drew.trans b2
      have hV2 := grow_obj hB2 HV.out.1
      have c3 := VolO.c7 hV2
      have c4 := VolO.c8 hV2
      have Hta := Lib.hid (TakeAnchor_any s.lb l hl64 g2 cap2 w2 (BRow.bytesAt hr2).1 hc2)
      obtain ⟨⟨te, ti⟩, hT⟩ : ∃ T, T = takeAnchor s.lb l := ⟨_, rfl⟩
      unfold beginsStep at Hst
      rw [← hT] at Hta Hst
      dsimp only at Hta Hst
      obtain ⟨sn, sb⟩ := st
      dsimp only at Hst HV hV2 c4 ⊢
      have H2 := Lib.hid (And.intro hB2 hV2)
      clear hT hr2 hc2 b2 hB2 hV2 c0 c1 hHeld hl64
      cases ti with
      | false =>
        go_wp2_with (first | (go_at_call 121; refine Hta.out.mono ?_; rintro e w3 ⟨rfl, b3⟩; have hV3 := grow_obj b3 H2.out.2; have c5 := VolO.c8 hV3; have f5 := VolO.free hV3 8; have H3 := Lib.hid (And.intro (grow_trans H2.out.1 b3) hV3); clear c3 c4 b3 hV3) | (go_at_call 119; refine (Anchor_any te _).mono ?_; rintro e w4 ⟨rfl, hw4⟩; obtain rfl := hw4.symm))
        go_roundw
        case rel => exact ⟨k + 1, by omega, by go_num, by rw [Hst.out, if_neg (fun h => by cases h.1)], HV.out.2.trans (Keeps.of_below H3.out.1), by rw [Hst.out, if_neg (fun h => by cases h.1)]; exact H3.out.2⟩
        case measure => simp [Go.RowKit.intOf]; omega
      | true =>
        by_cases hp : te % 2 = k
        · have hp1 : (((te % 2 : Nat) : Int) == (k : Int)) = true := by simpa using by omega
          have hp2 : ((te : Int) % 2 == (k : Int)) = true := by simpa using by omega
          have Hp := Lib.hid hp
          clear hp
          cases sb with
          | false =>
            go_wp2_with (first | (go_at_call 121; refine Hta.out.mono ?_; rintro e w3 ⟨rfl, b3⟩; have hV3 := grow_obj b3 H2.out.2; have c5 := VolO.c8 hV3; have f5 := VolO.free hV3 8; have H3 := Lib.hid (And.intro (grow_trans H2.out.1 b3) hV3); clear c3 c4 b3 hV3) | (go_at_call 119; refine (Anchor_any te _).mono ?_; rintro e w4 ⟨rfl, hw4⟩; obtain rfl := hw4.symm))
            go_roundw
            case rel => exact ⟨k + 1, by omega, by go_num, by rw [Hst.out, if_pos (by first | exact ⟨rfl, Hp.out, .inl rfl⟩ | exact ⟨trivial, Hp.out, .inl trivial⟩)], (HV.out.2.trans (Keeps.of_below H3.out.1)).trans (Keeps.setCell _ _ _ rfl), by rw [Hst.out, if_pos (by first | exact ⟨rfl, Hp.out, .inl rfl⟩ | exact ⟨trivial, Hp.out, .inl trivial⟩)]; exact VolO.epoch H3.out.2 te⟩
            case measure => simp [Go.RowKit.intOf]; omega
          | true =>
            by_cases hs : sn < te
            · have hs1 : (sn : Int) < (te : Int) := by omega
              go_wp2_with (first | (go_at_call 121; refine Hta.out.mono ?_; rintro e w3 ⟨rfl, b3⟩; have hV3 := grow_obj b3 H2.out.2; have c5 := VolO.c8 hV3; have f5 := VolO.free hV3 8; have H3 := Lib.hid (And.intro (grow_trans H2.out.1 b3) hV3); clear c3 c4 b3 hV3) | (go_at_call 119; refine (Anchor_any te _).mono ?_; rintro e w4 ⟨rfl, hw4⟩; obtain rfl := hw4.symm))
              go_roundw
              case rel => exact ⟨k + 1, by omega, by go_num, by rw [Hst.out, if_pos (by first | exact ⟨rfl, Hp.out, .inr hs⟩ | exact ⟨trivial, Hp.out, .inr hs⟩)], (HV.out.2.trans (Keeps.of_below H3.out.1)).trans (Keeps.setCell _ _ _ rfl), by rw [Hst.out, if_pos (by first | exact ⟨rfl, Hp.out, .inr hs⟩ | exact ⟨trivial, Hp.out, .inr hs⟩)]; exact VolO.epoch H3.out.2 te⟩
              case measure => simp [Go.RowKit.intOf]; omega
            · have hs1 : ¬ ((sn : Int) < (te : Int)) := by omega
              go_wp2_with (first | (go_at_call 121; refine Hta.out.mono ?_; rintro e w3 ⟨rfl, b3⟩; have hV3 := grow_obj b3 H2.out.2; have c5 := VolO.c8 hV3; have f5 := VolO.free hV3 8; have H3 := Lib.hid (And.intro (grow_trans H2.out.1 b3) hV3); clear c3 c4 b3 hV3) | (go_at_call 119; refine (Anchor_any te _).mono ?_; rintro e w4 ⟨rfl, hw4⟩; obtain rfl := hw4.symm))
              go_roundw
              case rel => exact ⟨k + 1, by omega, by go_num, by rw [Hst.out, if_neg (fun h => h.2.2.elim (fun e => by cases e) hs)], HV.out.2.trans (Keeps.of_below H3.out.1), by rw [Hst.out, if_neg (fun h => h.2.2.elim (fun e => by cases e) hs)]; exact H3.out.2⟩
              case measure => simp [Go.RowKit.intOf]; omega
        · have hp1 : (((te % 2 : Nat) : Int) == (k : Int)) = false := by simpa using by omega
          have hp2 : ((te : Int) % 2 == (k : Int)) = false := by simpa using by omega
          go_wp2_with (first | (go_at_call 121; refine Hta.out.mono ?_; rintro e w3 ⟨rfl, b3⟩; have hV3 := grow_obj b3 H2.out.2; have c5 := VolO.c8 hV3; have f5 := VolO.free hV3 8; have H3 := Lib.hid (And.intro (grow_trans H2.out.1 b3) hV3); clear c3 c4 b3 hV3) | (go_at_call 119; refine (Anchor_any te _).mono ?_; rintro e w4 ⟨rfl, hw4⟩; obtain rfl := hw4.symm))
          go_roundw
          case rel => exact ⟨k + 1, by omega, by go_num, by rw [Hst.out, if_neg (fun h => hp h.2.1)], HV.out.2.trans (Keeps.of_below H3.out.1), by rw [Hst.out, if_neg (fun h => hp h.2.1)]; exact H3.out.2⟩
          case measure => simp [Go.RowKit.intOf]; omega
    · obtain rfl : k = 2 := by omega
      have H := Lib.hid (And.intro hK hV)
      clear hK hV
      go_wp2_with fail
      go_ret
      exact ⟨rfl, H.out.1, H.out.2⟩

set_option maxHeartbeats 2000000 in
theorem read_any {w : World} {Sd : Nat → Prop} {v d reg : Nat} {s : Sh} {epoch seq m : Nat} {used : Int} {bv : Value} {D : Dv} {c : Nat} {R : Reg} (hs : s.Ok) (hv : VolO w v d reg s epoch seq used bv m) (hd : DevAt w Sd d D c) (hR : D.regs[reg]? = some R) (a : Nat) (ha : a < s.blocks) (b : Blk) (hk : 0 ≤ b.kind ∧ b.kind ≤ 7) (hb : R.seen[2 + s.log + a]? = some (sealB s.lb a b)) :
    Calls Tryz.prog 83 #[.pointer (some ⟨v, 0, none⟩), .int .i64 a] w fun e w' => e = .returned (.tuple #[.agg b.cells, .bool true]) ∧ Below w.heap.size w w' := by
  have hX : BlkAt (w.alloc (.cells Blk.zero.cells 139)) w.heap.size Blk.zero := BlkAt.alloc_new w _
  have hB0 : Below w.heap.size w (w.alloc (.cells Blk.zero.cells 139)) := grow_alloc (Below.refl _ _) _
  have hv1 := grow_obj hB0 hv
  obtain ⟨G, hG⟩ : ∃ G, G = w.heap.size := ⟨_, rfl⟩
  obtain ⟨w1, hw1⟩ : ∃ w1, w1 = w.alloc (.cells Blk.zero.cells 139) := ⟨_, rfl⟩
  rw [← hw1] at hX hB0 hv1
  rw [← hG] at hX
  have hrd := fun w' (hb' : Below w1.heap.size w1 w') => ((hd.below hB0).below hb').read hR hb
  have HG := Lib.hid (And.intro hG hw1)
  have Hrd := Lib.hid hrd
  have c0 := VolO.c0 hv1
  have c1 := VolO.c1 hv1
  have c2 := VolO.c2 hv1
  have c3 := VolO.c3 hv1
  have c4 := VolO.c4 hv1
  have c5 := VolO.c5 hv1
  have c6 := VolO.c6 hv1
  have H1 := Lib.hid (And.intro hX (And.intro hB0 (And.intro hv1 hs)))
  have hbl := hs.blocks
  have ha2 : a < 200 := by omega
  clear hX hB0 hv1 hG hw1 hrd hd hR hb hv hbl
  go_enter Tryz.func83, Tryz.ntmps83
  go_upto_region 1 with fail
  rw [← HG.out.2, ← HG.out.1]
  have hS : ∀ w', Below w1.heap.size w1 w' → w'.cell? ⟨v, 0, none⟩ = some (.pointer (some ⟨d, 0, none⟩)) ∧ w'.cell? ⟨v, 1, none⟩ = some (.int .i64 reg) ∧ w'.cell? ⟨v, 2, none⟩ = some (.int .i64 s.level) ∧ w'.cell? ⟨v, 3, none⟩ = some (.int .i64 s.cats) ∧ w'.cell? ⟨v, 4, none⟩ = some (.int .i64 s.blocks) ∧ w'.cell? ⟨v, 5, none⟩ = some (.int .i64 s.log) ∧ w'.cell? ⟨v, 6, none⟩ = some (.int .i64 s.frames) ∧ True :=
    fun w' hb => ⟨grow_cell hb c0, grow_cell hb c1, grow_cell hb c2, grow_cell hb c3, grow_cell hb c4, grow_cell hb c5, grow_cell hb c6, trivial⟩
  refine wp_region_F [14] (S := fun w' => w'.cell? ⟨v, 0, none⟩ = some (.pointer (some ⟨d, 0, none⟩)) ∧ w'.cell? ⟨v, 1, none⟩ = some (.int .i64 reg) ∧ w'.cell? ⟨v, 2, none⟩ = some (.int .i64 s.level) ∧ w'.cell? ⟨v, 3, none⟩ = some (.int .i64 s.cats) ∧ w'.cell? ⟨v, 4, none⟩ = some (.int .i64 s.blocks) ∧ w'.cell? ⟨v, 5, none⟩ = some (.int .i64 s.log) ∧ w'.cell? ⟨v, 6, none⟩ = some (.int .i64 s.frames) ∧ True) (by kernel_rfl) (hS _ (Below.refl _ _).drew) (fun hHeld => ?_)
  show wpAnyF _ _ _ _ _ _ 20 #[false, false, false, false, false, false, false, false, false, false, false, false, false, false, false, false, false, false, false, false] _ _
  refine wpAnyF_take [0, 1, 2, 3, 14, 15, 16, 17, 18, 19] (i := 0) (v := ?kv16) rfl (by kernel_rfl) (by kernel_rfl) (by kernel_rfl) (by kernel_rfl) (fun _ _ _ h => h) (Or.inl ⟨by rfl, ?ky16⟩) (by assumption) ?kr16
  case ky16 => (intro w hSw; (try dsimp only at hSw); go_split_ands; (try simp only [List.getElem_toArray, List.getElem_cons_zero]); go_simp; (try with_reducible rfl))
  try simp only [Act.put, List.getElem_toArray, List.getElem_cons_zero, List.setIfInBounds_toArray, List.set_cons_zero, List.set_cons_succ]
  refine wpAnyF_take [1, 2, 3, 14, 15, 16, 17, 18, 19] (i := 1) (v := ?kv17) rfl (by kernel_rfl) (by kernel_rfl) (by kernel_rfl) (by kernel_rfl) (fun _ _ _ h => h) (Or.inl ⟨by rfl, ?ky17⟩) (by assumption) ?kr17
  case ky17 => (intro w hSw; (try dsimp only at hSw); go_split_ands; (try simp only [List.getElem_toArray, List.getElem_cons_zero, List.getElem_cons_succ]); go_simp; (try with_reducible rfl))
  try simp only [Act.put, List.getElem_toArray, List.getElem_cons_zero, List.getElem_cons_succ, List.setIfInBounds_toArray, List.set_cons_zero, List.set_cons_succ]
  refine wpAnyF_take [2, 3, 14, 15, 16, 17, 18, 19] (i := 2) (v := ?kv18) rfl (by kernel_rfl) (by kernel_rfl) (by kernel_rfl) (by kernel_rfl) (fun _ _ _ h => h) (Or.inl ⟨by rfl, ?ky18⟩) (by assumption) ?kr18
  case ky18 => (intro w hSw; (try dsimp only at hSw); go_split_ands; (try simp only [List.getElem_toArray, List.getElem_cons_zero, List.getElem_cons_succ]); go_simp; (try with_reducible rfl))
  try simp only [Act.put, List.getElem_toArray, List.getElem_cons_zero, List.getElem_cons_succ, List.setIfInBounds_toArray, List.set_cons_zero, List.set_cons_succ]
  refine wpAnyF_take [3, 14, 15, 16, 17, 18, 19] (i := 3) (v := ?kv19) rfl (by kernel_rfl) (by kernel_rfl) (by kernel_rfl) (by kernel_rfl) (fun _ _ _ h => h) (Or.inl ⟨by rfl, ?ky19⟩) (by assumption) ?kr19
  case ky19 => (intro w hSw; (try dsimp only at hSw); go_split_ands; (try simp only [List.getElem_toArray, List.getElem_cons_zero, List.getElem_cons_succ]); go_simp; (try with_reducible rfl))
  try simp only [Act.put, List.getElem_toArray, List.getElem_cons_zero, List.getElem_cons_succ, List.setIfInBounds_toArray, List.set_cons_zero, List.set_cons_succ]
  refine wpAnyF_take [4, 5, 6, 7, 14, 15, 16, 17, 18, 19] (i := 4) (v := ?kv20) rfl (by kernel_rfl) (by kernel_rfl) (by kernel_rfl) (by kernel_rfl) (fun _ _ _ h => h) (Or.inl ⟨by rfl, ?ky20⟩) (by assumption) ?kr20
  case ky20 => (intro w hSw; (try dsimp only at hSw); go_split_ands; (try simp only [List.getElem_toArray, List.getElem_cons_zero, List.getElem_cons_succ]); go_simp; (try with_reducible rfl))
  try simp only [Act.put, List.getElem_toArray, List.getElem_cons_zero, List.getElem_cons_succ, List.setIfInBounds_toArray, List.set_cons_zero, List.set_cons_succ]
  refine wpAnyF_take [5, 6, 7, 14, 15, 16, 17, 18, 19] (i := 5) (v := ?kv21) rfl (by kernel_rfl) (by kernel_rfl) (by kernel_rfl) (by kernel_rfl) (fun _ _ _ h => h) (Or.inl ⟨by rfl, ?ky21⟩) (by assumption) ?kr21
  case ky21 => (intro w hSw; (try dsimp only at hSw); go_split_ands; (try simp only [List.getElem_toArray, List.getElem_cons_zero, List.getElem_cons_succ]); go_simp; (try with_reducible rfl))
  try simp only [Act.put, List.getElem_toArray, List.getElem_cons_zero, List.getElem_cons_succ, List.setIfInBounds_toArray, List.set_cons_zero, List.set_cons_succ]
  refine wpAnyF_take [6, 7, 14, 15, 16, 17, 18, 19] (i := 6) (v := ?kv22) rfl (by kernel_rfl) (by kernel_rfl) (by kernel_rfl) (by kernel_rfl) (fun _ _ _ h => h) (Or.inl ⟨by rfl, ?ky22⟩) (by assumption) ?kr22
  case ky22 => (intro w hSw; (try dsimp only at hSw); go_split_ands; (try simp only [List.getElem_toArray, List.getElem_cons_zero, List.getElem_cons_succ]); go_simp; (try with_reducible rfl))
  try simp only [Act.put, List.getElem_toArray, List.getElem_cons_zero, List.getElem_cons_succ, List.setIfInBounds_toArray, List.set_cons_zero, List.set_cons_succ]
  refine wpAnyF_take [7, 14, 15, 16, 17, 18, 19] (i := 7) (v := ?kv23) rfl (by kernel_rfl) (by kernel_rfl) (by kernel_rfl) (by kernel_rfl) (fun _ _ _ h => h) (Or.inl ⟨by rfl, ?ky23⟩) (by assumption) ?kr23
  case ky23 => (intro w hSw; (try dsimp only at hSw); go_split_ands; (try simp only [List.getElem_toArray, List.getElem_cons_zero, List.getElem_cons_succ]); go_simp; (try with_reducible rfl))
  try simp only [Act.put, List.getElem_toArray, List.getElem_cons_zero, List.getElem_cons_succ, List.setIfInBounds_toArray, List.set_cons_zero, List.set_cons_succ]
  refine wpAnyF_take [8, 9, 10, 11, 13, 14, 15, 16, 17, 18, 19] (i := 8) (v := ?kv24) rfl (by kernel_rfl) (by kernel_rfl) (by kernel_rfl) (by kernel_rfl) (fun _ _ _ h => h) (Or.inl ⟨by rfl, ?ky24⟩) (by assumption) ?kr24
  case ky24 => (intro w hSw; (try dsimp only at hSw); go_split_ands; (try simp only [List.getElem_toArray, List.getElem_cons_zero, List.getElem_cons_succ]); go_simp; (try with_reducible rfl))
  try simp only [Act.put, List.getElem_toArray, List.getElem_cons_zero, List.getElem_cons_succ, List.setIfInBounds_toArray, List.set_cons_zero, List.set_cons_succ]
  refine wpAnyF_take [9, 10, 11, 13, 14, 15, 16, 17, 18, 19] (i := 9) (v := ?kv25) rfl (by kernel_rfl) (by kernel_rfl) (by kernel_rfl) (by kernel_rfl) (fun _ _ _ h => h) (Or.inl ⟨by rfl, ?ky25⟩) (by assumption) ?kr25
  case ky25 => (intro w hSw; (try dsimp only at hSw); go_split_ands; (try simp only [List.getElem_toArray, List.getElem_cons_zero, List.getElem_cons_succ]); go_simp; (try with_reducible rfl))
  try simp only [Act.put, List.getElem_toArray, List.getElem_cons_zero, List.getElem_cons_succ, List.setIfInBounds_toArray, List.set_cons_zero, List.set_cons_succ]
  refine wpAnyF_take [10, 11, 13, 14, 15, 16, 17, 18, 19] (i := 10) (v := ?kv26) rfl (by kernel_rfl) (by kernel_rfl) (by kernel_rfl) (by kernel_rfl) (fun _ _ _ h => h) (Or.inl ⟨by rfl, ?ky26⟩) (by assumption) ?kr26
  case ky26 => (intro w hSw; (try dsimp only at hSw); go_split_ands; (try simp only [List.getElem_toArray, List.getElem_cons_zero, List.getElem_cons_succ]); go_simp; (try with_reducible rfl))
  try simp only [Act.put, List.getElem_toArray, List.getElem_cons_zero, List.getElem_cons_succ, List.setIfInBounds_toArray, List.set_cons_zero, List.set_cons_succ]
  refine wpAnyF_take [11, 13, 14, 15, 16, 17, 18, 19] (i := 11) (v := ?kv27) rfl (by kernel_rfl) (by kernel_rfl) (by kernel_rfl) (by kernel_rfl) (fun _ _ _ h => h) (Or.inl ⟨by rfl, ?ky27⟩) (by assumption) ?kr27
  case ky27 => (intro w hSw; (try dsimp only at hSw); go_split_ands; (try simp only [List.getElem_toArray, List.getElem_cons_zero, List.getElem_cons_succ]); go_simp; (try with_reducible rfl))
  try simp only [Act.put, List.getElem_toArray, List.getElem_cons_zero, List.getElem_cons_succ, List.setIfInBounds_toArray, List.set_cons_zero, List.set_cons_succ]
  refine wpAnyF_take [12, 13, 14, 15, 16, 17, 18, 19] (i := 12) (v := ?kv28) rfl (by kernel_rfl) (by kernel_rfl) (by kernel_rfl) (by kernel_rfl) (fun _ _ _ h => h) (Or.inl ⟨by rfl, ?ky28⟩) (by assumption) ?kr28
  case ky28 => (intro w hSw; (try dsimp only at hSw); go_split_ands; (try simp only [List.getElem_toArray, List.getElem_cons_zero, List.getElem_cons_succ]); go_simp; (try with_reducible rfl))
  try simp only [Act.put, List.getElem_toArray, List.getElem_cons_zero, List.getElem_cons_succ, List.setIfInBounds_toArray, List.set_cons_zero, List.set_cons_succ]
  refine wpAnyF_ready (rs := [13]) (by kernel_rfl) (by simp) ?_
  refine (AllReadyF.cons rfl (fun K hK => ?_) AllReadyF.nil)
  try simp only [List.getElem_toArray, List.getElem_cons_zero, List.getElem_cons_succ]
  go_simp
  go_at_call 118; refine (Home_any s H1.out.2.2.2 a ha _).mono ?_; rintro e x3 ⟨rfl, b3⟩; have hx3 : Below w1.heap.size w1 x3 := (Below.refl _ _).drew.trans b3
  refine hK.out _ _ (by exact hS _ hx3) (fun hHeldn => ?_)
  clear hHeld hK K
  have hHeld := hHeldn
  clear hHeldn
  try simp only [List.setIfInBounds_toArray, List.set_cons_zero, List.set_cons_succ]
  refine wpAnyF_ready (rs := [14]) (by kernel_rfl) (by simp) ?_
  refine (AllReadyF.last rfl (by kernel_rfl) (fun K hK => ?_) AllReadyF.nil)
  try simp only [List.getElem_toArray, List.getElem_cons_zero, List.getElem_cons_succ]
  go_simp
  go_at_call 73; refine (Hrd.out _ hx3).mono ?_; rintro e x4 ⟨g4, cap4, rfl, hr4, hc4, b4⟩
  refine hK.out _ _ (trivial) (fun hHeldn => ?_)
  clear hHeld hK K
  have hHeld := hHeldn
  clear hHeldn
  try simp only [List.setIfInBounds_toArray, List.set_cons_zero, List.set_cons_succ]
  refine wpAnyF_pure (i := 15) (v := ?kv31) rfl (by kernel_rfl) (by kernel_rfl) (by kernel_rfl) (by kernel_rfl) (fun _ _ _ h => h) (Or.inl ⟨by rfl, ?ky31⟩) (by first | (intro _; assumption) | (intro h; exact absurd h (by decide))) ?kr31
  case ky31 => (intro w hSw; clear hSw; (try simp only [List.getElem_toArray, List.getElem_cons_zero, List.getElem_cons_succ]); go_simp; (try with_reducible rfl))
  try simp only [Act.put, List.getElem_toArray, List.getElem_cons_zero, List.getElem_cons_succ, List.setIfInBounds_toArray, List.set_cons_zero, List.set_cons_succ]
  refine wpAnyF_pure (i := 16) (v := ?kv32) rfl (by kernel_rfl) (by kernel_rfl) (by kernel_rfl) (by kernel_rfl) (fun _ _ _ h => h) (Or.inl ⟨by rfl, ?ky32⟩) (by first | (intro _; assumption) | (intro h; exact absurd h (by decide))) ?kr32
  case ky32 => (intro w hSw; clear hSw; (try simp only [List.getElem_toArray, List.getElem_cons_zero, List.getElem_cons_succ]); go_simp; (try with_reducible rfl))
  try simp only [Act.put, List.getElem_toArray, List.getElem_cons_zero, List.getElem_cons_succ, List.setIfInBounds_toArray, List.set_cons_zero, List.set_cons_succ]
  refine wpAnyF_pure (i := 17) (v := ?kv33) rfl (by kernel_rfl) (by kernel_rfl) (by kernel_rfl) (by kernel_rfl) (fun _ _ _ h => h) (Or.inl ⟨by rfl, ?ky33⟩) (by first | (intro _; assumption) | (intro h; exact absurd h (by decide))) ?kr33
  case ky33 => (intro w hSw; clear hSw; (try simp only [List.getElem_toArray, List.getElem_cons_zero, List.getElem_cons_succ]); go_simp; (try with_reducible rfl))
  try simp only [Act.put, List.getElem_toArray, List.getElem_cons_zero, List.getElem_cons_succ, List.setIfInBounds_toArray, List.set_cons_zero, List.set_cons_succ]
  refine wpAnyF_pure (i := 18) (v := ?kv34) rfl (by kernel_rfl) (by kernel_rfl) (by kernel_rfl) (by kernel_rfl) (fun _ _ _ h => h) (Or.inl ⟨by rfl, ?ky34⟩) (by first | (intro _; assumption) | (intro h; exact absurd h (by decide))) ?kr34
  case ky34 => (intro w hSw; clear hSw; (try simp only [List.getElem_toArray, List.getElem_cons_zero, List.getElem_cons_succ]); go_simp; (try with_reducible rfl))
  try simp only [Act.put, List.getElem_toArray, List.getElem_cons_zero, List.getElem_cons_succ, List.setIfInBounds_toArray, List.set_cons_zero, List.set_cons_succ]
  refine wpAnyF_pure (i := 19) (v := ?kv35) rfl (by kernel_rfl) (by kernel_rfl) (by kernel_rfl) (by kernel_rfl) (fun _ _ _ h => h) (Or.inl ⟨by rfl, ?ky35⟩) (by first | (intro _; assumption) | (intro h; exact absurd h (by decide))) ?kr35
  case ky35 => (intro w hSw; clear hSw; (try simp only [List.getElem_toArray, List.getElem_cons_zero, List.getElem_cons_succ]); go_simp; (try with_reducible rfl))
  try simp only [Act.put, List.getElem_toArray, List.getElem_cons_zero, List.getElem_cons_succ, List.setIfInBounds_toArray, List.set_cons_zero, List.set_cons_succ]
  refine wpAnyF_done (by kernel_rfl) ?_ _
  have hx4 := grow_trans hx3 b4
  have hv4 := grow_obj hx4 H1.out.2.2.1
  have hX4 := H1.out.1.below hx4 (block_lt H1.out.1)
  have c7 := VolO.c7 hv4
  have Ho := Lib.hid (Open_any s.lb a b hk ha2 g4 cap4 x4 (BRow.bytesAt hr4).1 hc4)
  have H4 := Lib.hid (And.intro (H1.out.2.1.trans (hx4.mono H1.out.2.1.size)) hX4)
  clear hx3 b3 b4 hr4 hc4 hx4 hv4 hX4 hS hHeld c0 c1 c2 c3 c4 c5 c6 hk
  go_wp2_with (go_at_call 124; refine Ho.out.mono ?_; rintro e w5 ⟨rfl, b5⟩; have hX5 := H4.out.2.below b5 (block_lt H4.out.2); have hbk := hX5.has; have hB5 := Lib.hid (grow_trans H4.out.1 b5); have HX5 := Lib.hid hX5; clear hX5 b5)
  refine bodyPost_ret (results_two rfl (resOne_blk rfl (BlkAt.setRow HX5.out b).row) (resOne_tmp _ _ _)) rfl ?_
  exact ⟨rfl, hB5.out.setRow (by rw [HG.out.1]; exact Nat.le_refl _) _⟩
end Go.Proofs.YtanmihhlkelgeaaGreat

/- DERIVED. Writes (a place, a block) as values: their cells, made, loaded, stored whole. -/
namespace Go.Proofs.YtanmihhlkelgeaaGreat
open Go.RowKit
set_option maxRecDepth 100000

/-- A block that is to be at a place. -/
structure Wr where
  at_ : Int
  b : Blk
  deriving DecidableEq
def Wr.zero : Wr := ⟨0, Blk.zero⟩
def Wr.cells (x : Wr) : Array Value := (Value.int .i64 x.at_ :: x.b.cells.toList).toArray
theorem Wr.size_cells (x : Wr) : x.cells.size = 58 := by simp [Wr.cells, Blk.size_cells]
theorem Wr.one_cells (x : Wr) : ∀ v ∈ x.cells.toList, v.oneCell' = true := by
  intro v hv
  simp only [Wr.cells, List.mem_cons] at hv
  rcases hv with rfl | hv
  · rfl
  · exact x.b.one_cells v hv
theorem Wr.cell0 (x : Wr) : x.cells[0]? = some (.int .i64 x.at_) := by simp [Wr.cells]
theorem Wr.cellS (x : Wr) (i : Nat) : x.cells[i + 1]? = x.b.cells[i]? := by simp [Wr.cells]
theorem Wr.cell1 (x : Wr) : x.cells[1]? = some (.int .i64 x.b.kind) := by rw [Wr.cellS, Blk.cell0]
theorem Wr.cells_blk (x : Wr) : x.cells.extract 1 58 = x.b.cells := by
  apply Array.ext'
  simp [Wr.cells, List.extract_eq_take_drop]
  exact List.take_of_length_le (by rw [Blk.len_cells]; exact Nat.le_refl _)
theorem Wr.toList_cells (x : Wr) : x.cells.toList = .int .i64 x.at_ :: x.b.cells.toList := rfl
theorem aggWr : AggOf Tryz.prog 231 58 := ⟨⟨_, Tryz.underlying231, rfl⟩, by kernel_rfl⟩
theorem alloc_wr' (w : World) : (Instr.alloc 231 true (.tuple #[])).run Tryz.prog w = .ok (.pointer (some ⟨w.heap.size, 0, none⟩)) (w.alloc (.cells Wr.zero.cells 231)) := by kernel_rfl

/-- Values laid over a row from a place on. -/
theorem fold_lay (off : Nat) : ∀ (v : List Value) (cells : Array Value) (k : Nat), off + k + v.length ≤ cells.size →
    ((v.zipIdx k).foldl (fun cs (p : Value × Nat) => cs.setIfInBounds (off + p.2) p.1) cells) = (cells.toList.take (off + k) ++ v ++ cells.toList.drop (off + k + v.length)).toArray
  | [], cells, k, h => by simp
  | x :: v, cells, k, h => by
    rw [List.zipIdx_cons, List.foldl_cons, fold_lay off v _ (k + 1) (by simp only [List.length_cons] at h; simp; omega)]
    congr 1
    simp only [List.length_cons] at h
    apply List.ext_getElem?
    intro j
    have hcl : cells.toList.length = cells.size := Array.length_toList
    simp only [Array.toList_setIfInBounds, List.append_assoc]
    by_cases h1 : j < off + k
    · rw [List.getElem?_append_left (by rw [List.length_take, List.length_set]; omega), List.getElem?_append_left (by rw [List.length_take]; omega), List.getElem?_take, if_pos (by omega), List.getElem?_take, if_pos h1, List.getElem?_set, if_neg (by omega)]
    · have t1 : (cells.toList.take (off + k)).length = off + k := by rw [List.length_take]; omega
      have t2 : ((cells.toList.set (off + k) x).take (off + (k + 1))).length = off + (k + 1) := by rw [List.length_take, List.length_set]; omega
      rw [List.getElem?_append_right (l₁ := cells.toList.take (off + k)) (by omega), t1]
      by_cases h2 : j = off + k
      · subst h2
        rw [List.getElem?_append_left (by omega), List.getElem?_take, if_pos (by omega), List.getElem?_set, if_pos rfl, if_pos (by omega), Nat.sub_self]
        rfl
      · rw [List.getElem?_append_right (by omega), t2]
        have e : j - (off + k) = (j - (off + (k + 1))) + 1 := by omega
        rw [e, List.cons_append, List.getElem?_cons_succ]
        by_cases h3 : j - (off + (k + 1)) < v.length
        · rw [List.getElem?_append_left h3, List.getElem?_append_left h3]
        · rw [List.getElem?_append_right (by omega), List.getElem?_append_right (by omega), List.getElem?_drop, List.getElem?_drop, List.getElem?_set, if_neg (by omega)]
          congr 1
          simp only [List.length_cons]; omega
theorem fill_lay (off : Nat) (v : Array Value) (cells : Array Value) (h : off + v.size ≤ cells.size) :
    v.zipIdx.foldl (fun cs (p : Value × Nat) => cs.setIfInBounds (off + p.2) p.1) cells = (cells.toList.take off ++ v.toList ++ cells.toList.drop (off + v.size)).toArray := by
  rw [← Array.foldl_toList, Array.toList_zipIdx]
  have := fold_lay off v.toList cells 0 (by simpa using h)
  simpa using this
theorem wrPlaces : ∃ it fields z places, Tryz.prog.info? 231 = some it ∧ Tryz.prog.underlying 231 = some (.struct fields) ∧ it.zero = some z ∧ fields.toList.mapM (fun f => (Tryz.prog.info? f.type).map fun i => (f.offset, i.size)) = some places ∧ places = [(0, 1), (1, 57)] ∧ z.cells = Wr.zero.cells := by
  refine ⟨_, _, _, _, (Option.some_get (by kernel_rfl)).symm, Tryz.underlying231, (Option.some_get (by kernel_rfl)).symm, by kernel_rfl, rfl, by kernel_rfl⟩
theorem build_wr' (a : Int) (b : Blk) (w : World) : (Instr.build 231 #[(0, .int .i64 a), (1, .agg b.cells)]).run Tryz.prog w = .ok (.agg (Wr.cells ⟨a, b⟩)) w := by
  obtain ⟨it, fields, z, places, h1, h2, h3, h4, h5, h6⟩ := wrPlaces
  refine run_build w _ _ _ ?_
  subst h5
  have hz : z.cells.size = 58 := by rw [h6, Wr.size_cells]
  simp only [Program.built, h1, h2, h3, h4]
  have hs1 : (Value.int .i64 a).cells = #[.int .i64 a] := rfl
  have hs2 : (Value.agg b.cells).cells = b.cells := rfl
  have f1 := fill_lay 0 #[.int .i64 a] z.cells (by rw [hz]; show 0 + 1 ≤ 58; decide)
  have hc1 : (z.cells.toList.take 0 ++ (#[Value.int .i64 a] : Array Value).toList ++ z.cells.toList.drop (0 + (#[Value.int .i64 a] : Array Value).size)).toArray.size = 58 := by simp [hz]
  have f2 := fill_lay 1 b.cells (z.cells.toList.take 0 ++ (#[Value.int .i64 a] : Array Value).toList ++ z.cells.toList.drop (0 + (#[Value.int .i64 a] : Array Value).size)).toArray (by rw [hc1, b.size_cells]; exact Nat.le_refl _)
  have p0 : ([(0, 1), (1, 57)] : List (Nat × Nat)).toArray[0]? = some (0, 1) := rfl
  have p1 : ([(0, 1), (1, 57)] : List (Nat × Nat)).toArray[1]? = some (1, 57) := rfl
  simp only [Instr.fill, p0, p1, hs1, hs2]
  rw [f1]
  have hn1 : ¬ ((#[Value.int .i64 a] : Array Value).size ≠ 1 || decide (0 + (#[Value.int .i64 a] : Array Value).size > z.cells.size)) = true := by rw [hz]; exact (by decide : ¬ (decide (1 ≠ 1) || decide (0 + 1 > 58)) = true)
  have hn2 : ¬ (decide (b.cells.size ≠ 57) || decide (1 + b.cells.size > (z.cells.toList.take 0 ++ (#[Value.int .i64 a] : Array Value).toList ++ z.cells.toList.drop (0 + (#[Value.int .i64 a] : Array Value).size)).toArray.size)) = true := by rw [hc1, b.size_cells]; decide
  rw [if_neg hn1, if_neg hn2, f2]
  congr 1
  apply Array.ext'
  simp [Wr.cells, b.size_cells]
  have : z.cells.size = 58 := hz
  omega
attribute [irreducible] Wr.cells

noncomputable def wrBuild (parts : Array (Nat × Value)) (w : World) : Result Value := Sem.run Tryz.prog (Instr.build 231 parts) w
noncomputable def wrAlloc (w : World) : Result Value := Sem.run Tryz.prog (Instr.alloc 231 true (.tuple #[])) w
noncomputable def wrLoad (x : Value) (w : World) : Result Value := Sem.run Tryz.prog (Instr.loadAt 231 x) w
noncomputable def wrStore (x y : Value) (w : World) : Result Unit := Sem.run Tryz.prog (Instr.storeAt 231 x y) w
@[go_sem] theorem build_wr (a : Int) (b : Blk) (w : World) : wrBuild #[(0, .int .i64 a), (1, .agg b.cells)] w = .ok (.agg (Wr.cells ⟨a, b⟩)) w := build_wr' a b w
@[go_sem] theorem alloc_wr (w : World) : wrAlloc w = .ok (.pointer (some ⟨w.heap.size, 0, none⟩)) (w.alloc (.cells Wr.zero.cells 231)) := alloc_wr' w
/-- 58 cells from a place on. -/
def rowWr (w : World) (g off : Nat) : Option (Array Value) := (rowAt w g).bind fun c => if off + 58 ≤ c.size then some (c.extract off (off + 58)) else none
def hasWr (w : World) (g off : Nat) : Bool := (rowWr w g off).isSome
theorem rowWr_some {w : World} {g off : Nat} {r : Array Value} (h : rowWr w g off = some r) : ∃ c t, w.heap[g]? = some (.cells c t (0, 0)) ∧ off + 58 ≤ c.size ∧ r = c.extract off (off + 58) := by
  unfold rowWr at h
  cases hr : rowAt w g with
  | none => rw [hr] at h; cases h
  | some c =>
    rw [hr] at h
    obtain ⟨t, ht⟩ := heap_rowAt hr
    simp only [Option.bind_some] at h
    split at h
    · rename_i hle
      exact ⟨c, t, ht, hle, by simpa using h.symm⟩
    · cases h
theorem size_wr (w : World) : (sizeOf 231).run Tryz.prog w = .ok 58 w := by
  have := aggWr.size
  cases hi : Tryz.prog.info? 231 with
  | none => rw [hi] at this; cases this
  | some i =>
    rw [hi] at this
    have hs : i.size = 58 := by simpa using this
    simp [sizeOf, typeInfo, hi, hs]
theorem load_wr' (w : World) (g off : Nat) {r : Array Value} (h : rowWr w g off = some r) : (Instr.loadAt 231 (.pointer (some ⟨g, off, none⟩))).run Tryz.prog w = .ok (.agg r) w := by
  obtain ⟨c, t, hg, hle, rfl⟩ := rowWr_some h
  obtain ⟨d, hd, hd2⟩ := aggWr.desc
  have hag : (isAgg 231).run Tryz.prog w = .ok true w := by
    simp only [isAgg, Sem.run_bind, run_underlying hd, Result.andThen_ok]
    cases d <;> simp_all
  have hl := run_loadCells_list (P := Tryz.prog) w ⟨g, off, none⟩ (c.extract off (off + 58)).toList (fun j v hv => by
    have hadd : (⟨g, off, none⟩ : Addr).add j = ⟨g, off + j, none⟩ := by unfold Addr.add; split <;> simp_all
    rw [hadd, cell_of_row w g (off + j) c t (0, 0) hg]
    simp only [Array.toList_extract, List.extract_eq_take_drop, List.getElem?_take, List.getElem?_drop] at hv
    split at hv
    · simpa using hv
    · cases hv)
  have hlen : (c.extract off (off + 58)).toList.length = 58 := by simp; omega
  rw [hlen] at hl
  simp only [Instr.loadAt, Instr.sureAddr, Sem.run_bind, Sem.run_pure, Result.andThen_ok, loadVar, hag, if_true, size_wr, hl]
@[go_sem] theorem load_wr (w : World) (g off : Nat) (h : hasWr w g off = true) : wrLoad (.pointer (some ⟨g, off, none⟩)) w = .ok (.agg ((rowWr w g off).getD #[])) w := by
  unfold hasWr at h
  cases hr : rowWr w g off with
  | none => rw [hr] at h; cases h
  | some r =>
    unfold wrLoad
    exact load_wr' w g off hr
@[go_sem] theorem store_wr (w : World) (g : Nat) (x : Wr) (_ : hasWr w g 0 = true) (hs : (rowAt w g).any (·.size == 58) = true) : wrStore (.pointer (some ⟨g, 0, none⟩)) (.agg x.cells) w = .ok () (w.setRow g x.cells) := by
  cases hr : rowAt w g with
  | none => rw [hr] at hs; cases hs
  | some c =>
    rw [hr] at hs
    exact run_store_agg aggWr w g x.cells hr (by simpa using hs) x.size_cells x.one_cells
@[go_sem ↓] theorem exec_build_wr (ρ : Operand → Value) (w : World) (dst : Option Tmp) (parts : Array (Nat × Operand)) (ty : TypeId) (pos : String) (after : Array Edge) (gd : Option (Nat × Bool)) :
    (execOp ρ ⟨dst, .build 231 parts, ty, pos, after, gd⟩).run Tryz.prog w = (wrBuild (parts.map fun (i, x) => (i, ρ x)) w).andThen fun v w => .ok (.value v) w := by
  simp only [execOp, wrBuild, Sem.run_bind]; rfl
@[go_sem ↓] theorem exec_alloc_wr (ρ : Operand → Value) (w : World) (dst : Option Tmp) (ty : TypeId) (pos : String) (after : Array Edge) (gd : Option (Nat × Bool)) :
    (execOp ρ ⟨dst, .alloc 231, ty, pos, after, gd⟩).run Tryz.prog w = (wrAlloc w).andThen fun v w => .ok (.value v) w := by
  simp only [execOp, wrAlloc, Sem.run_bind]; rfl
@[go_sem ↓] theorem exec_load_wr (ρ : Operand → Value) (w : World) (dst : Option Tmp) (x : Operand) (ty : TypeId) (pos : String) (after : Array Edge) (gd : Option (Nat × Bool)) :
    (execOp ρ ⟨dst, .load 231 x, ty, pos, after, gd⟩).run Tryz.prog w = (wrLoad (ρ x) w).andThen fun v w => .ok (.value v) w := by
  simp only [execOp, wrLoad, Sem.run_bind]; rfl
@[go_sem ↓] theorem exec_store_wr (ρ : Operand → Value) (w : World) (dst : Option Tmp) (x y : Operand) (ty : TypeId) (pos : String) (after : Array Edge) (gd : Option (Nat × Bool)) :
    (execOp ρ ⟨dst, .store 231 x y, ty, pos, after, gd⟩).run Tryz.prog w = (wrStore (ρ x) (ρ y) w).andThen fun _ w => .ok .skip w := by
  simp only [execOp, wrStore, Sem.run_bind]; rfl
attribute [irreducible] wrBuild wrAlloc wrLoad wrStore
@[go_sem] theorem rowWr_new (w : World) (x : Wr) (t : TypeId) (n : Nat) (hn : n = w.heap.size) : rowWr (w.alloc (.cells x.cells t)) n 0 = some x.cells := by
  unfold rowWr; rw [rowAt_alloc_at w _ t n hn]; simp [x.size_cells]
@[go_sem] theorem hasWr_new (w : World) (x : Wr) (t : TypeId) (n : Nat) (hn : n = w.heap.size) : hasWr (w.alloc (.cells x.cells t)) n 0 = true := by
  unfold hasWr; rw [rowWr_new w x t n hn]; rfl
@[go_sem] theorem rowWr_drew (w : World) (n off : Nat) : rowWr w.drew n off = rowWr w n off := rfl
@[go_sem] theorem hasWr_drew (w : World) (n off : Nat) : hasWr w.drew n off = hasWr w n off := rfl
@[go_sem] theorem anyWr (x : Wr) : (x.cells.size == 58) = true := by rw [x.size_cells]; rfl
/-- A write's cells lie at g. -/
def WrAt (w : World) (g : Nat) (x : Wr) : Prop := objAt w g = some (.cells x.cells 231 (0, 0))
section
variable {w w' : World} {g : Nat} {x : Wr}
theorem WrAt.new (w : World) (x : Wr) : WrAt (w.alloc (.cells x.cells 231)) w.heap.size x := by unfold WrAt; rw [objAt_alloc, if_pos rfl]
theorem WrAt.below (h : WrAt w g x) (hb : Below w.heap.size w w') : WrAt w' g x := grow_obj hb h
theorem WrAt.c0 (h : WrAt w g x) : w.cell? ⟨g, 0, none⟩ = some (.int .i64 x.at_) := (cell_obj h 0).trans x.cell0
theorem WrAt.c1 (h : WrAt w g x) : w.cell? ⟨g, 1, none⟩ = some (.int .i64 x.b.kind) := (cell_obj h 1).trans x.cell1
theorem WrAt.row (h : WrAt w g x) : rowAt w g = some x.cells := rowAt_heap h
theorem WrAt.off (h : WrAt w g x) : rowOff w g 1 = some x.b.cells := by
  unfold rowOff
  rw [h.row]
  simp only [Option.bind_some, x.size_cells, show (1 + 57 ≤ 58) from Nat.le_refl _, if_true]
  rw [x.cells_blk]
theorem WrAt.has (h : WrAt w g x) : hasOff w g 1 = true := by unfold hasOff; rw [h.off]; rfl
theorem WrAt.rowW (h : WrAt w g x) : rowWr w g 0 = some x.cells := by
  unfold rowWr
  rw [h.row]
  simp [x.size_cells]
theorem WrAt.hasW (h : WrAt w g x) : hasWr w g 0 = true := by unfold hasWr; rw [h.rowW]; rfl
theorem WrAt.byte (h : WrAt w g x) (i : Nat) (hi : i < 56) : w.cell? ⟨g, 2 + i, none⟩ = some (.int .u8 ((x.b.body.getD i 0).toNat : Int)) := by
  rw [cell_obj h, show 2 + i = (i + 1) + 1 by omega, x.cellS, x.b.cellS i hi, List.getD_eq_getElem?_getD, List.getElem?_eq_getElem (by rw [x.b.len]; exact hi)]; rfl
theorem WrAt.bytes (h : WrAt w g x) : BytesAt w (some ⟨g, 2, none⟩) x.b.body := by
  refine ⟨g, 2, fun _ => rfl, fun i hi => ?_⟩
  rw [h.byte i (by rw [← x.b.len]; exact hi), List.getD_eq_getElem?_getD, List.getElem?_eq_getElem hi]; rfl
end
/-- A row of writes. -/
def WREl (_ : World) (x : Wr) (c : List Value) : Prop := c = x.cells.toList
abbrev WRow (w : World) (S : Nat → Prop) (v : Value) (ws : List Wr) : Prop := RowG w S 231 58 WREl v ws
theorem elemWrK : ElemK Tryz.prog 191 231 58 72 := ElemK.mk' (z := .agg Wr.zero.cells) Tryz.underlying191 (by kernel_rfl) (Wr.size_cells _) (by decide) (by decide)
theorem WRow.row {w : World} {S : Nat → Prop} {g n cap : Nat} {ws : List Wr} (h : WRow w S (.slice (some ⟨g, 0, none⟩) n cap) ws) {i : Nat} {x : Wr} (hi : ws[i]? = some x) : rowWr w g (i * 58) = some x.cells := by
  obtain ⟨xs, h1, h2, h3, h4⟩ := h.ex
  have hil := (List.getElem?_eq_some_iff.1 hi).1
  rcases h1.2 with ⟨h', h0⟩ | ⟨g', cap', cur, h', hb, hg, hnc, hcm, hcs, htake⟩
  · cases h'
  · simp only [Value.slice.injEq, Option.some.injEq, Addr.mk.injEq] at h'
    obtain ⟨⟨rfl, _⟩, hn, rfl⟩ := h'
    unfold rowWr
    have hle : i * 58 + 58 ≤ cur.size := by rw [hcs]; omega
    rw [rowAt_heap hg, Option.bind_some, if_pos hle]
    congr 1
    apply Array.ext'
    apply List.ext_getElem?
    intro j
    simp only [Array.toList_extract, List.extract_eq_take_drop, List.getElem?_take, List.getElem?_drop]
    by_cases hj : j < 58
    · rw [if_pos (by omega)]
      have hx : xs[i]? = some xs[i] := List.getElem?_eq_getElem (by omega)
      have hc : xs[i] = x.cells.toList := h4 i x _ hi hx
      have hjl : j < xs[i].length := by rw [h3 _ (List.getElem_mem _)]; exact hj
      have hu : xs[i][j]? = some xs[i][j] := List.getElem?_eq_getElem hjl
      have := flat_getG h3 hx hu
      rw [← htake, List.getElem?_take] at this
      split at this
      · rw [this, ← hc, hu]
      · cases this
    · rw [if_neg (by omega), List.getElem?_eq_none (by rw [Array.length_toList, x.size_cells]; omega)]
theorem WRow.has {w : World} {S : Nat → Prop} {g n cap : Nat} {ws : List Wr} (h : WRow w S (.slice (some ⟨g, 0, none⟩) n cap) ws) {i : Nat} {x : Wr} (hi : ws[i]? = some x) : hasWr w g (i * 58) = true := by unfold hasWr; rw [h.row hi]; rfl
@[go_sem] theorem rowWr_past (w : World) (o : Obj) (n off : Nat) (hn : n < w.heap.size) : rowWr (w.alloc o) n off = rowWr w n off := by unfold rowWr; rw [rowAt_alloc_past w o n hn]
@[go_sem] theorem hasWr_past (w : World) (o : Obj) (n off : Nat) (hn : n < w.heap.size) : hasWr (w.alloc o) n off = hasWr w n off := by unfold hasWr; rw [rowWr_past w o n off hn]
theorem WRow.below {w w' : World} {S : Nat → Prop} {v : Value} {ws : List Wr} (h : WRow w S v ws) (hb : Below w.heap.size w w') : WRow w' S v ws := RowG.keeps h (Keeps.of_below_size hb) (fun g hg e => by have := RowG.lt h hg; omega) (fun _ h => h) (fun _ _ h => h)
theorem zero_bool (w : World) : (zeroValue 4).run Tryz.prog w = .ok (.bool false) w := by kernel_rfl
end Go.Proofs.YtanmihhlkelgeaaGreat
