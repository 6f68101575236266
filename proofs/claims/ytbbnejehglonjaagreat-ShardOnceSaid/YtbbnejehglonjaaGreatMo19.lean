/- DERIVED. Contracts and laws that the proofs of this seat share, part 19 of 36: PvE PvF. -/
import Derived.Test.YtbbnejehglonjaaGreatMo00
import Derived.Test.YtbbnejehglonjaaGreatMo07
import Derived.Test.YtbbnejehglonjaaGreatMo11
import Derived.Test.YtbbnejehglonjaaGreatMo18
/- DERIVED. Contracts of vol's begins, read. -/
namespace Go.Proofs.YtbbnejehglonjaaGreat
open Go.RowKit
attribute [local irreducible] Calls
set_option maxRecDepth 100000

/-- What one anchor tells. -/
def beginsStep (lb : UInt8) (st : Nat × Bool) (k : Nat) (b : List UInt8) : Nat × Bool :=
 if (takeAnchor lb b).2 = true ∧ (takeAnchor lb b).1 % 2 = k ∧ (st.2 = false ∨ st.1 < (takeAnchor lb b).1) then ((takeAnchor lb b).1, true) else st
def beginsUpto (lb : UInt8) (e0 : Nat) (seen : List (List UInt8)) (k : Nat) : Nat × Bool := (List.range k).foldl (fun st i => beginsStep lb st i (seen.getD i [])) (e0, false)
theorem beginsUpto_succ (lb : UInt8) (e0 : Nat) (seen : List (List UInt8)) (k : Nat) : beginsUpto lb e0 seen (k + 1) = beginsStep lb (beginsUpto lb e0 seen k) k (seen.getD k []) := by
 unfold beginsUpto; rw [List.range_succ, List.foldl_append]; rfl
theorem VolO.epoch {w : World} {v d reg : Nat} {s : Sh} {epoch seq : Nat} {used : Int} {bv : Value} {m : Nat} (h : VolO w v d reg s epoch seq used bv m) (e : Nat) : VolO (w.setCell ⟨v, 4 + 4, none⟩ (.int .u32 e)) v d reg s e seq used bv m := by
 unfold VolO at *
 rw [objAt_setCell h]; rfl
set_option maxHeartbeats 4000000 in
theorem begins_any {w : World} {Sd : Nat → Prop} {v d reg : Nat} {s : Sh} {e0 seq m : Nat} {used : Int} {bv : Value} {D : Dv} {c : Nat} {R : Reg} (hv : VolO w v d reg s e0 seq used bv m) (hvS : ¬ Sd v) (hd : DevAt w Sd d D c) (hR : D.regs[reg]? = some R) (h2 : 2 ≤ R.seen.length) :
 Calls Tryz.prog 113 #[.pointer (some ⟨v, 0, none⟩)] w fun e w' => e = .returned (.bool (beginsUpto s.lb e0 R.seen 2).2) ∧ Keeps (fun q => q = v) w w' ∧ VolO w' v d reg s (beginsUpto s.lb e0 R.seen 2).1 seq used bv m := by
 have H0 := Lib.hid (And.intro hv (And.intro hvS (And.intro hd (And.intro hR h2))))
 clear hv hvS hd hR h2
 go_enter Tryz.func113, Tryz.ntmps113
 go_wp2_with fail
 go_loopw [2, 8] (fun s2 i wr => ∃ k : Nat, k ≤ 2 ∧ i = .int .i64 k ∧ s2 = .bool (beginsUpto s.lb e0 R.seen k).2 ∧ Keeps (fun q => q = v) w wr ∧ VolO wr v d reg s (beginsUpto s.lb e0 R.seen k).1 seq used bv m) (fun _ i _ => 2 - (Go.RowKit.intOf i).toNat)
 case atStart => exact ⟨0, by decide, rfl, rfl, Keeps.refl _ _, H0.out.1⟩
 case round =>
  obtain ⟨k, hk, rfl, rfl, hK, hV⟩ := hrel
  by_cases hlt : k < 2
  · have hlti : (k : Int) < 2 := by omega
    obtain ⟨l, hl⟩ : ∃ l, R.seen[k]? = some l := ⟨_, List.getElem?_eq_getElem (by have := H0.out.2.2.2.2; omega)⟩
    have hgl : R.seen.getD k [] = l := by rw [List.getD_eq_getElem?_getD, hl]; rfl
    have hl64 : l.length = 64 := (H0.out.2.2.1.ok.regs R (List.mem_of_getElem? H0.out.2.2.2.1)).l1 l (List.mem_of_getElem? hl)
    have hd := H0.out.2.2.1.keeps hK (fun g hg e => H0.out.2.1 (e ▸ hg))
    have Hrd := Lib.hid (fun w' (hb : Below wr.heap.size wr w') => (hd.below hb).read H0.out.2.2.2.1 hl)
    have Hst := Lib.hid (beginsUpto_succ s.lb e0 R.seen k)
    rw [hgl] at Hst
    have c0 := VolO.c0 hV
    have c1 := VolO.c1 hV
    have HV := Lib.hid (And.intro hV hK)
    obtain ⟨st, hst⟩ : ∃ st, st = beginsUpto s.lb e0 R.seen k := ⟨_, rfl⟩
    rw [← hst] at HV Hst ⊢
    clear hV hK hd hl hgl hst
    go_upto_region 4 with fail
    refine wp_region_F [9] (S := fun w' => w'.cell? ⟨v, 0, none⟩ = some (.pointer (some ⟨d, 0, none⟩)) ∧ w'.cell? ⟨v, 1, none⟩ = some (.int .i64 reg) ∧ True) (by kernel_rfl) (⟨c0, c1, trivial⟩) (fun hHeld => ?_)
    show wpAnyF _ _ _ _ _ _ 15 #[false, false, false, false, false, false, false, false, false, false, false, false, false, false, false] _ _
    refine gF [0, 1, 2, 3, 9, 10, 11, 12, 13, 14] (i := 0) (v := ?kv1) rfl ?ky1 ?kr1
    case ky1 => (intro w hSw; (try dsimp only at hSw); go_split_ands; (try simp only [qA, qB]); go_simp; (try with_reducible rfl))
    try simp only [Act.put, qA, qB, qD, qE, qF]
    refine gF [1, 2, 3, 9, 10, 11, 12, 13, 14] (i := 1) (v := ?kv2) rfl ?ky2 ?kr2
    case ky2 => (intro w hSw; (try dsimp only at hSw); go_split_ands; (try simp only [qA, qB, qC]); go_simp; (try with_reducible rfl))
    try simp only [Act.put, qA, qB, qC, qD, qE, qF]
    refine gF [2, 3, 9, 10, 11, 12, 13, 14] (i := 2) (v := ?kv3) rfl ?ky3 ?kr3
    case ky3 => (intro w hSw; (try dsimp only at hSw); go_split_ands; (try simp only [qA, qB, qC]); go_simp; (try with_reducible rfl))
    try simp only [Act.put, qA, qB, qC, qD, qE, qF]
    refine gF [3, 9, 10, 11, 12, 13, 14] (i := 3) (v := ?kv4) rfl ?ky4 ?kr4
    case ky4 => (intro w hSw; (try dsimp only at hSw); go_split_ands; (try simp only [qA, qB, qC]); go_simp; (try with_reducible rfl))
    try simp only [Act.put, qA, qB, qC, qD, qE, qF]
    refine gF [4, 5, 6, 7, 9, 10, 11, 12, 13, 14] (i := 4) (v := ?kv5) rfl ?ky5 ?kr5
    case ky5 => (intro w hSw; (try dsimp only at hSw); go_split_ands; (try simp only [qA, qB, qC]); go_simp; (try with_reducible rfl))
    try simp only [Act.put, qA, qB, qC, qD, qE, qF]
    refine gF [5, 6, 7, 9, 10, 11, 12, 13, 14] (i := 5) (v := ?kv6) rfl ?ky6 ?kr6
    case ky6 => (intro w hSw; (try dsimp only at hSw); go_split_ands; (try simp only [qA, qB, qC]); go_simp; (try with_reducible rfl))
    try simp only [Act.put, qA, qB, qC, qD, qE, qF]
    refine gF [6, 7, 9, 10, 11, 12, 13, 14] (i := 6) (v := ?kv7) rfl ?ky7 ?kr7
    case ky7 => (intro w hSw; (try dsimp only at hSw); go_split_ands; (try simp only [qA, qB, qC]); go_simp; (try with_reducible rfl))
    try simp only [Act.put, qA, qB, qC, qD, qE, qF]
    refine gF [7, 9, 10, 11, 12, 13, 14] (i := 7) (v := ?kv8) rfl ?ky8 ?kr8
    case ky8 => (intro w hSw; (try dsimp only at hSw); go_split_ands; (try simp only [qA, qB, qC]); go_simp; (try with_reducible rfl))
    try simp only [Act.put, qA, qB, qC, qD, qE, qF]
    refine gF [8, 9, 10, 11, 12, 13, 14] (i := 8) (v := ?kv9) rfl ?ky9 ?kr9
    case ky9 => (intro w hSw; (try dsimp only at hSw); go_split_ands; (try simp only [qA, qB, qC]); go_simp; (try with_reducible rfl))
    try simp only [Act.put, qA, qB, qC, qD, qE, qF]
    refine wpAnyF_ready (rs := [9]) (by kernel_rfl) (by simp) ?_
    refine (AllReadyF.last rfl (by kernel_rfl) (fun K hK => ?_) AllReadyF.nil)
    try simp only [qA, qB, qC]
    go_simp
    go_at_call 107; refine (Hrd.out _ (Below.refl _ _).drew).mono ?_; rintro e w2 ⟨g2, cap2, rfl, hr2, hc2, b2⟩
    refine hK.out _ _ (trivial) (fun hHeldn => ?_)
    clear hHeld hK K
    have hHeld := hHeldn
    clear hHeldn
    try simp only [qD, qE, qF]
    refine gP (i := 10) (v := ?kv11) rfl ?ky11 ?kr11
    case ky11 => (intro w hSw; clear hSw; (try simp only [qA, qB, qC]); go_simp; (try with_reducible rfl))
    try simp only [Act.put, qA, qB, qC, qD, qE, qF]
    refine gP (i := 11) (v := ?kv12) rfl ?ky12 ?kr12
    case ky12 => (intro w hSw; clear hSw; (try simp only [qA, qB, qC]); go_simp; (try with_reducible rfl))
    try simp only [Act.put, qA, qB, qC, qD, qE, qF]
    refine gP (i := 12) (v := ?kv13) rfl ?ky13 ?kr13
    case ky13 => (intro w hSw; clear hSw; (try simp only [qA, qB, qC]); go_simp; (try with_reducible rfl))
    try simp only [Act.put, qA, qB, qC, qD, qE, qF]
    refine gP (i := 13) (v := ?kv14) rfl ?ky14 ?kr14
    case ky14 => (intro w hSw; clear hSw; (try simp only [qA, qB, qC]); go_simp; (try with_reducible rfl))
    try simp only [Act.put, qA, qB, qC, qD, qE, qF]
    refine gP (i := 14) (v := ?kv15) rfl ?ky15 ?kr15
    case ky15 => (intro w hSw; clear hSw; (try simp only [qA, qB, qC]); go_simp; (try with_reducible rfl))
    try simp only [Act.put, qA, qB, qC, qD, qE, qF]
    refine wpAnyF_done (by kernel_rfl) ?_ _
    have hB2 : Below wr.heap.size wr w2 := (Below.refl wr.heap.size wr).drew.trans b2
    have hV2 := grow_obj hB2 HV.out.1
    have c3 := VolO.c7 hV2
    have c4 := VolO.c8 hV2
    have Hta := Lib.hid (TakeAnchor_any s.lb l hl64 g2 cap2 w2 (BRow.bytesAt hr2).1 hc2)
    obtain ⟨⟨te, ti⟩, hT⟩ : ∃ T, T = takeAnchor s.lb l := ⟨_, rfl⟩
    unfold beginsStep at Hst
    rw [← hT] at Hta Hst
    dsimp only at Hta Hst
    obtain ⟨sn, sb⟩ := st
    dsimp only at Hst HV hV2 c4 ⊢
    have H2 := Lib.hid (And.intro hB2 hV2)
    clear hT hr2 hc2 b2 hB2 hV2 c0 c1 hHeld hl64
    cases ti with
    | false =>
      go_wp2_with (first | (go_at_call 171; refine Hta.out.mono ?_; rintro e w3 ⟨rfl, b3⟩; have hV3 := grow_obj b3 H2.out.2; have c5 := VolO.c8 hV3; have f5 := VolO.free hV3 8; have H3 := Lib.hid (And.intro (grow_trans H2.out.1 b3) hV3); clear c3 c4 b3 hV3) | (go_at_call 169; refine (Anchor_any te _).mono ?_; rintro e w4 ⟨rfl, hw4⟩; obtain rfl := hw4.symm))
      go_roundw
      case rel => exact ⟨k + 1, by omega, by go_num, by rw [Hst.out, if_neg (fun h => by cases h.1)], HV.out.2.trans (Keeps.of_below H3.out.1), by rw [Hst.out, if_neg (fun h => by cases h.1)]; exact H3.out.2⟩
      case measure => simp [Go.RowKit.intOf]; omega
    | true =>
      by_cases hp : te % 2 = k
      · have hp1 : (((te % 2 : Nat) : Int) == (k : Int)) = true := by simpa using by omega
        have hp2 : ((te : Int) % 2 == (k : Int)) = true := by simpa using by omega
        have Hp := Lib.hid hp
        clear hp
        cases sb with
        | false =>
          go_wp2_with (first | (go_at_call 171; refine Hta.out.mono ?_; rintro e w3 ⟨rfl, b3⟩; have hV3 := grow_obj b3 H2.out.2; have c5 := VolO.c8 hV3; have f5 := VolO.free hV3 8; have H3 := Lib.hid (And.intro (grow_trans H2.out.1 b3) hV3); clear c3 c4 b3 hV3) | (go_at_call 169; refine (Anchor_any te _).mono ?_; rintro e w4 ⟨rfl, hw4⟩; obtain rfl := hw4.symm))
          go_roundw
          case rel => exact ⟨k + 1, by omega, by go_num, by rw [Hst.out, if_pos (by first | exact ⟨rfl, Hp.out, .inl rfl⟩ | exact ⟨trivial, Hp.out, .inl trivial⟩)], (HV.out.2.trans (Keeps.of_below H3.out.1)).trans (Keeps.setCell _ _ _ rfl), by rw [Hst.out, if_pos (by first | exact ⟨rfl, Hp.out, .inl rfl⟩ | exact ⟨trivial, Hp.out, .inl trivial⟩)]; exact VolO.epoch H3.out.2 te⟩
          case measure => simp [Go.RowKit.intOf]; omega
        | true =>
          by_cases hs : sn < te
          · have hs1 : (sn : Int) < (te : Int) := by omega
            go_wp2_with (first | (go_at_call 171; refine Hta.out.mono ?_; rintro e w3 ⟨rfl, b3⟩; have hV3 := grow_obj b3 H2.out.2; have c5 := VolO.c8 hV3; have f5 := VolO.free hV3 8; have H3 := Lib.hid (And.intro (grow_trans H2.out.1 b3) hV3); clear c3 c4 b3 hV3) | (go_at_call 169; refine (Anchor_any te _).mono ?_; rintro e w4 ⟨rfl, hw4⟩; obtain rfl := hw4.symm))
            go_roundw
            case rel => exact ⟨k + 1, by omega, by go_num, by rw [Hst.out, if_pos (by first | exact ⟨rfl, Hp.out, .inr hs⟩ | exact ⟨trivial, Hp.out, .inr hs⟩)], (HV.out.2.trans (Keeps.of_below H3.out.1)).trans (Keeps.setCell _ _ _ rfl), by rw [Hst.out, if_pos (by first | exact ⟨rfl, Hp.out, .inr hs⟩ | exact ⟨trivial, Hp.out, .inr hs⟩)]; exact VolO.epoch H3.out.2 te⟩
            case measure => simp [Go.RowKit.intOf]; omega
          · have hs1 : ¬ ((sn : Int) < (te : Int)) := by omega
            go_wp2_with (first | (go_at_call 171; refine Hta.out.mono ?_; rintro e w3 ⟨rfl, b3⟩; have hV3 := grow_obj b3 H2.out.2; have c5 := VolO.c8 hV3; have f5 := VolO.free hV3 8; have H3 := Lib.hid (And.intro (grow_trans H2.out.1 b3) hV3); clear c3 c4 b3 hV3) | (go_at_call 169; refine (Anchor_any te _).mono ?_; rintro e w4 ⟨rfl, hw4⟩; obtain rfl := hw4.symm))
            go_roundw
            case rel => exact ⟨k + 1, by omega, by go_num, by rw [Hst.out, if_neg (fun h => h.2.2.elim (fun e => by cases e) hs)], HV.out.2.trans (Keeps.of_below H3.out.1), by rw [Hst.out, if_neg (fun h => h.2.2.elim (fun e => by cases e) hs)]; exact H3.out.2⟩
            case measure => simp [Go.RowKit.intOf]; omega
      · have hp1 : (((te % 2 : Nat) : Int) == (k : Int)) = false := by simpa using by omega
        have hp2 : ((te : Int) % 2 == (k : Int)) = false := by simpa using by omega
        go_wp2_with (first | (go_at_call 171; refine Hta.out.mono ?_; rintro e w3 ⟨rfl, b3⟩; have hV3 := grow_obj b3 H2.out.2; have c5 := VolO.c8 hV3; have f5 := VolO.free hV3 8; have H3 := Lib.hid (And.intro (grow_trans H2.out.1 b3) hV3); clear c3 c4 b3 hV3) | (go_at_call 169; refine (Anchor_any te _).mono ?_; rintro e w4 ⟨rfl, hw4⟩; obtain rfl := hw4.symm))
        go_roundw
        case rel => exact ⟨k + 1, by omega, by go_num, by rw [Hst.out, if_neg (fun h => hp h.2.1)], HV.out.2.trans (Keeps.of_below H3.out.1), by rw [Hst.out, if_neg (fun h => hp h.2.1)]; exact H3.out.2⟩
        case measure => simp [Go.RowKit.intOf]; omega
  · obtain rfl : k = 2 := by omega
    have H := Lib.hid (And.intro hK hV)
    clear hK hV
    go_wp2_with fail
    go_ret
    exact ⟨rfl, H.out.1, H.out.2⟩

set_option maxHeartbeats 2000000 in
theorem read_any {w : World} {Sd : Nat → Prop} {v d reg : Nat} {s : Sh} {epoch seq m : Nat} {used : Int} {bv : Value} {D : Dv} {c : Nat} {R : Reg} (hs : s.Ok) (hv : VolO w v d reg s epoch seq used bv m) (hd : DevAt w Sd d D c) (hR : D.regs[reg]? = some R) (a : Nat) (ha : a < s.blocks) (b : Blk) (hk : 0 ≤ b.kind ∧ b.kind ≤ 7) (hb : R.seen[2 + s.log + a]? = some (sealB s.lb a b)) :
 Calls Tryz.prog 115 #[.pointer (some ⟨v, 0, none⟩), .int .i64 a] w fun e w' => e = .returned (.tuple #[.agg b.cells, .bool true]) ∧ Below w.heap.size w w' := by
 have hX : BlkAt (w.alloc (.cells Blk.zero.cells 37)) w.heap.size Blk.zero := BlkAt.alloc_new w _
 have hB0 : Below w.heap.size w (w.alloc (.cells Blk.zero.cells 37)) := grow_alloc (Below.refl _ _) _
 have hv1 := grow_obj hB0 hv
 obtain ⟨G, hG⟩ : ∃ G, G = w.heap.size := ⟨_, rfl⟩
 obtain ⟨w1, hw1⟩ : ∃ w1, w1 = w.alloc (.cells Blk.zero.cells 37) := ⟨_, rfl⟩
 rw [← hw1] at hX hB0 hv1
 rw [← hG] at hX
 have hrd := fun w' (hb' : Below w1.heap.size w1 w') => ((hd.below hB0).below hb').read hR hb
 have HG := Lib.hid (And.intro hG hw1)
 have Hrd := Lib.hid hrd
 have c0 := VolO.c0 hv1
 have c1 := VolO.c1 hv1
 have c2 := VolO.c2 hv1
 have c3 := VolO.c3 hv1
 have c4 := VolO.c4 hv1
 have c5 := VolO.c5 hv1
 have c6 := VolO.c6 hv1
 have H1 := Lib.hid (And.intro hX (And.intro hB0 (And.intro hv1 hs)))
 have hbl := hs.blocks
 have ha2 : a < 200 := by omega
 clear hX hB0 hv1 hG hw1 hrd hd hR hb hv hbl
 go_enter Tryz.func115, Tryz.ntmps115
 go_upto_region 1 with fail
 rw [← HG.out.2, ← HG.out.1]
 have hS : ∀ w', Below w1.heap.size w1 w' → w'.cell? ⟨v, 0, none⟩ = some (.pointer (some ⟨d, 0, none⟩)) ∧ w'.cell? ⟨v, 1, none⟩ = some (.int .i64 reg) ∧ w'.cell? ⟨v, 2, none⟩ = some (.int .i64 s.level) ∧ w'.cell? ⟨v, 3, none⟩ = some (.int .i64 s.cats) ∧ w'.cell? ⟨v, 4, none⟩ = some (.int .i64 s.blocks) ∧ w'.cell? ⟨v, 5, none⟩ = some (.int .i64 s.log) ∧ w'.cell? ⟨v, 6, none⟩ = some (.int .i64 s.frames) ∧ True :=
  fun w' hb => ⟨grow_cell hb c0, grow_cell hb c1, grow_cell hb c2, grow_cell hb c3, grow_cell hb c4, grow_cell hb c5, grow_cell hb c6, trivial⟩
 refine wp_region_F [14] (S := fun w' => w'.cell? ⟨v, 0, none⟩ = some (.pointer (some ⟨d, 0, none⟩)) ∧ w'.cell? ⟨v, 1, none⟩ = some (.int .i64 reg) ∧ w'.cell? ⟨v, 2, none⟩ = some (.int .i64 s.level) ∧ w'.cell? ⟨v, 3, none⟩ = some (.int .i64 s.cats) ∧ w'.cell? ⟨v, 4, none⟩ = some (.int .i64 s.blocks) ∧ w'.cell? ⟨v, 5, none⟩ = some (.int .i64 s.log) ∧ w'.cell? ⟨v, 6, none⟩ = some (.int .i64 s.frames) ∧ True) (by kernel_rfl) (hS _ (Below.refl _ _).drew) (fun hHeld => ?_)
 show wpAnyF _ _ _ _ _ _ 20 #[false, false, false, false, false, false, false, false, false, false, false, false, false, false, false, false, false, false, false, false] _ _
 refine gF [0, 1, 2, 3, 14, 15, 16, 17, 18, 19] (i := 0) (v := ?kv16) rfl ?ky16 ?kr16
 case ky16 => (intro w hSw; (try dsimp only at hSw); go_split_ands; (try simp only [qA, qB]); go_simp; (try with_reducible rfl))
 try simp only [Act.put, qA, qB, qD, qE, qF]
 refine gF [1, 2, 3, 14, 15, 16, 17, 18, 19] (i := 1) (v := ?kv17) rfl ?ky17 ?kr17
 case ky17 => (intro w hSw; (try dsimp only at hSw); go_split_ands; (try simp only [qA, qB, qC]); go_simp; (try with_reducible rfl))
 try simp only [Act.put, qA, qB, qC, qD, qE, qF]
 refine gF [2, 3, 14, 15, 16, 17, 18, 19] (i := 2) (v := ?kv18) rfl ?ky18 ?kr18
 case ky18 => (intro w hSw; (try dsimp only at hSw); go_split_ands; (try simp only [qA, qB, qC]); go_simp; (try with_reducible rfl))
 try simp only [Act.put, qA, qB, qC, qD, qE, qF]
 refine gF [3, 14, 15, 16, 17, 18, 19] (i := 3) (v := ?kv19) rfl ?ky19 ?kr19
 case ky19 => (intro w hSw; (try dsimp only at hSw); go_split_ands; (try simp only [qA, qB, qC]); go_simp; (try with_reducible rfl))
 try simp only [Act.put, qA, qB, qC, qD, qE, qF]
 refine gF [4, 5, 6, 7, 14, 15, 16, 17, 18, 19] (i := 4) (v := ?kv20) rfl ?ky20 ?kr20
 case ky20 => (intro w hSw; (try dsimp only at hSw); go_split_ands; (try simp only [qA, qB, qC]); go_simp; (try with_reducible rfl))
 try simp only [Act.put, qA, qB, qC, qD, qE, qF]
 refine gF [5, 6, 7, 14, 15, 16, 17, 18, 19] (i := 5) (v := ?kv21) rfl ?ky21 ?kr21
 case ky21 => (intro w hSw; (try dsimp only at hSw); go_split_ands; (try simp only [qA, qB, qC]); go_simp; (try with_reducible rfl))
 try simp only [Act.put, qA, qB, qC, qD, qE, qF]
 refine gF [6, 7, 14, 15, 16, 17, 18, 19] (i := 6) (v := ?kv22) rfl ?ky22 ?kr22
 case ky22 => (intro w hSw; (try dsimp only at hSw); go_split_ands; (try simp only [qA, qB, qC]); go_simp; (try with_reducible rfl))
 try simp only [Act.put, qA, qB, qC, qD, qE, qF]
 refine gF [7, 14, 15, 16, 17, 18, 19] (i := 7) (v := ?kv23) rfl ?ky23 ?kr23
 case ky23 => (intro w hSw; (try dsimp only at hSw); go_split_ands; (try simp only [qA, qB, qC]); go_simp; (try with_reducible rfl))
 try simp only [Act.put, qA, qB, qC, qD, qE, qF]
 refine gF [8, 9, 10, 11, 13, 14, 15, 16, 17, 18, 19] (i := 8) (v := ?kv24) rfl ?ky24 ?kr24
 case ky24 => (intro w hSw; (try dsimp only at hSw); go_split_ands; (try simp only [qA, qB, qC]); go_simp; (try with_reducible rfl))
 try simp only [Act.put, qA, qB, qC, qD, qE, qF]
 refine gF [9, 10, 11, 13, 14, 15, 16, 17, 18, 19] (i := 9) (v := ?kv25) rfl ?ky25 ?kr25
 case ky25 => (intro w hSw; (try dsimp only at hSw); go_split_ands; (try simp only [qA, qB, qC]); go_simp; (try with_reducible rfl))
 try simp only [Act.put, qA, qB, qC, qD, qE, qF]
 refine gF [10, 11, 13, 14, 15, 16, 17, 18, 19] (i := 10) (v := ?kv26) rfl ?ky26 ?kr26
 case ky26 => (intro w hSw; (try dsimp only at hSw); go_split_ands; (try simp only [qA, qB, qC]); go_simp; (try with_reducible rfl))
 try simp only [Act.put, qA, qB, qC, qD, qE, qF]
 refine gF [11, 13, 14, 15, 16, 17, 18, 19] (i := 11) (v := ?kv27) rfl ?ky27 ?kr27
 case ky27 => (intro w hSw; (try dsimp only at hSw); go_split_ands; (try simp only [qA, qB, qC]); go_simp; (try with_reducible rfl))
 try simp only [Act.put, qA, qB, qC, qD, qE, qF]
 refine gF [12, 13, 14, 15, 16, 17, 18, 19] (i := 12) (v := ?kv28) rfl ?ky28 ?kr28
 case ky28 => (intro w hSw; (try dsimp only at hSw); go_split_ands; (try simp only [qA, qB, qC]); go_simp; (try with_reducible rfl))
 try simp only [Act.put, qA, qB, qC, qD, qE, qF]
 refine wpAnyF_ready (rs := [13]) (by kernel_rfl) (by simp) ?_
 refine (AllReadyF.cons rfl (fun K hK => ?_) AllReadyF.nil)
 try simp only [qA, qB, qC]
 go_simp
 go_at_call 167; refine (Home_any s H1.out.2.2.2 a ha _).mono ?_; rintro e x3 ⟨rfl, b3⟩; have hx3 : Below w1.heap.size w1 x3 := (Below.refl _ _).drew.trans b3
 refine hK.out _ _ (by exact hS _ hx3) (fun hHeldn => ?_)
 clear hHeld hK K
 have hHeld := hHeldn
 clear hHeldn
 try simp only [qD, qE, qF]
 refine wpAnyF_ready (rs := [14]) (by kernel_rfl) (by simp) ?_
 refine (AllReadyF.last rfl (by kernel_rfl) (fun K hK => ?_) AllReadyF.nil)
 try simp only [qA, qB, qC]
 go_simp
 go_at_call 107; refine (Hrd.out _ hx3).mono ?_; rintro e x4 ⟨g4, cap4, rfl, hr4, hc4, b4⟩
 refine hK.out _ _ (trivial) (fun hHeldn => ?_)
 clear hHeld hK K
 have hHeld := hHeldn
 clear hHeldn
 try simp only [qD, qE, qF]
 refine gP (i := 15) (v := ?kv31) rfl ?ky31 ?kr31
 case ky31 => (intro w hSw; clear hSw; (try simp only [qA, qB, qC]); go_simp; (try with_reducible rfl))
 try simp only [Act.put, qA, qB, qC, qD, qE, qF]
 refine gP (i := 16) (v := ?kv32) rfl ?ky32 ?kr32
 case ky32 => (intro w hSw; clear hSw; (try simp only [qA, qB, qC]); go_simp; (try with_reducible rfl))
 try simp only [Act.put, qA, qB, qC, qD, qE, qF]
 refine gP (i := 17) (v := ?kv33) rfl ?ky33 ?kr33
 case ky33 => (intro w hSw; clear hSw; (try simp only [qA, qB, qC]); go_simp; (try with_reducible rfl))
 try simp only [Act.put, qA, qB, qC, qD, qE, qF]
 refine gP (i := 18) (v := ?kv34) rfl ?ky34 ?kr34
 case ky34 => (intro w hSw; clear hSw; (try simp only [qA, qB, qC]); go_simp; (try with_reducible rfl))
 try simp only [Act.put, qA, qB, qC, qD, qE, qF]
 refine gP (i := 19) (v := ?kv35) rfl ?ky35 ?kr35
 case ky35 => (intro w hSw; clear hSw; (try simp only [qA, qB, qC]); go_simp; (try with_reducible rfl))
 try simp only [Act.put, qA, qB, qC, qD, qE, qF]
 refine wpAnyF_done (by kernel_rfl) ?_ _
 have hx4 := grow_trans hx3 b4
 have hv4 := grow_obj hx4 H1.out.2.2.1
 have hX4 := H1.out.1.below hx4 (block_lt H1.out.1)
 have c7 := VolO.c7 hv4
 have Ho := Lib.hid (Open_any s.lb a b hk ha2 g4 cap4 x4 (BRow.bytesAt hr4).1 hc4)
 have H4 := Lib.hid (And.intro (H1.out.2.1.trans (hx4.mono H1.out.2.1.size)) hX4)
 clear hx3 b3 b4 hr4 hc4 hx4 hv4 hX4 hS hHeld c0 c1 c2 c3 c4 c5 c6 hk
 go_wp2_with (go_at_call 173; refine Ho.out.mono ?_; rintro e w5 ⟨rfl, b5⟩; have hX5 := H4.out.2.below b5 (block_lt H4.out.2); have hbk := hX5.has; have hB5 := Lib.hid (grow_trans H4.out.1 b5); have HX5 := Lib.hid hX5; clear hX5 b5)
 refine bodyPost_ret (results_two rfl (resOne_blk rfl (BlkAt.setRow HX5.out b).row) (resOne_tmp _ _ _)) rfl ?_
 exact ⟨rfl, hB5.out.setRow (by rw [HG.out.1]; exact Nat.le_refl _) _⟩
end Go.Proofs.YtbbnejehglonjaaGreat

/- DERIVED. Contracts of vol's replays (of a log of noughts), Mount (of a store that is new). -/
namespace Go.Proofs.YtbbnejehglonjaaGreat
open Go.RowKit
attribute [local irreducible] Calls
set_option maxRecDepth 100000

/-- The rows of the log. -/
def logRows (_ : Sh) (seen : List (List UInt8)) (k : Nat) : List (List UInt8) := (List.range k).map fun i => seen.getD (2 + i) []
theorem logRows_succ (s : Sh) (seen : List (List UInt8)) (k : Nat) : logRows s seen (k + 1) = logRows s seen k ++ [seen.getD (2 + k) []] := by
 unfold logRows; rw [List.range_succ, List.map_append]; rfl
theorem logRows_length (s : Sh) (seen : List (List UInt8)) (k : Nat) : (logRows s seen k).length = k := by simp [logRows]
def ReplJ (w : World) (x0 : Value) (s : Sh) (seen : List (List UInt8)) (l : Nat) (a' : Act) (w' : World) : Prop :=
 l = 0 ∧ Below w.heap.size w w' ∧ ∃ g cap m2, MapI w' m2 [] ∧ w.heap.size ≤ m2 ∧ RowB w' (fun q => w.heap.size ≤ q) (.slice (some ⟨g, 0, none⟩) s.log cap) (logRows s seen s.log) ∧ ∃ A : Array Value, A.size = 89 ∧ (A.getD 0 undef = x0 ∧ A.getD 3 undef = .slice (some ⟨g, 0, none⟩) s.log cap ∧ A.getD 7 undef = .map (some m2) ∧ A.getD 8 undef = .slice none 0 0 ∧ A.getD 9 undef = .int .i64 0 ∧ A.getD 10 undef = .bool false ∧ True) ∧ a' = { tmps := A, defers := [] }
theorem frame89 (A : Array Value) (h : A.size = 89) : A = #[A.getD 0 undef, A.getD 1 undef, A.getD 2 undef, A.getD 3 undef, A.getD 4 undef, A.getD 5 undef, A.getD 6 undef, A.getD 7 undef, A.getD 8 undef, A.getD 9 undef, A.getD 10 undef, A.getD 11 undef, A.getD 12 undef, A.getD 13 undef, A.getD 14 undef, A.getD 15 undef, A.getD 16 undef, A.getD 17 undef, A.getD 18 undef, A.getD 19 undef, A.getD 20 undef, A.getD 21 undef, A.getD 22 undef, A.getD 23 undef, A.getD 24 undef, A.getD 25 undef, A.getD 26 undef, A.getD 27 undef, A.getD 28 undef, A.getD 29 undef, A.getD 30 undef, A.getD 31 undef, A.getD 32 undef, A.getD 33 undef, A.getD 34 undef, A.getD 35 undef, A.getD 36 undef, A.getD 37 undef, A.getD 38 undef, A.getD 39 undef, A.getD 40 undef, A.getD 41 undef, A.getD 42 undef, A.getD 43 undef, A.getD 44 undef, A.getD 45 undef, A.getD 46 undef, A.getD 47 undef, A.getD 48 undef, A.getD 49 undef, A.getD 50 undef, A.getD 51 undef, A.getD 52 undef, A.getD 53 undef, A.getD 54 undef, A.getD 55 undef, A.getD 56 undef, A.getD 57 undef, A.getD 58 undef, A.getD 59 undef, A.getD 60 undef, A.getD 61 undef, A.getD 62 undef, A.getD 63 undef, A.getD 64 undef, A.getD 65 undef, A.getD 66 undef, A.getD 67 undef, A.getD 68 undef, A.getD 69 undef, A.getD 70 undef, A.getD 71 undef, A.getD 72 undef, A.getD 73 undef, A.getD 74 undef, A.getD 75 undef, A.getD 76 undef, A.getD 77 undef, A.getD 78 undef, A.getD 79 undef, A.getD 80 undef, A.getD 81 undef, A.getD 82 undef, A.getD 83 undef, A.getD 84 undef, A.getD 85 undef, A.getD 86 undef, A.getD 87 undef, A.getD 88 undef] := frame_list A 89 h
set_option maxHeartbeats 4000000 in
theorem replays_none {w : World} {Sd : Nat → Prop} {v d reg : Nat} {s : Sh} {epoch seq m : Nat} {used : Int} {bv : Value} {D : Dv} {c : Nat} {R : Reg} (hs : s.Ok) (hv : VolO w v d reg s epoch seq used bv m) (hd : DevAt w Sd d D c) (hR : D.regs[reg]? = some R) (hsz : R.seen.length = s.size) (hl0 : 0 < s.log)
 {l : List UInt8} (hl : R.seen[2]? = some l) (h10 : l[10]? = some 0) (he : epoch < 4294967296) (hq : seq < 4294967296) :
 Calls Tryz.prog 114 #[.pointer (some ⟨v, 0, none⟩)] w fun e w' => ∃ m2, e = .returned (.map (some m2)) ∧ MapI w' m2 [] ∧ w.heap.size ≤ m2 ∧ Below w.heap.size w w' := by
 have hmm : ∀ w, (Instr.makeMap 132 none).run Tryz.prog w = .ok (.map (some w.heap.size)) (w.alloc (.map #[] 0)) := fun w => run_makeMap _ w
 have hl64 : l.length = 64 := (hd.ok.regs R (List.mem_of_getElem? hR)).l1 l (List.mem_of_getElem? hl)
 have hlog := hs.log
 have c5 := VolO.c5 hv
 have H0 := Lib.hid (And.intro hv (And.intro hd (And.intro hR (And.intro hsz (And.intro hs (And.intro hl (And.intro hl64 h10)))))))
 clear hv hd hR hsz hs hl hl64 h10
 go_enter Tryz.func114, Tryz.ntmps114
 go_wp2_with fail
 refine wp_scope_labels (ReplJ w (.pointer (some ⟨v, 0, none⟩)) s R.seen) (fun l _ _ => l) ?_ ?_ ?_
 · rintro l a w' ⟨rfl, _⟩; exact ⟨_, rfl⟩
 · rintro l rest a w1 ⟨rfl, hbel, g, cap, m2, hM, hmw, hV1, ⟨A, hA, ⟨hA0, hA3, hA7, hA8, hA9, hA10, _⟩, rfl⟩⟩ hrest
   obtain rfl := (Code.seq.inj (Option.some.inj hrest)).2
   rw [frame89 A hA, hA0, hA3, hA7, hA8, hA9, hA10]
   clear hrest
   have hfirst : (logRows s R.seen s.log)[0]? = some l := by
    unfold logRows
    rw [List.getElem?_map, List.getElem?_range hl0, Option.map_some, List.getD_eq_getElem?_getD, H0.out.2.2.2.2.2.1]; rfl
   have hv1 := grow_obj hbel H0.out.1
   have HT := Lib.hid (Take_none s.lb epoch seq (RowB.below hV1 (Below.refl _ _).drew) (by omega) hfirst H0.out.2.2.2.2.2.2.1 H0.out.2.2.2.2.2.2.2 he hq)
   have H1 := Lib.hid (And.intro hM (And.intro hbel hmw))
   have c7 := VolO.c7 hv1
   have c8 := VolO.c8 hv1
   have c9 := VolO.c9 hv1
   clear hbel hfirst hM hv1 hV1 hmw c5 hmm
   go_upto_region 13 with fail
   refine wp_region_F [13] (S := fun w' => w'.cell? ⟨v, 7, none⟩ = some (.int .u8 (s.lb.toNat : Int)) ∧ w'.cell? ⟨v, 8, none⟩ = some (.int .u32 epoch) ∧ w'.cell? ⟨v, 9, none⟩ = some (.int .u32 seq) ∧ True) (by kernel_rfl) (⟨c7, c8, c9, trivial⟩) (fun hHeld => ?_)
   show wpAnyF _ _ _ _ _ _ 21 #[false, false, false, false, false, false, false, false, false, false, false, false, false, false, false, false, false, false, false, false, false] _ _
   refine gF [0, 1, 2, 3, 13, 14, 15, 16, 17, 18, 19, 20] (i := 0) (v := ?kv1) rfl ?ky1 ?kr1
   case ky1 => (intro w hSw; (try dsimp only at hSw); go_split_ands; (try simp only [qA, qB]); go_simp; (try with_reducible rfl))
   try simp only [Act.put, qA, qB, qD, qE, qF]
   refine gF [1, 2, 3, 13, 14, 15, 16, 17, 18, 19, 20] (i := 1) (v := ?kv2) rfl ?ky2 ?kr2
   case ky2 => (intro w hSw; (try dsimp only at hSw); go_split_ands; (try simp only [qA, qB, qC]); go_simp; (try with_reducible rfl))
   try simp only [Act.put, qA, qB, qC, qD, qE, qF]
   refine gF [2, 3, 13, 14, 15, 16, 17, 18, 19, 20] (i := 2) (v := ?kv3) rfl ?ky3 ?kr3
   case ky3 => (intro w hSw; (try dsimp only at hSw); go_split_ands; (try simp only [qA, qB, qC]); go_simp; (try with_reducible rfl))
   try simp only [Act.put, qA, qB, qC, qD, qE, qF]
   refine gF [3, 13, 14, 15, 16, 17, 18, 19, 20] (i := 3) (v := ?kv4) rfl ?ky4 ?kr4
   case ky4 => (intro w hSw; (try dsimp only at hSw); go_split_ands; (try simp only [qA, qB, qC]); go_simp; (try with_reducible rfl))
   try simp only [Act.put, qA, qB, qC, qD, qE, qF]
   refine gF [4, 5, 6, 7, 13, 14, 15, 16, 17, 18, 19, 20] (i := 4) (v := ?kv5) rfl ?ky5 ?kr5
   case ky5 => (intro w hSw; (try dsimp only at hSw); go_split_ands; (try simp only [qA, qB, qC]); go_simp; (try with_reducible rfl))
   try simp only [Act.put, qA, qB, qC, qD, qE, qF]
   refine gF [5, 6, 7, 13, 14, 15, 16, 17, 18, 19, 20] (i := 5) (v := ?kv6) rfl ?ky6 ?kr6
   case ky6 => (intro w hSw; (try dsimp only at hSw); go_split_ands; (try simp only [qA, qB, qC]); go_simp; (try with_reducible rfl))
   try simp only [Act.put, qA, qB, qC, qD, qE, qF]
   refine gF [6, 7, 13, 14, 15, 16, 17, 18, 19, 20] (i := 6) (v := ?kv7) rfl ?ky7 ?kr7
   case ky7 => (intro w hSw; (try dsimp only at hSw); go_split_ands; (try simp only [qA, qB, qC]); go_simp; (try with_reducible rfl))
   try simp only [Act.put, qA, qB, qC, qD, qE, qF]
   refine gF [7, 13, 14, 15, 16, 17, 18, 19, 20] (i := 7) (v := ?kv8) rfl ?ky8 ?kr8
   case ky8 => (intro w hSw; (try dsimp only at hSw); go_split_ands; (try simp only [qA, qB, qC]); go_simp; (try with_reducible rfl))
   try simp only [Act.put, qA, qB, qC, qD, qE, qF]
   refine gF [8, 9, 10, 11, 13, 14, 15, 16, 17, 18, 19, 20] (i := 8) (v := ?kv9) rfl ?ky9 ?kr9
   case ky9 => (intro w hSw; (try dsimp only at hSw); go_split_ands; (try simp only [qA, qB, qC]); go_simp; (try with_reducible rfl))
   try simp only [Act.put, qA, qB, qC, qD, qE, qF]
   refine gF [9, 10, 11, 13, 14, 15, 16, 17, 18, 19, 20] (i := 9) (v := ?kv10) rfl ?ky10 ?kr10
   case ky10 => (intro w hSw; (try dsimp only at hSw); go_split_ands; (try simp only [qA, qB, qC]); go_simp; (try with_reducible rfl))
   try simp only [Act.put, qA, qB, qC, qD, qE, qF]
   refine gF [10, 11, 13, 14, 15, 16, 17, 18, 19, 20] (i := 10) (v := ?kv11) rfl ?ky11 ?kr11
   case ky11 => (intro w hSw; (try dsimp only at hSw); go_split_ands; (try simp only [qA, qB, qC]); go_simp; (try with_reducible rfl))
   try simp only [Act.put, qA, qB, qC, qD, qE, qF]
   refine gF [11, 13, 14, 15, 16, 17, 18, 19, 20] (i := 11) (v := ?kv12) rfl ?ky12 ?kr12
   case ky12 => (intro w hSw; (try dsimp only at hSw); go_split_ands; (try simp only [qA, qB, qC]); go_simp; (try with_reducible rfl))
   try simp only [Act.put, qA, qB, qC, qD, qE, qF]
   refine gF [12, 13, 14, 15, 16, 17, 18, 19, 20] (i := 12) (v := ?kv13) rfl ?ky13 ?kr13
   case ky13 => (intro w hSw; (try dsimp only at hSw); go_split_ands; (try simp only [qA, qB, qC]); go_simp; (try with_reducible rfl))
   try simp only [Act.put, qA, qB, qC, qD, qE, qF]
   refine wpAnyF_ready (rs := [13]) (by kernel_rfl) (by simp) ?_
   refine (AllReadyF.last rfl (by kernel_rfl) (fun K hK => ?_) AllReadyF.nil)
   try simp only [qA, qB, qC]
   go_simp
   go_at_call 172; refine HT.out.mono ?_; rintro e x5 ⟨rfl, b5⟩
   refine hK.out _ _ (trivial) (fun hHeldn => ?_)
   clear hHeld hK K
   have hHeld := hHeldn
   clear hHeldn
   try simp only [qD, qE, qF]
   refine gP (i := 14) (v := ?kv15) rfl ?ky15 ?kr15
   case ky15 => (intro w hSw; clear hSw; (try simp only [qA, qB, qC]); go_simp; (try with_reducible rfl))
   try simp only [Act.put, qA, qB, qC, qD, qE, qF]
   refine gP (i := 15) (v := ?kv16) rfl ?ky16 ?kr16
   case ky16 => (intro w hSw; clear hSw; (try simp only [qA, qB, qC]); go_simp; (try with_reducible rfl))
   try simp only [Act.put, qA, qB, qC, qD, qE, qF]
   refine gP (i := 16) (v := ?kv17) rfl ?ky17 ?kr17
   case ky17 => (intro w hSw; clear hSw; (try simp only [qA, qB, qC]); go_simp; (try with_reducible rfl))
   try simp only [Act.put, qA, qB, qC, qD, qE, qF]
   refine gP (i := 17) (v := ?kv18) rfl ?ky18 ?kr18
   case ky18 => (intro w hSw; clear hSw; (try simp only [qA, qB, qC]); go_simp; (try with_reducible rfl))
   try simp only [Act.put, qA, qB, qC, qD, qE, qF]
   refine gP (i := 18) (v := ?kv19) rfl ?ky19 ?kr19
   case ky19 => (intro w hSw; clear hSw; (try simp only [qA, qB, qC]); go_simp; (try with_reducible rfl))
   try simp only [Act.put, qA, qB, qC, qD, qE, qF]
   refine gP (i := 19) (v := ?kv20) rfl ?ky20 ?kr20
   case ky20 => (intro w hSw; clear hSw; (try simp only [qA, qB, qC]); go_simp; (try with_reducible rfl))
   try simp only [Act.put, qA, qB, qC, qD, qE, qF]
   refine gP (i := 20) (v := ?kv21) rfl ?ky21 ?kr21
   case ky21 => (intro w hSw; clear hSw; (try simp only [qA, qB, qC]); go_simp; (try with_reducible rfl))
   try simp only [Act.put, qA, qB, qC, qD, qE, qF]
   refine wpAnyF_done (by kernel_rfl) ?_ _
   go_wp2_with fail
   rw [jumps_ret]
   go_ret
   have hx5 : Below w1.heap.size w1 x5 := (Below.refl w1.heap.size w1).drew.trans b5
   exact ⟨m2, rfl, H1.out.1.below hx5, H1.out.2.2, grow_trans H1.out.2.1 hx5⟩
 · intro hfall
   have HF := Lib.hid hfall
   clear hfall
   go_wp2_with fail
   clear c5
   go_loopw [3, 18] (fun s3 i wr => ∃ (k : Nat) (V : Value), k ≤ s.log ∧ i = .int .i64 k ∧ V = s3 ∧ RowB wr (fun q => w.heap.size ≤ q) V (logRows s R.seen k) ∧ Below w.heap.size w wr) (fun _ i _ => s.log - (Go.RowKit.intOf i).toNat)
   case atStart => exact ⟨0, _, Nat.zero_le _, rfl, rfl, RowG.nil _ _ _ _ _, Below.refl _ _⟩
   case round =>
    obtain ⟨k, V, hk, rfl, rfl, hV, hbel⟩ := hrel
    have hvr := grow_obj hbel H0.out.1
    by_cases hlt : k < s.log
    · have hlti : (k : Int) < (s.log : Int) := by omega
      obtain ⟨lk, hlk⟩ : ∃ lk, R.seen[2 + k]? = some lk := ⟨_, List.getElem?_eq_getElem (by rw [H0.out.2.2.2.1]; unfold Sh.size; omega)⟩
      have hgl : R.seen.getD (2 + k) [] = lk := by rw [List.getD_eq_getElem?_getD, hlk]; rfl
      have hl64 : lk.length = 64 := (H0.out.2.1.ok.regs R (List.mem_of_getElem? H0.out.2.2.1)).l1 lk (List.mem_of_getElem? hlk)
      have Hrd := Lib.hid (fun w' (hb : Below wr.heap.size wr w') => ((H0.out.2.1.below hbel).below hb).read H0.out.2.2.1 hlk)
      have Hsu := Lib.hid (logRows_succ s R.seen k)
      rw [hgl] at Hsu
      have c0 := VolO.c0 hvr
      have c1 := VolO.c1 hvr
      have c2 := VolO.c2 hvr
      have c3 := VolO.c3 hvr
      have c4 := VolO.c4 hvr
      have c5 := VolO.c5 hvr
      have c6 := VolO.c6 hvr
      have hS : ∀ w', Below wr.heap.size wr w' → w'.cell? ⟨v, 0, none⟩ = some (.pointer (some ⟨d, 0, none⟩)) ∧ w'.cell? ⟨v, 1, none⟩ = some (.int .i64 reg) ∧ w'.cell? ⟨v, 2, none⟩ = some (.int .i64 s.level) ∧ w'.cell? ⟨v, 3, none⟩ = some (.int .i64 s.cats) ∧ w'.cell? ⟨v, 4, none⟩ = some (.int .i64 s.blocks) ∧ w'.cell? ⟨v, 5, none⟩ = some (.int .i64 s.log) ∧ w'.cell? ⟨v, 6, none⟩ = some (.int .i64 s.frames) ∧ True :=
       fun w' hb => ⟨grow_cell hb c0, grow_cell hb c1, grow_cell hb c2, grow_cell hb c3, grow_cell hb c4, grow_cell hb c5, grow_cell hb c6, trivial⟩
      have HV := Lib.hid (And.intro hV (And.intro hbel (And.intro hl64 hlt)))
      have hkl : (logRows s R.seen k).length < 1000000 := by rw [logRows_length]; omega
      clear hV hbel hlk hgl hl64 hvr hmm
      go_upto_region 5 with fail
      refine wp_region_F [14] (S := fun w' => w'.cell? ⟨v, 0, none⟩ = some (.pointer (some ⟨d, 0, none⟩)) ∧ w'.cell? ⟨v, 1, none⟩ = some (.int .i64 reg) ∧ w'.cell? ⟨v, 2, none⟩ = some (.int .i64 s.level) ∧ w'.cell? ⟨v, 3, none⟩ = some (.int .i64 s.cats) ∧ w'.cell? ⟨v, 4, none⟩ = some (.int .i64 s.blocks) ∧ w'.cell? ⟨v, 5, none⟩ = some (.int .i64 s.log) ∧ w'.cell? ⟨v, 6, none⟩ = some (.int .i64 s.frames) ∧ True) (by kernel_rfl) (hS _ (Below.refl _ _).drew) (fun hHeld => ?_)
      show wpAnyF _ _ _ _ _ _ 20 #[false, false, false, false, false, false, false, false, false, false, false, false, false, false, false, false, false, false, false, false] _ _
      refine gF [0, 1, 2, 3, 14, 15, 16, 17, 18, 19] (i := 0) (v := ?kv22) rfl ?ky22 ?kr22
      case ky22 => (intro w hSw; (try dsimp only at hSw); go_split_ands; (try simp only [qA, qB]); go_simp; (try with_reducible rfl))
      try simp only [Act.put, qA, qB, qD, qE, qF]
      refine gF [1, 2, 3, 14, 15, 16, 17, 18, 19] (i := 1) (v := ?kv23) rfl ?ky23 ?kr23
      case ky23 => (intro w hSw; (try dsimp only at hSw); go_split_ands; (try simp only [qA, qB, qC]); go_simp; (try with_reducible rfl))
      try simp only [Act.put, qA, qB, qC, qD, qE, qF]
      refine gF [2, 3, 14, 15, 16, 17, 18, 19] (i := 2) (v := ?kv24) rfl ?ky24 ?kr24
      case ky24 => (intro w hSw; (try dsimp only at hSw); go_split_ands; (try simp only [qA, qB, qC]); go_simp; (try with_reducible rfl))
      try simp only [Act.put, qA, qB, qC, qD, qE, qF]
      refine gF [3, 14, 15, 16, 17, 18, 19] (i := 3) (v := ?kv25) rfl ?ky25 ?kr25
      case ky25 => (intro w hSw; (try dsimp only at hSw); go_split_ands; (try simp only [qA, qB, qC]); go_simp; (try with_reducible rfl))
      try simp only [Act.put, qA, qB, qC, qD, qE, qF]
      refine gF [4, 5, 6, 7, 14, 15, 16, 17, 18, 19] (i := 4) (v := ?kv26) rfl ?ky26 ?kr26
      case ky26 => (intro w hSw; (try dsimp only at hSw); go_split_ands; (try simp only [qA, qB, qC]); go_simp; (try with_reducible rfl))
      try simp only [Act.put, qA, qB, qC, qD, qE, qF]
      refine gF [5, 6, 7, 14, 15, 16, 17, 18, 19] (i := 5) (v := ?kv27) rfl ?ky27 ?kr27
      case ky27 => (intro w hSw; (try dsimp only at hSw); go_split_ands; (try simp only [qA, qB, qC]); go_simp; (try with_reducible rfl))
      try simp only [Act.put, qA, qB, qC, qD, qE, qF]
      refine gF [6, 7, 14, 15, 16, 17, 18, 19] (i := 6) (v := ?kv28) rfl ?ky28 ?kr28
      case ky28 => (intro w hSw; (try dsimp only at hSw); go_split_ands; (try simp only [qA, qB, qC]); go_simp; (try with_reducible rfl))
      try simp only [Act.put, qA, qB, qC, qD, qE, qF]
      refine gF [7, 14, 15, 16, 17, 18, 19] (i := 7) (v := ?kv29) rfl ?ky29 ?kr29
      case ky29 => (intro w hSw; (try dsimp only at hSw); go_split_ands; (try simp only [qA, qB, qC]); go_simp; (try with_reducible rfl))
      try simp only [Act.put, qA, qB, qC, qD, qE, qF]
      refine gF [8, 9, 10, 11, 13, 14, 15, 16, 17, 18, 19] (i := 8) (v := ?kv30) rfl ?ky30 ?kr30
      case ky30 => (intro w hSw; (try dsimp only at hSw); go_split_ands; (try simp only [qA, qB, qC]); go_simp; (try with_reducible rfl))
      try simp only [Act.put, qA, qB, qC, qD, qE, qF]
      refine gF [9, 10, 11, 13, 14, 15, 16, 17, 18, 19] (i := 9) (v := ?kv31) rfl ?ky31 ?kr31
      case ky31 => (intro w hSw; (try dsimp only at hSw); go_split_ands; (try simp only [qA, qB, qC]); go_simp; (try with_reducible rfl))
      try simp only [Act.put, qA, qB, qC, qD, qE, qF]
      refine gF [10, 11, 13, 14, 15, 16, 17, 18, 19] (i := 10) (v := ?kv32) rfl ?ky32 ?kr32
      case ky32 => (intro w hSw; (try dsimp only at hSw); go_split_ands; (try simp only [qA, qB, qC]); go_simp; (try with_reducible rfl))
      try simp only [Act.put, qA, qB, qC, qD, qE, qF]
      refine gF [11, 13, 14, 15, 16, 17, 18, 19] (i := 11) (v := ?kv33) rfl ?ky33 ?kr33
      case ky33 => (intro w hSw; (try dsimp only at hSw); go_split_ands; (try simp only [qA, qB, qC]); go_simp; (try with_reducible rfl))
      try simp only [Act.put, qA, qB, qC, qD, qE, qF]
      refine gF [12, 13, 14, 15, 16, 17, 18, 19] (i := 12) (v := ?kv34) rfl ?ky34 ?kr34
      case ky34 => (intro w hSw; (try dsimp only at hSw); go_split_ands; (try simp only [qA, qB, qC]); go_simp; (try with_reducible rfl))
      try simp only [Act.put, qA, qB, qC, qD, qE, qF]
      refine wpAnyF_ready (rs := [13]) (by kernel_rfl) (by simp) ?_
      refine (AllReadyF.cons rfl (fun K hK => ?_) AllReadyF.nil)
      try simp only [qA, qB, qC]
      go_simp
      go_at_call 123; refine (Log_any s H0.out.2.2.2.2.1 k HV.out.2.2.2 _).mono ?_; rintro e x3 ⟨rfl, b3⟩; have hx3 : Below wr.heap.size wr x3 := (Below.refl _ _).drew.trans b3
      refine hK.out _ _ (by exact hS _ hx3) (fun hHeldn => ?_)
      clear hHeld hK K
      have hHeld := hHeldn
      clear hHeldn
      try simp only [qD, qE, qF]
      refine wpAnyF_ready (rs := [14]) (by kernel_rfl) (by simp) ?_
      refine (AllReadyF.last rfl (by kernel_rfl) (fun K hK => ?_) AllReadyF.nil)
      try simp only [qA, qB, qC]
      go_simp
      go_at_call 107; refine (Hrd.out _ hx3).mono ?_; rintro e x4 ⟨g4, cap4, rfl, hr4, hc4, b4⟩
      refine hK.out _ _ (trivial) (fun hHeldn => ?_)
      clear hHeld hK K
      have hHeld := hHeldn
      clear hHeldn
      try simp only [qD, qE, qF]
      refine gP (i := 15) (v := ?kv37) rfl ?ky37 ?kr37
      case ky37 => (intro w hSw; clear hSw; (try simp only [qA, qB, qC]); go_simp; (try with_reducible rfl))
      try simp only [Act.put, qA, qB, qC, qD, qE, qF]
      refine gP (i := 16) (v := ?kv38) rfl ?ky38 ?kr38
      case ky38 => (intro w hSw; clear hSw; (try simp only [qA, qB, qC]); go_simp; (try with_reducible rfl))
      try simp only [Act.put, qA, qB, qC, qD, qE, qF]
      refine gP (i := 17) (v := ?kv39) rfl ?ky39 ?kr39
      case ky39 => (intro w hSw; clear hSw; (try simp only [qA, qB, qC]); go_simp; (try with_reducible rfl))
      try simp only [Act.put, qA, qB, qC, qD, qE, qF]
      refine gP (i := 18) (v := ?kv40) rfl ?ky40 ?kr40
      case ky40 => (intro w hSw; clear hSw; (try simp only [qA, qB, qC]); go_simp; (try with_reducible rfl))
      try simp only [Act.put, qA, qB, qC, qD, qE, qF]
      refine gP (i := 19) (v := ?kv41) rfl ?ky41 ?kr41
      case ky41 => (intro w hSw; clear hSw; (try simp only [qA, qB, qC]); go_simp; (try with_reducible rfl))
      try simp only [Act.put, qA, qB, qC, qD, qE, qF]
      refine wpAnyF_done (by kernel_rfl) ?_ _
      have hx4 := grow_trans hx3 b4
      have hB6 : Below x4.heap.size x4 (x4.alloc (.cells #[.slice (some ⟨g4, 0, none⟩) 64 cap4] 22)) := grow_alloc (Below.refl _ _) _
      have hR6 := RowB.below (RowB.below HV.out.1 hx4) hB6
      have hby := BRow.byteAt (S := fun q => w.heap.size ≤ q) (hr4.below hB6) HV.out.2.2.1.symm (Nat.le_trans (Nat.le_trans HV.out.2.1.size hx3.size) (BRow.ge hr4))
      have H6 := Lib.hid (And.intro hR6 (And.intro hby (And.intro hx4 hB6)))
      clear hS hHeld c0 c1 c2 c3 c4 c5 c6 hx3 b3 b4 hr4 hc4 hx4 hB6 hR6 hby
      go_wp2_with (at_builtin; refine list_appG elemBytesK (v := V) rfl _ _ rfl rfl H6.out.1 rfl (by rw [objAt_alloc, if_pos rfl]) rfl (by simp [Value.oneCell']) hkl (BEl (fun q => w.heap.size ≤ q)) lk (fun w7 hk7 => ⟨fun a c h => BEl.own H6.out.1 (by decide) hk7 a c h, BEl.own H6.out.1 (by decide) hk7 _ _ ⟨_, rfl, H6.out.2.1⟩⟩) ?_; intro g7 cap7 w7 hv7 hk7 ho7 hl7)
      have hle : w.heap.size ≤ (x4.alloc (.cells #[.slice (some ⟨g4, 0, none⟩) 64 cap4] 22)).heap.size := Nat.le_trans HV.out.2.1.size (Nat.le_trans H6.out.2.2.1.size H6.out.2.2.2.size)
      have hfin : Below w.heap.size w w7 := (grow_trans HV.out.2.1 (grow_trans H6.out.2.2.1 H6.out.2.2.2)).trans (hk7.below hle (fun q e => H6.out.1.own q e))
      have hrow7 := RowG.mono (S2 := fun q => w.heap.size ≤ q) hv7 (fun q hq => hq.elim id (Nat.le_trans hle))
      rw [← Hsu.out] at hrow7
      go_roundw
      case rel => exact ⟨k + 1, _, by omega, by go_num, rfl, by rw [logRows_length] at hrow7 ⊢; exact hrow7, hfin⟩
      case measure => simp [Go.RowKit.intOf]; omega
    · obtain rfl : k = s.log := by omega
      obtain ⟨g, cap, rfl⟩ := RowG.form hV (by rw [logRows_length]; exact hl0)
      have hn : ¬ ((s.log : Int) < (s.log : Int)) := by omega
      have hB1 : Below wr.heap.size wr (wr.alloc (.map #[] 0)) := grow_alloc (Below.refl _ _) _
      have hV1 := RowB.below hV hB1
      rw [logRows_length] at hV1 ⊢
      have H1 := Lib.hid (And.intro (MapI.made wr) (And.intro (grow_trans hbel hB1) (And.intro hbel.size hV1)))
      clear hV hbel hvr hB1 hV1
      go_wp2_with fail
      go_step3
      simp only [Exit.then]
      go_step
      refine HF.out 0 _ _ _ ?_ rfl
      exact ⟨rfl, H1.out.2.1, g, cap, _, H1.out.1, H1.out.2.2.1, H1.out.2.2.2, ⟨_, rfl, ⟨rfl, rfl, rfl, rfl, rfl, rfl, trivial⟩, rfl⟩⟩
end Go.Proofs.YtbbnejehglonjaaGreat
