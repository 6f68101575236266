/- DERIVED. Contracts and laws that the proofs of this seat share, part 18 of 36: PvE PvF DvF. -/
import Derived.Test.YtbbnejehglonjaaGreatMh00
import Derived.Test.YtbbnejehglonjaaGreatMh09
import Derived.Test.YtbbnejehglonjaaGreatMh12
import Derived.Test.YtbbnejehglonjaaGreatMh15
import Derived.Test.YtbbnejehglonjaaGreatMh17
namespace Go.Proofs.YtbbnejehglonjaaGreat
set_option maxHeartbeats 8000000
set_option maxRecDepth 100000
set_option linter.unusedSimpArgs false
set_option linter.unusedVariables false
section
open Go.RowKit
attribute [local irreducible] Calls

def beginsStep (lb : UInt8) (st : Nat × Bool) (k : Nat) (b : List UInt8) : Nat × Bool :=
 if (takeAnchor lb b).2 = true ∧ (takeAnchor lb b).1 % 2 = k ∧ (st.2 = false ∨ st.1 < (takeAnchor lb b).1) then ((takeAnchor lb b).1, true) else st
def beginsUpto (lb : UInt8) (e0 : Nat) (seen : List (List UInt8)) (k : Nat) : Nat × Bool := (List.range k).foldl (fun st i => beginsStep lb st i (seen.getD i [])) (e0, false)
theorem beginsUpto_succ (lb : UInt8) (e0 : Nat) (seen : List (List UInt8)) (k : Nat) : beginsUpto lb e0 seen (k + 1) = beginsStep lb (beginsUpto lb e0 seen k) k (seen.getD k []) := by
 unfold beginsUpto; rw [List.range_succ, List.foldl_append]; rfl
theorem VolO.epoch {w : World} {v d reg : Nat} {s : Sh} {epoch seq : Nat} {used : Int} {bv : Value} {m : Nat} (h : VolO w v d reg s epoch seq used bv m) (e : Nat) : VolO (w.setCell ⟨v, 4 + 4, none⟩ (.int .u32 e)) v d reg s e seq used bv m := by
 unfold VolO at *
 rw [objAt_setCell h]; rfl
theorem begins_any {w : World} {Sd : Nat → Prop} {v d reg : Nat} {s : Sh} {e0 seq m : Nat} {used : Int} {bv : Value} {D : Dv} {c : Nat} {R : Reg} (hv : VolO w v d reg s e0 seq used bv m) (hvS : ¬ Sd v) (hd : DevAt w Sd d D c) (hR : D.regs[reg]? = some R) (h2 : 2 ≤ R.seen.length) :
 Calls Tryz.prog 113 #[.pointer (some ⟨v, 0, none⟩)] w fun e w' => e = .returned (.bool (beginsUpto s.lb e0 R.seen 2).2) ∧ Keeps (fun q => q = v) w w' ∧ VolO w' v d reg s (beginsUpto s.lb e0 R.seen 2).1 seq used bv m := by
 have H0 := Lib.hid (And.intro hv (And.intro hvS (And.intro hd (And.intro hR h2))))
 clear hv hvS hd hR h2
 go_enter Tryz.func113, Tryz.ntmps113
 go_wp2_with fail
 go_loopw [2, 8] (fun s2 i wr => ∃ k : Nat, k ≤ 2 ∧ i = .int .i64 k ∧ s2 = .bool (beginsUpto s.lb e0 R.seen k).2 ∧ Keeps (fun q => q = v) w wr ∧ VolO wr v d reg s (beginsUpto s.lb e0 R.seen k).1 seq used bv m) (fun _ i _ => 2 - (Go.RowKit.intOf i).toNat)
 case atStart => exact ⟨0, by decide, rfl, rfl, Keeps.refl _ _, H0.out.1⟩
 case round =>
  obtain ⟨k, hk, rfl, rfl, hK, hV⟩ := hrel
  by_cases hlt : k < 2
  · have hlti : (k : Int) < 2 := by omega
    obtain ⟨l, hl⟩ : ∃ l, R.seen[k]? = some l := ⟨_, List.getElem?_eq_getElem (by have := H0.out.2.2.2.2; omega)⟩
    have hgl : R.seen.getD k [] = l := by rw [List.getD_eq_getElem?_getD, hl]; rfl
    have hl64 : l.length = 64 := (H0.out.2.2.1.ok.regs R (List.mem_of_getElem? H0.out.2.2.2.1)).l1 l (List.mem_of_getElem? hl)
    have hd := H0.out.2.2.1.keeps hK (fun g hg e => H0.out.2.1 (e ▸ hg))
    have Hrd := Lib.hid (fun w' (hb : Below wr.heap.size wr w') => (hd.below hb).read H0.out.2.2.2.1 hl)
    have Hst := Lib.hid (beginsUpto_succ s.lb e0 R.seen k)
    rw [hgl] at Hst
    have c0 := VolO.c0 hV
    have c1 := VolO.c1 hV
    have HV := Lib.hid (And.intro hV hK)
    obtain ⟨st, hst⟩ : ∃ st, st = beginsUpto s.lb e0 R.seen k := ⟨_, rfl⟩
    rw [← hst] at HV Hst ⊢
    clear hV hK hd hl hgl hst
    go_upto_region 4 with fail
    refine wp_region_F [9] (S := fun w' => w'.cell? ⟨v, 0, none⟩ = some (.pointer (some ⟨d, 0, none⟩)) ∧ w'.cell? ⟨v, 1, none⟩ = some (.int .i64 reg) ∧ True) (by kernel_rfl) (⟨c0, c1, trivial⟩) (fun hHeld => ?_)
    show wpAnyF _ _ _ _ _ _ 15 #[false, false, false, false, false, false, false, false, false, false, false, false, false, false, false] _ _
    refine gF 0 [0, 1, 2, 3, 9, 10, 11, 12, 13, 14] ?_; try simp only [Act.put, qs]
    refine gF 1 [1, 2, 3, 9, 10, 11, 12, 13, 14] ?_; try simp only [Act.put, qs]
    refine gF 2 [2, 3, 9, 10, 11, 12, 13, 14] ?_; try simp only [Act.put, qs]
    refine gF 3 [3, 9, 10, 11, 12, 13, 14] ?_; try simp only [Act.put, qs]
    refine gF 4 [4, 5, 6, 7, 9, 10, 11, 12, 13, 14] ?_; try simp only [Act.put, qs]
    refine gF 5 [5, 6, 7, 9, 10, 11, 12, 13, 14] ?_; try simp only [Act.put, qs]
    refine gF 6 [6, 7, 9, 10, 11, 12, 13, 14] ?_; try simp only [Act.put, qs]
    refine gF 7 [7, 9, 10, 11, 12, 13, 14] ?_; try simp only [Act.put, qs]
    refine gF 8 [8, 9, 10, 11, 12, 13, 14] ?_; try simp only [Act.put, qs]
    refine gV 9 fun K hK => ?_
    try simp only [qs]
    go_simp
    go_at_call 107; refine (Hrd.out _ (Below.refl _ _).drew).mono ?_; rintro e w2 ⟨g2, cap2, rfl, hr2, hc2, b2⟩
    refine hK.out _ _ (trivial) (fun hN => ?_); replace hHeld := hN; clear hK K hN
    try simp only [qs]
    refine gP 10 ?_; try simp only [Act.put, qs]
    refine gP 11 ?_; try simp only [Act.put, qs]
    refine gP 12 ?_; try simp only [Act.put, qs]
    refine gP 13 ?_; try simp only [Act.put, qs]
    refine gP 14 ?_; try simp only [Act.put, qs]
    refine wpAnyF_done (by kernel_rfl) ?_ _
    have hB2 : Below wr.heap.size wr w2 := (Below.refl wr.heap.size wr).drew.trans b2
    have hV2 := grow_obj hB2 HV.out.1
    have c3 := VolO.c7 hV2
    have c4 := VolO.c8 hV2
    have Hta := Lib.hid (TakeAnchor_any s.lb l hl64 g2 cap2 w2 (BRow.bytesAt hr2).1 hc2)
    obtain ⟨⟨te, ti⟩, hT⟩ : ∃ T, T = takeAnchor s.lb l := ⟨_, rfl⟩
    unfold beginsStep at Hst
    rw [← hT] at Hta Hst
    dsimp only at Hta Hst
    obtain ⟨sn, sb⟩ := st
    dsimp only at Hst HV hV2 c4 ⊢
    have H2 := Lib.hid (And.intro hB2 hV2)
    clear hT hr2 hc2 b2 hB2 hV2 c0 c1 hHeld hl64
    cases ti with
    | false =>
      go_wp2_with (first | (go_at_call 171; refine Hta.out.mono ?_; rintro e w3 ⟨rfl, b3⟩; have hV3 := grow_obj b3 H2.out.2; have c5 := VolO.c8 hV3; have f5 := VolO.free hV3 8; have H3 := Lib.hid (And.intro (grow_trans H2.out.1 b3) hV3); clear c3 c4 b3 hV3) | (go_at_call 169; refine (Anchor_any te _).mono ?_; rintro e w4 ⟨rfl, hw4⟩; obtain rfl := hw4.symm))
      go_roundw
      case rel => exact ⟨k + 1, by omega, by go_num, by rw [Hst.out, if_neg (fun h => by cases h.1)], HV.out.2.trans (Keeps.of_below H3.out.1), by rw [Hst.out, if_neg (fun h => by cases h.1)]; exact H3.out.2⟩
      case measure => simp [Go.RowKit.intOf]; omega
    | true =>
      by_cases hp : te % 2 = k
      · have hp1 : (((te % 2 : Nat) : Int) == (k : Int)) = true := by simpa using by omega
        have hp2 : ((te : Int) % 2 == (k : Int)) = true := by simpa using by omega
        have Hp := Lib.hid hp
        clear hp
        cases sb with
        | false =>
          go_wp2_with (first | (go_at_call 171; refine Hta.out.mono ?_; rintro e w3 ⟨rfl, b3⟩; have hV3 := grow_obj b3 H2.out.2; have c5 := VolO.c8 hV3; have f5 := VolO.free hV3 8; have H3 := Lib.hid (And.intro (grow_trans H2.out.1 b3) hV3); clear c3 c4 b3 hV3) | (go_at_call 169; refine (Anchor_any te _).mono ?_; rintro e w4 ⟨rfl, hw4⟩; obtain rfl := hw4.symm))
          go_roundw
          case rel => exact ⟨k + 1, by omega, by go_num, by rw [Hst.out, if_pos (by first | exact ⟨rfl, Hp.out, .inl rfl⟩ | exact ⟨trivial, Hp.out, .inl trivial⟩)], (HV.out.2.trans (Keeps.of_below H3.out.1)).trans (Keeps.setCell _ _ _ rfl), by rw [Hst.out, if_pos (by first | exact ⟨rfl, Hp.out, .inl rfl⟩ | exact ⟨trivial, Hp.out, .inl trivial⟩)]; exact VolO.epoch H3.out.2 te⟩
          case measure => simp [Go.RowKit.intOf]; omega
        | true =>
          by_cases hs : sn < te
          · have hs1 : (sn : Int) < (te : Int) := by omega
            go_wp2_with (first | (go_at_call 171; refine Hta.out.mono ?_; rintro e w3 ⟨rfl, b3⟩; have hV3 := grow_obj b3 H2.out.2; have c5 := VolO.c8 hV3; have f5 := VolO.free hV3 8; have H3 := Lib.hid (And.intro (grow_trans H2.out.1 b3) hV3); clear c3 c4 b3 hV3) | (go_at_call 169; refine (Anchor_any te _).mono ?_; rintro e w4 ⟨rfl, hw4⟩; obtain rfl := hw4.symm))
            go_roundw
            case rel => exact ⟨k + 1, by omega, by go_num, by rw [Hst.out, if_pos (by first | exact ⟨rfl, Hp.out, .inr hs⟩ | exact ⟨trivial, Hp.out, .inr hs⟩)], (HV.out.2.trans (Keeps.of_below H3.out.1)).trans (Keeps.setCell _ _ _ rfl), by rw [Hst.out, if_pos (by first | exact ⟨rfl, Hp.out, .inr hs⟩ | exact ⟨trivial, Hp.out, .inr hs⟩)]; exact VolO.epoch H3.out.2 te⟩
            case measure => simp [Go.RowKit.intOf]; omega
          · have hs1 : ¬ ((sn : Int) < (te : Int)) := by omega
            go_wp2_with (first | (go_at_call 171; refine Hta.out.mono ?_; rintro e w3 ⟨rfl, b3⟩; have hV3 := grow_obj b3 H2.out.2; have c5 := VolO.c8 hV3; have f5 := VolO.free hV3 8; have H3 := Lib.hid (And.intro (grow_trans H2.out.1 b3) hV3); clear c3 c4 b3 hV3) | (go_at_call 169; refine (Anchor_any te _).mono ?_; rintro e w4 ⟨rfl, hw4⟩; obtain rfl := hw4.symm))
            go_roundw
            case rel => exact ⟨k + 1, by omega, by go_num, by rw [Hst.out, if_neg (fun h => h.2.2.elim (fun e => by cases e) hs)], HV.out.2.trans (Keeps.of_below H3.out.1), by rw [Hst.out, if_neg (fun h => h.2.2.elim (fun e => by cases e) hs)]; exact H3.out.2⟩
            case measure => simp [Go.RowKit.intOf]; omega
      · have hp1 : (((te % 2 : Nat) : Int) == (k : Int)) = false := by simpa using by omega
        have hp2 : ((te : Int) % 2 == (k : Int)) = false := by simpa using by omega
        go_wp2_with (first | (go_at_call 171; refine Hta.out.mono ?_; rintro e w3 ⟨rfl, b3⟩; have hV3 := grow_obj b3 H2.out.2; have c5 := VolO.c8 hV3; have f5 := VolO.free hV3 8; have H3 := Lib.hid (And.intro (grow_trans H2.out.1 b3) hV3); clear c3 c4 b3 hV3) | (go_at_call 169; refine (Anchor_any te _).mono ?_; rintro e w4 ⟨rfl, hw4⟩; obtain rfl := hw4.symm))
        go_roundw
        case rel => exact ⟨k + 1, by omega, by go_num, by rw [Hst.out, if_neg (fun h => hp h.2.1)], HV.out.2.trans (Keeps.of_below H3.out.1), by rw [Hst.out, if_neg (fun h => hp h.2.1)]; exact H3.out.2⟩
        case measure => simp [Go.RowKit.intOf]; omega
  · obtain rfl : k = 2 := by omega
    have H := Lib.hid (And.intro hK hV)
    clear hK hV
    go_wp2_with fail
    go_ret
    exact ⟨rfl, H.out.1, H.out.2⟩

theorem read_any {w : World} {Sd : Nat → Prop} {v d reg : Nat} {s : Sh} {epoch seq m : Nat} {used : Int} {bv : Value} {D : Dv} {c : Nat} {R : Reg} (hs : s.Ok) (hv : VolO w v d reg s epoch seq used bv m) (hd : DevAt w Sd d D c) (hR : D.regs[reg]? = some R) (a : Nat) (ha : a < s.blocks) (b : Blk) (hk : 0 ≤ b.kind ∧ b.kind ≤ 7) (hb : R.seen[2 + s.log + a]? = some (sealB s.lb a b)) :
 Calls Tryz.prog 115 #[.pointer (some ⟨v, 0, none⟩), .int .i64 a] w fun e w' => e = .returned (.tuple #[.agg b.cells, .bool true]) ∧ Below w.heap.size w w' := by
 have hX : BlkAt (w.alloc (.cells Blk.zero.cells 37)) w.heap.size Blk.zero := BlkAt.alloc_new w _
 have hB0 : Below w.heap.size w (w.alloc (.cells Blk.zero.cells 37)) := grow_alloc (Below.refl _ _) _
 have hv1 := grow_obj hB0 hv
 obtain ⟨G, hG⟩ : ∃ G, G = w.heap.size := ⟨_, rfl⟩
 obtain ⟨w1, hw1⟩ : ∃ w1, w1 = w.alloc (.cells Blk.zero.cells 37) := ⟨_, rfl⟩
 rw [← hw1] at hX hB0 hv1
 rw [← hG] at hX
 have hrd := fun w' (hb' : Below w1.heap.size w1 w') => ((hd.below hB0).below hb').read hR hb
 have HG := Lib.hid (And.intro hG hw1)
 have Hrd := Lib.hid hrd
 have c0 := VolO.c0 hv1
 have c1 := VolO.c1 hv1
 have c2 := VolO.c2 hv1
 have c3 := VolO.c3 hv1
 have c4 := VolO.c4 hv1
 have c5 := VolO.c5 hv1
 have c6 := VolO.c6 hv1
 have H1 := Lib.hid (And.intro hX (And.intro hB0 (And.intro hv1 hs)))
 have hbl := hs.blocks
 have ha2 : a < 200 := by omega
 clear hX hB0 hv1 hG hw1 hrd hd hR hb hv hbl
 go_enter Tryz.func115, Tryz.ntmps115
 go_upto_region 1 with fail
 rw [← HG.out.2, ← HG.out.1]
 have hS : ∀ w', Below w1.heap.size w1 w' → w'.cell? ⟨v, 0, none⟩ = some (.pointer (some ⟨d, 0, none⟩)) ∧ w'.cell? ⟨v, 1, none⟩ = some (.int .i64 reg) ∧ w'.cell? ⟨v, 2, none⟩ = some (.int .i64 s.level) ∧ w'.cell? ⟨v, 3, none⟩ = some (.int .i64 s.cats) ∧ w'.cell? ⟨v, 4, none⟩ = some (.int .i64 s.blocks) ∧ w'.cell? ⟨v, 5, none⟩ = some (.int .i64 s.log) ∧ w'.cell? ⟨v, 6, none⟩ = some (.int .i64 s.frames) ∧ True :=
  fun w' hb => ⟨grow_cell hb c0, grow_cell hb c1, grow_cell hb c2, grow_cell hb c3, grow_cell hb c4, grow_cell hb c5, grow_cell hb c6, trivial⟩
 refine wp_region_F [14] (S := fun w' => w'.cell? ⟨v, 0, none⟩ = some (.pointer (some ⟨d, 0, none⟩)) ∧ w'.cell? ⟨v, 1, none⟩ = some (.int .i64 reg) ∧ w'.cell? ⟨v, 2, none⟩ = some (.int .i64 s.level) ∧ w'.cell? ⟨v, 3, none⟩ = some (.int .i64 s.cats) ∧ w'.cell? ⟨v, 4, none⟩ = some (.int .i64 s.blocks) ∧ w'.cell? ⟨v, 5, none⟩ = some (.int .i64 s.log) ∧ w'.cell? ⟨v, 6, none⟩ = some (.int .i64 s.frames) ∧ True) (by kernel_rfl) (hS _ (Below.refl _ _).drew) (fun hHeld => ?_)
 show wpAnyF _ _ _ _ _ _ 20 #[false, false, false, false, false, false, false, false, false, false, false, false, false, false, false, false, false, false, false, false] _ _
 refine gF 0 [0, 1, 2, 3, 14, 15, 16, 17, 18, 19] ?_; try simp only [Act.put, qs]
 refine gF 1 [1, 2, 3, 14, 15, 16, 17, 18, 19] ?_; try simp only [Act.put, qs]
 refine gF 2 [2, 3, 14, 15, 16, 17, 18, 19] ?_; try simp only [Act.put, qs]
 refine gF 3 [3, 14, 15, 16, 17, 18, 19] ?_; try simp only [Act.put, qs]
 refine gF 4 [4, 5, 6, 7, 14, 15, 16, 17, 18, 19] ?_; try simp only [Act.put, qs]
 refine gF 5 [5, 6, 7, 14, 15, 16, 17, 18, 19] ?_; try simp only [Act.put, qs]
 refine gF 6 [6, 7, 14, 15, 16, 17, 18, 19] ?_; try simp only [Act.put, qs]
 refine gF 7 [7, 14, 15, 16, 17, 18, 19] ?_; try simp only [Act.put, qs]
 refine gF 8 [8, 9, 10, 11, 13, 14, 15, 16, 17, 18, 19] ?_; try simp only [Act.put, qs]
 refine gF 9 [9, 10, 11, 13, 14, 15, 16, 17, 18, 19] ?_; try simp only [Act.put, qs]
 refine gF 10 [10, 11, 13, 14, 15, 16, 17, 18, 19] ?_; try simp only [Act.put, qs]
 refine gF 11 [11, 13, 14, 15, 16, 17, 18, 19] ?_; try simp only [Act.put, qs]
 refine gF 12 [12, 13, 14, 15, 16, 17, 18, 19] ?_; try simp only [Act.put, qs]
 refine gW 13 fun K hK => ?_
 try simp only [qs]
 go_simp
 go_at_call 167; refine (Home_any s H1.out.2.2.2 a ha _).mono ?_; rintro e x3 ⟨rfl, b3⟩; have hx3 : Below w1.heap.size w1 x3 := (Below.refl _ _).drew.trans b3
 refine hK.out _ _ (by exact hS _ hx3) (fun hN => ?_); replace hHeld := hN; clear hK K hN
 try simp only [qs]
 refine gV 14 fun K hK => ?_
 try simp only [qs]
 go_simp
 go_at_call 107; refine (Hrd.out _ hx3).mono ?_; rintro e x4 ⟨g4, cap4, rfl, hr4, hc4, b4⟩
 refine hK.out _ _ (trivial) (fun hN => ?_); replace hHeld := hN; clear hK K hN
 try simp only [qs]
 refine gP 15 ?_; try simp only [Act.put, qs]
 refine gP 16 ?_; try simp only [Act.put, qs]
 refine gP 17 ?_; try simp only [Act.put, qs]
 refine gP 18 ?_; try simp only [Act.put, qs]
 refine gP 19 ?_; try simp only [Act.put, qs]
 refine wpAnyF_done (by kernel_rfl) ?_ _
 have hx4 := grow_trans hx3 b4
 have hv4 := grow_obj hx4 H1.out.2.2.1
 have hX4 := H1.out.1.below hx4 (block_lt H1.out.1)
 have c7 := VolO.c7 hv4
 have Ho := Lib.hid (Open_any s.lb a b hk ha2 g4 cap4 x4 (BRow.bytesAt hr4).1 hc4)
 have H4 := Lib.hid (And.intro (H1.out.2.1.trans (hx4.mono H1.out.2.1.size)) hX4)
 clear hx3 b3 b4 hr4 hc4 hx4 hv4 hX4 hS hHeld c0 c1 c2 c3 c4 c5 c6 hk
 go_wp2_with (go_at_call 173; refine Ho.out.mono ?_; rintro e w5 ⟨rfl, b5⟩; have hX5 := H4.out.2.below b5 (block_lt H4.out.2); have hbk := hX5.has; have hB5 := Lib.hid (grow_trans H4.out.1 b5); have HX5 := Lib.hid hX5; clear hX5 b5)
 refine bodyPost_ret (results_two rfl (resOne_blk rfl (BlkAt.setRow HX5.out b).row) (resOne_tmp _ _ _)) rfl ?_
 exact ⟨rfl, hB5.out.setRow (by rw [HG.out.1]; exact Nat.le_refl _) _⟩
end
section
open Go.RowKit
attribute [local irreducible] Calls

def logRows (_ : Sh) (seen : List (List UInt8)) (k : Nat) : List (List UInt8) := (List.range k).map fun i => seen.getD (2 + i) []
theorem logRows_succ (s : Sh) (seen : List (List UInt8)) (k : Nat) : logRows s seen (k + 1) = logRows s seen k ++ [seen.getD (2 + k) []] := by
 unfold logRows; rw [List.range_succ, List.map_append]; rfl
theorem logRows_length (s : Sh) (seen : List (List UInt8)) (k : Nat) : (logRows s seen k).length = k := by simp [logRows]
def ReplJ (w : World) (x0 : Value) (s : Sh) (seen : List (List UInt8)) (l : Nat) (a' : Act) (w' : World) : Prop :=
 l = 0 ∧ Below w.heap.size w w' ∧ ∃ g cap m2, MapI w' m2 [] ∧ w.heap.size ≤ m2 ∧ RowB w' (fun q => w.heap.size ≤ q) (.slice (some ⟨g, 0, none⟩) s.log cap) (logRows s seen s.log) ∧ ∃ A : Array Value, A.size = 89 ∧ (A.getD 0 undef = x0 ∧ A.getD 3 undef = .slice (some ⟨g, 0, none⟩) s.log cap ∧ A.getD 7 undef = .map (some m2) ∧ A.getD 8 undef = .slice none 0 0 ∧ A.getD 9 undef = .int .i64 0 ∧ A.getD 10 undef = .bool false ∧ True) ∧ a' = { tmps := A, defers := [] }
theorem frame89 (A : Array Value) (h : A.size = 89) : A = #[A.getD 0 undef, A.getD 1 undef, A.getD 2 undef, A.getD 3 undef, A.getD 4 undef, A.getD 5 undef, A.getD 6 undef, A.getD 7 undef, A.getD 8 undef, A.getD 9 undef, A.getD 10 undef, A.getD 11 undef, A.getD 12 undef, A.getD 13 undef, A.getD 14 undef, A.getD 15 undef, A.getD 16 undef, A.getD 17 undef, A.getD 18 undef, A.getD 19 undef, A.getD 20 undef, A.getD 21 undef, A.getD 22 undef, A.getD 23 undef, A.getD 24 undef, A.getD 25 undef, A.getD 26 undef, A.getD 27 undef, A.getD 28 undef, A.getD 29 undef, A.getD 30 undef, A.getD 31 undef, A.getD 32 undef, A.getD 33 undef, A.getD 34 undef, A.getD 35 undef, A.getD 36 undef, A.getD 37 undef, A.getD 38 undef, A.getD 39 undef, A.getD 40 undef, A.getD 41 undef, A.getD 42 undef, A.getD 43 undef, A.getD 44 undef, A.getD 45 undef, A.getD 46 undef, A.getD 47 undef, A.getD 48 undef, A.getD 49 undef, A.getD 50 undef, A.getD 51 undef, A.getD 52 undef, A.getD 53 undef, A.getD 54 undef, A.getD 55 undef, A.getD 56 undef, A.getD 57 undef, A.getD 58 undef, A.getD 59 undef, A.getD 60 undef, A.getD 61 undef, A.getD 62 undef, A.getD 63 undef, A.getD 64 undef, A.getD 65 undef, A.getD 66 undef, A.getD 67 undef, A.getD 68 undef, A.getD 69 undef, A.getD 70 undef, A.getD 71 undef, A.getD 72 undef, A.getD 73 undef, A.getD 74 undef, A.getD 75 undef, A.getD 76 undef, A.getD 77 undef, A.getD 78 undef, A.getD 79 undef, A.getD 80 undef, A.getD 81 undef, A.getD 82 undef, A.getD 83 undef, A.getD 84 undef, A.getD 85 undef, A.getD 86 undef, A.getD 87 undef, A.getD 88 undef] := frame_list A 89 h
theorem replays_none {w : World} {Sd : Nat → Prop} {v d reg : Nat} {s : Sh} {epoch seq m : Nat} {used : Int} {bv : Value} {D : Dv} {c : Nat} {R : Reg} (hs : s.Ok) (hv : VolO w v d reg s epoch seq used bv m) (hd : DevAt w Sd d D c) (hR : D.regs[reg]? = some R) (hsz : R.seen.length = s.size) (hl0 : 0 < s.log)
 {l : List UInt8} (hl : R.seen[2]? = some l) (h10 : l[10]? = some 0) (he : epoch < 4294967296) (hq : seq < 4294967296) :
 Calls Tryz.prog 114 #[.pointer (some ⟨v, 0, none⟩)] w fun e w' => ∃ m2, e = .returned (.map (some m2)) ∧ MapI w' m2 [] ∧ w.heap.size ≤ m2 ∧ Below w.heap.size w w' := by
 have hmm : ∀ w, (Instr.makeMap 132 none).run Tryz.prog w = .ok (.map (some w.heap.size)) (w.alloc (.map #[] 0)) := fun w => run_makeMap _ w
 have hl64 : l.length = 64 := (hd.ok.regs R (List.mem_of_getElem? hR)).l1 l (List.mem_of_getElem? hl)
 have hlog := hs.log
 have c5 := VolO.c5 hv
 have H0 := Lib.hid (And.intro hv (And.intro hd (And.intro hR (And.intro hsz (And.intro hs (And.intro hl (And.intro hl64 h10)))))))
 clear hv hd hR hsz hs hl hl64 h10
 go_enter Tryz.func114, Tryz.ntmps114
 go_wp2_with fail
 refine wp_scope_labels (ReplJ w (.pointer (some ⟨v, 0, none⟩)) s R.seen) (fun l _ _ => l) ?_ ?_ ?_
 · rintro l a w' ⟨rfl, _⟩; exact ⟨_, rfl⟩
 · rintro l rest a w1 ⟨rfl, hbel, g, cap, m2, hM, hmw, hV1, ⟨A, hA, ⟨hA0, hA3, hA7, hA8, hA9, hA10, _⟩, rfl⟩⟩ hrest
   obtain rfl := (Code.seq.inj (Option.some.inj hrest)).2
   rw [frame89 A hA, hA0, hA3, hA7, hA8, hA9, hA10]
   clear hrest
   have hfirst : (logRows s R.seen s.log)[0]? = some l := by
    unfold logRows
    rw [List.getElem?_map, List.getElem?_range hl0, Option.map_some, List.getD_eq_getElem?_getD, H0.out.2.2.2.2.2.1]; rfl
   have hv1 := grow_obj hbel H0.out.1
   have HT := Lib.hid (Take_none s.lb epoch seq (RowB.below hV1 (Below.refl _ _).drew) (by omega) hfirst H0.out.2.2.2.2.2.2.1 H0.out.2.2.2.2.2.2.2 he hq)
   have H1 := Lib.hid (And.intro hM (And.intro hbel hmw))
   have c7 := VolO.c7 hv1
   have c8 := VolO.c8 hv1
   have c9 := VolO.c9 hv1
   clear hbel hfirst hM hv1 hV1 hmw c5 hmm
   go_upto_region 13 with fail
   refine wp_region_F [13] (S := fun w' => w'.cell? ⟨v, 7, none⟩ = some (.int .u8 (s.lb.toNat : Int)) ∧ w'.cell? ⟨v, 8, none⟩ = some (.int .u32 epoch) ∧ w'.cell? ⟨v, 9, none⟩ = some (.int .u32 seq) ∧ True) (by kernel_rfl) (⟨c7, c8, c9, trivial⟩) (fun hHeld => ?_)
   show wpAnyF _ _ _ _ _ _ 21 #[false, false, false, false, false, false, false, false, false, false, false, false, false, false, false, false, false, false, false, false, false] _ _
   refine gF 0 [0, 1, 2, 3, 13, 14, 15, 16, 17, 18, 19, 20] ?_; try simp only [Act.put, qs]
   refine gF 1 [1, 2, 3, 13, 14, 15, 16, 17, 18, 19, 20] ?_; try simp only [Act.put, qs]
   refine gF 2 [2, 3, 13, 14, 15, 16, 17, 18, 19, 20] ?_; try simp only [Act.put, qs]
   refine gF 3 [3, 13, 14, 15, 16, 17, 18, 19, 20] ?_; try simp only [Act.put, qs]
   refine gF 4 [4, 5, 6, 7, 13, 14, 15, 16, 17, 18, 19, 20] ?_; try simp only [Act.put, qs]
   refine gF 5 [5, 6, 7, 13, 14, 15, 16, 17, 18, 19, 20] ?_; try simp only [Act.put, qs]
   refine gF 6 [6, 7, 13, 14, 15, 16, 17, 18, 19, 20] ?_; try simp only [Act.put, qs]
   refine gF 7 [7, 13, 14, 15, 16, 17, 18, 19, 20] ?_; try simp only [Act.put, qs]
   refine gF 8 [8, 9, 10, 11, 13, 14, 15, 16, 17, 18, 19, 20] ?_; try simp only [Act.put, qs]
   refine gF 9 [9, 10, 11, 13, 14, 15, 16, 17, 18, 19, 20] ?_; try simp only [Act.put, qs]
   refine gF 10 [10, 11, 13, 14, 15, 16, 17, 18, 19, 20] ?_; try simp only [Act.put, qs]
   refine gF 11 [11, 13, 14, 15, 16, 17, 18, 19, 20] ?_; try simp only [Act.put, qs]
   refine gF 12 [12, 13, 14, 15, 16, 17, 18, 19, 20] ?_; try simp only [Act.put, qs]
   refine gV 13 fun K hK => ?_
   try simp only [qs]
   go_simp
   go_at_call 172; refine HT.out.mono ?_; rintro e x5 ⟨rfl, b5⟩
   refine hK.out _ _ (trivial) (fun hN => ?_); replace hHeld := hN; clear hK K hN
   try simp only [qs]
   refine gP 14 ?_; try simp only [Act.put, qs]
   refine gP 15 ?_; try simp only [Act.put, qs]
   refine gP 16 ?_; try simp only [Act.put, qs]
   refine gP 17 ?_; try simp only [Act.put, qs]
   refine gP 18 ?_; try simp only [Act.put, qs]
   refine gP 19 ?_; try simp only [Act.put, qs]
   refine gP 20 ?_; try simp only [Act.put, qs]
   refine wpAnyF_done (by kernel_rfl) ?_ _
   go_wp2_with fail
   rw [jumps_ret]
   go_ret
   have hx5 : Below w1.heap.size w1 x5 := (Below.refl w1.heap.size w1).drew.trans b5
   exact ⟨m2, rfl, H1.out.1.below hx5, H1.out.2.2, grow_trans H1.out.2.1 hx5⟩
 · intro hfall
   have HF := Lib.hid hfall
   clear hfall
   go_wp2_with fail
   clear c5
   go_loopw [3, 18] (fun s3 i wr => ∃ (k : Nat) (V : Value), k ≤ s.log ∧ i = .int .i64 k ∧ V = s3 ∧ RowB wr (fun q => w.heap.size ≤ q) V (logRows s R.seen k) ∧ Below w.heap.size w wr) (fun _ i _ => s.log - (Go.RowKit.intOf i).toNat)
   case atStart => exact ⟨0, _, Nat.zero_le _, rfl, rfl, RowG.nil _ _ _ _ _, Below.refl _ _⟩
   case round =>
    obtain ⟨k, V, hk, rfl, rfl, hV, hbel⟩ := hrel
    have hvr := grow_obj hbel H0.out.1
    by_cases hlt : k < s.log
    · have hlti : (k : Int) < (s.log : Int) := by omega
      obtain ⟨lk, hlk⟩ : ∃ lk, R.seen[2 + k]? = some lk := ⟨_, List.getElem?_eq_getElem (by rw [H0.out.2.2.2.1]; unfold Sh.size; omega)⟩
      have hgl : R.seen.getD (2 + k) [] = lk := by rw [List.getD_eq_getElem?_getD, hlk]; rfl
      have hl64 : lk.length = 64 := (H0.out.2.1.ok.regs R (List.mem_of_getElem? H0.out.2.2.1)).l1 lk (List.mem_of_getElem? hlk)
      have Hrd := Lib.hid (fun w' (hb : Below wr.heap.size wr w') => ((H0.out.2.1.below hbel).below hb).read H0.out.2.2.1 hlk)
      have Hsu := Lib.hid (logRows_succ s R.seen k)
      rw [hgl] at Hsu
      have c0 := VolO.c0 hvr
      have c1 := VolO.c1 hvr
      have c2 := VolO.c2 hvr
      have c3 := VolO.c3 hvr
      have c4 := VolO.c4 hvr
      have c5 := VolO.c5 hvr
      have c6 := VolO.c6 hvr
      have hS : ∀ w', Below wr.heap.size wr w' → w'.cell? ⟨v, 0, none⟩ = some (.pointer (some ⟨d, 0, none⟩)) ∧ w'.cell? ⟨v, 1, none⟩ = some (.int .i64 reg) ∧ w'.cell? ⟨v, 2, none⟩ = some (.int .i64 s.level) ∧ w'.cell? ⟨v, 3, none⟩ = some (.int .i64 s.cats) ∧ w'.cell? ⟨v, 4, none⟩ = some (.int .i64 s.blocks) ∧ w'.cell? ⟨v, 5, none⟩ = some (.int .i64 s.log) ∧ w'.cell? ⟨v, 6, none⟩ = some (.int .i64 s.frames) ∧ True :=
       fun w' hb => ⟨grow_cell hb c0, grow_cell hb c1, grow_cell hb c2, grow_cell hb c3, grow_cell hb c4, grow_cell hb c5, grow_cell hb c6, trivial⟩
      have HV := Lib.hid (And.intro hV (And.intro hbel (And.intro hl64 hlt)))
      have hkl : (logRows s R.seen k).length < 1000000 := by rw [logRows_length]; omega
      clear hV hbel hlk hgl hl64 hvr hmm
      go_upto_region 5 with fail
      refine wp_region_F [14] (S := fun w' => w'.cell? ⟨v, 0, none⟩ = some (.pointer (some ⟨d, 0, none⟩)) ∧ w'.cell? ⟨v, 1, none⟩ = some (.int .i64 reg) ∧ w'.cell? ⟨v, 2, none⟩ = some (.int .i64 s.level) ∧ w'.cell? ⟨v, 3, none⟩ = some (.int .i64 s.cats) ∧ w'.cell? ⟨v, 4, none⟩ = some (.int .i64 s.blocks) ∧ w'.cell? ⟨v, 5, none⟩ = some (.int .i64 s.log) ∧ w'.cell? ⟨v, 6, none⟩ = some (.int .i64 s.frames) ∧ True) (by kernel_rfl) (hS _ (Below.refl _ _).drew) (fun hHeld => ?_)
      show wpAnyF _ _ _ _ _ _ 20 #[false, false, false, false, false, false, false, false, false, false, false, false, false, false, false, false, false, false, false, false] _ _
      refine gF 0 [0, 1, 2, 3, 14, 15, 16, 17, 18, 19] ?_; try simp only [Act.put, qs]
      refine gF 1 [1, 2, 3, 14, 15, 16, 17, 18, 19] ?_; try simp only [Act.put, qs]
      refine gF 2 [2, 3, 14, 15, 16, 17, 18, 19] ?_; try simp only [Act.put, qs]
      refine gF 3 [3, 14, 15, 16, 17, 18, 19] ?_; try simp only [Act.put, qs]
      refine gF 4 [4, 5, 6, 7, 14, 15, 16, 17, 18, 19] ?_; try simp only [Act.put, qs]
      refine gF 5 [5, 6, 7, 14, 15, 16, 17, 18, 19] ?_; try simp only [Act.put, qs]
      refine gF 6 [6, 7, 14, 15, 16, 17, 18, 19] ?_; try simp only [Act.put, qs]
      refine gF 7 [7, 14, 15, 16, 17, 18, 19] ?_; try simp only [Act.put, qs]
      refine gF 8 [8, 9, 10, 11, 13, 14, 15, 16, 17, 18, 19] ?_; try simp only [Act.put, qs]
      refine gF 9 [9, 10, 11, 13, 14, 15, 16, 17, 18, 19] ?_; try simp only [Act.put, qs]
      refine gF 10 [10, 11, 13, 14, 15, 16, 17, 18, 19] ?_; try simp only [Act.put, qs]
      refine gF 11 [11, 13, 14, 15, 16, 17, 18, 19] ?_; try simp only [Act.put, qs]
      refine gF 12 [12, 13, 14, 15, 16, 17, 18, 19] ?_; try simp only [Act.put, qs]
      refine gW 13 fun K hK => ?_
      try simp only [qs]
      go_simp
      go_at_call 123; refine (Log_any s H0.out.2.2.2.2.1 k HV.out.2.2.2 _).mono ?_; rintro e x3 ⟨rfl, b3⟩; have hx3 : Below wr.heap.size wr x3 := (Below.refl _ _).drew.trans b3
      refine hK.out _ _ (by exact hS _ hx3) (fun hN => ?_); replace hHeld := hN; clear hK K hN
      try simp only [qs]
      refine gV 14 fun K hK => ?_
      try simp only [qs]
      go_simp
      go_at_call 107; refine (Hrd.out _ hx3).mono ?_; rintro e x4 ⟨g4, cap4, rfl, hr4, hc4, b4⟩
      refine hK.out _ _ (trivial) (fun hN => ?_); replace hHeld := hN; clear hK K hN
      try simp only [qs]
      refine gP 15 ?_; try simp only [Act.put, qs]
      refine gP 16 ?_; try simp only [Act.put, qs]
      refine gP 17 ?_; try simp only [Act.put, qs]
      refine gP 18 ?_; try simp only [Act.put, qs]
      refine gP 19 ?_; try simp only [Act.put, qs]
      refine wpAnyF_done (by kernel_rfl) ?_ _
      have hx4 := grow_trans hx3 b4
      have hB6 : Below x4.heap.size x4 (x4.alloc (.cells #[.slice (some ⟨g4, 0, none⟩) 64 cap4] 22)) := grow_alloc (Below.refl _ _) _
      have hR6 := RowB.below (RowB.below HV.out.1 hx4) hB6
      have hby := BRow.byteAt (S := fun q => w.heap.size ≤ q) (hr4.below hB6) HV.out.2.2.1.symm (Nat.le_trans (Nat.le_trans HV.out.2.1.size hx3.size) (BRow.ge hr4))
      have H6 := Lib.hid (And.intro hR6 (And.intro hby (And.intro hx4 hB6)))
      clear hS hHeld c0 c1 c2 c3 c4 c5 c6 hx3 b3 b4 hr4 hc4 hx4 hB6 hR6 hby
      go_wp2_with (at_builtin; refine list_appG elemBytesK (v := V) rfl _ _ rfl rfl H6.out.1 rfl (by rw [objAt_alloc, if_pos rfl]) rfl (by simp [Value.oneCell']) hkl (BEl (fun q => w.heap.size ≤ q)) lk (fun w7 hk7 => ⟨fun a c h => BEl.own H6.out.1 (by decide) hk7 a c h, BEl.own H6.out.1 (by decide) hk7 _ _ ⟨_, rfl, H6.out.2.1⟩⟩) ?_; intro g7 cap7 w7 hv7 hk7 ho7 hl7)
      have hle : w.heap.size ≤ (x4.alloc (.cells #[.slice (some ⟨g4, 0, none⟩) 64 cap4] 22)).heap.size := Nat.le_trans HV.out.2.1.size (Nat.le_trans H6.out.2.2.1.size H6.out.2.2.2.size)
      have hfin : Below w.heap.size w w7 := (grow_trans HV.out.2.1 (grow_trans H6.out.2.2.1 H6.out.2.2.2)).trans (hk7.below hle (fun q e => H6.out.1.own q e))
      have hrow7 := RowG.mono (S2 := fun q => w.heap.size ≤ q) hv7 (fun q hq => hq.elim id (Nat.le_trans hle))
      rw [← Hsu.out] at hrow7
      go_roundw
      case rel => exact ⟨k + 1, _, by omega, by go_num, rfl, by rw [logRows_length] at hrow7 ⊢; exact hrow7, hfin⟩
      case measure => simp [Go.RowKit.intOf]; omega
    · obtain rfl : k = s.log := by omega
      obtain ⟨g, cap, rfl⟩ := RowG.form hV (by rw [logRows_length]; exact hl0)
      have hn : ¬ ((s.log : Int) < (s.log : Int)) := by omega
      have hB1 : Below wr.heap.size wr (wr.alloc (.map #[] 0)) := grow_alloc (Below.refl _ _) _
      have hV1 := RowB.below hV hB1
      rw [logRows_length] at hV1 ⊢
      have H1 := Lib.hid (And.intro (MapI.made wr) (And.intro (grow_trans hbel hB1) (And.intro hbel.size hV1)))
      clear hV hbel hvr hB1 hV1
      go_wp2_with fail
      go_step3
      simp only [Exit.then]
      go_step
      refine HF.out 0 _ _ _ ?_ rfl
      exact ⟨rfl, H1.out.2.1, g, cap, _, H1.out.1, H1.out.2.2.1, H1.out.2.2.2, ⟨_, rfl, ⟨rfl, rfl, rfl, rfl, rfl, rfl, trivial⟩, rfl⟩⟩
end
section
open Go.RowKit
attribute [local go_sem] hasBlk
attribute [local irreducible] Calls
theorem DevNew_any (a : Option Addr) (l : List Int) (cap : Nat) (w : World) (hi : IntsAt w a l) (h0 : 0 < l.length) (h8 : l.length ≤ 8) (hl : ∀ n ∈ l, 1 ≤ n ∧ n ≤ 1000) :
 Calls Tryz.prog 53 #[.slice a l.length cap] w fun e w' => ∃ d, e = .returned (.tuple #[.pointer (some ⟨d, 0, none⟩), .bool true]) ∧ DevAt w' (fun q => w.heap.size ≤ q ∧ q < w'.heap.size) d ⟨l.map fun n => Reg.new n.toNat, -1⟩ 0 ∧ Below w.heap.size w w' := by
 obtain ⟨ba, off, ha, hc⟩ := hi
 obtain rfl := ha h0
 have Hc := Lib.hid (And.intro hc hl)
 have n1 : ¬ ((l.length : Int) < 1) := by omega
 have n2 : ¬ ((8 : Int) < (l.length : Int)) := by omega
 clear hc hl ha
 go_enter Tryz.func53, Tryz.ntmps53
 go_wp2_with fail
 obtain ⟨d, hd⟩ : ∃ d, d = w.heap.size := ⟨_, rfl⟩
 obtain ⟨w0, hw0⟩ : ∃ w0, w0 = w.alloc (.cells #[.slice none 0 0, .int .i64 (-1)] 202) := ⟨_, rfl⟩
 have hM0 : MidV w w0 d l 0 (.slice none 0 0) [] (fun _ _ => False) := by
  refine ⟨by rw [hw0]; exact grow_alloc (Below.refl _ _) _, by omega, by rw [hw0, hd, objAt_alloc, if_pos rfl], RowG.nil _ _ _ _ _, rfl, fun j r n hj => by simp at hj, fun j q h => h.elim, fun i j q h => h.elim⟩
 rw [← hd, ← hw0]
 have HB := Lib.hid hM0
 clear hw0 hM0 hd n1 n2
 go_loopw [20] (fun i wr => ∃ k : Nat, k ≤ l.length ∧ i = .int .i64 k ∧ Mid w wr d l k) (fun i _ => l.length - (intOf i).toNat)
 case atStart => exact ⟨0, Nat.zero_le _, rfl, _, _, _, HB.out⟩
 case round =>
  obtain ⟨ko, hko, rfl, lv, rs, SS, hM⟩ := hrel
  by_cases hlo : ko < l.length
  · have hlo' : (ko : Int) < (l.length : Int) := by omega
    have hmem : l[ko] ∈ l := List.getElem_mem hlo
    obtain ⟨n, hn⟩ := Int.eq_ofNat_of_zero_le (show 0 ≤ l[ko] by have := Hc.out.2 _ hmem; omega)
    have hge : l.getD ko 0 = (n : Int) := by rw [List.getD_eq_getElem?_getD, List.getElem?_eq_getElem hlo]; exact hn
    have hgk : l[ko]? = some (n : Int) := by rw [List.getElem?_eq_getElem hlo, hn]
    have hck := grow_cell hM.below (Hc.out.1 ko hlo)
    rw [hge] at hck
    have hb := Hc.out.2 _ hmem
    rw [hn] at hb
    have h0 : 0 < n := by omega
    have hnn : n ≤ 1000 := by omega
    have n1 : ¬ ((n : Int) < 1) := by omega
    have n2 : ¬ ((1000 : Int) < (n : Int)) := by omega
    have HM := Lib.hid (And.intro hM hgk)
    clear hM hmem hn hge hgk hb
    go_upto_region 10 with fail
    obtain ⟨r, hr⟩ : ∃ r, r = wr.heap.size := ⟨_, rfl⟩
    obtain ⟨w1, hw1⟩ : ∃ w1, w1 = wr.alloc (.cells #[.slice none 0 0, .slice none 0 0, .slice none 0 0, .slice none 0 0] 207) := ⟨_, rfl⟩
    have hr1 : objAt w1 r = some (.cells #[.slice none 0 0, .slice none 0 0, .slice none 0 0, .slice none 0 0] 207 (0, 0)) := by rw [hw1, hr, objAt_alloc, if_pos rfl]
    have hB1 : Below r wr w1 := by rw [hw1, hr]; exact grow_alloc (Below.refl _ _) _
    have hst : NewSt wr w1 r 0 := ⟨hB1, block_lt hr1, _, _, hr1, SeenRow.nil _ _, SeenRow.nil _ _, fun g hg => by cases hg⟩
    rw [← hr, ← hw1]
    obtain ⟨wo, rfl⟩ : ∃ wo, wo = wr := ⟨_, rfl⟩
    have H1 := Lib.hid (And.intro hst hr)
    clear hw1 hr hr1 hB1 hst n1 n2 hck
    go_wp2_with fail
    go_loopw [33] (fun i wi => ∃ k : Nat, k ≤ n ∧ i = .int .i64 k ∧ NewSt wo wi r k) (fun i _ => n - (intOf i).toNat)
    case atStart => exact ⟨0, Nat.zero_le _, rfl, H1.out.1⟩
    case round =>
     obtain ⟨k, hk, rfl, hst⟩ := hrel
     by_cases hlt : k < n
     · have hlt' : (k : Int) < (n : Int) := by omega
       obtain ⟨hbel, hrl, s0, s1, ho, hr0, hr1, hne⟩ := hst
       have c0 := cell_obj ho 0
       have c1 := cell_obj ho 1
       have H2 := Lib.hid (And.intro hbel (And.intro hrl (And.intro ho (And.intro hr0 (And.intro hr1 hne)))))
       clear hbel ho hne hr0
       go_upto_region 12 with fail
       have hr : ¬ s0.ownBlock = some r := fun e => by have := H2.out.2.2.2.1.choose_spec.2.1 r e; omega
       have hS : ∀ w', Keeps (fun q => s0.ownBlock = some q) wr w' → w'.cell? ⟨r, 0, none⟩ = some s0 ∧ w'.cell? ⟨r, 1, none⟩ = some s1 ∧ Keeps (fun q => s0.ownBlock = some q) wr w' := fun w' hb => ⟨cell_obj (hb.obj H2.out.2.2.1 hr) 0, cell_obj (hb.obj H2.out.2.2.1 hr) 1, hb⟩
       have hown0 : ∀ q, s0.ownBlock = some q → q < wr.heap.size := fun q hq => by obtain ⟨c, hc⟩ := H2.out.2.2.2.1.obj hq; exact block_lt hc
       have hown1 : ∀ q, s1.ownBlock = some q → q < wr.heap.size := fun q hq => by obtain ⟨c, hc⟩ := H2.out.2.2.2.2.1.obj hq; exact block_lt hc
       have f0 : SeenRow wr.drew (r + 1) s0 k := H2.out.2.2.2.1.below (Below.refl _ _).drew
       have f1 : SeenRow wr.drew (r + 1) s1 k := H2.out.2.2.2.2.1.below (Below.refl _ _).drew
       have fr : objAt wr.drew r = some (.cells #[s0, s1, .slice none 0 0, .slice none 0 0] 207 (0, 0)) := H2.out.2.2.1
       have fK : Keeps (fun q => s0.ownBlock = some q) wr wr.drew := Keeps.of_below (Below.refl _ _).drew
       clear hr1
       refine wp_region_F [15, 18, 21] (S := fun w' => w'.cell? ⟨r, 0, none⟩ = some s0 ∧ w'.cell? ⟨r, 1, none⟩ = some s1 ∧ Keeps (fun q => s0.ownBlock = some q) wr w') (by kernel_rfl) (hS _ fK) (fun hHeld => ?_)
       show wpAnyF _ _ _ _ _ _ 22 #[false, false, false, false, false, false, false, false, false, false, false, false, false, false, false, false, false, false, false, false, false, false] _ _
       refine gP 0 ?_; try simp only [Act.put, qs]
       refine gP 1 ?_; try simp only [Act.put, qs]
       refine gF 2 [2, 3, 4, 5, 8, 15, 16, 17, 18, 19, 20, 21] ?_; try simp only [Act.put, qs]
       refine gF 3 [3, 4, 5, 8, 15, 16, 17, 18, 19, 20, 21] ?_; try simp only [Act.put, qs]
       refine gF 4 [4, 5, 8, 15, 16, 17, 18, 19, 20, 21] ?_; try simp only [Act.put, qs]
       refine gF 5 [5, 8, 15, 16, 17, 18, 19, 20, 21] ?_; try simp only [Act.put, qs]
       refine gF 9 [9, 10, 11, 12, 15, 16, 17, 18, 19, 20, 21] ?_; try simp only [Act.put, qs]
       refine gF 10 [10, 11, 12, 15, 16, 17, 18, 19, 20, 21] ?_; try simp only [Act.put, qs]
       refine gF 11 [11, 12, 15, 16, 17, 18, 19, 20, 21] ?_; try simp only [Act.put, qs]
       refine gF 12 [12, 15, 16, 17, 18, 19, 20, 21] ?_; try simp only [Act.put, qs]
       refine wpAnyF_ready (rs := [6, 13]) (by kernel_rfl) (by simp) ?_
       refine (AllReadyF.cons rfl (fun K hK => ?kb11x0) (AllReadyF.cons rfl (fun K hK => ?kb11x1) AllReadyF.nil))
       case kb11x0 =>
        refine step_make64 rfl rfl ?_; intro x6 hx6; have n41 := Nat.le_trans hrl fK.size; have q := below_alloc hx6; (try replace f0 := f0.below q); (try replace f1 := f1.below q); (try replace f8 := f8.below q); (try replace fz41 := grow_obj q fz41); (try replace fu42 := grow_obj q fu42); (try replace fz48 := grow_obj q fz48); (try replace fu49 := grow_obj q fu49); replace fr := grow_obj q fr; replace fK := fK.trans (Keeps.of_below q); have fz41 := obj_alloc hx6; clear hx6
        refine hK.out _ _ (by exact hS _ fK) (fun hN => ?_); replace hHeld := hN; clear hK K hN
        try simp only [Act.put, qs]
        refine wpAnyF_ready (rs := [7, 13]) (by kernel_rfl) (by simp) ?_
        refine (AllReadyF.cons rfl (fun K hK => ?kb12x0) (AllReadyF.cons rfl (fun K hK => ?kb12x1) AllReadyF.nil))
        case kb12x0 =>
         refine step_lit64 rfl _ rfl rfl ?_; intro x7 hx7; have q := below_alloc hx7; (try replace f0 := f0.below q); (try replace f1 := f1.below q); (try replace f8 := f8.below q); (try replace fz41 := grow_obj q fz41); (try replace fu42 := grow_obj q fu42); (try replace fz48 := grow_obj q fz48); (try replace fu49 := grow_obj q fu49); replace fr := grow_obj q fr; replace fK := fK.trans (Keeps.of_below q); have fu42 := obj_alloc hx7; clear hx7
         refine hK.out _ _ (by exact hS _ fK) (fun hN => ?_); replace hHeld := hN; clear hK K hN
         try simp only [Act.put, qs]
         refine wpAnyF_ready (rs := [8, 13]) (by kernel_rfl) (by simp) ?_
         refine (AllReadyF.cons rfl (fun K hK => ?kb13x0) (AllReadyF.cons rfl (fun K hK => ?kb13x1) AllReadyF.nil))
         case kb13x0 =>
          refine step_app64 rfl _ _ (.tmp 41) rfl rfl f0 rfl rfl fu42 fz41 n41 (Nat.le_trans hrl fK.size) (by omega) ?_; intro g8 c8 x8 f8 k8 o8; have hg8 : ∀ q, s1.ownBlock = some q → g8 ≠ q := (fun q hq e => by rcases o8 with h | h; exact H2.out.2.2.2.2.2 g8 h (by rw [hq, e]); have := hown1 q hq; have := fK.size; omega); replace f1 := f1.keepsRow f0 k8 (fun q hq e => H2.out.2.2.2.2.2 q e hq); (try replace fz48 := k8.obj fz48 (fun e => by obtain ⟨c, hc⟩ := f0.obj e; exact ne_of_obj fz48 hc (by decide) rfl)); (try replace fu49 := k8.obj fu49 (fun e => by have := hown0 _ e; omega)); replace fr := k8.obj fr hr; replace fK := fK.trans k8; clear f0 fz41 fu42 o8 k8
          refine hK.out _ _ (by exact hS _ fK) (fun hN => ?_); replace hHeld := hN; clear hK K hN
          try simp only [Act.put, qs]
          refine gW 13 fun K hK => ?_
          refine step_make64 rfl rfl ?_; intro x13 hx13; have n48 := Nat.le_trans hrl fK.size; have q := below_alloc hx13; (try replace f0 := f0.below q); (try replace f1 := f1.below q); (try replace f8 := f8.below q); (try replace fz41 := grow_obj q fz41); (try replace fu42 := grow_obj q fu42); (try replace fz48 := grow_obj q fz48); (try replace fu49 := grow_obj q fu49); replace fr := grow_obj q fr; replace fK := fK.trans (Keeps.of_below q); have fz48 := obj_alloc hx13; clear hx13
          refine hK.out _ _ (by exact hS _ fK) (fun hN => ?_); replace hHeld := hN; clear hK K hN
          try simp only [Act.put, qs]
          refine gW 14 fun K hK => ?_
          refine step_lit64 rfl _ rfl rfl ?_; intro x14 hx14; have n49 := fK.size; have q := below_alloc hx14; (try replace f0 := f0.below q); (try replace f1 := f1.below q); (try replace f8 := f8.below q); (try replace fz41 := grow_obj q fz41); (try replace fu42 := grow_obj q fu42); (try replace fz48 := grow_obj q fz48); (try replace fu49 := grow_obj q fu49); replace fr := grow_obj q fr; replace fK := fK.trans (Keeps.of_below q); have fu49 := obj_alloc hx14; clear hx14
          refine hK.out _ _ (by exact hS _ fK) (fun hN => ?_); replace hHeld := hN; clear hK K hN
          try simp only [Act.put, qs]
          refine gV 15 fun K hK => ?_
          refine step_app64 rfl _ _ (.tmp 48) rfl rfl f1 rfl rfl fu49 fz48 n48 (Nat.le_trans hrl fK.size) (by omega) ?_; intro g15 c15 x15 f15 k15 o15; have hne15 : g8 ≠ g15 := (fun e => by rcases o15 with h | h; exact hg8 g15 h e; obtain ⟨c, hc⟩ := f8.obj (g := g8) rfl; have := block_lt hc; omega); replace f8 := f8.keepsRow f1 k15 (fun q hq e => hg8 q e (Option.some.inj hq)); have hr1 : ¬ s1.ownBlock = some r := (fun e => by have := f1.choose_spec.2.1 r e; omega); replace fr := k15.obj fr hr1; have fB : Below r wo x15 := H2.out.1.trans ((fK.below (Nat.le_of_lt hrl) (fun q hq => by have := H2.out.2.2.2.1.choose_spec.2.1 q hq; omega)).trans (k15.below (Nat.le_trans (Nat.le_of_lt hrl) fK.size) (fun q hq => by have := f1.choose_spec.2.1 q hq; omega))); have d0 := cell_obj fr 0; have d1 := cell_obj fr 1; have e0 := free_obj fr 0; have e1 := free_obj fr 1; clear fu49 fz48 f1
          refine hK.out _ _ (trivial) (fun hN => ?_); replace hHeld := hN; clear hK K hN
          try simp only [Act.put, qs]
          refine gP 16 ?_; try simp only [Act.put, qs]
          refine gP 17 ?_; try simp only [Act.put, qs]
          refine gV 18 fun K hK => ?_
          try simp only [qs]
          go_simp
          refine hK.out _ _ (trivial) (fun hN => ?_); replace hHeld := hN; clear hK K hN
          try simp only [Act.put, qs]
          refine gP 19 ?_; try simp only [Act.put, qs]
          refine gP 20 ?_; try simp only [Act.put, qs]
          refine gV 21 fun K hK => ?_
          try simp only [qs]
          go_simp
          refine hK.out _ _ (trivial) (fun hN => ?_); replace hHeld := hN; clear hK K hN
          try simp only [Act.put, qs]
          refine wpAnyF_done (by kernel_rfl) ?_ _
          have hfin := NewSt.next fB fr f8 f15 (fun q hq e => hne15 ((Option.some.inj hq).trans (Option.some.inj e).symm))
          go_wp2_with fail
          go_roundw
          case rel => exact ⟨k + 1, by omega, by go_num, hfin⟩
          case measure => simp [intOf]; omega
         case kb13x1 =>
          refine step_make64 rfl rfl ?_; intro x13 hx13; have n48 := Nat.le_trans hrl fK.size; have q := below_alloc hx13; (try replace f0 := f0.below q); (try replace f1 := f1.below q); (try replace f8 := f8.below q); (try replace fz41 := grow_obj q fz41); (try replace fu42 := grow_obj q fu42); (try replace fz48 := grow_obj q fz48); (try replace fu49 := grow_obj q fu49); replace fr := grow_obj q fr; replace fK := fK.trans (Keeps.of_below q); have fz48 := obj_alloc hx13; clear hx13
          refine hK.out _ _ (by exact hS _ fK) (fun hN => ?_); replace hHeld := hN; clear hK K hN
          try simp only [Act.put, qs]
          refine wpAnyF_ready (rs := [8, 14]) (by kernel_rfl) (by simp) ?_
          refine (AllReadyF.cons rfl (fun K hK => ?kb23x0) (AllReadyF.cons rfl (fun K hK => ?kb23x1) AllReadyF.nil))
          case kb23x0 =>
           refine step_app64 rfl _ _ (.tmp 41) rfl rfl f0 rfl rfl fu42 fz41 n41 (Nat.le_trans hrl fK.size) (by omega) ?_; intro g8 c8 x8 f8 k8 o8; have hg8 : ∀ q, s1.ownBlock = some q → g8 ≠ q := (fun q hq e => by rcases o8 with h | h; exact H2.out.2.2.2.2.2 g8 h (by rw [hq, e]); have := hown1 q hq; have := fK.size; omega); replace f1 := f1.keepsRow f0 k8 (fun q hq e => H2.out.2.2.2.2.2 q e hq); (try replace fz48 := k8.obj fz48 (fun e => by obtain ⟨c, hc⟩ := f0.obj e; exact ne_of_obj fz48 hc (by decide) rfl)); (try replace fu49 := k8.obj fu49 (fun e => by have := hown0 _ e; omega)); replace fr := k8.obj fr hr; replace fK := fK.trans k8; clear f0 fz41 fu42 o8 k8
           refine hK.out _ _ (by exact hS _ fK) (fun hN => ?_); replace hHeld := hN; clear hK K hN
           try simp only [Act.put, qs]
           refine gW 14 fun K hK => ?_
           refine step_lit64 rfl _ rfl rfl ?_; intro x14 hx14; have n49 := fK.size; have q := below_alloc hx14; (try replace f0 := f0.below q); (try replace f1 := f1.below q); (try replace f8 := f8.below q); (try replace fz41 := grow_obj q fz41); (try replace fu42 := grow_obj q fu42); (try replace fz48 := grow_obj q fz48); (try replace fu49 := grow_obj q fu49); replace fr := grow_obj q fr; replace fK := fK.trans (Keeps.of_below q); have fu49 := obj_alloc hx14; clear hx14
           refine hK.out _ _ (by exact hS _ fK) (fun hN => ?_); replace hHeld := hN; clear hK K hN
           try simp only [Act.put, qs]
           refine gV 15 fun K hK => ?_
           refine step_app64 rfl _ _ (.tmp 48) rfl rfl f1 rfl rfl fu49 fz48 n48 (Nat.le_trans hrl fK.size) (by omega) ?_; intro g15 c15 x15 f15 k15 o15; have hne15 : g8 ≠ g15 := (fun e => by rcases o15 with h | h; exact hg8 g15 h e; obtain ⟨c, hc⟩ := f8.obj (g := g8) rfl; have := block_lt hc; omega); replace f8 := f8.keepsRow f1 k15 (fun q hq e => hg8 q e (Option.some.inj hq)); have hr1 : ¬ s1.ownBlock = some r := (fun e => by have := f1.choose_spec.2.1 r e; omega); replace fr := k15.obj fr hr1; have fB : Below r wo x15 := H2.out.1.trans ((fK.below (Nat.le_of_lt hrl) (fun q hq => by have := H2.out.2.2.2.1.choose_spec.2.1 q hq; omega)).trans (k15.below (Nat.le_trans (Nat.le_of_lt hrl) fK.size) (fun q hq => by have := f1.choose_spec.2.1 q hq; omega))); have d0 := cell_obj fr 0; have d1 := cell_obj fr 1; have e0 := free_obj fr 0; have e1 := free_obj fr 1; clear fu49 fz48 f1
           refine hK.out _ _ (trivial) (fun hN => ?_); replace hHeld := hN; clear hK K hN
           try simp only [Act.put, qs]
           refine gP 16 ?_; try simp only [Act.put, qs]
           refine gP 17 ?_; try simp only [Act.put, qs]
           refine gV 18 fun K hK => ?_
           try simp only [qs]
           go_simp
           refine hK.out _ _ (trivial) (fun hN => ?_); replace hHeld := hN; clear hK K hN
           try simp only [Act.put, qs]
           refine gP 19 ?_; try simp only [Act.put, qs]
           refine gP 20 ?_; try simp only [Act.put, qs]
           refine gV 21 fun K hK => ?_
           try simp only [qs]
           go_simp
           refine hK.out _ _ (trivial) (fun hN => ?_); replace hHeld := hN; clear hK K hN
           try simp only [Act.put, qs]
           refine wpAnyF_done (by kernel_rfl) ?_ _
           have hfin := NewSt.next fB fr f8 f15 (fun q hq e => hne15 ((Option.some.inj hq).trans (Option.some.inj e).symm))
           go_wp2_with fail
           go_roundw
           case rel => exact ⟨k + 1, by omega, by go_num, hfin⟩
           case measure => simp [intOf]; omega
          case kb23x1 =>
           refine step_lit64 rfl _ rfl rfl ?_; intro x14 hx14; have n49 := fK.size; have q := below_alloc hx14; (try replace f0 := f0.below q); (try replace f1 := f1.below q); (try replace f8 := f8.below q); (try replace fz41 := grow_obj q fz41); (try replace fu42 := grow_obj q fu42); (try replace fz48 := grow_obj q fz48); (try replace fu49 := grow_obj q fu49); replace fr := grow_obj q fr; replace fK := fK.trans (Keeps.of_below q); have fu49 := obj_alloc hx14; clear hx14
           refine hK.out _ _ (by exact hS _ fK) (fun hN => ?_); replace hHeld := hN; clear hK K hN
           try simp only [Act.put, qs]
           refine gW 8 fun K hK => ?_
           refine step_app64 rfl _ _ (.tmp 41) rfl rfl f0 rfl rfl fu42 fz41 n41 (Nat.le_trans hrl fK.size) (by omega) ?_; intro g8 c8 x8 f8 k8 o8; have hg8 : ∀ q, s1.ownBlock = some q → g8 ≠ q := (fun q hq e => by rcases o8 with h | h; exact H2.out.2.2.2.2.2 g8 h (by rw [hq, e]); have := hown1 q hq; have := fK.size; omega); replace f1 := f1.keepsRow f0 k8 (fun q hq e => H2.out.2.2.2.2.2 q e hq); (try replace fz48 := k8.obj fz48 (fun e => by obtain ⟨c, hc⟩ := f0.obj e; exact ne_of_obj fz48 hc (by decide) rfl)); (try replace fu49 := k8.obj fu49 (fun e => by have := hown0 _ e; omega)); replace fr := k8.obj fr hr; replace fK := fK.trans k8; clear f0 fz41 fu42 o8 k8
           refine hK.out _ _ (by exact hS _ fK) (fun hN => ?_); replace hHeld := hN; clear hK K hN
           try simp only [Act.put, qs]
           refine gV 15 fun K hK => ?_
           refine step_app64 rfl _ _ (.tmp 48) rfl rfl f1 rfl rfl fu49 fz48 n48 (Nat.le_trans hrl fK.size) (by omega) ?_; intro g15 c15 x15 f15 k15 o15; have hne15 : g8 ≠ g15 := (fun e => by rcases o15 with h | h; exact hg8 g15 h e; obtain ⟨c, hc⟩ := f8.obj (g := g8) rfl; have := block_lt hc; omega); replace f8 := f8.keepsRow f1 k15 (fun q hq e => hg8 q e (Option.some.inj hq)); have hr1 : ¬ s1.ownBlock = some r := (fun e => by have := f1.choose_spec.2.1 r e; omega); replace fr := k15.obj fr hr1; have fB : Below r wo x15 := H2.out.1.trans ((fK.below (Nat.le_of_lt hrl) (fun q hq => by have := H2.out.2.2.2.1.choose_spec.2.1 q hq; omega)).trans (k15.below (Nat.le_trans (Nat.le_of_lt hrl) fK.size) (fun q hq => by have := f1.choose_spec.2.1 q hq; omega))); have d0 := cell_obj fr 0; have d1 := cell_obj fr 1; have e0 := free_obj fr 0; have e1 := free_obj fr 1; clear fu49 fz48 f1
           refine hK.out _ _ (trivial) (fun hN => ?_); replace hHeld := hN; clear hK K hN
           try simp only [Act.put, qs]
           refine gP 16 ?_; try simp only [Act.put, qs]
           refine gP 17 ?_; try simp only [Act.put, qs]
           refine gV 18 fun K hK => ?_
           try simp only [qs]
           go_simp
           refine hK.out _ _ (trivial) (fun hN => ?_); replace hHeld := hN; clear hK K hN
           try simp only [Act.put, qs]
           refine gP 19 ?_; try simp only [Act.put, qs]
           refine gP 20 ?_; try simp only [Act.put, qs]
           refine gV 21 fun K hK => ?_
           try simp only [qs]
           go_simp
           refine hK.out _ _ (trivial) (fun hN => ?_); replace hHeld := hN; clear hK K hN
           try simp only [Act.put, qs]
           refine wpAnyF_done (by kernel_rfl) ?_ _
           have hfin := NewSt.next fB fr f8 f15 (fun q hq e => hne15 ((Option.some.inj hq).trans (Option.some.inj e).symm))
           go_wp2_with fail
           go_roundw
           case rel => exact ⟨k + 1, by omega, by go_num, hfin⟩
           case measure => simp [intOf]; omega
        case kb12x1 =>
         refine step_make64 rfl rfl ?_; intro x13 hx13; have n48 := Nat.le_trans hrl fK.size; have q := below_alloc hx13; (try replace f0 := f0.below q); (try replace f1 := f1.below q); (try replace f8 := f8.below q); (try replace fz41 := grow_obj q fz41); (try replace fu42 := grow_obj q fu42); (try replace fz48 := grow_obj q fz48); (try replace fu49 := grow_obj q fu49); replace fr := grow_obj q fr; replace fK := fK.trans (Keeps.of_below q); have fz48 := obj_alloc hx13; clear hx13
         refine hK.out _ _ (by exact hS _ fK) (fun hN => ?_); replace hHeld := hN; clear hK K hN
         try simp only [Act.put, qs]
         refine wpAnyF_ready (rs := [7, 14]) (by kernel_rfl) (by simp) ?_
         refine (AllReadyF.cons rfl (fun K hK => ?kb40x0) (AllReadyF.cons rfl (fun K hK => ?kb40x1) AllReadyF.nil))
         case kb40x0 =>
          refine step_lit64 rfl _ rfl rfl ?_; intro x7 hx7; have q := below_alloc hx7; (try replace f0 := f0.below q); (try replace f1 := f1.below q); (try replace f8 := f8.below q); (try replace fz41 := grow_obj q fz41); (try replace fu42 := grow_obj q fu42); (try replace fz48 := grow_obj q fz48); (try replace fu49 := grow_obj q fu49); replace fr := grow_obj q fr; replace fK := fK.trans (Keeps.of_below q); have fu42 := obj_alloc hx7; clear hx7
          refine hK.out _ _ (by exact hS _ fK) (fun hN => ?_); replace hHeld := hN; clear hK K hN
          try simp only [Act.put, qs]
          refine wpAnyF_ready (rs := [8, 14]) (by kernel_rfl) (by simp) ?_
          refine (AllReadyF.cons rfl (fun K hK => ?kb41x0) (AllReadyF.cons rfl (fun K hK => ?kb41x1) AllReadyF.nil))
          case kb41x0 =>
           refine step_app64 rfl _ _ (.tmp 41) rfl rfl f0 rfl rfl fu42 fz41 n41 (Nat.le_trans hrl fK.size) (by omega) ?_; intro g8 c8 x8 f8 k8 o8; have hg8 : ∀ q, s1.ownBlock = some q → g8 ≠ q := (fun q hq e => by rcases o8 with h | h; exact H2.out.2.2.2.2.2 g8 h (by rw [hq, e]); have := hown1 q hq; have := fK.size; omega); replace f1 := f1.keepsRow f0 k8 (fun q hq e => H2.out.2.2.2.2.2 q e hq); (try replace fz48 := k8.obj fz48 (fun e => by obtain ⟨c, hc⟩ := f0.obj e; exact ne_of_obj fz48 hc (by decide) rfl)); (try replace fu49 := k8.obj fu49 (fun e => by have := hown0 _ e; omega)); replace fr := k8.obj fr hr; replace fK := fK.trans k8; clear f0 fz41 fu42 o8 k8
           refine hK.out _ _ (by exact hS _ fK) (fun hN => ?_); replace hHeld := hN; clear hK K hN
           try simp only [Act.put, qs]
           refine gW 14 fun K hK => ?_
           refine step_lit64 rfl _ rfl rfl ?_; intro x14 hx14; have n49 := fK.size; have q := below_alloc hx14; (try replace f0 := f0.below q); (try replace f1 := f1.below q); (try replace f8 := f8.below q); (try replace fz41 := grow_obj q fz41); (try replace fu42 := grow_obj q fu42); (try replace fz48 := grow_obj q fz48); (try replace fu49 := grow_obj q fu49); replace fr := grow_obj q fr; replace fK := fK.trans (Keeps.of_below q); have fu49 := obj_alloc hx14; clear hx14
           refine hK.out _ _ (by exact hS _ fK) (fun hN => ?_); replace hHeld := hN; clear hK K hN
           try simp only [Act.put, qs]
           refine gV 15 fun K hK => ?_
           refine step_app64 rfl _ _ (.tmp 48) rfl rfl f1 rfl rfl fu49 fz48 n48 (Nat.le_trans hrl fK.size) (by omega) ?_; intro g15 c15 x15 f15 k15 o15; have hne15 : g8 ≠ g15 := (fun e => by rcases o15 with h | h; exact hg8 g15 h e; obtain ⟨c, hc⟩ := f8.obj (g := g8) rfl; have := block_lt hc; omega); replace f8 := f8.keepsRow f1 k15 (fun q hq e => hg8 q e (Option.some.inj hq)); have hr1 : ¬ s1.ownBlock = some r := (fun e => by have := f1.choose_spec.2.1 r e; omega); replace fr := k15.obj fr hr1; have fB : Below r wo x15 := H2.out.1.trans ((fK.below (Nat.le_of_lt hrl) (fun q hq => by have := H2.out.2.2.2.1.choose_spec.2.1 q hq; omega)).trans (k15.below (Nat.le_trans (Nat.le_of_lt hrl) fK.size) (fun q hq => by have := f1.choose_spec.2.1 q hq; omega))); have d0 := cell_obj fr 0; have d1 := cell_obj fr 1; have e0 := free_obj fr 0; have e1 := free_obj fr 1; clear fu49 fz48 f1
           refine hK.out _ _ (trivial) (fun hN => ?_); replace hHeld := hN; clear hK K hN
           try simp only [Act.put, qs]
           refine gP 16 ?_; try simp only [Act.put, qs]
           refine gP 17 ?_; try simp only [Act.put, qs]
           refine gV 18 fun K hK => ?_
           try simp only [qs]
           go_simp
           refine hK.out _ _ (trivial) (fun hN => ?_); replace hHeld := hN; clear hK K hN
           try simp only [Act.put, qs]
           refine gP 19 ?_; try simp only [Act.put, qs]
           refine gP 20 ?_; try simp only [Act.put, qs]
           refine gV 21 fun K hK => ?_
           try simp only [qs]
           go_simp
           refine hK.out _ _ (trivial) (fun hN => ?_); replace hHeld := hN; clear hK K hN
           try simp only [Act.put, qs]
           refine wpAnyF_done (by kernel_rfl) ?_ _
           have hfin := NewSt.next fB fr f8 f15 (fun q hq e => hne15 ((Option.some.inj hq).trans (Option.some.inj e).symm))
           go_wp2_with fail
           go_roundw
           case rel => exact ⟨k + 1, by omega, by go_num, hfin⟩
           case measure => simp [intOf]; omega
          case kb41x1 =>
           refine step_lit64 rfl _ rfl rfl ?_; intro x14 hx14; have n49 := fK.size; have q := below_alloc hx14; (try replace f0 := f0.below q); (try replace f1 := f1.below q); (try replace f8 := f8.below q); (try replace fz41 := grow_obj q fz41); (try replace fu42 := grow_obj q fu42); (try replace fz48 := grow_obj q fz48); (try replace fu49 := grow_obj q fu49); replace fr := grow_obj q fr; replace fK := fK.trans (Keeps.of_below q); have fu49 := obj_alloc hx14; clear hx14
           refine hK.out _ _ (by exact hS _ fK) (fun hN => ?_); replace hHeld := hN; clear hK K hN
           try simp only [Act.put, qs]
           refine gW 8 fun K hK => ?_
           refine step_app64 rfl _ _ (.tmp 41) rfl rfl f0 rfl rfl fu42 fz41 n41 (Nat.le_trans hrl fK.size) (by omega) ?_; intro g8 c8 x8 f8 k8 o8; have hg8 : ∀ q, s1.ownBlock = some q → g8 ≠ q := (fun q hq e => by rcases o8 with h | h; exact H2.out.2.2.2.2.2 g8 h (by rw [hq, e]); have := hown1 q hq; have := fK.size; omega); replace f1 := f1.keepsRow f0 k8 (fun q hq e => H2.out.2.2.2.2.2 q e hq); (try replace fz48 := k8.obj fz48 (fun e => by obtain ⟨c, hc⟩ := f0.obj e; exact ne_of_obj fz48 hc (by decide) rfl)); (try replace fu49 := k8.obj fu49 (fun e => by have := hown0 _ e; omega)); replace fr := k8.obj fr hr; replace fK := fK.trans k8; clear f0 fz41 fu42 o8 k8
           refine hK.out _ _ (by exact hS _ fK) (fun hN => ?_); replace hHeld := hN; clear hK K hN
           try simp only [Act.put, qs]
           refine gV 15 fun K hK => ?_
           refine step_app64 rfl _ _ (.tmp 48) rfl rfl f1 rfl rfl fu49 fz48 n48 (Nat.le_trans hrl fK.size) (by omega) ?_; intro g15 c15 x15 f15 k15 o15; have hne15 : g8 ≠ g15 := (fun e => by rcases o15 with h | h; exact hg8 g15 h e; obtain ⟨c, hc⟩ := f8.obj (g := g8) rfl; have := block_lt hc; omega); replace f8 := f8.keepsRow f1 k15 (fun q hq e => hg8 q e (Option.some.inj hq)); have hr1 : ¬ s1.ownBlock = some r := (fun e => by have := f1.choose_spec.2.1 r e; omega); replace fr := k15.obj fr hr1; have fB : Below r wo x15 := H2.out.1.trans ((fK.below (Nat.le_of_lt hrl) (fun q hq => by have := H2.out.2.2.2.1.choose_spec.2.1 q hq; omega)).trans (k15.below (Nat.le_trans (Nat.le_of_lt hrl) fK.size) (fun q hq => by have := f1.choose_spec.2.1 q hq; omega))); have d0 := cell_obj fr 0; have d1 := cell_obj fr 1; have e0 := free_obj fr 0; have e1 := free_obj fr 1; clear fu49 fz48 f1
           refine hK.out _ _ (trivial) (fun hN => ?_); replace hHeld := hN; clear hK K hN
           try simp only [Act.put, qs]
           refine gP 16 ?_; try simp only [Act.put, qs]
           refine gP 17 ?_; try simp only [Act.put, qs]
           refine gV 18 fun K hK => ?_
           try simp only [qs]
           go_simp
           refine hK.out _ _ (trivial) (fun hN => ?_); replace hHeld := hN; clear hK K hN
           try simp only [Act.put, qs]
           refine gP 19 ?_; try simp only [Act.put, qs]
           refine gP 20 ?_; try simp only [Act.put, qs]
           refine gV 21 fun K hK => ?_
           try simp only [qs]
           go_simp
           refine hK.out _ _ (trivial) (fun hN => ?_); replace hHeld := hN; clear hK K hN
           try simp only [Act.put, qs]
           refine wpAnyF_done (by kernel_rfl) ?_ _
           have hfin := NewSt.next fB fr f8 f15 (fun q hq e => hne15 ((Option.some.inj hq).trans (Option.some.inj e).symm))
           go_wp2_with fail
           go_roundw
           case rel => exact ⟨k + 1, by omega, by go_num, hfin⟩
           case measure => simp [intOf]; omega
         case kb40x1 =>
          refine step_lit64 rfl _ rfl rfl ?_; intro x14 hx14; have n49 := fK.size; have q := below_alloc hx14; (try replace f0 := f0.below q); (try replace f1 := f1.below q); (try replace f8 := f8.below q); (try replace fz41 := grow_obj q fz41); (try replace fu42 := grow_obj q fu42); (try replace fz48 := grow_obj q fz48); (try replace fu49 := grow_obj q fu49); replace fr := grow_obj q fr; replace fK := fK.trans (Keeps.of_below q); have fu49 := obj_alloc hx14; clear hx14
          refine hK.out _ _ (by exact hS _ fK) (fun hN => ?_); replace hHeld := hN; clear hK K hN
          try simp only [Act.put, qs]
          refine gW 7 fun K hK => ?_
          refine step_lit64 rfl _ rfl rfl ?_; intro x7 hx7; have q := below_alloc hx7; (try replace f0 := f0.below q); (try replace f1 := f1.below q); (try replace f8 := f8.below q); (try replace fz41 := grow_obj q fz41); (try replace fu42 := grow_obj q fu42); (try replace fz48 := grow_obj q fz48); (try replace fu49 := grow_obj q fu49); replace fr := grow_obj q fr; replace fK := fK.trans (Keeps.of_below q); have fu42 := obj_alloc hx7; clear hx7
          refine hK.out _ _ (by exact hS _ fK) (fun hN => ?_); replace hHeld := hN; clear hK K hN
          try simp only [Act.put, qs]
          refine gW 8 fun K hK => ?_
          refine step_app64 rfl _ _ (.tmp 41) rfl rfl f0 rfl rfl fu42 fz41 n41 (Nat.le_trans hrl fK.size) (by omega) ?_; intro g8 c8 x8 f8 k8 o8; have hg8 : ∀ q, s1.ownBlock = some q → g8 ≠ q := (fun q hq e => by rcases o8 with h | h; exact H2.out.2.2.2.2.2 g8 h (by rw [hq, e]); have := hown1 q hq; have := fK.size; omega); replace f1 := f1.keepsRow f0 k8 (fun q hq e => H2.out.2.2.2.2.2 q e hq); (try replace fz48 := k8.obj fz48 (fun e => by obtain ⟨c, hc⟩ := f0.obj e; exact ne_of_obj fz48 hc (by decide) rfl)); (try replace fu49 := k8.obj fu49 (fun e => by have := hown0 _ e; omega)); replace fr := k8.obj fr hr; replace fK := fK.trans k8; clear f0 fz41 fu42 o8 k8
          refine hK.out _ _ (by exact hS _ fK) (fun hN => ?_); replace hHeld := hN; clear hK K hN
          try simp only [Act.put, qs]
          refine gV 15 fun K hK => ?_
          refine step_app64 rfl _ _ (.tmp 48) rfl rfl f1 rfl rfl fu49 fz48 n48 (Nat.le_trans hrl fK.size) (by omega) ?_; intro g15 c15 x15 f15 k15 o15; have hne15 : g8 ≠ g15 := (fun e => by rcases o15 with h | h; exact hg8 g15 h e; obtain ⟨c, hc⟩ := f8.obj (g := g8) rfl; have := block_lt hc; omega); replace f8 := f8.keepsRow f1 k15 (fun q hq e => hg8 q e (Option.some.inj hq)); have hr1 : ¬ s1.ownBlock = some r := (fun e => by have := f1.choose_spec.2.1 r e; omega); replace fr := k15.obj fr hr1; have fB : Below r wo x15 := H2.out.1.trans ((fK.below (Nat.le_of_lt hrl) (fun q hq => by have := H2.out.2.2.2.1.choose_spec.2.1 q hq; omega)).trans (k15.below (Nat.le_trans (Nat.le_of_lt hrl) fK.size) (fun q hq => by have := f1.choose_spec.2.1 q hq; omega))); have d0 := cell_obj fr 0; have d1 := cell_obj fr 1; have e0 := free_obj fr 0; have e1 := free_obj fr 1; clear fu49 fz48 f1
          refine hK.out _ _ (trivial) (fun hN => ?_); replace hHeld := hN; clear hK K hN
          try simp only [Act.put, qs]
          refine gP 16 ?_; try simp only [Act.put, qs]
          refine gP 17 ?_; try simp only [Act.put, qs]
          refine gV 18 fun K hK => ?_
          try simp only [qs]
          go_simp
          refine hK.out _ _ (trivial) (fun hN => ?_); replace hHeld := hN; clear hK K hN
          try simp only [Act.put, qs]
          refine gP 19 ?_; try simp only [Act.put, qs]
          refine gP 20 ?_; try simp only [Act.put, qs]
          refine gV 21 fun K hK => ?_
          try simp only [qs]
          go_simp
          refine hK.out _ _ (trivial) (fun hN => ?_); replace hHeld := hN; clear hK K hN
          try simp only [Act.put, qs]
          refine wpAnyF_done (by kernel_rfl) ?_ _
          have hfin := NewSt.next fB fr f8 f15 (fun q hq e => hne15 ((Option.some.inj hq).trans (Option.some.inj e).symm))
          go_wp2_with fail
          go_roundw
          case rel => exact ⟨k + 1, by omega, by go_num, hfin⟩
          case measure => simp [intOf]; omega
       case kb11x1 =>
        refine step_make64 rfl rfl ?_; intro x13 hx13; have n48 := Nat.le_trans hrl fK.size; have q := below_alloc hx13; (try replace f0 := f0.below q); (try replace f1 := f1.below q); (try replace f8 := f8.below q); (try replace fz41 := grow_obj q fz41); (try replace fu42 := grow_obj q fu42); (try replace fz48 := grow_obj q fz48); (try replace fu49 := grow_obj q fu49); replace fr := grow_obj q fr; replace fK := fK.trans (Keeps.of_below q); have fz48 := obj_alloc hx13; clear hx13
        refine hK.out _ _ (by exact hS _ fK) (fun hN => ?_); replace hHeld := hN; clear hK K hN
        try simp only [Act.put, qs]
        refine wpAnyF_ready (rs := [6, 14]) (by kernel_rfl) (by simp) ?_
        refine (AllReadyF.cons rfl (fun K hK => ?kb67x0) (AllReadyF.cons rfl (fun K hK => ?kb67x1) AllReadyF.nil))
        case kb67x0 =>
         refine step_make64 rfl rfl ?_; intro x6 hx6; have n41 := Nat.le_trans hrl fK.size; have q := below_alloc hx6; (try replace f0 := f0.below q); (try replace f1 := f1.below q); (try replace f8 := f8.below q); (try replace fz41 := grow_obj q fz41); (try replace fu42 := grow_obj q fu42); (try replace fz48 := grow_obj q fz48); (try replace fu49 := grow_obj q fu49); replace fr := grow_obj q fr; replace fK := fK.trans (Keeps.of_below q); have fz41 := obj_alloc hx6; clear hx6
         refine hK.out _ _ (by exact hS _ fK) (fun hN => ?_); replace hHeld := hN; clear hK K hN
         try simp only [Act.put, qs]
         refine wpAnyF_ready (rs := [7, 14]) (by kernel_rfl) (by simp) ?_
         refine (AllReadyF.cons rfl (fun K hK => ?kb68x0) (AllReadyF.cons rfl (fun K hK => ?kb68x1) AllReadyF.nil))
         case kb68x0 =>
          refine step_lit64 rfl _ rfl rfl ?_; intro x7 hx7; have q := below_alloc hx7; (try replace f0 := f0.below q); (try replace f1 := f1.below q); (try replace f8 := f8.below q); (try replace fz41 := grow_obj q fz41); (try replace fu42 := grow_obj q fu42); (try replace fz48 := grow_obj q fz48); (try replace fu49 := grow_obj q fu49); replace fr := grow_obj q fr; replace fK := fK.trans (Keeps.of_below q); have fu42 := obj_alloc hx7; clear hx7
          refine hK.out _ _ (by exact hS _ fK) (fun hN => ?_); replace hHeld := hN; clear hK K hN
          try simp only [Act.put, qs]
          refine wpAnyF_ready (rs := [8, 14]) (by kernel_rfl) (by simp) ?_
          refine (AllReadyF.cons rfl (fun K hK => ?kb69x0) (AllReadyF.cons rfl (fun K hK => ?kb69x1) AllReadyF.nil))
          case kb69x0 =>
           refine step_app64 rfl _ _ (.tmp 41) rfl rfl f0 rfl rfl fu42 fz41 n41 (Nat.le_trans hrl fK.size) (by omega) ?_; intro g8 c8 x8 f8 k8 o8; have hg8 : ∀ q, s1.ownBlock = some q → g8 ≠ q := (fun q hq e => by rcases o8 with h | h; exact H2.out.2.2.2.2.2 g8 h (by rw [hq, e]); have := hown1 q hq; have := fK.size; omega); replace f1 := f1.keepsRow f0 k8 (fun q hq e => H2.out.2.2.2.2.2 q e hq); (try replace fz48 := k8.obj fz48 (fun e => by obtain ⟨c, hc⟩ := f0.obj e; exact ne_of_obj fz48 hc (by decide) rfl)); (try replace fu49 := k8.obj fu49 (fun e => by have := hown0 _ e; omega)); replace fr := k8.obj fr hr; replace fK := fK.trans k8; clear f0 fz41 fu42 o8 k8
           refine hK.out _ _ (by exact hS _ fK) (fun hN => ?_); replace hHeld := hN; clear hK K hN
           try simp only [Act.put, qs]
           refine gW 14 fun K hK => ?_
           refine step_lit64 rfl _ rfl rfl ?_; intro x14 hx14; have n49 := fK.size; have q := below_alloc hx14; (try replace f0 := f0.below q); (try replace f1 := f1.below q); (try replace f8 := f8.below q); (try replace fz41 := grow_obj q fz41); (try replace fu42 := grow_obj q fu42); (try replace fz48 := grow_obj q fz48); (try replace fu49 := grow_obj q fu49); replace fr := grow_obj q fr; replace fK := fK.trans (Keeps.of_below q); have fu49 := obj_alloc hx14; clear hx14
           refine hK.out _ _ (by exact hS _ fK) (fun hN => ?_); replace hHeld := hN; clear hK K hN
           try simp only [Act.put, qs]
           refine gV 15 fun K hK => ?_
           refine step_app64 rfl _ _ (.tmp 48) rfl rfl f1 rfl rfl fu49 fz48 n48 (Nat.le_trans hrl fK.size) (by omega) ?_; intro g15 c15 x15 f15 k15 o15; have hne15 : g8 ≠ g15 := (fun e => by rcases o15 with h | h; exact hg8 g15 h e; obtain ⟨c, hc⟩ := f8.obj (g := g8) rfl; have := block_lt hc; omega); replace f8 := f8.keepsRow f1 k15 (fun q hq e => hg8 q e (Option.some.inj hq)); have hr1 : ¬ s1.ownBlock = some r := (fun e => by have := f1.choose_spec.2.1 r e; omega); replace fr := k15.obj fr hr1; have fB : Below r wo x15 := H2.out.1.trans ((fK.below (Nat.le_of_lt hrl) (fun q hq => by have := H2.out.2.2.2.1.choose_spec.2.1 q hq; omega)).trans (k15.below (Nat.le_trans (Nat.le_of_lt hrl) fK.size) (fun q hq => by have := f1.choose_spec.2.1 q hq; omega))); have d0 := cell_obj fr 0; have d1 := cell_obj fr 1; have e0 := free_obj fr 0; have e1 := free_obj fr 1; clear fu49 fz48 f1
           refine hK.out _ _ (trivial) (fun hN => ?_); replace hHeld := hN; clear hK K hN
           try simp only [Act.put, qs]
           refine gP 16 ?_; try simp only [Act.put, qs]
           refine gP 17 ?_; try simp only [Act.put, qs]
           refine gV 18 fun K hK => ?_
           try simp only [qs]
           go_simp
           refine hK.out _ _ (trivial) (fun hN => ?_); replace hHeld := hN; clear hK K hN
           try simp only [Act.put, qs]
           refine gP 19 ?_; try simp only [Act.put, qs]
           refine gP 20 ?_; try simp only [Act.put, qs]
           refine gV 21 fun K hK => ?_
           try simp only [qs]
           go_simp
           refine hK.out _ _ (trivial) (fun hN => ?_); replace hHeld := hN; clear hK K hN
           try simp only [Act.put, qs]
           refine wpAnyF_done (by kernel_rfl) ?_ _
           have hfin := NewSt.next fB fr f8 f15 (fun q hq e => hne15 ((Option.some.inj hq).trans (Option.some.inj e).symm))
           go_wp2_with fail
           go_roundw
           case rel => exact ⟨k + 1, by omega, by go_num, hfin⟩
           case measure => simp [intOf]; omega
          case kb69x1 =>
           refine step_lit64 rfl _ rfl rfl ?_; intro x14 hx14; have n49 := fK.size; have q := below_alloc hx14; (try replace f0 := f0.below q); (try replace f1 := f1.below q); (try replace f8 := f8.below q); (try replace fz41 := grow_obj q fz41); (try replace fu42 := grow_obj q fu42); (try replace fz48 := grow_obj q fz48); (try replace fu49 := grow_obj q fu49); replace fr := grow_obj q fr; replace fK := fK.trans (Keeps.of_below q); have fu49 := obj_alloc hx14; clear hx14
           refine hK.out _ _ (by exact hS _ fK) (fun hN => ?_); replace hHeld := hN; clear hK K hN
           try simp only [Act.put, qs]
           refine gW 8 fun K hK => ?_
           refine step_app64 rfl _ _ (.tmp 41) rfl rfl f0 rfl rfl fu42 fz41 n41 (Nat.le_trans hrl fK.size) (by omega) ?_; intro g8 c8 x8 f8 k8 o8; have hg8 : ∀ q, s1.ownBlock = some q → g8 ≠ q := (fun q hq e => by rcases o8 with h | h; exact H2.out.2.2.2.2.2 g8 h (by rw [hq, e]); have := hown1 q hq; have := fK.size; omega); replace f1 := f1.keepsRow f0 k8 (fun q hq e => H2.out.2.2.2.2.2 q e hq); (try replace fz48 := k8.obj fz48 (fun e => by obtain ⟨c, hc⟩ := f0.obj e; exact ne_of_obj fz48 hc (by decide) rfl)); (try replace fu49 := k8.obj fu49 (fun e => by have := hown0 _ e; omega)); replace fr := k8.obj fr hr; replace fK := fK.trans k8; clear f0 fz41 fu42 o8 k8
           refine hK.out _ _ (by exact hS _ fK) (fun hN => ?_); replace hHeld := hN; clear hK K hN
           try simp only [Act.put, qs]
           refine gV 15 fun K hK => ?_
           refine step_app64 rfl _ _ (.tmp 48) rfl rfl f1 rfl rfl fu49 fz48 n48 (Nat.le_trans hrl fK.size) (by omega) ?_; intro g15 c15 x15 f15 k15 o15; have hne15 : g8 ≠ g15 := (fun e => by rcases o15 with h | h; exact hg8 g15 h e; obtain ⟨c, hc⟩ := f8.obj (g := g8) rfl; have := block_lt hc; omega); replace f8 := f8.keepsRow f1 k15 (fun q hq e => hg8 q e (Option.some.inj hq)); have hr1 : ¬ s1.ownBlock = some r := (fun e => by have := f1.choose_spec.2.1 r e; omega); replace fr := k15.obj fr hr1; have fB : Below r wo x15 := H2.out.1.trans ((fK.below (Nat.le_of_lt hrl) (fun q hq => by have := H2.out.2.2.2.1.choose_spec.2.1 q hq; omega)).trans (k15.below (Nat.le_trans (Nat.le_of_lt hrl) fK.size) (fun q hq => by have := f1.choose_spec.2.1 q hq; omega))); have d0 := cell_obj fr 0; have d1 := cell_obj fr 1; have e0 := free_obj fr 0; have e1 := free_obj fr 1; clear fu49 fz48 f1
           refine hK.out _ _ (trivial) (fun hN => ?_); replace hHeld := hN; clear hK K hN
           try simp only [Act.put, qs]
           refine gP 16 ?_; try simp only [Act.put, qs]
           refine gP 17 ?_; try simp only [Act.put, qs]
           refine gV 18 fun K hK => ?_
           try simp only [qs]
           go_simp
           refine hK.out _ _ (trivial) (fun hN => ?_); replace hHeld := hN; clear hK K hN
           try simp only [Act.put, qs]
           refine gP 19 ?_; try simp only [Act.put, qs]
           refine gP 20 ?_; try simp only [Act.put, qs]
           refine gV 21 fun K hK => ?_
           try simp only [qs]
           go_simp
           refine hK.out _ _ (trivial) (fun hN => ?_); replace hHeld := hN; clear hK K hN
           try simp only [Act.put, qs]
           refine wpAnyF_done (by kernel_rfl) ?_ _
           have hfin := NewSt.next fB fr f8 f15 (fun q hq e => hne15 ((Option.some.inj hq).trans (Option.some.inj e).symm))
           go_wp2_with fail
           go_roundw
           case rel => exact ⟨k + 1, by omega, by go_num, hfin⟩
           case measure => simp [intOf]; omega
         case kb68x1 =>
          refine step_lit64 rfl _ rfl rfl ?_; intro x14 hx14; have n49 := fK.size; have q := below_alloc hx14; (try replace f0 := f0.below q); (try replace f1 := f1.below q); (try replace f8 := f8.below q); (try replace fz41 := grow_obj q fz41); (try replace fu42 := grow_obj q fu42); (try replace fz48 := grow_obj q fz48); (try replace fu49 := grow_obj q fu49); replace fr := grow_obj q fr; replace fK := fK.trans (Keeps.of_below q); have fu49 := obj_alloc hx14; clear hx14
          refine hK.out _ _ (by exact hS _ fK) (fun hN => ?_); replace hHeld := hN; clear hK K hN
          try simp only [Act.put, qs]
          refine gW 7 fun K hK => ?_
          refine step_lit64 rfl _ rfl rfl ?_; intro x7 hx7; have q := below_alloc hx7; (try replace f0 := f0.below q); (try replace f1 := f1.below q); (try replace f8 := f8.below q); (try replace fz41 := grow_obj q fz41); (try replace fu42 := grow_obj q fu42); (try replace fz48 := grow_obj q fz48); (try replace fu49 := grow_obj q fu49); replace fr := grow_obj q fr; replace fK := fK.trans (Keeps.of_below q); have fu42 := obj_alloc hx7; clear hx7
          refine hK.out _ _ (by exact hS _ fK) (fun hN => ?_); replace hHeld := hN; clear hK K hN
          try simp only [Act.put, qs]
          refine gW 8 fun K hK => ?_
          refine step_app64 rfl _ _ (.tmp 41) rfl rfl f0 rfl rfl fu42 fz41 n41 (Nat.le_trans hrl fK.size) (by omega) ?_; intro g8 c8 x8 f8 k8 o8; have hg8 : ∀ q, s1.ownBlock = some q → g8 ≠ q := (fun q hq e => by rcases o8 with h | h; exact H2.out.2.2.2.2.2 g8 h (by rw [hq, e]); have := hown1 q hq; have := fK.size; omega); replace f1 := f1.keepsRow f0 k8 (fun q hq e => H2.out.2.2.2.2.2 q e hq); (try replace fz48 := k8.obj fz48 (fun e => by obtain ⟨c, hc⟩ := f0.obj e; exact ne_of_obj fz48 hc (by decide) rfl)); (try replace fu49 := k8.obj fu49 (fun e => by have := hown0 _ e; omega)); replace fr := k8.obj fr hr; replace fK := fK.trans k8; clear f0 fz41 fu42 o8 k8
          refine hK.out _ _ (by exact hS _ fK) (fun hN => ?_); replace hHeld := hN; clear hK K hN
          try simp only [Act.put, qs]
          refine gV 15 fun K hK => ?_
          refine step_app64 rfl _ _ (.tmp 48) rfl rfl f1 rfl rfl fu49 fz48 n48 (Nat.le_trans hrl fK.size) (by omega) ?_; intro g15 c15 x15 f15 k15 o15; have hne15 : g8 ≠ g15 := (fun e => by rcases o15 with h | h; exact hg8 g15 h e; obtain ⟨c, hc⟩ := f8.obj (g := g8) rfl; have := block_lt hc; omega); replace f8 := f8.keepsRow f1 k15 (fun q hq e => hg8 q e (Option.some.inj hq)); have hr1 : ¬ s1.ownBlock = some r := (fun e => by have := f1.choose_spec.2.1 r e; omega); replace fr := k15.obj fr hr1; have fB : Below r wo x15 := H2.out.1.trans ((fK.below (Nat.le_of_lt hrl) (fun q hq => by have := H2.out.2.2.2.1.choose_spec.2.1 q hq; omega)).trans (k15.below (Nat.le_trans (Nat.le_of_lt hrl) fK.size) (fun q hq => by have := f1.choose_spec.2.1 q hq; omega))); have d0 := cell_obj fr 0; have d1 := cell_obj fr 1; have e0 := free_obj fr 0; have e1 := free_obj fr 1; clear fu49 fz48 f1
          refine hK.out _ _ (trivial) (fun hN => ?_); replace hHeld := hN; clear hK K hN
          try simp only [Act.put, qs]
          refine gP 16 ?_; try simp only [Act.put, qs]
          refine gP 17 ?_; try simp only [Act.put, qs]
          refine gV 18 fun K hK => ?_
          try simp only [qs]
          go_simp
          refine hK.out _ _ (trivial) (fun hN => ?_); replace hHeld := hN; clear hK K hN
          try simp only [Act.put, qs]
          refine gP 19 ?_; try simp only [Act.put, qs]
          refine gP 20 ?_; try simp only [Act.put, qs]
          refine gV 21 fun K hK => ?_
          try simp only [qs]
          go_simp
          refine hK.out _ _ (trivial) (fun hN => ?_); replace hHeld := hN; clear hK K hN
          try simp only [Act.put, qs]
          refine wpAnyF_done (by kernel_rfl) ?_ _
          have hfin := NewSt.next fB fr f8 f15 (fun q hq e => hne15 ((Option.some.inj hq).trans (Option.some.inj e).symm))
          go_wp2_with fail
          go_roundw
          case rel => exact ⟨k + 1, by omega, by go_num, hfin⟩
          case measure => simp [intOf]; omega
        case kb67x1 =>
         refine step_lit64 rfl _ rfl rfl ?_; intro x14 hx14; have n49 := fK.size; have q := below_alloc hx14; (try replace f0 := f0.below q); (try replace f1 := f1.below q); (try replace f8 := f8.below q); (try replace fz41 := grow_obj q fz41); (try replace fu42 := grow_obj q fu42); (try replace fz48 := grow_obj q fz48); (try replace fu49 := grow_obj q fu49); replace fr := grow_obj q fr; replace fK := fK.trans (Keeps.of_below q); have fu49 := obj_alloc hx14; clear hx14
         refine hK.out _ _ (by exact hS _ fK) (fun hN => ?_); replace hHeld := hN; clear hK K hN
         try simp only [Act.put, qs]
         refine gW 6 fun K hK => ?_
         refine step_make64 rfl rfl ?_; intro x6 hx6; have n41 := Nat.le_trans hrl fK.size; have q := below_alloc hx6; (try replace f0 := f0.below q); (try replace f1 := f1.below q); (try replace f8 := f8.below q); (try replace fz41 := grow_obj q fz41); (try replace fu42 := grow_obj q fu42); (try replace fz48 := grow_obj q fz48); (try replace fu49 := grow_obj q fu49); replace fr := grow_obj q fr; replace fK := fK.trans (Keeps.of_below q); have fz41 := obj_alloc hx6; clear hx6
         refine hK.out _ _ (by exact hS _ fK) (fun hN => ?_); replace hHeld := hN; clear hK K hN
         try simp only [Act.put, qs]
         refine gW 7 fun K hK => ?_
         refine step_lit64 rfl _ rfl rfl ?_; intro x7 hx7; have q := below_alloc hx7; (try replace f0 := f0.below q); (try replace f1 := f1.below q); (try replace f8 := f8.below q); (try replace fz41 := grow_obj q fz41); (try replace fu42 := grow_obj q fu42); (try replace fz48 := grow_obj q fz48); (try replace fu49 := grow_obj q fu49); replace fr := grow_obj q fr; replace fK := fK.trans (Keeps.of_below q); have fu42 := obj_alloc hx7; clear hx7
         refine hK.out _ _ (by exact hS _ fK) (fun hN => ?_); replace hHeld := hN; clear hK K hN
         try simp only [Act.put, qs]
         refine gW 8 fun K hK => ?_
         refine step_app64 rfl _ _ (.tmp 41) rfl rfl f0 rfl rfl fu42 fz41 n41 (Nat.le_trans hrl fK.size) (by omega) ?_; intro g8 c8 x8 f8 k8 o8; have hg8 : ∀ q, s1.ownBlock = some q → g8 ≠ q := (fun q hq e => by rcases o8 with h | h; exact H2.out.2.2.2.2.2 g8 h (by rw [hq, e]); have := hown1 q hq; have := fK.size; omega); replace f1 := f1.keepsRow f0 k8 (fun q hq e => H2.out.2.2.2.2.2 q e hq); (try replace fz48 := k8.obj fz48 (fun e => by obtain ⟨c, hc⟩ := f0.obj e; exact ne_of_obj fz48 hc (by decide) rfl)); (try replace fu49 := k8.obj fu49 (fun e => by have := hown0 _ e; omega)); replace fr := k8.obj fr hr; replace fK := fK.trans k8; clear f0 fz41 fu42 o8 k8
         refine hK.out _ _ (by exact hS _ fK) (fun hN => ?_); replace hHeld := hN; clear hK K hN
         try simp only [Act.put, qs]
         refine gV 15 fun K hK => ?_
         refine step_app64 rfl _ _ (.tmp 48) rfl rfl f1 rfl rfl fu49 fz48 n48 (Nat.le_trans hrl fK.size) (by omega) ?_; intro g15 c15 x15 f15 k15 o15; have hne15 : g8 ≠ g15 := (fun e => by rcases o15 with h | h; exact hg8 g15 h e; obtain ⟨c, hc⟩ := f8.obj (g := g8) rfl; have := block_lt hc; omega); replace f8 := f8.keepsRow f1 k15 (fun q hq e => hg8 q e (Option.some.inj hq)); have hr1 : ¬ s1.ownBlock = some r := (fun e => by have := f1.choose_spec.2.1 r e; omega); replace fr := k15.obj fr hr1; have fB : Below r wo x15 := H2.out.1.trans ((fK.below (Nat.le_of_lt hrl) (fun q hq => by have := H2.out.2.2.2.1.choose_spec.2.1 q hq; omega)).trans (k15.below (Nat.le_trans (Nat.le_of_lt hrl) fK.size) (fun q hq => by have := f1.choose_spec.2.1 q hq; omega))); have d0 := cell_obj fr 0; have d1 := cell_obj fr 1; have e0 := free_obj fr 0; have e1 := free_obj fr 1; clear fu49 fz48 f1
         refine hK.out _ _ (trivial) (fun hN => ?_); replace hHeld := hN; clear hK K hN
         try simp only [Act.put, qs]
         refine gP 16 ?_; try simp only [Act.put, qs]
         refine gP 17 ?_; try simp only [Act.put, qs]
         refine gV 18 fun K hK => ?_
         try simp only [qs]
         go_simp
         refine hK.out _ _ (trivial) (fun hN => ?_); replace hHeld := hN; clear hK K hN
         try simp only [Act.put, qs]
         refine gP 19 ?_; try simp only [Act.put, qs]
         refine gP 20 ?_; try simp only [Act.put, qs]
         refine gV 21 fun K hK => ?_
         try simp only [qs]
         go_simp
         refine hK.out _ _ (trivial) (fun hN => ?_); replace hHeld := hN; clear hK K hN
         try simp only [Act.put, qs]
         refine wpAnyF_done (by kernel_rfl) ?_ _
         have hfin := NewSt.next fB fr f8 f15 (fun q hq e => hne15 ((Option.some.inj hq).trans (Option.some.inj e).symm))
         go_wp2_with fail
         go_roundw
         case rel => exact ⟨k + 1, by omega, by go_num, hfin⟩
         case measure => simp [intOf]; omega
     · obtain rfl : k = n := by omega
       have hkk : ¬ ((k : Int) < (k : Int)) := by omega
       have hbb := hst.below
       rw [H1.out.2] at hbb
       have hM2 := HM.out.1.grow hbb
       have c0 := cell_obj hM2.obj 0
       have hM3 := hM2.grow (grow_alloc (Below.refl wr.heap.size wr) (.cells #[.pointer (some ⟨r, 0, none⟩)] 203))
       have hreg := hst.reg.keeps (S' := fun q => r ≤ q ∧ q < wr.heap.size) (Keeps.of_below_size (grow_alloc (Below.refl wr.heap.size wr) (.cells #[.pointer (some ⟨r, 0, none⟩)] 203))) (fun g hg e => by omega) (fun _ h _ => h)
       have hx3 : objAt (wr.alloc (.cells #[.pointer (some ⟨r, 0, none⟩)] 203)) wr.heap.size = some (.cells #[.pointer (some ⟨r, 0, none⟩)] 203 (0, 0)) := by rw [objAt_alloc, if_pos rfl]
       have H3 := Lib.hid (And.intro hM3 (And.intro hreg hx3))
       have hd : d < r := by rw [H1.out.2]; exact block_lt HM.out.1.obj
       have hrw := hst.lt
       have hrs : rs.length < 1000000 := by have := HM.out.1.len; omega
       clear hst hbb hM2 hM3 hreg hx3
       go_wp2_with (at_builtin; refine list_appG elemRegionK (v := lv) rfl _ _ rfl rfl H3.out.1.row rfl H3.out.2.2 rfl (by simp [Value.oneCell']) hrs PEl r (fun _ _ => ⟨fun _ _ h => h, rfl⟩) ?_; intro g2 cap2 w2 hv2 hk2 ho2 hl2; obtain ⟨hod2, hM4⟩ := H3.out.1.push H3.out.2.1 HM.out.2 (fun g hg => by rw [H1.out.2]; exact HM.out.1.row.lt hg) (fun j q hq => by rw [H1.out.2]; exact (HM.out.1.foot j q hq).2.1) hd (by rw [size_alloc]; omega) hv2 (fun q hq => hq.elim id (fun h => by rw [size_alloc] at h; have := H3.out.2.1; omega)) hk2 ho2; have d0 := cell_obj hod2 0; have e0 := free_obj hod2 0)
       go_roundw
       case rel => exact ⟨ko + 1, by omega, by go_num, hM4⟩
       case measure => simp [intOf]; omega
  · have hn : ¬ ((ko : Int) < (l.length : Int)) := by omega
    have HM := Lib.hid hM
    clear hM
    go_wp2_with fail
    go_ret2
    have hM := HM.out
    exact ⟨d, rfl, Mid.done ⟨_, _, _, hM⟩ (by omega) (by omega) (by omega) Hc.out.2, hM.below⟩
end
end Go.Proofs.YtbbnejehglonjaaGreat
