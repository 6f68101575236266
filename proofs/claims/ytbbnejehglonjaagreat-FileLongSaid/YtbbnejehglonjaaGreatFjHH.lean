/- DERIVED. clathrilaw16.FileLong. -/
import Derived.Test.YtbbnejehglonjaaGreatFjGH
import Derived.Test.YtbbnejehglonjaaGreatMh00
import Derived.Test.YtbbnejehglonjaaGreatMh35
namespace Go.Proofs.YtbbnejehglonjaaGreat
set_option maxHeartbeats 8000000
set_option maxRecDepth 100000
set_option linter.unusedSimpArgs false
set_option linter.unusedVariables false
open Go.RowKit
attribute [local irreducible] Calls
theorem nat16 {n : Int} (h : (Lit.int .u16 n).wf = true) : ∃ k : Nat, n = (k : Int) ∧ k < 65536 := by
 simp [Lit.wf, IntKind.min, IntKind.max] at h
 have : 0 ≤ n ∧ n ≤ 65535 := by simpa [IntKind.bits, IntKind.signed] using h
 exact ⟨n.toNat, by omega, by omega⟩
def longB (n : Nat) : List UInt8 := (List.range n).map fun j => UInt8.ofNat (1 + j % 250)
theorem longB_len (n : Nat) : (longB n).length = n := by simp [longB]
theorem longB_at {n j : Nat} (h : j < n) : ((longB n)[j]'(by rw [longB_len]; exact h)).toNat = 1 + j % 250 := by
 unfold longB
 rw [List.getElem_map, List.getElem_range]
 have : j % 250 < 250 := Nat.mod_lt _ (by decide)
 rw [UInt8.toNat_ofNat']
 omega
theorem longB_bytes {w : World} {g n : Nat} {C : Array Value} {e : TypeId} (h : objAt w g = some (.cells C e (0, 0))) (hC : ∀ j, j < n → C[j]? = some (.int .u8 ((1 + j % 250 : Nat) : Int))) (k : Nat) : BytesAt w (some ⟨g, k, none⟩) ((longB n).drop k) := by
 refine ⟨g, k, fun _ => rfl, fun i hi => ?_⟩
 rw [List.length_drop, longB_len] at hi
 rw [cell_of_row w g (k + i) _ _ _ h, hC (k + i) (by omega), List.getElem_drop, longB_at (by omega)]
theorem bytes_take {w : World} {a : Option Addr} {l : List UInt8} (h : BytesAt w a l) (k : Nat) : BytesAt w a (l.take k) := by
 obtain ⟨b, o, h1, h2⟩ := h
 refine ⟨b, o, fun hp => h1 (by rw [List.length_take] at hp; omega), fun i hi => ?_⟩
 rw [List.length_take] at hi
 rw [h2 i (by omega), List.getElem_take]
theorem ov_more {c : Nat → UInt8} {B : List UInt8} {o k m : Nat} : ov (ov c B o o (o + k)) (B.drop k) (o + k) (o + k) (o + k + m) = ov c B o o (o + (k + m)) := by
 funext i
 unfold ov
 by_cases h1 : o + k ≤ i ∧ i < o + k + m
 · rw [if_pos h1, if_pos (by omega), List.getD_eq_getElem?_getD, List.getElem?_drop, List.getD_eq_getElem?_getD]
   congr 2; omega
 · rw [if_neg h1]
   by_cases h2 : o ≤ i ∧ i < o + k
   · rw [if_pos h2, if_pos (by omega)]
   · rw [if_neg h2, if_neg (by omega)]
theorem ov_read {c : Nat → UInt8} {B : List UInt8} {o k : Nat} (hk : k ≤ B.length) : (List.range k).map (fun i => ov c B o o (o + k) (o + i)) = B.take k := by
 apply List.ext_getElem
 · rw [List.length_map, List.length_range, List.length_take]; omega
 · intro i h1 h2
   rw [List.length_map, List.length_range] at h1
   rw [List.getElem_map, List.getElem_range, List.getElem_take]
   unfold ov
   rw [if_pos (by omega), Nat.add_sub_cancel_left, List.getD_eq_getElem?_getD, List.getElem?_eq_getElem (by omega)]; rfl
structure LongS (w4 wr : World) (d v gb cap m o : Nat) (B : List UInt8) (i k : Nat) (Sd : Nat → Prop) (st : VSt) (c : Nat) (f : Fl) : Prop where
 fl : FlV w4 wr Sd d v gb cap m 60 st c f (ov (fun _ => 0) B o o (o + k))
 size : f.n.size = if k = 0 then 0 else ((o + k : Nat) : Int)
 c : c ≤ 61000 + 300 * i
theorem walk_FileLong (at_ long : Int) (w : World) (w0 : (Lit.int .u16 at_).wf = true) (w1 : (Lit.int .u16 long).wf = true) :
 Calls Tryz.prog 10 #[.int .u16 at_, .int .u16 long] w fun e w' => e = .returned (.bool true) ∧ Below w.heap.size w w' := by
 obtain ⟨n0, rfl, hn0⟩ := nat16 w0
 obtain ⟨n1, rfl, hn1⟩ := nat16 w1
 clear w0 w1
 have HB := Lib.hid (fun w => begun16_any w)
 obtain ⟨o, ho⟩ : ∃ o, o = n0 % 1120 := ⟨_, rfl⟩
 obtain ⟨n, hq⟩ : ∃ n, n = n1 % 1120 := ⟨_, rfl⟩
 have m0 : (n0 : Int).tmod 1120 = (o : Int) := by rw [ho]; exact (Int.ofNat_tmod n0 1120).symm
 have m1 : (n1 : Int).tmod 1120 = (n : Int) := by rw [hq]; exact (Int.ofNat_tmod n1 1120).symm
 have ho2 : o < 1120 := by rw [ho]; exact Nat.mod_lt _ (by decide)
 have hn2 : n < 1120 := by rw [hq]; exact Nat.mod_lt _ (by decide)
 clear ho hq
 have HN := Lib.hid (fun w => sNew_any 0 60 w (by decide) (by decide))
 have hmk := fun w => mkB n (by omega) w
 go_enter Tryz.func10, Tryz.ntmps10
 go_upto_region 4 with (go_at_call 31; refine (HB.out _).mono ?_; rintro e x0 ⟨rfl, b0⟩)
 have hmk := mkB n (by omega) x0
 go_upto_region 5 with fail
 obtain ⟨J, hJ⟩ : ∃ J, J = x0.heap.size := ⟨_, rfl⟩
 obtain ⟨x1, hx1⟩ : ∃ x1, x1 = x0.alloc (.cells (noughts n) 5) := ⟨_, rfl⟩
 rw [← hx1, ← hJ]
 have hb1 := grow_trans b0 (below_alloc hx1)
 have hoJ : objAt x1 J = some (.cells (noughts n) 5 (0, 0)) := by rw [hJ]; exact obj_alloc hx1
 have hwJ : w.heap.size ≤ J := by rw [hJ]; exact b0.size
 have HJ := Lib.hid (And.intro hb1 hwJ)
 clear hmk hx1 hJ b0 hb1 hwJ m0 m1 hn0 hn1
 go_wp2_with fail
 go_loopw [7] (fun s7 wr => ∃ (i : Nat) (C : Array Value), i ≤ n ∧ s7 = .int .i64 i ∧ objAt wr J = some (.cells C 5 (0, 0)) ∧ C.size = n ∧ (∀ j, j < i → C[j]? = some (.int .u8 ((1 + j % 250 : Nat) : Int))) ∧ Below w.heap.size w wr) (fun i _ => n - (Go.RowKit.intOf i).toNat)
 case atStart => exact ⟨0, _, Nat.zero_le _, rfl, hoJ, by unfold noughts; simp, fun j hj => by omega, HJ.out.1⟩
 case round =>
  obtain ⟨i, C, hi, rfl, hob, hC, hCj, hbl⟩ := hrel
  by_cases hlt : (i : Int) < (n : Int)
  · obtain ⟨r, hr⟩ : ∃ r, r = i % 250 := ⟨_, rfl⟩
    have hr2 : r < 250 := by rw [hr]; exact Nat.mod_lt _ (by decide)
    have htm : (i : Int).tmod 250 = (r : Int) := by rw [hr]; exact (Int.ofNat_tmod i 250).symm
    have hu : IntKind.u8.wrap (1 + (r : Int)) = 1 + (r : Int) := IntWalk.u8_in _ (by omega)
    have hce : wr.cell? ⟨J, i, none⟩ = some (C[i]'(by omega)) := by rw [cell_of_row wr J i _ _ _ hob, Array.getElem?_eq_getElem (by omega)]
    have hfr := free_obj hob i
    have i0 : (0 : Int) ≤ (i : Int) := Int.natCast_nonneg _
    generalize C[i]'(by omega) = x at hce
    have HI := Lib.hid (And.intro hob (And.intro hC (And.intro hCj (And.intro hbl hr))))
    clear hob hC hCj hbl hr
    go_wp2_with fail
    go_roundw
    case rel =>
     refine ⟨i + 1, _, by omega, by go_num, objAt_setCell HI.out.1 _ _, by rw [Array.size_setIfInBounds]; exact HI.out.2.1, fun j hj => ?_, HI.out.2.2.2.1.trans ((Keeps.setCell _ _ _ rfl).below HI.out.2.2.2.1.size (fun q e => by have e' : J = q := e; rw [← e']; exact HJ.out.2))⟩
     rw [Array.getElem?_setIfInBounds]
     by_cases e : i = j
     · subst e
       rw [if_pos rfl, if_pos (by rw [HI.out.2.1]; omega), ← HI.out.2.2.2.2]; rfl
     · rw [if_neg e]; exact HI.out.2.2.1 j (by omega)
    case measure => simp [Go.RowKit.intOf]; omega
  · obtain rfl : i = n := by omega
    have HL := Lib.hid (And.intro hob (And.intro hCj hbl))
    clear hob hC hCj hbl hoJ
    go_upto_region 10 with (go_at_call 32; refine (HN.out _).mono ?_; rintro e w1 ⟨p, g, rfl, hs, b1, hp1, hg1⟩)
    have hJ1 := grow_obj b1 HL.out.1
    have hp1' : w.heap.size ≤ p := Nat.le_trans HL.out.2.2.size hp1
    have hJ9 := block_lt HL.out.1
    have H1 := Lib.hid (And.intro hs (And.intro (grow_trans HL.out.2.2 b1) (And.intro hp1' (And.intro hJ1 (show J < p by omega)))))
    clear hs b1 hp1 hg1 hp1' hJ1 hJ9
    go_upto_region 11 with (first
     | (go_at_call 34; refine (Root_lit _).mono ?_; rintro e w2 ⟨rfl, b2⟩)
     | (go_at_call 33; refine (sFile_any (H1.out.1.below b2) (by decide) (by decide)).mono ?_; rintro e w3 ⟨g3, cap3, rfl, hs3, hk3, hg3⟩))
    have hb3 : Below w.heap.size w w3 := by
     have h2 := grow_trans H1.out.2.1 b2
     exact h2.trans (hk3.below h2.size (fun q e => by rw [e]; exact H1.out.2.2.1))
    have hJ3 := hk3.obj (grow_obj b2 H1.out.2.2.2.1) (fun e => by have := H1.out.2.2.2.2; omega)
    obtain ⟨w4, hw4⟩ : ∃ w4, w4 = w3.alloc (.cells #[.int .i64 0, .int .i64 1, .int .u32 1] 66) := ⟨_, rfl⟩
    obtain ⟨G, hG⟩ : ∃ G, G = w3.heap.size := ⟨_, rfl⟩
    have hs4 := hs3.below (below_alloc hw4)
    have ho4 : objAt w4 G = some (.cells #[.int .i64 0, .int .i64 1, .int .u32 1] 66 (0, 0)) := by rw [hG]; exact obj_alloc hw4
    have hJ4 := grow_obj (below_alloc hw4) hJ3
    have hb4 := grow_trans hb3 (below_alloc hw4)
    rw [← hw4, ← hG]
    have c1 := hs4.c1
    have hrow := hs4.row
    rw [fileBlks_len] at c1 hrow
    have HF := Lib.hid (Filled_any (bs := fileBlks 60) (n := 60) (by decide) (by decide) (fileBlks_len 60) hrow (fileBlks_kinds (by decide) (by decide)))
    have H4 := Lib.hid (And.intro hb4 (And.intro ho4 hJ4))
    clear hs3 hk3 hg3 hb3 hs4 hb4 ho4 hrow hw4 hG b2 hJ3 hJ4
    go_upto_region 12 with (go_at_call 18; refine HF.out.mono ?_; rintro e w5 ⟨d, v, rfl, Sd, gb, cap, m, st, c, hf, hst, hc⟩)
    obtain ⟨wt, hwt⟩ : ∃ wt : Nat, wt = min i (1120 - o) := ⟨_, rfl⟩
    have hmin : min (i : Int) (1120 - (o : Int)) = (wt : Int) := by rw [hwt]; omega
    have hL0 : LongS w4 w5 d v gb cap m o (longB i) 0 0 Sd st c fl0 := by
     refine ⟨?_, rfl, by omega⟩
     have e : ov (fun _ => 0) (longB i) o o (o + 0) = fun _ => 0 := by funext j; unfold ov; rw [if_neg (by omega)]
     rw [e]; exact hf.flV hst (by decide) (by decide)
    have HX := Lib.hid (fun k w => txNew_any v k w)
    have HQ := Lib.hid (And.intro hL0 hwt)
    clear hf hst hc c1 hL0 hwt
    go_upto_region 17 with fail
    go_loopw [15, 16] (fun s15 s16 wr => ∃ (a k : Nat) (Sd' : Nat → Prop) (st' : VSt) (c' : Nat) (f' : Fl), a ≤ 8 ∧ s16 = .int .i64 a ∧ k ≤ wt ∧ (wt ≤ k ∨ 169 * a ≤ k) ∧ s15 = .int .i64 k ∧ LongS w4 wr d v gb cap m o (longB i) a k Sd' st' c' f') (fun _ a _ => 8 - (Go.RowKit.intOf a).toNat)
    case atStart => exact ⟨0, 0, Sd, st, c, fl0, by omega, rfl, by omega, .inr (by omega), rfl, HQ.out.1⟩
    case round =>
     obtain ⟨a, k, Sd', st', c', f', ha, rfl, hk, hprog, rfl, hLS⟩ := hrel
     have hways : ((a : Int) < 8 ∧ (k : Int) < (wt : Int)) ∨ ((a : Int) < 8 ∧ ¬ (k : Int) < (wt : Int)) ∨ (¬ (a : Int) < 8 ∧ ¬ (k : Int) < (wt : Int)) := by have := HQ.out.2; omega
     rcases hways with ⟨hgo, hk2⟩ | ⟨hgo, hk2⟩ | ⟨hgo, hk2⟩
     · have hfl := hLS.fl
       obtain ⟨N, hN⟩ : ∃ N, N = wr.heap.size := ⟨_, rfl⟩
       have HX1 := Lib.hid (HX.out st'.bs.length wr)
       rw [← hN] at HX1
       have ho5 := grow_obj hfl.below H4.out.2.1
       have hJ5 := grow_obj hfl.below H4.out.2.2
       have HA := Lib.hid (And.intro hLS (And.intro hN (And.intro hprog (And.intro ho5 (And.intro hJ5 hmin)))))
       clear hLS hfl hN hprog ho5 hJ5
       go_upto_region 22 with (go_at_call 19; refine HX1.out.mono ?_; rintro e w6 ⟨rfl, ht, b6⟩)
       have b6' : Below wr.heap.size wr w6 := by rw [← HA.out.2.1]; exact b6
       have hT6 := (HA.out.1.fl.tx0 HA.out.2.1 ht b6').below (Below.refl _ _).drew
       have b6d := b6'.drew
       have hwr : IntKind.i64.wrap ((o : Int) + (k : Int)) = (o : Int) + (k : Int) := IntWalk.i64_in _ (by omega)
       have hwt2 : wt ≤ i ∧ o + wt ≤ 1120 := by have := HQ.out.2; omega
       obtain ⟨M, hM⟩ : ∃ M, M = wMany ((longB i).drop k) (o + k) := ⟨_, rfl⟩
       have hM2 : 1 ≤ M ∧ k + M ≤ wt ∧ (wt ≤ k + M ∨ 169 ≤ M) := by
        rw [hM]; unfold wMany; rw [List.length_drop, longB_len]
        have := HQ.out.2
        omega
       have hby := longB_bytes (grow_obj b6d HA.out.2.2.2.2.1) HL.out.2.1 k
       have HW := Lib.hid (tWriteN (off := o + k) (dl := i - k) (dc := i - k) (offi := (o : Int) + (k : Int)) (M := M) (Mi := (M : Int)) hT6 HA.out.1.fl.wi (by rw [HA.out.1.fl.len]; decide) hby (by omega) (fun e => by have := congrArg List.length e; rw [List.length_drop, longB_len] at this; simp at this; omega) (by rw [List.length_drop, longB_len]) (by omega) (Nat.le_refl _) (by omega) hM.symm rfl)
       have q6 : w6.cell? ⟨G, 1, none⟩ = some (.int .i64 1) := cell_obj (grow_obj b6' HA.out.2.2.2.1) 1
       have hki : (k : Int) ≤ (i : Int) := by omega
       have hik : ¬ i = k := by omega
       have HM := Lib.hid (And.intro b6d (And.intro hM2 (And.intro hwt2 ht)))
       clear ht b6 b6' b6d hT6 hwt2 hM hM2 hby
       refine wp_region_held_drew (S := fun w' => w'.cell? ⟨G, 1, none⟩ = some (.int .i64 1)) (by kernel_rfl) (q6) (fun hHeld => ?_)
       show wpAnyH _ _ _ _ _ 15 #[false, false, false, false, false, false, false, false, false, false, false, false, false, false, false] _ _
       refine gT 0 ?_; try simp only [Act.put, qs]
       refine gT 1 ?_; try simp only [Act.put, qs]
       refine gT 2 ?_; try simp only [Act.put, qs]
       refine gT 3 ?_; try simp only [Act.put, qs]
       refine gT 4 ?_; try simp only [Act.put, qs]
       refine gT 5 ?_; try simp only [Act.put, qs]
       refine gT 6 ?_; try simp only [Act.put, qs]
       refine gT 7 ?_; try simp only [Act.put, qs]
       refine gT 8 ?_; try simp only [Act.put, qs]
       refine gY 9 fun K hK => ?_
       try simp only [qs]
       go_simp
       go_at_call 35; refine HW.out.mono ?_; rintro e w7 ⟨rfl, L7, T7, f7, hT7, hR7, hk7⟩
       refine hK.out _ _ (by exact cell_obj (hk7.obj (grow_obj HM.out.1 HA.out.2.2.2.1) (fun e => by have := block_lt HA.out.2.2.2.1; have := HA.out.2.1; omega)) 1) (fun hN => ?_); replace hHeld := hN; clear hK K hN
       try simp only [Act.put, qs]
       refine gT 10 ?_; try simp only [Act.put, qs]
       refine gT 11 ?_; try simp only [Act.put, qs]
       refine gT 12 ?_; try simp only [Act.put, qs]
       refine gT 13 ?_; try simp only [Act.put, qs]
       refine gT 14 ?_; try simp only [Act.put, qs]
       refine wpAnyH_done (by kernel_rfl) ?_ _
       have hk7' := hk7
       have b7 := HM.out.1
       have hR := hR7.rest
       rw [ov_more] at hR
       have hlk := hR7.lk (fun p hp => absurd hp (by simp))
       have hl7 := hR7.len
       have HC := Lib.hid (tCommit hT7 (by decide) HA.out.1.fl.len hlk (by simp only [List.length_nil] at hl7; omega) (by have := HA.out.1.c; omega))
       have hsz : f7.n.size = ((o + (k + M) : Nat) : Int) := by
        rw [hR7.size, HA.out.1.size]
        have := HM.out.2.1
        split <;> omega
       have HR := Lib.hid (And.intro hk7 (And.intro hR hsz))
       have v1 : ¬ ((M : Int) < 1) := by have := HM.out.2.1; omega
       have v2 : (i : Int) - (k : Int) < (M : Int) → False := by have := HM.out.2.1; have := HM.out.2.2.1; omega
       have v3 : ¬ ((i : Int) - (k : Int) < (M : Int)) := v2
       clear hk7 hk7' hR hlk hl7 hsz hR7 hT7 b7 q6 v2 hHeld
       go_upto_region 25 with (go_at_call 22; refine HC.out.mono ?_; rintro e w8 ⟨rfl, Sd8, c8, st8, hc8, hS8, hv8, hb8, hk8⟩)
       have hF8 := HA.out.1.fl.commit HA.out.2.1 HM.out.1 HR.out.1 hS8 hv8 hb8 HR.out.2.1 hk8
       have HF8 := Lib.hid (And.intro hF8 hc8)
       clear hF8 hc8 hS8 hv8 hb8 hk8
       go_wp2_with fail
       go_roundw
       case rel =>
        have h1 := HM.out.2.1
        have h2 := HA.out.2.2.1
        refine ⟨a + 1, k + M, Sd8, st8, c8, f7, by omega, by go_num, by omega, by omega, by go_num, ⟨HF8.out.1, by rw [HR.out.2.2, if_neg (by omega)], ?_⟩⟩
        have := HF8.out.2
        have := HA.out.1.c
        omega
       case measure => simp [Go.RowKit.intOf]; omega
     all_goals
      have hkw : k = wt := by omega
      subst hkw
      have hfl := hLS.fl
      obtain ⟨N, hN⟩ : ∃ N, N = wr.heap.size := ⟨_, rfl⟩
      have HX1 := Lib.hid (HX.out st'.bs.length wr)
      rw [← hN] at HX1
      have ho5 := grow_obj hfl.below H4.out.2.1
      have hJ5 := grow_obj hfl.below H4.out.2.2
      have hwt2 : k ≤ i ∧ o + k ≤ 1120 := by have := HQ.out.2; omega
      have HA := Lib.hid (And.intro hLS (And.intro hN (And.intro hprog (And.intro ho5 (And.intro hJ5 hmin)))))
      clear hLS hfl hN hprog ho5 hJ5
      go_upto_region 27 with (go_at_call 19; refine HX1.out.mono ?_; rintro e w6 ⟨rfl, ht, b6⟩)
      have b6' : Below wr.heap.size wr w6 := by rw [← HA.out.2.1]; exact b6
      have hT6 := HA.out.1.fl.tx0 HA.out.2.1 ht b6'
      have HR := Lib.hid (tRead (off := o) (n := 1120) hT6 HA.out.1.fl.wi.mid (by omega))
      rw [show min 1120 (f'.n.size.toNat - o) = k by rw [HA.out.1.size]; split <;> omega, ov_read (by rw [longB_len]; exact hwt2.1), show ((1120 : Nat) : Int) = 1120 from rfl] at HR
      have hXl : ((longB i).take k).length = k := by rw [List.length_take, longB_len]; omega
      have hby := bytes_take (longB_bytes (grow_obj b6' HA.out.2.2.2.2.1) HL.out.2.1 0) k
      rw [List.drop_zero] at hby
      have q6 : w6.cell? ⟨G, 1, none⟩ = some (.int .i64 1) := cell_obj (grow_obj b6' HA.out.2.2.2.1) 1
      generalize (longB i).take k = X at HR hXl hby
      have hB6 := H4.out.1.trans ((HA.out.1.fl.below.trans (b6'.mono HA.out.1.fl.below.size)).mono H4.out.1.size)
      have HZ := Lib.hid (And.intro hby (And.intro hB6 hXl))
      clear ht b6 b6' hT6 hby hB6 hXl
      go_upto_region 28 with (go_at_call 36; refine HR.out.mono ?_; rintro e w7 ⟨V7, rfl, hV7, b7⟩)
      obtain ⟨a7, c7, rfl, hby7⟩ := hV7.bytes
      rw [HZ.out.2.2]
      have e1 : ∀ z, Below w7.heap.size w7 z → (Go.convert 22 9 (.slice a7 k c7)).run Tryz.prog z = .ok (.string ⟨X.toArray⟩) z := fun z hz => by have := conv_at c7 (hby7.below hz); rwa [HZ.out.2.2] at this
      have e2 : ∀ z, Below w7.heap.size w7 z → (Go.convert 22 9 (.slice (some ⟨J, 0, none⟩) k i)).run Tryz.prog z = .ok (.string ⟨X.toArray⟩) z := fun z hz => by have := conv_at i ((HZ.out.1.below b7).below hz); rwa [HZ.out.2.2] at this
      have s1 := e1 w7.drew (Below.refl _ _).drew
      have s2 := e2 w7.drew (Below.refl _ _).drew
      generalize X.toArray = xa at s1 s2
      have hB7 := grow_trans HZ.out.2.1 b7
      have hki : (k : Int) ≤ (i : Int) := by omega
      clear e1 e2 hV7 hby7 b7 q6
     all_goals
       refine wp_region_held_drew (S := fun w' => (Go.convert 22 9 (.slice a7 k c7)).run Tryz.prog w' = .ok (.string ⟨xa⟩) w' ∧ (Go.convert 22 9 (.slice (some ⟨J, 0, none⟩) k i)).run Tryz.prog w' = .ok (.string ⟨xa⟩) w') (by kernel_rfl) (⟨s1, s2⟩) (fun hHeld => ?_)
       show wpAnyH _ _ _ _ _ 17 #[false, false, false, false, false, false, false, false, false, false, false, false, false, false, false, false, false] _ _
       refine gT 0 ?_; try simp only [Act.put, qs]
       refine gT 1 ?_; try simp only [Act.put, qs]
       refine gT 2 ?_; try simp only [Act.put, qs]
       refine gT 3 ?_; try simp only [Act.put, qs]
       refine gT 4 ?_; try simp only [Act.put, qs]
       refine gT 5 ?_; try simp only [Act.put, qs]
       refine gT 6 ?_; try simp only [Act.put, qs]
       refine gT 7 ?_; try simp only [Act.put, qs]
       refine gT 8 ?_; try simp only [Act.put, qs]
       refine gT 9 ?_; try simp only [Act.put, qs]
       refine gT 10 ?_; try simp only [Act.put, qs]
       refine gT 11 ?_; try simp only [Act.put, qs]
       refine gT 12 ?_; try simp only [Act.put, qs]
       refine gT 13 ?_; try simp only [Act.put, qs]
       refine gT 14 ?_; try simp only [Act.put, qs]
       refine gT 15 ?_; try simp only [Act.put, qs]
       refine gT 16 ?_; try simp only [Act.put, qs]
       refine wpAnyH_done (by kernel_rfl) ?_ _
       go_wp2_with fail
       go_ret
       exact ⟨rfl, hB7.drew⟩
end Go.Proofs.YtbbnejehglonjaaGreat
