/- DERIVED. clathrilaw16.FileHoles. -/
import Derived.Test.YtbbnejehglonjaaGreatMf00
import Derived.Test.YtbbnejehglonjaaGreatMf35
namespace Go.Proofs.YtbbnejehglonjaaGreat
set_option maxHeartbeats 8000000
set_option maxRecDepth 100000
set_option linter.unusedSimpArgs false
set_option linter.unusedVariables false
open Go.RowKit
attribute [local irreducible] Calls
theorem nat_u16 {n : Int} (h : (Lit.int .u16 n).wf = true) : ∃ k : Nat, n = (k : Int) ∧ k < 65536 := by
 simp [Lit.wf, IntKind.min, IntKind.max] at h
 have : 0 ≤ n ∧ n ≤ 65535 := by simpa [IntKind.bits, IntKind.signed] using h
 exact ⟨n.toNat, by omega, by omega⟩
theorem holes_read {b : List UInt8} {k m i : Nat} (hk : k ≤ b.length) (hb : b.length ≤ 200) (hm : m ≤ 1120) (hi : i < m) :
 cutC (cutC (ov (fun _ => 0) b 0 0 (0 + b.length)) k 20) m 20 (0 + i) = if i < k then b.getD i 0 else 0 := by
 unfold cutC ov
 rw [if_neg (by omega)]
 by_cases h : i < k
 · rw [if_neg (by omega), if_pos (by omega), if_pos h]
   congr 1; omega
 · rw [if_pos (by omega), if_neg h]
theorem walk_FileHoles {H : Type} {enc : TypeId × Value → H} {d2 : DataW H} {p2 : List MemPlace} {base2 : Nat} (cut long : Int) (a2 : Option Addr) (len2 cap2 : Nat) (w : World)
 (w0 : (Lit.int .u16 cut).wf = true) (w1 : (Lit.int .u16 long).wf = true)
 (h2 : DataW.Trod enc Tryz.prog w 0 (fun _ => true) true 22 (.slice a2 len2 cap2) d2 p2) (o2 : Value.okWide Tryz.prog w .any base2 22 (.slice a2 len2 cap2)) :
 Calls Tryz.prog 7 #[.int .u16 cut, .int .u16 long, .slice a2 len2 cap2] w fun e w' => e = .returned (.bool true) ∧ Below w.heap.size w w' := by
 obtain ⟨A, hA, hb2⟩ := barg_of h2 o2
 obtain ⟨n0, rfl, hn0⟩ := nat_u16 w0
 obtain ⟨n1, rfl, hn1⟩ := nat_u16 w1
 clear h2 o2 w0 w1
 have HB := Lib.hid (fun w => begun16_any w)
 have HAB := Lib.hid (And.intro hA hb2)
 clear hA hb2
 by_cases hl1 : (len2 : Int) < 1
 · go_enter Tryz.func7, Tryz.ntmps7
   go_wp2_with (go_at_call 31; refine (HB.out _).mono ?_; rintro e x0 ⟨rfl, b0⟩)
   go_ret
   exact ⟨rfl, b0⟩
 by_cases hl2 : (200 : Int) < (len2 : Int)
 · go_enter Tryz.func7, Tryz.ntmps7
   go_wp2_with (go_at_call 31; refine (HB.out _).mono ?_; rintro e x0 ⟨rfl, b0⟩)
   go_ret
   exact ⟨rfl, b0⟩
 obtain ⟨k, hk⟩ : ∃ k, k = n0 % (len2 + 1) := ⟨_, rfl⟩
 obtain ⟨q, hq⟩ : ∃ q, q = n1 % (1120 - k + 1) := ⟨_, rfl⟩
 have hk2 : k ≤ len2 := by rw [hk]; exact Nat.le_of_lt_succ (Nat.mod_lt _ (Nat.succ_pos _))
 have hq2 : q ≤ 1120 - k := by rw [hq]; exact Nat.le_of_lt_succ (Nat.mod_lt _ (Nat.succ_pos _))
 have m0 : (n0 : Int).tmod ((len2 : Int) + 1) = (k : Int) := by rw [hk]; exact (Int.ofNat_tmod n0 (len2 + 1)).symm
 have m1 : (n1 : Int).tmod (1120 - (k : Int) + 1) = (q : Int) := by
  rw [hq, show (1120 : Int) - (k : Int) + 1 = ((1120 - k + 1 : Nat) : Int) by omega]; exact (Int.ofNat_tmod n1 (1120 - k + 1)).symm
 clear hk hq
 have HN := Lib.hid (fun w => sNew_any 0 40 w (by decide) (by decide))
 go_enter Tryz.func7, Tryz.ntmps7
 go_upto_region 5 with (go_at_call 31; refine (HB.out _).mono ?_; rintro e x0 ⟨rfl, b0⟩)
 go_upto_region 6 with (go_at_call 32; refine (HN.out _).mono ?_; rintro e w1 ⟨p, g, rfl, hs, b1, hp1, hg1⟩)
 have hp1' : w.heap.size ≤ p := Nat.le_trans b0.size hp1
 have H1 := Lib.hid (And.intro hs (And.intro (grow_trans b0 b1) hp1'))
 clear hs b0 b1 hp1 hg1 hp1'
 go_upto_region 7 with (first
  | (go_at_call 34; refine (Root_lit _).mono ?_; rintro e w2 ⟨rfl, b2⟩)
  | (go_at_call 33; refine (sFile_any (H1.out.1.below b2) (by decide) (by decide)).mono ?_; rintro e w3 ⟨g3, cap4, rfl, hs3, hk3, hg3⟩))
 have hb3 : Below w.heap.size w w3 := by
  have h2 := grow_trans H1.out.2.1 b2
  exact h2.trans (hk3.below h2.size (fun q e => by rw [e]; exact H1.out.2.2))
 obtain ⟨w4, hw4⟩ : ∃ w4, w4 = w3.alloc (.cells #[.int .i64 0, .int .i64 1, .int .u32 1] 66) := ⟨_, rfl⟩
 obtain ⟨G, hG⟩ : ∃ G, G = w3.heap.size := ⟨_, rfl⟩
 have hs4 := hs3.below (below_alloc hw4)
 have ho4 : objAt w4 G = some (.cells #[.int .i64 0, .int .i64 1, .int .u32 1] 66 (0, 0)) := by rw [hG]; exact obj_alloc hw4
 have hb4 := grow_trans hb3 (below_alloc hw4)
 rw [← hw4, ← hG]
 have c1 := hs4.c1
 have hrow := hs4.row
 rw [fileBlks_len] at c1 hrow
 have HF := Lib.hid (Filled_any (bs := fileBlks 40) (n := 40) (by decide) (by decide) (fileBlks_len 40) hrow (fileBlks_kinds (by decide) (by decide)))
 have H4 := Lib.hid (And.intro hb4 ho4)
 clear hs3 hk3 hg3 hb3 hs4 hb4 ho4 hrow hw4 hG b2
 go_upto_region 8 with (go_at_call 18; refine HF.out.mono ?_; rintro e w5 ⟨d, v, rfl, Sd, gb, cap, m, st, c, hf, hst, hc⟩)
 have HX := Lib.hid (txNew_any v st.bs.length w5)
 obtain ⟨N, hN⟩ : ∃ N, N = w5.heap.size := ⟨_, rfl⟩
 rw [← hN] at HX
 have H5 := Lib.hid (And.intro hf (And.intro hst (And.intro hN hc)))
 clear hf hst hN hc c1
 go_upto_region 11 with (go_at_call 19; refine HX.out.mono ?_; rintro e w6 ⟨rfl, ht, b6⟩)
 have hT6 := H5.out.1.txV H5.out.2.2.1 ht (by rw [← H5.out.2.2.1]; exact b6)
 have hNw : w.heap.size ≤ N := by rw [H5.out.2.2.1]; exact (grow_trans H4.out.1 H5.out.1.below).size
 have hB6 : Below w.heap.size w w6 := (grow_trans H4.out.1 H5.out.1.below).trans (b6.mono hNw)
 have ho6 : objAt w6 G = some (.cells #[.int .i64 0, .int .i64 1, .int .u32 1] 66 (0, 0)) := grow_obj (by rw [← H5.out.2.2.1]; exact b6) (grow_obj H5.out.1.below H4.out.2)
 have hWI := (new_left (n := 40) (by decide) (by decide)).1
 rw [← H5.out.2.1] at hWI
 rw [← txV_nil st.bs] at hWI
 have hn : 32 ≤ st.bs.length := by rw [H5.out.2.1, fileBlks_len]; decide
 have hGN : G < N := by rw [H5.out.2.2.1]; exact Nat.lt_of_lt_of_le (block_lt H4.out.2) H5.out.1.below.size
 have HS := Lib.hid (show ∀ (x y : World), Keeps (fun q => q = N ∨ q = N + 1) x y → Below w.heap.size w x → objAt x G = some (.cells #[.int .i64 0, .int .i64 1, .int .u32 1] 66 (0, 0)) → Below w.heap.size w y ∧ objAt y G = some (.cells #[.int .i64 0, .int .i64 1, .int .u32 1] 66 (0, 0)) from fun x y hk hb ho => ⟨hb.trans (hk.below hb.size (fun q e => by omega)), hk.obj ho (fun e => by omega)⟩)
 have hA1 : 1 ≤ A.length ∧ A.length ≤ 200 := by have := HAB.out.1; omega
 have hwm : wMany A 0 = len2 := by unfold wMany; have := HAB.out.1; omega
 have HW := Lib.hid (tWriteN (off := 0) (dl := len2) (dc := cap2) (offi := 0) (M := len2) (Mi := (len2 : Int)) hT6 hWI hn (HAB.out.2.below hB6).bytes (by decide) (fun e => by rw [e] at hA1; simp at hA1) HAB.out.1 (by omega) (by have := HAB.out.2.le; have := HAB.out.1; omega) rfl hwm rfl)
 have q6 : w6.cell? ⟨G, 1, none⟩ = some (.int .i64 1) := cell_obj ho6 1
 have hM : ∃ M : Nat, M = k + q := ⟨_, rfl⟩
 obtain ⟨M, hM⟩ := hM
 have hMi : (k : Int) + (q : Int) = (M : Int) := by omega
 have H6 := Lib.hid (And.intro hB6 (And.intro ho6 (And.intro hA1 (And.intro hMi (And.intro (show k ≤ M by omega) (And.intro (show M ≤ 1120 by omega) (show k ≤ len2 by omega)))))))
 clear hT6 ht b6 hB6 ho6 hWI hn hNw hGN hA1 hwm hM hMi
 go_upto_region 16 with (go_at_call 35; refine HW.out.mono ?_; rintro e w7 ⟨rfl, L7, T7, f7, hT7, hW7, hk7⟩)
 rw [H6.out.2.2.2.1]
 have hS7 := HS.out _ _ hk7 H6.out.1 H6.out.2.1
 have HT7 := Lib.hid (tTrunc (size := k) hT7 hW7.rest (by have := H6.out.2.2.2.2; omega))
 have q7 : w7.cell? ⟨G, 1, none⟩ = some (.int .i64 1) := cell_obj hS7.2 1
 have H7 := Lib.hid (And.intro hS7 hW7)
 clear hS7 hW7 hT7 hk7 q6 m0 m1 hq2 hn0 hn1
 go_upto_region 17 with (go_at_call 37; refine HT7.out.mono ?_; rintro e w8 ⟨rfl, L8, f8, hT8, hC8, hk8⟩)
 have hS8 := HS.out _ _ hk8 H7.out.1.1 H7.out.1.2
 have HL8 := Lib.hid (tLeftP hT8 H7.out.2.wi.pos)
 have q8 : w8.cell? ⟨G, 1, none⟩ = some (.int .i64 1) := cell_obj hS8.2 1
 have H8 := Lib.hid (And.intro hS8 (And.intro hT8 hC8))
 clear hS8 hT8 hC8 hk8 q7
 go_upto_region 18 with (go_at_call 28; refine HL8.out.mono ?_; rintro e w9 ⟨rfl, b9⟩)
 have HT9 := Lib.hid (tTrunc (size := M) (H8.out.2.1.below b9) H8.out.2.2.rest H6.out.2.2.2.2.2.1)
 have q9 : w9.cell? ⟨G, 1, none⟩ = some (.int .i64 1) := grow_cell b9 q8
 have H9 := Lib.hid b9
 clear b9 q8
 go_upto_region 19 with (go_at_call 37; refine HT9.out.mono ?_; rintro e w10 ⟨rfl, L10, f10, hT10, hC10, hk10⟩)
 have hS10 := HS.out _ _ hk10 (grow_trans H8.out.1.1 H9.out) (grow_obj H9.out H8.out.1.2)
 have hlf := cut_long H8.out.2.2 hC10 H6.out.2.2.2.2.1 H7.out.2.wi.pos
 rw [hlf]
 have HR10 := Lib.hid (tRead (off := 0) (n := 1120) hT10 hC10.rest (by decide))
 rw [hC10.sz, show ((0 : Nat) : Int) = 0 from rfl, show ((1120 : Nat) : Int) = 1120 from rfl] at HR10
 have q10 : w10.cell? ⟨G, 1, none⟩ = some (.int .i64 1) := cell_obj hS10.2 1
 obtain ⟨X, hX⟩ : ∃ X, X = (List.range (min 1120 ((M : Int).toNat - 0))).map (fun i => cutC (cutC (ov (fun _ => 0) A 0 0 (0 + len2)) k 20) M 20 (0 + i)) := ⟨_, rfl⟩
 rw [← hX] at HR10
 have hXl : X.length = M := by rw [hX, List.length_map, List.length_range]; have := H6.out.2.2.2.2.2.1; omega
 have hXi : ∀ i (h : i < X.length), X[i] = if i < k then A.getD i 0 else 0 := fun i h => by
  have e := holes_read (b := A) (k := k) (m := M) (i := i) (by rw [HAB.out.1]; exact H6.out.2.2.2.2.2.2) H6.out.2.2.1.2 H6.out.2.2.2.2.2.1 (by rw [hXl] at h; exact h)
  rw [HAB.out.1] at e
  simp only [hX, List.getElem_map, List.getElem_range]
  exact e
 have H10 := Lib.hid (And.intro hS10 (And.intro hT10 (And.intro hXl hXi)))
 clear hS10 hT10 hC10 hk10 q9 hlf hX hXl hXi
 go_upto_region 20 with (go_at_call 36; refine HR10.out.mono ?_; rintro e w11 ⟨V11, rfl, hV11, b11⟩)
 obtain ⟨a11, c11, rfl, hby11⟩ := hV11.bytes
 have HL11 := Lib.hid (tLeftP (H10.out.2.1.below b11) H7.out.2.wi.pos)
 rw [H10.out.2.2.1]
 have H11 := Lib.hid (And.intro hby11 (grow_trans H10.out.1.1 b11))
 generalize leftT (txV L10 st.bs) T7 = lf at *
 clear hV11 hby11 b11 q10
 go_upto_region 22 with (go_at_call 28; refine HL11.out.mono ?_; rintro e w12 ⟨rfl, b12⟩)
 have H12 := Lib.hid (And.intro (H11.out.1.below b12) (grow_trans H11.out.2 b12))
 clear b12
 go_wp2_with fail
 go_loopw [23] (fun s23 wr => ∃ i : Nat, i ≤ M ∧ s23 = .int .i64 i ∧ Below w12.heap.size w12 wr) (fun i _ => M - (Go.RowKit.intOf i).toNat)
 case atStart => exact ⟨0, Nat.zero_le _, rfl, Below.refl _ _⟩
 case round =>
  obtain ⟨i, hi, rfl, hbl⟩ := hrel
  by_cases hlt : (i : Int) < (M : Int)
  · obtain ⟨xb, xo, hxa, hxc⟩ := H12.out.1.below hbl
    have hlX : i < X.length := by rw [H10.out.2.2.1]; omega
    obtain rfl := hxa (by omega)
    have hcx := hxc i hlX
    rw [H10.out.2.2.2 i hlX] at hcx
    obtain ⟨bb, bo, hba, hbc⟩ := ((HAB.out.2.below H12.out.2).below hbl).bytes
    obtain rfl := hba H6.out.2.2.1.1
    have i0 : (0 : Int) ≤ (i : Int) := Int.natCast_nonneg _
    have HI := Lib.hid hbl
    have hMx := H6.out.2.2.2.2.2.1
    have hMb : (M : Int) ≤ 1120 := by omega
    clear hxa hxc hba hMx
    by_cases hik : (i : Int) < (k : Int)
    · have hlA : i < A.length := by rw [HAB.out.1]; have := H6.out.2.2.2.2.2.2; omega
      have hcb := hbc i hlA
      rw [if_pos (by omega), List.getD_eq_getElem?_getD, List.getElem?_eq_getElem hlA] at hcx
      replace hcx : wr.cell? ⟨xb, xo + i, none⟩ = some (.int .u8 (A[i].toNat : Int)) := hcx
      generalize (A[i].toNat : Int) = z at hcx hcb
      have hi2 : (i : Int) < (len2 : Int) := by have := HAB.out.1; omega
      have d1 : decide ((i : Int) < (k : Int)) = true := decide_eq_true hik
      have d2 : decide (k ≤ i) = false := decide_eq_false (by omega)
      have d3 : (z != z) = false := by simp
      clear hbc hlA hlX
      go_upto_region 25 with fail
      refine wp_region_held_drew (S := fun w' => w'.cell? ⟨xb, xo + i, none⟩ = some (.int .u8 z) ∧ w'.cell? ⟨bb, bo + i, none⟩ = some (.int .u8 z) ∧ Below w12.heap.size w12 w') (by kernel_rfl) (⟨hcx, hcb, HI.out.drew⟩) (fun hHeld => ?_)
      show wpAnyH _ _ _ _ _ 26 #[false, false, false, false, false, false, false, false, false, false, false, false, false, false, false, false, false, false, false, false, false, false, false, false, false, false] _ _
      refine gT 0 ?_; try simp only [Act.put, qs]
      refine gT 1 ?_; try simp only [Act.put, qs]
      refine gT 2 ?_; try simp only [Act.put, qs]
      refine gT 3 ?_; try simp only [Act.put, qs]
      refine gT 4 ?_; try simp only [Act.put, qs]
      refine gT 5 ?_; try simp only [Act.put, qs]
      refine gT 6 ?_; try simp only [Act.put, qs]
      refine gT 7 ?_; try simp only [Act.put, qs]
      refine gT 8 ?_; try simp only [Act.put, qs]
      refine gT 9 ?_; try simp only [Act.put, qs]
      refine gT 10 ?_; try simp only [Act.put, qs]
      refine gT 11 ?_; try simp only [Act.put, qs]
      refine gT 12 ?_; try simp only [Act.put, qs]
      refine gT 13 ?_; try simp only [Act.put, qs]
      refine gT 14 ?_; try simp only [Act.put, qs]
      refine gT 15 ?_; try simp only [Act.put, qs]
      refine gT 16 ?_; try simp only [Act.put, qs]
      refine gT 17 ?_; try simp only [Act.put, qs]
      refine gT 18 ?_; try simp only [Act.put, qs]
      refine gU 19 ?_; try simp only [Act.put, qs]
      refine gU 20 ?_; try simp only [Act.put, qs]
      refine gU 21 ?_; try simp only [Act.put, qs]
      refine gU 22 ?_; try simp only [Act.put, qs]
      refine gU 23 ?_; try simp only [Act.put, qs]
      refine gT 24 ?_; try simp only [Act.put, qs]
      refine gT 25 ?_; try simp only [Act.put, qs]
      refine wpAnyH_done (by kernel_rfl) ?_ _
      go_wp2_with fail
      go_roundw
      case rel => exact ⟨i + 1, by omega, by go_num, hHeld.2.2⟩
      case measure => simp [Go.RowKit.intOf]; omega
    · rw [if_neg (by omega)] at hcx
      replace hcx : wr.cell? ⟨xb, xo + i, none⟩ = some (.int .u8 0) := hcx
      have hnk : (k : Int) ≤ (i : Int) := by omega
      have d1 : decide ((i : Int) < (k : Int)) = false := decide_eq_false hik
      have d2 : decide (k ≤ i) = true := decide_eq_true (by omega)
      clear hbc hlX
      go_upto_region 25 with fail
      refine wp_region_held_drew (S := fun w' => w'.cell? ⟨xb, xo + i, none⟩ = some (.int .u8 0) ∧ Below w12.heap.size w12 w') (by kernel_rfl) (⟨hcx, HI.out.drew⟩) (fun hHeld => ?_)
      show wpAnyH _ _ _ _ _ 26 #[false, false, false, false, false, false, false, false, false, false, false, false, false, false, false, false, false, false, false, false, false, false, false, false, false, false] _ _
      refine gT 0 ?_; try simp only [Act.put, qs]
      refine gT 1 ?_; try simp only [Act.put, qs]
      refine gT 2 ?_; try simp only [Act.put, qs]
      refine gT 3 ?_; try simp only [Act.put, qs]
      refine gU 4 ?_; try simp only [Act.put, qs]
      refine gU 5 ?_; try simp only [Act.put, qs]
      refine gU 6 ?_; try simp only [Act.put, qs]
      refine gU 7 ?_; try simp only [Act.put, qs]
      refine gU 8 ?_; try simp only [Act.put, qs]
      refine gU 9 ?_; try simp only [Act.put, qs]
      refine gU 10 ?_; try simp only [Act.put, qs]
      refine gU 11 ?_; try simp only [Act.put, qs]
      refine gU 12 ?_; try simp only [Act.put, qs]
      refine gT 13 ?_; try simp only [Act.put, qs]
      refine gT 14 ?_; try simp only [Act.put, qs]
      refine gT 15 ?_; try simp only [Act.put, qs]
      refine gT 16 ?_; try simp only [Act.put, qs]
      refine gT 17 ?_; try simp only [Act.put, qs]
      refine gT 18 ?_; try simp only [Act.put, qs]
      refine gT 19 ?_; try simp only [Act.put, qs]
      refine gT 20 ?_; try simp only [Act.put, qs]
      refine gT 21 ?_; try simp only [Act.put, qs]
      refine gT 22 ?_; try simp only [Act.put, qs]
      refine gT 23 ?_; try simp only [Act.put, qs]
      refine gT 24 ?_; try simp only [Act.put, qs]
      refine gT 25 ?_; try simp only [Act.put, qs]
      refine wpAnyH_done (by kernel_rfl) ?_ _
      go_wp2_with fail
      go_roundw
      case rel => exact ⟨i + 1, by omega, by go_num, hHeld.2⟩
      case measure => simp [Go.RowKit.intOf]; omega
  · go_wp2_with fail
    go_ret
    exact ⟨rfl, grow_trans H12.out.2 hbl⟩
end Go.Proofs.YtbbnejehglonjaaGreat
