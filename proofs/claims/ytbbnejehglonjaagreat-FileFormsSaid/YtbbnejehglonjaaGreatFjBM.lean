/- DERIVED. clathrilaw16.FileForms. -/
import Derived.Test.YtbbnejehglonjaaGreatMf00
import Derived.Test.YtbbnejehglonjaaGreatMf35
namespace Go.Proofs.YtbbnejehglonjaaGreat
set_option maxHeartbeats 8000000
set_option maxRecDepth 100000
set_option linter.unusedSimpArgs false
set_option linter.unusedVariables false
open Go.RowKit
attribute [local irreducible] Calls
theorem walk_FileForms (w : World) : Calls Tryz.prog 6 #[] w fun e w' => e = .returned (.bool true) ∧ Below w.heap.size w w' := by
 have HN := Lib.hid (fun w => sNew_any 0 60 w (by decide) (by decide))
 have HB := Lib.hid (fun w => begun16_any w)
 go_enter Tryz.func6, Tryz.ntmps6
 go_upto_region 3 with (go_at_call 31; refine (HB.out _).mono ?_; rintro e w0 ⟨rfl, b0⟩)
 go_upto_region 4 with (go_at_call 32; refine (HN.out _).mono ?_; rintro e w1 ⟨p, g, rfl, hs, b1, hp1, hg1⟩)
 have hp1' : w.heap.size ≤ p := Nat.le_trans b0.size hp1
 have H1 := Lib.hid (And.intro hs (And.intro (grow_trans b0 b1) hp1'))
 clear hs b0 b1 hp1 hg1 hp1'
 go_upto_region 5 with (first
  | (go_at_call 34; refine (Root_lit _).mono ?_; rintro e w2 ⟨rfl, b2⟩)
  | (go_at_call 33; refine (sFile_any (H1.out.1.below b2) (by decide) (by decide)).mono ?_; rintro e w3 ⟨g3, cap3, rfl, hs3, hk3, hg3⟩))
 have hb3 : Below w.heap.size w w3 := by
  have h2 := grow_trans H1.out.2.1 b2
  exact h2.trans (hk3.below h2.size (fun q e => by rw [e]; exact H1.out.2.2))
 obtain ⟨w4, hw4⟩ : ∃ w4, w4 = w3.alloc (.cells #[.int .i64 0, .int .i64 1, .int .u32 1] 66) := ⟨_, rfl⟩
 obtain ⟨G, hG⟩ : ∃ G, G = w3.heap.size := ⟨_, rfl⟩
 have hs4 := hs3.below (below_alloc hw4)
 have ho4 : objAt w4 G = some (.cells #[.int .i64 0, .int .i64 1, .int .u32 1] 66 (0, 0)) := by rw [hG]; exact obj_alloc hw4
 have hb4 := grow_trans hb3 (below_alloc hw4)
 rw [← hw4, ← hG]
 have c1 := hs4.c1
 have hrow := hs4.row
 rw [fileBlks_len] at c1 hrow
 have HF := Lib.hid (Filled_any (bs := fileBlks 60) (n := 60) (by decide) (by decide) (fileBlks_len 60) hrow (fileBlks_kinds (by decide) (by decide)))
 have H4 := Lib.hid (And.intro hb4 ho4)
 clear hs3 hk3 hg3 hb3 hs4 hb4 ho4 hrow hw4 hG b2
 go_upto_region 6 with (go_at_call 18; refine HF.out.mono ?_; rintro e w5 ⟨d, v, rfl, Sd, gb, cap, m, st, c, hf, hst, hc⟩)
 have HX := Lib.hid (txNew_any v st.bs.length w5)
 obtain ⟨N, hN⟩ : ∃ N, N = w5.heap.size := ⟨_, rfl⟩
 rw [← hN] at HX
 have H5 := Lib.hid (And.intro hf (And.intro hst (And.intro hN hc)))
 clear hf hst hN hc c1
 go_upto_region 9 with (go_at_call 19; refine HX.out.mono ?_; rintro e w6 ⟨rfl, ht, b6⟩)
 have hT6 := H5.out.1.txV H5.out.2.2.1 ht (by rw [← H5.out.2.2.1]; exact b6)
 have hNw : w.heap.size ≤ N := by rw [H5.out.2.2.1]; exact (grow_trans H4.out.1 H5.out.1.below).size
 have hB6 : Below w.heap.size w w6 := (grow_trans H4.out.1 H5.out.1.below).trans (b6.mono hNw)
 have ho6 : objAt w6 G = some (.cells #[.int .i64 0, .int .i64 1, .int .u32 1] 66 (0, 0)) := grow_obj (by rw [← H5.out.2.2.1]; exact b6) (grow_obj H5.out.1.below H4.out.2)
 have hWI := (new_left (n := 60) (by decide) (by decide)).1
 rw [← H5.out.2.1] at hWI
 rw [← txV_nil st.bs] at hWI
 have hn : 32 ≤ st.bs.length := by rw [H5.out.2.1, fileBlks_len]; decide
 have hGN : G < N := by rw [H5.out.2.2.1]; exact Nat.lt_of_lt_of_le (block_lt H4.out.2) H5.out.1.below.size
 have q6 : w6.cell? ⟨G, 1, none⟩ = some (.int .i64 1) := cell_obj ho6 1
 have H6 := Lib.hid (And.intro hB6 (And.intro ho6 (And.intro hT6 (And.intro hWI (And.intro hn (And.intro hNw hGN))))))
 clear hT6 ht b6 hB6 ho6 hWI hn hNw hGN
 refine wp_region_held_drew (S := fun w' => w'.cell? ⟨G, 1, none⟩ = some (.int .i64 1)) (by kernel_rfl) (q6) (fun hHeld => ?_)
 show wpAnyH _ _ _ _ _ 10 #[false, false, false, false, false, false, false, false, false, false] _ _
 refine gT 0 ?_; try simp only [Act.put, qs]
 refine gT 1 ?_; try simp only [Act.put, qs]
 refine gT 2 ?_; try simp only [Act.put, qs]
 refine wpAnyH_ready (rs := [3]) (by kernel_rfl) (by simp) ?_
 refine (AllReadyH.cons rfl (fun K hK => ?_) AllReadyH.nil)
 refine step_mk (n := 400) rfl rfl (mkB 400 (by decide) _) ?_; intro g9 x9 hg9 hx9; have hb9 : Below w6.heap.size w6 x9 := (Below.refl _ _).drew.trans (below_alloc hx9); have hz9 := noughts_at (show objAt x9 g9 = some (.cells (noughts 400) 5 (0, 0)) by (rw [hg9]; exact obj_alloc hx9)); clear hg9 hx9; have HW := Lib.hid (tWriteN (off := 10) (dl := 400) (dc := 400) (offi := 10) (M := 214) (Mi := 214) (H6.out.2.2.1.below hb9) H6.out.2.2.2.1 H6.out.2.2.2.2.1 hz9 (by decide) (by decide) (by decide +kernel) (by decide) (by decide) rfl (by decide +kernel) rfl)
 refine hK.out _ _ (by exact grow_cell hb9 q6) (fun hN => ?_); replace hHeld := hN; clear hK K hN
 try simp only [Act.put, qs]
 refine wpAnyH_ready (rs := [4]) (by kernel_rfl) (by simp) ?_
 refine (AllReadyH.cons rfl (fun K hK => ?_) AllReadyH.nil)
 try simp only [qs]
 go_simp
 go_at_call 35; refine HW.out.mono ?_; rintro e w8 ⟨rfl, L8, T8, f8, hT8, hR8, hk8⟩; have hoG := hk8.obj (grow_obj hb9 H6.out.2.1) (fun e => by have := H6.out.2.2.2.2.2.2; omega); have hB8 : Below w.heap.size w w8 := (grow_trans H6.out.1 hb9).trans (hk8.below (grow_trans H6.out.1 hb9).size (fun q e => by have := H6.out.2.2.2.2.2.1; omega))
 refine hK.out _ _ (by exact cell_obj hoG 1) (fun hN => ?_); replace hHeld := hN; clear hK K hN
 try simp only [qs]
 refine gT 5 ?_; try simp only [Act.put, qs]
 refine gT 6 ?_; try simp only [Act.put, qs]
 refine gT 7 ?_; try simp only [Act.put, qs]
 refine gT 8 ?_; try simp only [Act.put, qs]
 refine gT 9 ?_; try simp only [Act.put, qs]
 refine wpAnyH_done (by kernel_rfl) ?_ _
 have hWI8 := hR8.wi
 have hs8 : f8.n.size = 224 := by rw [hR8.size]; rfl
 have q8 : w8.cell? ⟨G, 1, none⟩ = some (.int .i64 1) := cell_obj hoG 1
 have H8 := Lib.hid (And.intro hB8 (And.intro hoG (And.intro hT8 (And.intro hWI8 hs8))))
 clear hB8 hoG hT8 hR8 hk8 hb9 hz9 HW hHeld q6 hWI8 hs8
 go_upto_region 10 with fail
 refine wp_region_held_drew (S := fun w' => w'.cell? ⟨G, 1, none⟩ = some (.int .i64 1)) (by kernel_rfl) (q8) (fun hHeld => ?_)
 show wpAnyH _ _ _ _ _ 10 #[false, false, false, false, false, false, false, false, false, false] _ _
 refine gT 0 ?_; try simp only [Act.put, qs]
 refine gT 1 ?_; try simp only [Act.put, qs]
 refine gT 2 ?_; try simp only [Act.put, qs]
 refine wpAnyH_ready (rs := [3]) (by kernel_rfl) (by simp) ?_
 refine (AllReadyH.cons rfl (fun K hK => ?_) AllReadyH.nil)
 refine step_mk (n := 400) rfl rfl (mkB 400 (by decide) _) ?_; intro g9 x9 hg9 hx9; have hb9 : Below w8.heap.size w8 x9 := (Below.refl _ _).drew.trans (below_alloc hx9); have hz9 := noughts_at (show objAt x9 g9 = some (.cells (noughts 400) 5 (0, 0)) by (rw [hg9]; exact obj_alloc hx9)); clear hg9 hx9; have HW := Lib.hid (tWriteN (off := 1100) (dl := 400) (dc := 400) (offi := 1100) (M := 20) (Mi := 20) (H8.out.2.2.1.below hb9) H8.out.2.2.2.1 H6.out.2.2.2.2.1 hz9 (by decide) (by decide) (by decide +kernel) (by decide) (by decide) rfl (by decide +kernel) rfl)
 refine hK.out _ _ (by exact grow_cell hb9 q8) (fun hN => ?_); replace hHeld := hN; clear hK K hN
 try simp only [Act.put, qs]
 refine wpAnyH_ready (rs := [4]) (by kernel_rfl) (by simp) ?_
 refine (AllReadyH.cons rfl (fun K hK => ?_) AllReadyH.nil)
 try simp only [qs]
 go_simp
 go_at_call 35; refine HW.out.mono ?_; rintro e w10 ⟨rfl, L10, T10, f10, hT10, hR10, hk10⟩; have hoG := hk10.obj (grow_obj hb9 H8.out.2.1) (fun e => by have := H6.out.2.2.2.2.2.2; omega); have hB10 : Below w.heap.size w w10 := (grow_trans H8.out.1 hb9).trans (hk10.below (grow_trans H8.out.1 hb9).size (fun q e => by have := H6.out.2.2.2.2.2.1; omega))
 refine hK.out _ _ (by exact cell_obj hoG 1) (fun hN => ?_); replace hHeld := hN; clear hK K hN
 try simp only [qs]
 refine gT 5 ?_; try simp only [Act.put, qs]
 refine gT 6 ?_; try simp only [Act.put, qs]
 refine gT 7 ?_; try simp only [Act.put, qs]
 refine gT 8 ?_; try simp only [Act.put, qs]
 refine gT 9 ?_; try simp only [Act.put, qs]
 refine wpAnyH_done (by kernel_rfl) ?_ _
 have hs10 : f10.n.size = 1120 := by rw [hR10.size, H8.out.2.2.2.2]; rfl
 have q10 : w10.cell? ⟨G, 1, none⟩ = some (.int .i64 1) := cell_obj hoG 1
 have hT11 : TxV (w10.alloc (.cells #[.int .u8 120] 5 (1, 2))) Sd (N + 2) v N (N + 1) L10 T10 d 0 (shN 60) gb cap m st c := hT10.below (below_alloc rfl)
 have hby : BytesAt (w10.alloc (.cells #[.int .u8 120] 5 (1, 2))) (some ⟨w10.heap.size, 0, none⟩) [120] := by
  refine ⟨w10.heap.size, 0, fun _ => rfl, fun i hi => ?_⟩
  match i, hi with
  | 0, _ => simp only [World.cell?, heap_alloc_if, if_pos]; rfl
 have hb11 : Below w10.heap.size w10 (w10.alloc (.cells #[.int .u8 120] 5 (1, 2))) := below_alloc rfl
 obtain ⟨x11, hx11⟩ : ∃ x11, x11 = w10.alloc (.cells #[.int .u8 120] 5 (1, 2)) := ⟨_, rfl⟩
 rw [← hx11] at hT11 hby hb11
 have HE := Lib.hid (tWriteE (off := 1120) (x := 13) (dl := 1) (dc := 1) hT11 hR10.rest rfl (fun h => by unfold writeF; rw [h]; rfl) hby (by decide) (by decide))
 have hcv : (Go.convert 22 22 (.slice (some ⟨w10.heap.size, 0, none⟩) 1 1)).run Tryz.prog (w10.alloc (.cells #[.int .u8 120] 5)) = .ok (.slice (some ⟨w10.heap.size, 0, none⟩) 1 1) (w10.alloc (.cells #[.int .u8 120] 5 (1, 2))) :=
  Go.Lib.run_convert_bytes_const (P := Tryz.prog) w10 22 5 #[.int .u8 120] 1 1 Tryz.underlying22 Tryz.underlying5
 have H10 := Lib.hid (And.intro hB10 (And.intro hoG (And.intro hT10 (And.intro hR10.rest (And.intro hs10 hb11)))))
 have HX11 := Lib.hid hx11
 clear hB10 hoG hT10 hR10 hk10 hb9 hz9 HW hHeld q8 hs10 hT11 hby hb11 hx11
 go_upto_region 12 with (go_at_call 35; rw [← HX11.out]; refine HE.out.mono ?_; rintro e w11 ⟨rfl, hT11, hk11⟩)
 have hoG := hk11.obj (grow_obj H10.out.2.2.2.2.2 H10.out.2.1) (fun e => by have := H6.out.2.2.2.2.2.2; omega)
 have hB11 : Below w.heap.size w w11 := (grow_trans H10.out.1 H10.out.2.2.2.2.2).trans (hk11.below (grow_trans H10.out.1 H10.out.2.2.2.2.2).size (fun q e => by have := H6.out.2.2.2.2.2.1; omega))
 have q11 : w11.cell? ⟨G, 1, none⟩ = some (.int .i64 1) := cell_obj hoG 1
 have HE := Lib.hid (tWriteE (off := 1120) (x := 0) (dl := 0) (dc := 0) hT11 H10.out.2.2.2.1 rfl (fun h => by unfold writeF; rw [h]; rfl) (noBytes (ad := none)) (by decide) (by decide))
 have H11 := Lib.hid (And.intro hB11 (And.intro hoG hT11))
 clear hcv q10 hT11 hk11 hoG hB11
 go_upto_region 13 with (go_at_call 35; refine HE.out.mono ?_; rintro e w12 ⟨rfl, hT12, hk12⟩)
 have hoG := hk12.obj H11.out.2.1 (fun e => by have := H6.out.2.2.2.2.2.2; omega)
 have hB12 : Below w.heap.size w w12 := H11.out.1.trans (hk12.below H11.out.1.size (fun q e => by have := H6.out.2.2.2.2.2.1; omega))
 have q12 : w12.cell? ⟨G, 1, none⟩ = some (.int .i64 1) := cell_obj hoG 1
 have HR13 := Lib.hid (tRead (off := 1119) (n := 99) hT12 H10.out.2.2.2.1 (by decide))
 rw [H10.out.2.2.2.2.1, show (List.range (min 99 ((1120 : Int).toNat - 1119))) = [0] from rfl, show ((1119 : Nat) : Int) = 1119 from rfl, show ((99 : Nat) : Int) = 99 from rfl, List.map_cons, List.map_nil] at HR13
 have H12 := Lib.hid (And.intro hB12 (And.intro hoG hT12))
 clear hT12 hk12 hoG hB12 q11
 go_upto_region 14 with (go_at_call 36; refine HR13.out.mono ?_; rintro e w13 ⟨V13, rfl, hV13, b13⟩)
 obtain ⟨a13, c13, e13, _⟩ := hV13.bytes
 replace e13 : V13 = .slice a13 1 c13 := e13
 subst e13
 have q13 : w13.cell? ⟨G, 1, none⟩ = some (.int .i64 1) := grow_cell b13 q12
 have hT13 := H12.out.2.2.below b13
 have HR14 := Lib.hid (tRead (off := 1120) (n := 99) hT13 H10.out.2.2.2.1 (by decide))
 rw [H10.out.2.2.2.2.1, show (List.range (min 99 ((1120 : Int).toNat - 1120))) = [] from rfl, show ((1120 : Nat) : Int) = 1120 from rfl, show ((99 : Nat) : Int) = 99 from rfl, List.map_nil] at HR14
 have H13 := Lib.hid (And.intro (grow_trans H12.out.1 b13) (And.intro (grow_obj b13 H12.out.2.1) hT13))
 clear hV13 b13 hT13 q12
 go_upto_region 15 with (go_at_call 36; refine HR14.out.mono ?_; rintro e w14 ⟨V14, rfl, hV14, b14⟩)
 obtain ⟨a14, c14, e14, _⟩ := hV14.bytes
 replace e14 : V14 = .slice a14 0 c14 := e14
 subst e14
 have q14 : w14.cell? ⟨G, 1, none⟩ = some (.int .i64 1) := grow_cell b14 q13
 have hT14 := H13.out.2.2.below b14
 have hfl := H10.out.2.2.2.1.flOf
 have HT15 := Lib.hid (fTrunc_any hT14 1 1121)
 rw [show truncF st.bs L10 T10 1 1121 = (13, L10) by unfold truncF; rw [hfl]; rfl] at HT15
 have H14 := Lib.hid (And.intro (grow_trans H13.out.1 b14) (And.intro (grow_obj b14 H13.out.2.1) hfl))
 clear hV14 b14 hT14 q13 hfl
 go_upto_region 16 with (go_at_call 37; refine HT15.out.mono ?_; rintro e w15 ⟨rfl, hT15, hk15⟩)
 have hoG := hk15.obj H14.out.2.1 (fun e => by have := H6.out.2.2.2.2.2.2; omega)
 have hB15 : Below w.heap.size w w15 := H14.out.1.trans (hk15.below H14.out.1.size (fun q e => by have := H6.out.2.2.2.2.2.1; omega))
 have q15 : w15.cell? ⟨G, 1, none⟩ = some (.int .i64 1) := cell_obj hoG 1
 have HT16 := Lib.hid (fTrunc_any hT15 1 (-1))
 rw [show truncF st.bs L10 T10 1 (-1) = (1, L10) by unfold truncF; rw [H14.out.2.2]; rfl] at HT16
 have H15 := Lib.hid (And.intro hB15 (And.intro hoG hT15))
 clear hoG hB15 hT15 hk15 q14
 go_upto_region 17 with (go_at_call 37; refine HT16.out.mono ?_; rintro e w16 ⟨rfl, hT16, hk16⟩)
 have hoG := hk16.obj H15.out.2.1 (fun e => by have := H6.out.2.2.2.2.2.2; omega)
 have hB16 : Below w.heap.size w w16 := H15.out.1.trans (hk16.below H15.out.1.size (fun q e => by have := H6.out.2.2.2.2.2.1; omega))
 have q16 : w16.cell? ⟨G, 1, none⟩ = some (.int .i64 1) := cell_obj hoG 1
 have HR17 := Lib.hid (fRead_any hT16 1 (-1) 1 (by decide))
 rw [show readR (txV L10 st.bs) 1 (-1) 1 = ([], 1) by unfold readR; rw [H14.out.2.2]; rfl] at HR17
 have H16 := Lib.hid (And.intro hB16 (And.intro hoG hT16))
 clear hoG hB16 hT16 hk16 q15
 go_upto_region 18 with (go_at_call 36; refine HR17.out.mono ?_; rintro e w17 ⟨V17, rfl, hV17, b17⟩)
 have hT17 := H16.out.2.2.below b17
 have q17 : w17.cell? ⟨G, 1, none⟩ = some (.int .i64 1) := grow_cell b17 q16
 have HR18 := Lib.hid (fRead_any hT17 1 0 (-1) (by decide))
 rw [show readR (txV L10 st.bs) 1 0 (-1) = ([], 1) by unfold readR; rw [H14.out.2.2]; rfl] at HR18
 have H17 := Lib.hid (And.intro (grow_trans H16.out.1 b17) hT17)
 clear hV17 b17 hT17 q16
 go_upto_region 19 with (go_at_call 36; refine HR18.out.mono ?_; rintro e w18 ⟨V18, rfl, hV18, b18⟩)
 have hT18 := H17.out.2.below b18
 have q18 : w18.cell? ⟨G, 1, none⟩ = some (.int .i64 1) := grow_cell b18 q17
 have HE := Lib.hid (tWriteE (off := -1) (x := 1) (dl := 0) (dc := 0) hT18 H10.out.2.2.2.1 rfl (fun h => by unfold writeF; rw [h]; rfl) (noBytes (ad := none)) (by decide) (by decide))
 have H18 := Lib.hid (grow_trans H17.out.1 b18)
 clear hV18 b18 hT18 q17
 go_wp2_with (go_at_call 35; refine HE.out.mono ?_; rintro e w19 ⟨rfl, hT19, hk19⟩)
 go_ret
 exact ⟨rfl, H18.out.trans (hk19.below H18.out.size (fun q e => by have := H6.out.2.2.2.2.2.1; omega))⟩
end Go.Proofs.YtbbnejehglonjaaGreat
