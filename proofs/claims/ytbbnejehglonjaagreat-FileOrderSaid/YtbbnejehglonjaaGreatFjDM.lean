/- DERIVED. clathrilaw16.FileOrder. -/
import Derived.Test.YtbbnejehglonjaaGreatMf00
import Derived.Test.YtbbnejehglonjaaGreatMf35
namespace Go.Proofs.YtbbnejehglonjaaGreat
set_option maxHeartbeats 8000000
set_option maxRecDepth 100000
set_option linter.unusedSimpArgs false
set_option linter.unusedVariables false
open Go.RowKit
attribute [local irreducible] Calls
theorem TxV.second {w w' : World} {Sd : Nat → Prop} {t v mp mt N : Nat} {L : PL} {T : ML} {d reg : Nat} {s : Sh} {gb cap m : Nat} {st : VSt} {c : Nat} (h : TxV w Sd t v mp mt L T d reg s gb cap m st c) (hN : N = w.heap.size) (ht : TxAt w' (N + 2) v N (N + 1) [] [] st.bs.length) (hb : Below w.heap.size w w') :
 TxV w' Sd (N + 2) v N (N + 1) [] [] d reg s gb cap m st c := by
 have hl : ∀ q, Sd q → q < N := fun q hq => by rw [hN]; exact h.vol.dev.lt q hq
 have hm := h.vol.lt_m
 exact ⟨ht, VolP.below h.vol hb, ⟨fun e => by have := hl _ e; omega, fun e => by have := hl _ e; omega, fun e => by have := hl _ e; omega, by omega, by omega⟩⟩
theorem u16_nat {n : Int} (h : (Lit.int .u16 n).wf = true) : ∃ k : Nat, n = (k : Int) ∧ k < 65536 := by
 simp [Lit.wf, IntKind.min, IntKind.max] at h
 have : 0 ≤ n ∧ n ≤ 65535 := by simpa [IntKind.bits, IntKind.signed] using h
 exact ⟨n.toNat, by omega, by omega⟩
theorem walk_FileOrder {H : Type} {enc : TypeId × Value → H} {d2 d3 : DataW H} {p2 p3 : List MemPlace} {base2 base3 : Nat} (at_ more : Int) (a2 : Option Addr) (len2 cap2 : Nat) (a3 : Option Addr) (len3 cap3 : Nat) (w : World)
 (w0 : (Lit.int .u16 at_).wf = true) (w1 : (Lit.int .u16 more).wf = true)
 (h2 : DataW.Trod enc Tryz.prog w 0 (fun _ => true) true 22 (.slice a2 len2 cap2) d2 p2) (o2 : Value.okWide Tryz.prog w .any base2 22 (.slice a2 len2 cap2))
 (h3 : DataW.Trod enc Tryz.prog w 0 (fun _ => true) true 22 (.slice a3 len3 cap3) d3 p3) (o3 : Value.okWide Tryz.prog w .any base3 22 (.slice a3 len3 cap3)) :
 Calls Tryz.prog 8 #[.int .u16 at_, .int .u16 more, .slice a2 len2 cap2, .slice a3 len3 cap3] w fun e w' => e = .returned (.bool true) ∧ Below w.heap.size w w' := by
 obtain ⟨A, hA, hb2⟩ := barg_of h2 o2
 obtain ⟨B, hB, hb3⟩ := barg_of h3 o3
 obtain ⟨n0, rfl, hn0⟩ := u16_nat w0
 obtain ⟨n1, rfl, hn1⟩ := u16_nat w1
 clear h2 o2 h3 o3 w0 w1
 have HB := Lib.hid (fun w => begun16_any w)
 have HAB := Lib.hid (And.intro hA (And.intro hB (And.intro hb2 hb3)))
 clear hA hB hb2 hb3
 by_cases hl2 : (150 : Int) < (len2 : Int)
 · go_enter Tryz.func8, Tryz.ntmps8
   go_wp2_with (go_at_call 31; refine (HB.out _).mono ?_; rintro e x0 ⟨rfl, b0⟩)
   go_ret
   exact ⟨rfl, b0⟩
 by_cases hl3 : (150 : Int) < (len3 : Int)
 · go_enter Tryz.func8, Tryz.ntmps8
   go_wp2_with (go_at_call 31; refine (HB.out _).mono ?_; rintro e x0 ⟨rfl, b0⟩)
   go_ret
   exact ⟨rfl, b0⟩
 obtain ⟨o, ho⟩ : ∃ o, o = n0 % 400 := ⟨_, rfl⟩
 obtain ⟨q, hq⟩ : ∃ q, q = n1 % 400 := ⟨_, rfl⟩
 have m0 : (n0 : Int).tmod 400 = (o : Int) := by rw [ho]; exact (Int.ofNat_tmod n0 400).symm
 have m1 : (n1 : Int).tmod 400 = (q : Int) := by rw [hq]; exact (Int.ofNat_tmod n1 400).symm
 have ho4 : o < 400 := by rw [ho]; exact Nat.mod_lt _ (by decide)
 have hq4 : q < 400 := by rw [hq]; exact Nat.mod_lt _ (by decide)
 clear ho hq
 have HN := Lib.hid (fun w => sNew_any 0 60 w (by decide) (by decide))
 go_enter Tryz.func8, Tryz.ntmps8
 go_upto_region 7 with (go_at_call 31; refine (HB.out _).mono ?_; rintro e x0 ⟨rfl, b0⟩)
 go_upto_region 8 with (go_at_call 32; refine (HN.out _).mono ?_; rintro e w1 ⟨p, g, rfl, hs, b1, hp1, hg1⟩)
 have hp1' : w.heap.size ≤ p := Nat.le_trans b0.size hp1
 have H1 := Lib.hid (And.intro hs (And.intro (grow_trans b0 b1) hp1'))
 clear hs b0 b1 hp1 hg1 hp1'
 obtain ⟨P, hP⟩ : ∃ P : Nat, P = o + len2 + q := ⟨_, rfl⟩
 have hPi : (o : Int) + (len2 : Int) + (q : Int) = (P : Int) := by rw [hP]; omega
 have hP9 : P + 150 < 1120 := by omega
 have hPo : o + len2 ≤ P := by omega
 rw [hPi]
 have HP := Lib.hid (And.intro hP9 (And.intro hPo (And.intro (show o + 150 < 1120 by omega) (And.intro (show len2 ≤ 150 by omega) (show len3 ≤ 150 by omega)))))
 clear hP hPi hP9 hPo m0 m1 hq4 hn0 hn1 ho4
 go_upto_region 9 with (first
  | (go_at_call 34; refine (Root_lit _).mono ?_; rintro e w2 ⟨rfl, b2⟩)
  | (go_at_call 33; refine (sFile_any (H1.out.1.below b2) (by decide) (by decide)).mono ?_; rintro e w3 ⟨g3, cap4, rfl, hs3, hk3, hg3⟩))
 have hb3 : Below w.heap.size w w3 := by
  have h2 := grow_trans H1.out.2.1 b2
  exact h2.trans (hk3.below h2.size (fun q e => by rw [e]; exact H1.out.2.2))
 obtain ⟨w4, hw4⟩ : ∃ w4, w4 = w3.alloc (.cells #[.int .i64 0, .int .i64 1, .int .u32 1] 66) := ⟨_, rfl⟩
 obtain ⟨G, hG⟩ : ∃ G, G = w3.heap.size := ⟨_, rfl⟩
 have hs4 := hs3.below (below_alloc hw4)
 have ho4 : objAt w4 G = some (.cells #[.int .i64 0, .int .i64 1, .int .u32 1] 66 (0, 0)) := by rw [hG]; exact obj_alloc hw4
 have hb4 := grow_trans hb3 (below_alloc hw4)
 rw [← hw4, ← hG]
 have c1 := hs4.c1
 have hrow := hs4.row
 rw [fileBlks_len] at c1 hrow
 have HF := Lib.hid (Filled_any (bs := fileBlks 60) (n := 60) (by decide) (by decide) (fileBlks_len 60) hrow (fileBlks_kinds (by decide) (by decide)))
 have H4 := Lib.hid (And.intro hb4 ho4)
 clear hs3 hk3 hg3 hb3 hs4 hb4 ho4 hrow hw4 hG b2
 go_upto_region 10 with (go_at_call 18; refine HF.out.mono ?_; rintro e w5 ⟨d, v, rfl, Sd, gb, cap, m, st, c, hf, hst, hc⟩)
 have HX := Lib.hid (fun w => txNew_any v st.bs.length w)
 obtain ⟨N, hN⟩ : ∃ N, N = w5.heap.size := ⟨_, rfl⟩
 have H5 := Lib.hid (And.intro hf (And.intro hst (And.intro hN hc)))
 clear hf hst hc c1 hN
 go_upto_region 13 with (first
  | (go_at_call 19; refine (HX.out w5).mono ?_; rw [← H5.out.2.2.1]; rintro e w6 ⟨rfl, ht, b6⟩; obtain ⟨N2, hN2⟩ : ∃ N2, N2 = w6.heap.size := ⟨_, rfl⟩; have H6a := Lib.hid (And.intro ht (And.intro b6 hN2)); clear ht b6 hN2)
  | (go_at_call 19; refine (HX.out w6).mono ?_; rw [← H6a.out.2.2]; rintro e w7 ⟨rfl, hu, b7⟩; have H7a := Lib.hid (And.intro hu b7); clear hu b7))
 have hT6 := H5.out.1.txV H5.out.2.2.1 H6a.out.1 (by rw [← H5.out.2.2.1]; exact H6a.out.2.1)
 have b7 : Below w6.heap.size w6 w7 := by have := H7a.out.2; rwa [H6a.out.2.2] at this
 have hT7 := hT6.below b7
 have hU7 := hT6.second H6a.out.2.2 H7a.out.1 b7
 have hNw : w.heap.size ≤ N := by rw [H5.out.2.2.1]; exact (grow_trans H4.out.1 H5.out.1.below).size
 have hB6 : Below w.heap.size w w6 := (grow_trans H4.out.1 H5.out.1.below).trans (H6a.out.2.1.mono hNw)
 have hB7 := grow_trans hB6 b7
 have ho7 : objAt w7 G = some (.cells #[.int .i64 0, .int .i64 1, .int .u32 1] 66 (0, 0)) := grow_obj b7 (grow_obj (by rw [← H5.out.2.2.1]; exact H6a.out.2.1) (grow_obj H5.out.1.below H4.out.2))
 have hWI := (new_left (n := 60) (by decide) (by decide)).1
 rw [← H5.out.2.1] at hWI
 rw [← txV_nil st.bs] at hWI
 have hn : 32 ≤ st.bs.length := by rw [H5.out.2.1, fileBlks_len]; decide
 have hGN : G < N := by rw [H5.out.2.2.1]; exact Nat.lt_of_lt_of_le (block_lt H4.out.2) H5.out.1.below.size
 have hNN : N + 3 ≤ N2 := by have := block_lt hT6.tx.obj; have e := H6a.out.2.2; omega
 have hvl : (∀ q, Sd q → q < N) ∧ v < N ∧ m < N ∧ gb < N := by
  rw [H5.out.2.2.1]
  exact ⟨fun q hq => H5.out.1.vol.dev.lt q hq, H5.out.1.vol.lt_v, H5.out.1.vol.lt_m, H5.out.1.vol.lt_b⟩
 have HV := Lib.hid (And.intro hn (And.intro hGN (And.intro hNN (And.intro hNw hvl))))
 have HK := Lib.hid (show ∀ (x y : World), Keeps (fun q => q = N ∨ q = N + 1) x y → ∀ {L T}, TxV x Sd (N2 + 2) v N2 (N2 + 1) L T d 0 (shN 60) gb cap m st c → TxV y Sd (N2 + 2) v N2 (N2 + 1) L T d 0 (shN 60) gb cap m st c from fun x y hk L T h => h.keepsB (K := N) hk (fun q e => by omega) hvl.1 hvl.2.1 hvl.2.2.1 hvl.2.2.2 (by omega) (by omega) (by omega))
 have HK2 := Lib.hid (show ∀ (x y : World), Keeps (fun q => q = N2 ∨ q = N2 + 1) x y → ∀ {L T}, TxV x Sd (N + 2) v N (N + 1) L T d 0 (shN 60) gb cap m st c → TxV y Sd (N + 2) v N (N + 1) L T d 0 (shN 60) gb cap m st c from fun x y hk L T h => h.keepsB (K := N) hk (fun q e => by omega) hvl.1 hvl.2.1 hvl.2.2.1 hvl.2.2.2 (by omega) (by omega) (by omega))
 have HS := Lib.hid (show ∀ (x y : World) (K : Nat), N ≤ K → Keeps (fun q => q = K ∨ q = K + 1) x y → Below w.heap.size w x → objAt x G = some (.cells #[.int .i64 0, .int .i64 1, .int .u32 1] 66 (0, 0)) → Below w.heap.size w y ∧ objAt y G = some (.cells #[.int .i64 0, .int .i64 1, .int .u32 1] 66 (0, 0)) from fun x y K hK hk hb ho => ⟨hb.trans (hk.below hb.size (fun q e => by omega)), hk.obj ho (fun e => by omega)⟩)
 have HW7 := Lib.hid (tPut (off := o) (dc := cap2) hT7 hWI hn (HAB.out.2.2.1.below hB7).bytes HP.out.2.2.1 HAB.out.1 HP.out.2.2.2.1 (by have := HAB.out.2.2.1.le; have := HAB.out.1; omega))
 have q7 : w7.cell? ⟨G, 1, none⟩ = some (.int .i64 1) := cell_obj ho7 1
 have H7 := Lib.hid (And.intro hB7 (And.intro ho7 (And.intro hU7 (And.intro hWI (show 0 ≤ fl0.n.size by decide)))))
 clear hT6 b7 hT7 hU7 hNw hB6 hB7 ho7 hWI hn hGN hNN hvl
 go_upto_region 14 with (go_at_call 35; refine HW7.out.mono ?_; rintro e w8 ⟨rfl, L8, T8, f8, hT8, hP8, hk8⟩)
 have hS8 := HS.out _ _ N (Nat.le_refl _) hk8 H7.out.1 H7.out.2.1
 have hU8 := HK.out _ _ hk8 H7.out.2.2.1
 have HW8 := Lib.hid (tPut (off := P) (dc := cap3) hT8 hP8.wi HV.out.1 (HAB.out.2.2.2.below hS8.1).bytes HP.out.1 HAB.out.2.1 HP.out.2.2.2.2 (by have := HAB.out.2.2.2.le; have := HAB.out.2.1; omega))
 have q8 : w8.cell? ⟨G, 1, none⟩ = some (.int .i64 1) := cell_obj hS8.2 1
 have H8 := Lib.hid (And.intro hS8 (And.intro hU8 hP8))
 clear hS8 hU8 hP8 hT8 hk8 q7
 go_upto_region 15 with (go_at_call 35; refine HW8.out.mono ?_; rintro e w9 ⟨rfl, L9, T9, f9, hT9, hP9, hk9⟩)
 have hS9 := HS.out _ _ N (Nat.le_refl _) hk9 H8.out.1.1 H8.out.1.2
 have hU9 := HK.out _ _ hk9 H8.out.2.1
 have HW9 := Lib.hid (tPut (off := P) (dc := cap3) hU9 H7.out.2.2.2.1 HV.out.1 (HAB.out.2.2.2.below hS9.1).bytes HP.out.1 HAB.out.2.1 HP.out.2.2.2.2 (by have := HAB.out.2.2.2.le; have := HAB.out.2.1; omega))
 have q9 : w9.cell? ⟨G, 1, none⟩ = some (.int .i64 1) := cell_obj hS9.2 1
 have H9 := Lib.hid (And.intro hS9 (And.intro hT9 hP9))
 clear hS9 hU9 hP9 hT9 hk9 q8
 go_upto_region 16 with (go_at_call 35; refine HW9.out.mono ?_; rintro e w10 ⟨rfl, L10, T10, f10, hU10, hP10, hk10⟩)
 have hS10 := HS.out _ _ N2 (by have := HV.out.2.2.1; omega) hk10 H9.out.1.1 H9.out.1.2
 have hT10 := HK2.out _ _ hk10 H9.out.2.1
 have HW10 := Lib.hid (tPut (off := o) (dc := cap2) hU10 hP10.wi HV.out.1 (HAB.out.2.2.1.below hS10.1).bytes HP.out.2.2.1 HAB.out.1 HP.out.2.2.2.1 (by have := HAB.out.2.2.1.le; have := HAB.out.1; omega))
 have q10 : w10.cell? ⟨G, 1, none⟩ = some (.int .i64 1) := cell_obj hS10.2 1
 have H10 := Lib.hid (And.intro hS10 (And.intro hT10 hP10))
 clear hS10 hU10 hP10 hT10 hk10 q9
 go_upto_region 17 with (go_at_call 35; refine HW10.out.mono ?_; rintro e w11 ⟨rfl, L11, T11, f11, hU11, hP11, hk11⟩)
 have hS11 := HS.out _ _ N2 (by have := HV.out.2.2.1; omega) hk11 H10.out.1.1 H10.out.1.2
 have hT11 := HK2.out _ _ hk11 H10.out.2.1
 have hord := puts_order (by rw [HAB.out.1]; exact HP.out.2.1) H8.out.2.2 H9.out.2.2 H10.out.2.2 hP11 H7.out.2.2.2.2
 have HR11 := Lib.hid (tRead (off := 0) (n := 2000) hT11 H9.out.2.2.wi.mid (by decide))
 rw [show ((0 : Nat) : Int) = 0 from rfl, show ((2000 : Nat) : Int) = 2000 from rfl] at HR11
 have q11 : w11.cell? ⟨G, 1, none⟩ = some (.int .i64 1) := cell_obj hS11.2 1
 have H11 := Lib.hid (And.intro hS11 (And.intro hT11 (And.intro hU11 (And.intro hP11 hord))))
 clear hS11 hU11 hP11 hT11 hk11 q10 hord
 go_upto_region 18 with (go_at_call 36; refine HR11.out.mono ?_; rintro e w12 ⟨V12, rfl, hV12, b12⟩)
 have hU12 := H11.out.2.2.1.below b12
 have HR12 := Lib.hid (tRead (off := 0) (n := 2000) hU12 H11.out.2.2.2.1.wi.mid (by decide))
 rw [show ((0 : Nat) : Int) = 0 from rfl, show ((2000 : Nat) : Int) = 2000 from rfl, ← H11.out.2.2.2.2.1, ← H11.out.2.2.2.2.2.1] at HR12
 have q12 : w12.cell? ⟨G, 1, none⟩ = some (.int .i64 1) := grow_cell b12 q11
 generalize (List.range (min 2000 (f9.n.size.toNat - 0))).map (fun i => ov (ov (fun _ => 0) A o o (o + A.length)) B P P (P + B.length) (0 + i)) = X at hV12 HR12
 obtain ⟨a12, c12, rfl, hby12⟩ := hV12.bytes
 have H12 := Lib.hid (And.intro b12 (And.intro hV12 (And.intro (grow_trans H11.out.1.1 b12) hU12)))
 clear b12 hV12 hU12 hby12 q11
 go_upto_region 19 with (go_at_call 36; refine HR12.out.mono ?_; rintro e w13 ⟨V13, rfl, hV13, b13⟩)
 obtain ⟨a13, c13, rfl, hby13⟩ := hV13.bytes
 have e1 : (Go.convert 22 9 (.slice a12 X.length c12)).run Tryz.prog w13 = .ok (.string ⟨X.toArray⟩) w13 := conv_at c12 ((BRow.bytesAt H12.out.2.1).1.below b13)
 have e2 : (Go.convert 22 9 (.slice a13 X.length c13)).run Tryz.prog w13 = .ok (.string ⟨X.toArray⟩) w13 := conv_at c13 hby13
 have HLt := Lib.hid (tLeft ((H11.out.2.1.below H12.out.1).below b13) H9.out.2.2.wi)
 have HLu := Lib.hid (fun w' (hb : Below w13.heap.size w13 w') => tLeft ((H12.out.2.2.2.below b13).below hb) H11.out.2.2.2.1.wi)
 rw [← H11.out.2.2.2.2.2.2] at HLu
 generalize leftT (txV L9 st.bs) T9 = lf at HLt HLu
 generalize X.length = xl at *
 generalize X.toArray = xa at *
 have H13 := Lib.hid (grow_trans H12.out.2.2.1 b13)
 clear hV13 hby13 b13 q12
 go_wp2_with (first
  | (go_at_call 28; refine HLt.out.mono ?_; rintro e w14 ⟨rfl, b14⟩)
  | (go_at_call 28; refine (HLu.out _ b14).mono ?_; rintro e w15 ⟨rfl, b15⟩))
 go_ret
 exact ⟨rfl, grow_trans (grow_trans H13.out b14) b15⟩
end Go.Proofs.YtbbnejehglonjaaGreat
