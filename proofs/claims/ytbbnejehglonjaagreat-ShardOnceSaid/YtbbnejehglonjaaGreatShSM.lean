/- DERIVED. clathrilaw17.ShardOnce returns true. -/
import Derived.Test.YtbbnejehglonjaaGreatMo00
import Derived.Test.YtbbnejehglonjaaGreatMo35
namespace Go.Proofs.YtbbnejehglonjaaGreat
open Go.RowKit Go.ChangeShapes Go.WideShapes
attribute [local irreducible] Calls
set_option maxRecDepth 100000

theorem BytesAt.at3 {w : World} {a : Option Addr} {l : List UInt8} (h : BytesAt w a l) {n : Nat} (hl : l.length = n * 3) (h0 : 0 < n) : ∃ ba off, a = some ⟨ba, off, none⟩ ∧ ∀ i, i < n → ∃ b0 b1 b2 : UInt8, w.cell? ⟨ba, off + i * 3, none⟩ = some (.int .u8 (b0.toNat : Int)) ∧ w.cell? ⟨ba, off + i * 3 + 1, none⟩ = some (.int .u8 (b1.toNat : Int)) ∧ w.cell? ⟨ba, off + i * 3 + 2, none⟩ = some (.int .u8 (b2.toNat : Int)) := by
 obtain ⟨b, off, h1, h2⟩ := h
 refine ⟨b, off, h1 (by omega), fun i hi => ⟨l[i * 3]'(by omega), l[i * 3 + 1]'(by omega), l[i * 3 + 2]'(by omega), h2 _ _, ?_, ?_⟩⟩
 · rw [Nat.add_assoc]; exact h2 _ _
 · rw [Nat.add_assoc]; exact h2 _ _
set_option maxHeartbeats 16000000 in
theorem walk_ShardOnce {H : Type} {enc : TypeId × Value → H} {d1 : DataW H} {p1 : List MemPlace} (a1 : Option Addr) (len1 cap1 : Nat) (w : World)
 (h1 : DataW.Trod enc Tryz.prog w 0 (fun _ => true) true 104 (.slice a1 len1 cap1) d1 p1) :
 Calls Tryz.prog 14 #[.slice a1 len1 cap1] w fun e w' => e = .returned (.bool true) ∧ Below w.heap.size w w' := by
 obtain ⟨l, hl, hb1⟩ := trips_arg h1
 clear h1
 by_cases hn : 40 < len1
 · have z1 : (40 : Int) < (len1 : Int) := by omega
   clear hn hl hb1
   go_enter Tryz.func14, Tryz.ntmps14
   go_wp2_with (go_at_call 43; refine (begun17_any _).mono ?_; rintro e w1 ⟨rfl, b1⟩)
   go_ret
   exact ⟨rfl, b1⟩
 have z1 : ¬ (40 : Int) < (len1 : Int) := by omega
 have HL := Lib.hid (And.intro hb1 (And.intro hl hn))
 have HN := Lib.hid (fun w => sNew_any 0 60 w (by decide) (by decide))
 clear hb1 hl hn
 go_enter Tryz.func14, Tryz.ntmps14
 go_upto_region 5 with (go_at_call 43; refine (begun17_any _).mono ?_; rintro e w0 ⟨rfl, b0⟩)
 have H0 := Lib.hid b0
 clear b0 z1
 go_upto_region 6 with (first
  | (go_at_call 32; refine (HN.out _).mono ?_; rintro e w1 ⟨p, g, rfl, hs, b1, _, _⟩; have c1 : w1.cell? ⟨p, 1, none⟩ = some (.slice (some ⟨g, 0, none⟩) 60 60) := hs.c1; have HF := Lib.hid (Filled_new (n := 60) (by decide) (by decide) hs.row); have H1 := Lib.hid b1; clear hs b1)
  | (go_at_call 18; refine HF.out.mono ?_; rintro e w2 ⟨d, v, rfl, Sd, gb, cap, mm, st, c, hf, hst, hc⟩))
 have H2 := Lib.hid (And.intro hf (And.intro hst hc))
 clear hf hst hc c1
 go_upto_region 9 with (go_at_call 34; refine (Root_lit _).mono ?_; rintro e w3 ⟨rfl, b3⟩)
 obtain ⟨DG, hDG⟩ : ∃ DG, DG = w3.heap.size := ⟨_, rfl⟩
 obtain ⟨w4, hw4⟩ : ∃ w4, w4 = w3.alloc (.cells dirsC 66) := ⟨_, rfl⟩
 have hw4' := hw4
 unfold dirsC at hw4'
 rw [← hw4', ← hDG]
 clear hw4'
 have HW4 := Lib.hid (And.intro hw4 (And.intro hDG b3))
 clear hw4 hDG b3
 go_upto_region 10 with fail
 obtain ⟨TH, hTH⟩ : ∃ TH, TH = w4.heap.size := ⟨_, rfl⟩
 obtain ⟨w5, hw5⟩ : ∃ w5, w5 = w4.alloc (.cells (grC fun _ _ => 0) 107) := ⟨_, rfl⟩
 have hw5' := hw5
 rw [grC_zero] at hw5'
 rw [← hw5', ← hTH]
 clear hw5'
 obtain ⟨hw4, hDG, b3⟩ := HW4.out
 have hb4 : Below w3.heap.size w3 w4 := below_alloc hw4
 have hb5 : Below w4.heap.size w4 w5 := below_alloc hw5
 have hbw2 : Below w.heap.size w w2 := grow_trans H0.out (grow_trans H1.out H2.out.1.below)
 have hb25 : Below w2.heap.size w2 w5 := grow_trans b3 (grow_trans hb4 hb5)
 have hsz : w2.heap.size ≤ DG ∧ DG < TH ∧ w.heap.size ≤ w2.heap.size ∧ TH < w5.heap.size := by
  have e1 := b3.size
  have e4 : w4.heap.size = w3.heap.size + 1 := by rw [hw4]; exact World.size_alloc _ _
  have e5 : w5.heap.size = w4.heap.size + 1 := by rw [hw5]; exact World.size_alloc _ _
  exact ⟨by omega, by omega, hbw2.size, by omega⟩
 have hsd : ∀ q, Sd q → w.heap.size ≤ q ∧ q ≠ TH ∧ q ≠ DG := fun q hq => by
  have h1 := H2.out.1.sd q hq
  have h2 := H2.out.1.vol.dev.lt q hq
  have h3 := (grow_trans H0.out H1.out).size
  exact ⟨by omega, by omega, by omega⟩
 have hov : OV w w5 Sd v d gb cap mm TH DG st c (fun _ _ => 0) := ⟨VolP.below H2.out.1.vol hb25, by rw [H2.out.2.1]; exact SO.start (by decide), by rw [H2.out.2.1]; rfl, by rw [hTH]; exact obj_alloc hw5, grow_obj hb5 (by rw [hDG]; exact obj_alloc hw4), grow_trans hbw2 hb25, hsd⟩
 have H5 := Lib.hid (And.intro hov (And.intro hsz (And.intro H2.out.2.2 (And.intro (Nat.le_trans (grow_trans H0.out H1.out).size H2.out.1.hv) (And.intro (Nat.le_trans (grow_trans H0.out H1.out).size H2.out.1.hg) (Nat.le_trans (grow_trans H0.out H1.out).size H2.out.1.hm))))))
 clear hw4 hw5 hDG hTH hb4 hb5 hbw2 hb25 hsz hsd hov b3
 go_wp2_with fail
 go_loopw [8] (fun ii wr => ∃ (i : Nat) (Sd : Nat → Prop) (st : VSt) (c : Nat) (th : Nat → Nat → Nat), i ≤ len1 ∧ ii = .int .i64 i ∧ OV w wr Sd v d gb cap mm TH DG st c th ∧ c ≤ 1000 + 300 * i) (fun ii _ => len1 - (Go.RowKit.intOf ii).toNat)
 case atStart => exact ⟨0, Sd, st, c, _, Nat.zero_le _, rfl, H5.out.1, by have := H5.out.2.2.1; omega⟩
 case round =>
  obtain ⟨i, Sd, st, c, th, hi, rfl, hov, hc⟩ := hrel
  by_cases hgo : i < len1
  · have hii : (i : Int) < (len1 : Int) := by omega
    have hi40 : (i : Int) < 40 := by have := HL.out.2.2; omega
    obtain ⟨ba, off, rfl, hcell⟩ := HL.out.1.at3 HL.out.2.1 (by omega)
    obtain ⟨y0, y1, y2, k0, k1, k2⟩ := hcell i hgo
    have HX := Lib.hid (txNew_any v 60 wr)
    obtain ⟨N, hN⟩ : ∃ N, N = wr.heap.size := ⟨_, rfl⟩
    rw [← hN] at HX
    have H6 := Lib.hid (And.intro hov (And.intro hc (And.intro hN (And.intro hgo (And.intro k0 (And.intro k1 k2))))))
    have hB : OB w N v gb mm TH DG := by
     have h1 := H5.out.2.1; have h2 := H5.out.2.2.2
     have h3 := block_lt hov.grid; have h4 := block_lt hov.dirs
     exact ⟨h2.1, h2.2.1, h2.2.2, by omega, by omega⟩
    have HB := Lib.hid hB
    clear hov hc hN hcell hB hi hgo k0 k1 k2
    go_upto_region 16 with (go_at_call 19; refine HX.out.mono ?_; rintro e w6 ⟨rfl, ht, b6⟩)
    have h7 := H6.out.1.new H6.out.2.2.1 ht (by rw [H6.out.2.2.1] at b6; exact b6)
    have j1 := grow_cell h7.bel H6.out.2.2.2.2.2.1
    have j2 := grow_cell h7.bel H6.out.2.2.2.2.2.2
    have H7 := Lib.hid h7
    clear h7 ht b6
    have hS : ∀ w', Below w6.heap.size w6 w' → w'.cell? ⟨ba, off + i * 3 + 1, none⟩ = some (.int .u8 (y1.toNat : Int)) ∧ w'.cell? ⟨ba, off + i * 3 + 2, none⟩ = some (.int .u8 (y2.toNat : Int)) ∧ Below w6.heap.size w6 w' := fun w' hb => ⟨grow_cell hb j1, grow_cell hb j2, hb⟩
    refine wp_region_held_drew (S := fun w' => w'.cell? ⟨ba, off + i * 3 + 1, none⟩ = some (.int .u8 (y1.toNat : Int)) ∧ w'.cell? ⟨ba, off + i * 3 + 2, none⟩ = some (.int .u8 (y2.toNat : Int)) ∧ Below w6.heap.size w6 w') (by kernel_rfl) (hS _ (Below.refl _ _).drew) (fun hHeld => ?_)
    show wpAnyH _ _ _ _ _ 16 #[false, false, false, false, false, false, false, false, false, false, false, false, false, false, false, false] _ _
    refine gT (i := 0) (v := ?kv1) rfl ?ky1 ?kr1
    case ky1 => (intro w hSw; (try dsimp only at hSw); go_split_ands; (try simp only [qA, qB]); go_simp; (try with_reducible rfl))
    try simp only [Act.put, qA, qB, qD, qE, qF]
    refine gT (i := 1) (v := ?kv2) rfl ?ky2 ?kr2
    case ky2 => (intro w hSw; (try dsimp only at hSw); go_split_ands; (try simp only [qA, qB, qC]); go_simp; (try with_reducible rfl))
    try simp only [Act.put, qA, qB, qC, qD, qE, qF]
    refine gT (i := 2) (v := ?kv3) rfl ?ky3 ?kr3
    case ky3 => (intro w hSw; (try dsimp only at hSw); go_split_ands; (try simp only [qA, qB, qC]); go_simp; (try with_reducible rfl))
    try simp only [Act.put, qA, qB, qC, qD, qE, qF]
    refine gT (i := 3) (v := ?kv4) rfl ?ky4 ?kr4
    case ky4 => (intro w hSw; (try dsimp only at hSw); go_split_ands; (try simp only [qA, qB, qC]); go_simp; (try with_reducible rfl))
    try simp only [Act.put, qA, qB, qC, qD, qE, qF]
    refine gT (i := 4) (v := ?kv5) rfl ?ky5 ?kr5
    case ky5 => (intro w hSw; (try dsimp only at hSw); go_split_ands; (try simp only [qA, qB, qC]); go_simp; (try with_reducible rfl))
    try simp only [Act.put, qA, qB, qC, qD, qE, qF]
    refine gT (i := 5) (v := ?kv6) rfl ?ky6 ?kr6
    case ky6 => (intro w hSw; (try dsimp only at hSw); go_split_ands; (try simp only [qA, qB, qC]); go_simp; (try with_reducible rfl))
    try simp only [Act.put, qA, qB, qC, qD, qE, qF]
    refine gT (i := 6) (v := ?kv7) rfl ?ky7 ?kr7
    case ky7 => (intro w hSw; (try dsimp only at hSw); go_split_ands; (try simp only [qA, qB, qC]); go_simp; (try with_reducible rfl))
    try simp only [Act.put, qA, qB, qC, qD, qE, qF]
    refine gT (i := 7) (v := ?kv8) rfl ?ky8 ?kr8
    case ky8 => (intro w hSw; (try dsimp only at hSw); go_split_ands; (try simp only [qA, qB, qC]); go_simp; (try with_reducible rfl))
    try simp only [Act.put, qA, qB, qC, qD, qE, qF]
    refine gT (i := 8) (v := ?kv9) rfl ?ky9 ?kr9
    case ky9 => (intro w hSw; (try dsimp only at hSw); go_split_ands; (try simp only [qA, qB, qC]); go_simp; (try with_reducible rfl))
    try simp only [Act.put, qA, qB, qC, qD, qE, qF]
    refine gT (i := 9) (v := ?kv10) rfl ?ky10 ?kr10
    case ky10 => (intro w hSw; (try dsimp only at hSw); go_split_ands; (try simp only [qA, qB, qC]); go_simp; (try with_reducible rfl))
    try simp only [Act.put, qA, qB, qC, qD, qE, qF]
    refine gT (i := 10) (v := ?kv11) rfl ?ky11 ?kr11
    case ky11 => (intro w hSw; (try dsimp only at hSw); go_split_ands; (try simp only [qA, qB, qC]); go_simp; (try with_reducible rfl))
    try simp only [Act.put, qA, qB, qC, qD, qE, qF]
    refine gT (i := 11) (v := ?kv12) rfl ?ky12 ?kr12
    case ky12 => (intro w hSw; (try dsimp only at hSw); go_split_ands; (try simp only [qA, qB, qC]); go_simp; (try with_reducible rfl))
    try simp only [Act.put, qA, qB, qC, qD, qE, qF]
    refine gT (i := 12) (v := ?kv13) rfl ?ky13 ?kr13
    case ky13 => (intro w hSw; (try dsimp only at hSw); go_split_ands; (try simp only [qA, qB, qC]); go_simp; (try with_reducible rfl))
    try simp only [Act.put, qA, qB, qC, qD, qE, qF]
    refine gT (i := 13) (v := ?kv14) rfl ?ky14 ?kr14
    case ky14 => (intro w hSw; (try dsimp only at hSw); go_split_ands; (try simp only [qA, qB, qC]); go_simp; (try with_reducible rfl))
    try simp only [Act.put, qA, qB, qC, qD, qE, qF]
    refine gT (i := 14) (v := ?kv15) rfl ?ky15 ?kr15
    case ky15 => (intro w hSw; (try dsimp only at hSw); go_split_ands; (try simp only [qA, qB, qC]); go_simp; (try with_reducible rfl))
    try simp only [Act.put, qA, qB, qC, qD, qE, qF]
    refine gT (i := 15) (v := ?kv16) rfl ?ky16 ?kr16
    case ky16 => (intro w hSw; (try dsimp only at hSw); go_split_ands; (try simp only [qA, qB, qC]); go_simp; (try with_reducible rfl))
    try simp only [Act.put, qA, qB, qC, qD, qE, qF]
    refine wpAnyH_done (by kernel_rfl) ?_ _
    go_upto_region 17 with fail
    obtain ⟨dd, hdd⟩ : ∃ dd, dd = y1.toNat % 3 := ⟨_, rfl⟩
    obtain ⟨kk, hkk⟩ : ∃ kk, kk = y2.toNat % 5 := ⟨_, rfl⟩
    have hd3 : dd < 3 := by omega
    have hk5 : kk < 5 := by omega
    have e1 : IntKind.i64.wrap ((y1.toNat : Int).tmod 3) = (dd : Int) := by
     rw [show (y1.toNat : Int).tmod 3 = ((y1.toNat % 3 : Nat) : Int) from rfl, ← hdd]; exact IntWalk.i64_in _ (by omega)
    have e2 : IntKind.i64.wrap ((y2.toNat : Int).tmod 5) = (kk : Int) := by
     rw [show (y2.toNat : Int).tmod 5 = ((y2.toNat % 5 : Nat) : Int) from rfl, ← hkk]; exact IntWalk.i64_in _ (by omega)
    rw [e1, e2]
    have H8 := Lib.hid (And.intro hd3 (And.intro hk5 (H7.out.below (Below.refl _ _).drew)))
    have hkk5 : (kk : Int) < 5 := by omega
    have hdd3 : (dd : Int) < 3 := by omega
    clear hdd hkk hd3 hk5 e1 e2 hHeld hS j1 j2
    obtain ⟨w7, hw7⟩ : ∃ w7, w7 = w6.drew := ⟨_, rfl⟩
    rw [← hw7] at H8 ⊢
    clear hw7
    obtain ⟨ch, hch⟩ : ∃ ch : UInt8, ch = UInt8.ofNat (97 + kk) := ⟨_, rfl⟩
    have hnm : ((⟨#[110]⟩ : ByteArray) ++ ⟨#[ch]⟩) = nameO kk := by rw [hch]; exact nameO_eq kk
    have hcN : (97 + (kk : Int)) = (ch.toNat : Int) := by rw [hch, UInt8.toNat_ofNat']; omega
    have hcv : ∀ y : Int, y = 97 + (kk : Int) → (Go.convert 22 9 (.slice (some ⟨w7.heap.size, 0, none⟩) 1 1)).run Tryz.prog (w7.alloc (.cells #[.int .u8 y] 5)) = .ok (.string ⟨#[ch]⟩) (w7.alloc (.cells #[.int .u8 y] 5)) := fun y hy => by
     subst hy
     have hb : BRow (w7.alloc (.cells #[.int .u8 (97 + (kk : Int))] 5)) w7.heap.size (.slice (some ⟨w7.heap.size, 0, none⟩) 1 1) [ch] := ⟨rfl, .inr ⟨w7.heap.size, 1, #[.int .u8 (97 + (kk : Int))], rfl, Nat.le_refl _, by show objAt _ _ = _; rw [objAt_alloc, if_pos rfl], Nat.le_refl _, by decide, rfl, by rw [hcN]; rfl⟩⟩
     exact conv_at 1 hb.bytesAt.1
    have hc := hcv _ rfl
    have hcw : IntKind.u8.wrap (97 + (kk : Int)) = 97 + (kk : Int) := by rw [wrap_u8]; omega
    have Hnm := Lib.hid hnm
    clear hcv hnm hcN hch
    go_upto_region 18 with fail
    rw [Hnm.out]
    obtain ⟨w8, hw8⟩ : ∃ w8, w8 = w7.alloc (.cells #[.int .u8 (97 + (kk : Int))] 5) := ⟨_, rfl⟩
    have h9 := H8.out.2.2.below (below_alloc hw8)
    rw [← hw8]
    have j0 := grow_cell h9.bel H6.out.2.2.2.2.1
    have H9 := Lib.hid h9
    clear hc hcw h9 hw8
    obtain ⟨hd3, hk5, _⟩ := H8.out
    have gcell := H9.out.grid.cell hd3 hk5
    obtain ⟨q, hq⟩ : ∃ q, q = th dd kk := ⟨_, rfl⟩
    have HD := Lib.hid (And.intro hd3 (And.intro hk5 hq))
    clear hd3 hk5 gcell hq
    go_upto_if 77 with (fail)
    go_cut [] (fun wx => ∃ (L : PL) (T : ML) (th' : Nat → Nat → Nat), LOk L ∧ OT w wx Sd N v d gb cap mm TH DG st c L T th')
    case first =>
     obtain ⟨hd3, hk5, hq⟩ := HD.out
     obtain ⟨f0, f1, f2⟩ := H9.out.dirs.cells hd3
     by_cases hkind : (y0.toNat : Int) % 3 < 2
     · by_cases h0 : q = 0
       · have h0' : th dd kk = 0 := by rw [← hq]; exact h0
         have HA := Lib.hid (fun G hG => H9.out.addC2 HB.out hd3 hk5 (i := i) (by omega) h0' G hG)
         have H0' := Lib.hid h0'
         clear hd3 hk5 hq h0 h0'
         go_upto_region 20 with (go_at_call 44; refine (HA.out _ (by go_num)).mono ?_; rintro e w10 ⟨rfl, hg10, L, T, hLok, hot⟩)
         have gc : w10.cell? ⟨TH, dd * 5 + kk, none⟩ = some (.int .i64 0) := by rw [hg10.cell HD.out.1 HD.out.2.1, H0'.out]; rfl
         have gf : w10.frozen? ⟨TH, dd * 5 + kk, none⟩ = false := free_obj hg10 _
         have H10 := Lib.hid (And.intro hLok hot)
         clear hg10 hLok hot j0 f0 f1 f2
         go_wp2_with fail
         go_meet
         exact ⟨L, T, _, H10.out.1, H10.out.2⟩
       · have h0' : 0 < th dd kk := by omega
         have HA := Lib.hid (fun G hG => H9.out.addC1 HB.out hd3 hk5 (i := i) (by omega) h0' G hG)
         have hqz : ¬ ((q : Int) = 0) := by omega
         have Hq := Lib.hid hq
         clear hd3 hk5 hq h0 h0'
         go_upto_region 20 with (go_at_call 44; refine (HA.out _ (by go_num)).mono ?_; rintro e w10 ⟨rfl, hot⟩)
         have gc : w10.cell? ⟨TH, dd * 5 + kk, none⟩ = some (.int .i64 (q : Int)) := by rw [hot.grid.cell HD.out.1 HD.out.2.1, Hq.out]
         have H10 := Lib.hid hot
         clear hot j0 f0 f1 f2
         go_wp2_with fail
         go_meet
         exact ⟨[], [], _, LOk.nil, H10.out⟩
     · by_cases h0 : q = 0
       · have h0' : th dd kk = 0 := by rw [← hq]; exact h0
         have HA := Lib.hid (H9.out.outC1 HB.out hd3 hk5 h0')
         have H0' := Lib.hid h0'
         clear hd3 hk5 hq h0 h0'
         go_upto_region 25 with (go_at_call 46; refine HA.out.mono ?_; rintro e w10 ⟨rfl, hg10, L, T, hLok, hot⟩)
         have gc : w10.cell? ⟨TH, dd * 5 + kk, none⟩ = some (.int .i64 0) := by rw [hg10.cell HD.out.1 HD.out.2.1, H0'.out]; rfl
         have gf : w10.frozen? ⟨TH, dd * 5 + kk, none⟩ = false := free_obj hg10 _
         have H10 := Lib.hid (And.intro hLok hot)
         clear hg10 hLok hot j0 f0 f1 f2
         go_wp2_with fail
         go_meet
         exact ⟨L, T, _, H10.out.1, H10.out.2⟩
       · have h0' : 0 < th dd kk := by omega
         have HA := Lib.hid (H9.out.outC2 HB.out hd3 hk5 h0')
         have hqz : (0 : Int) < (q : Int) := by omega
         have Hq := Lib.hid hq
         clear hd3 hk5 hq h0 h0'
         go_upto_region 25 with (go_at_call 46; refine HA.out.mono ?_; rintro e w10 ⟨rfl, hg10, L, T, hLok, hot⟩)
         have gc : w10.cell? ⟨TH, dd * 5 + kk, none⟩ = some (.int .i64 (q : Int)) := by rw [hg10.cell HD.out.1 HD.out.2.1, Hq.out]
         have gf : w10.frozen? ⟨TH, dd * 5 + kk, none⟩ = false := free_obj hg10 _
         have H10 := Lib.hid (And.intro hLok hot)
         clear hg10 hLok hot j0 f0 f1 f2
         go_wp2_with fail
         go_meet
         exact ⟨L, T, _, H10.out.1, H10.out.2⟩
    case rest =>
     obtain ⟨L, T, th', hLok, hot⟩ := hcut
     have HC := Lib.hid (hot.commitC HB.out hLok (by have := H6.out.2.1; omega))
     clear hLok hot
     go_upto_region 30 with (go_at_call 22; refine HC.out.mono ?_; rintro e w11 ⟨rfl, Sd', st', c', hc', hot⟩)
     have H11 := Lib.hid (And.intro hot hc')
     clear hot hc'
     go_wp2_with fail
     go_loopw [15] (fun aa wx => ∃ a : Nat, a ≤ 3 ∧ aa = .int .i64 a ∧ Below w11.heap.size w11 wx) (fun aa _ => 3 - (Go.RowKit.intOf aa).toNat)
     case atStart => exact ⟨0, Nat.zero_le _, rfl, Below.refl _ _⟩
     case round =>
      obtain ⟨a, ha, rfl, hba⟩ := hrel
      by_cases ha3 : a < 3
      · have haa : (a : Int) < 3 := by omega
        have HA := Lib.hid (And.intro ha3 hba)
        clear ha ha3 hba
        go_upto_region 34 with fail
        go_wp2_with fail
        go_loopw [16, 17] (fun nn bb wy => ∃ b : Nat, b ≤ 5 ∧ bb = .int .i64 b ∧ nn = .int .i64 (cntO th' a b : Nat) ∧ Below w11.heap.size w11 wy) (fun _ bb _ => 5 - (Go.RowKit.intOf bb).toNat)
        case atStart => exact ⟨0, Nat.zero_le _, rfl, rfl, HA.out.2⟩
        case round =>
         obtain ⟨b, hb, rfl, rfl, hbb⟩ := hrel
         have h12 := H11.out.1.below hbb
         obtain ⟨f0, f1, f2⟩ := h12.dirs.cells HA.out.1
         by_cases hb5 : b < 5
         · have hbi : (b : Int) < 5 := by omega
           obtain ⟨X, I, hX, hF⟩ := h12.findC HA.out.1 hb5
           obtain ⟨ch, hch⟩ : ∃ ch : UInt8, ch = UInt8.ofNat (97 + b) := ⟨_, rfl⟩
           have hnm : ((⟨#[110]⟩ : ByteArray) ++ ⟨#[ch]⟩) = nameO b := by rw [hch]; exact nameO_eq b
           have hcN : IntKind.u8.wrap (IntKind.i64.wrap (97 + (b : Int))) = (ch.toNat : Int) := by rw [IntWalk.i64_in (97 + (b : Int)) (by omega), wrap_u8, hch, UInt8.toNat_ofNat']; omega
           have gcell := h12.grid.cell HA.out.1 hb5
           have hle := h12.so.le a b
           have hcs := cntO_succ th' a b
           have hcl := cntO_le th' a b
           obtain ⟨q, hq⟩ : ∃ q, q = th' a b := ⟨_, rfl⟩
           obtain ⟨n, hn⟩ : ∃ n, n = cntO th' a b := ⟨_, rfl⟩
           rw [← hq] at hX hF gcell hle hcs
           rw [← hn] at hcs hcl ⊢
           have hn5 : (n : Int) < 100 := by omega
           have hq40 : (q : Int) ≤ 40 := by omega
           have hqw : IntKind.i64.wrap (q : Int) = q := IntWalk.i64_in _ (by omega)
           have hS : ∀ w', Below wr.heap.size wr w' → w'.cell? ⟨DG, a * 3, none⟩ = some (.int .i64 (dirD a).label) ∧ w'.cell? ⟨DG, a * 3 + 1, none⟩ = some (.int .i64 (dirD a).at_) ∧ w'.cell? ⟨DG, a * 3 + 2, none⟩ = some (.int .u32 (dirD a).gen) ∧ Below wr.heap.size wr w' := fun w' hb => ⟨grow_cell hb f0, grow_cell hb f1, grow_cell hb f2, hb⟩
           have hF2 : ∀ x, Below wr.heap.size wr x → ∀ nm, nm = nameO b → Calls Tryz.prog 48 #[.pointer (some ⟨N + 2, 0, none⟩), .agg #[.int .i64 (dirD a).label, .int .i64 (dirD a).at_, .int .u32 (dirD a).gen], .string nm] x fun e w' => e = .returned (.tuple #[.agg #[.int .i64 X.dir.label, .int .i64 X.dir.at_, .int .u32 X.dir.gen, .string X.name, .int .i64 X.at_, .int .u32 X.gen], .int .i64 I, .bool (decide (0 < q))]) ∧ Below x.heap.size x w' := fun x hx nm hm => by rw [hm]; exact hF x hx
           have HF := Lib.hid hF2
           have H12 := Lib.hid (And.intro hbb (And.intro hb5 (And.intro hcs (And.intro hX gcell))))
           have Hcn := Lib.hid (And.intro hnm hcN)
           have HS := Lib.hid hS
           clear h12 hF hF2 hX gcell hcs hbb hnm hcN hch hq hn hb hb5 hS hle hcl
           go_upto_region 37 with fail
           go_cut [18, 20] (fun s18 s20 wx => ∃ G, s18 = .pointer (some ⟨G, 0, none⟩) ∧ s20 = .bool (decide (0 < q)) ∧ wx.cell? ⟨G, 5, none⟩ = some (.int .u32 X.gen) ∧ Below wr.heap.size wr wx)
           case first =>
            refine wp_region_held_drew (S := fun w' => w'.cell? ⟨DG, a * 3, none⟩ = some (.int .i64 (dirD a).label) ∧ w'.cell? ⟨DG, a * 3 + 1, none⟩ = some (.int .i64 (dirD a).at_) ∧ w'.cell? ⟨DG, a * 3 + 2, none⟩ = some (.int .u32 (dirD a).gen) ∧ Below wr.heap.size wr w') (by kernel_rfl) (HS.out _ (Below.refl _ _).drew) (fun hHeld => ?_)
            show wpAnyH _ _ _ _ _ 20 #[false, false, false, false, false, false, false, false, false, false, false, false, false, false, false, false, false, false, false, false] _ _
            refine gT (i := 0) (v := ?kv17) rfl ?ky17 ?kr17
            case ky17 => (intro w hSw; (try dsimp only at hSw); go_split_ands; (try simp only [qA, qB]); go_simp; (try with_reducible rfl))
            try simp only [Act.put, qA, qB, qD, qE, qF]
            refine gT (i := 1) (v := ?kv18) rfl ?ky18 ?kr18
            case ky18 => (intro w hSw; (try dsimp only at hSw); go_split_ands; (try simp only [qA, qB, qC]); go_simp; (try with_reducible rfl))
            try simp only [Act.put, qA, qB, qC, qD, qE, qF]
            refine gT (i := 2) (v := ?kv19) rfl ?ky19 ?kr19
            case ky19 => (intro w hSw; (try dsimp only at hSw); go_split_ands; (try simp only [qA, qB, qC]); go_simp; (try with_reducible rfl))
            try simp only [Act.put, qA, qB, qC, qD, qE, qF]
            refine gT (i := 3) (v := ?kv20) rfl ?ky20 ?kr20
            case ky20 => (intro w hSw; (try dsimp only at hSw); go_split_ands; (try simp only [qA, qB, qC]); go_simp; (try with_reducible rfl))
            try simp only [Act.put, qA, qB, qC, qD, qE, qF]
            refine gT (i := 4) (v := ?kv21) rfl ?ky21 ?kr21
            case ky21 => (intro w hSw; (try dsimp only at hSw); go_split_ands; (try simp only [qA, qB, qC]); go_simp; (try with_reducible rfl))
            try simp only [Act.put, qA, qB, qC, qD, qE, qF]
            refine gT (i := 5) (v := ?kv22) rfl ?ky22 ?kr22
            case ky22 => (intro w hSw; (try dsimp only at hSw); go_split_ands; (try simp only [qA, qB, qC]); go_simp; (try with_reducible rfl))
            try simp only [Act.put, qA, qB, qC, qD, qE, qF]
            refine gT (i := 6) (v := ?kv23) rfl ?ky23 ?kr23
            case ky23 => (intro w hSw; (try dsimp only at hSw); go_split_ands; (try simp only [qA, qB, qC]); go_simp; (try with_reducible rfl))
            try simp only [Act.put, qA, qB, qC, qD, qE, qF]
            refine gT (i := 7) (v := ?kv24) rfl ?ky24 ?kr24
            case ky24 => (intro w hSw; (try dsimp only at hSw); go_split_ands; (try simp only [qA, qB, qC]); go_simp; (try with_reducible rfl))
            try simp only [Act.put, qA, qB, qC, qD, qE, qF]
            refine wpAnyH_ready (rs := [8, 16]) (by kernel_rfl) (by simp) ?_
            refine (AllReadyH.cons rfl (fun K hK => ?kb25x0) (AllReadyH.cons rfl (fun K hK => ?kb25x1) AllReadyH.nil))
            case kb25x0 =>
             refine step_lit1b (by rfl) _ (by rfl) ch (by rfl) (by exact Hcn.out.2) ?_; intro g8 x8 p8 bx; have bh := grow_trans hHeld.2.2.2 bx; (try replace o16 := grow_obj bx o16)
             refine hK.out _ _ (by exact HS.out _ bh) (fun hHeldn => ?_)
             clear hHeld hK K
             have hHeld := hHeldn
             clear hHeldn
             try simp only [Act.put, qA, qB, qC, qD, qE, qF]
             refine wpAnyH_ready (rs := [9, 16]) (by kernel_rfl) (by simp) ?_
             refine (AllReadyH.cons rfl (fun K hK => ?kb26x0) (AllReadyH.cons rfl (fun K hK => ?kb26x1) AllReadyH.nil))
             case kb26x0 =>
              refine step_convB (by rfl) _ (by rfl) (by rfl) (by rfl) p8 ?_; have bh := hHeld.2.2.2
              refine hK.out _ _ (by exact HS.out _ bh) (fun hHeldn => ?_)
              clear hHeld hK K
              have hHeld := hHeldn
              clear hHeldn
              try simp only [Act.put, qA, qB, qC, qD, qE, qF]
              refine gT (i := 10) (v := ?kv27) rfl ?ky27 ?kr27
              case ky27 => (intro w hSw; (try dsimp only at hSw); go_split_ands; (try simp only [qA, qB, qC]); go_simp; (try with_reducible rfl))
              try simp only [Act.put, qA, qB, qC, qD, qE, qF]
              refine wpAnyH_ready (rs := [11, 16]) (by kernel_rfl) (by simp) ?_
              refine (AllReadyH.cons rfl (fun K hK => ?kb28x0) (AllReadyH.cons rfl (fun K hK => ?kb28x1) AllReadyH.nil))
              case kb28x0 =>
               try simp only [qA, qB, qC]
               go_simp
               go_at_call 48; refine (HF.out _ hHeld.2.2.2 _ Hcn.out.1).mono ?_; rintro e x11 ⟨rfl, bx⟩; have bh := grow_trans hHeld.2.2.2 bx; (try replace o16 := grow_obj bx o16)
               refine hK.out _ _ (by exact HS.out _ bh) (fun hHeldn => ?_)
               clear hHeld hK K
               have hHeld := hHeldn
               clear hHeldn
               try simp only [qD, qE, qF]
               refine gT (i := 12) (v := ?kv29) rfl ?ky29 ?kr29
               case ky29 => (intro w hSw; (try dsimp only at hSw); go_split_ands; (try simp only [qA, qB, qC]); go_simp; (try with_reducible rfl))
               try simp only [Act.put, qA, qB, qC, qD, qE, qF]
               refine gT (i := 13) (v := ?kv30) rfl ?ky30 ?kr30
               case ky30 => (intro w hSw; (try dsimp only at hSw); go_split_ands; (try simp only [qA, qB, qC]); go_simp; (try with_reducible rfl))
               try simp only [Act.put, qA, qB, qC, qD, qE, qF]
               refine gT (i := 14) (v := ?kv31) rfl ?ky31 ?kr31
               case ky31 => (intro w hSw; (try dsimp only at hSw); go_split_ands; (try simp only [qA, qB, qC]); go_simp; (try with_reducible rfl))
               try simp only [Act.put, qA, qB, qC, qD, qE, qF]
               refine gT (i := 15) (v := ?kv32) rfl ?ky32 ?kr32
               case ky32 => (intro w hSw; (try dsimp only at hSw); go_split_ands; (try simp only [qA, qB, qC]); go_simp; (try with_reducible rfl))
               try simp only [Act.put, qA, qB, qC, qD, qE, qF]
               refine wpAnyH_ready (rs := [16]) (by kernel_rfl) (by simp) ?_
               refine (AllReadyH.cons rfl (fun K hK => ?_) AllReadyH.nil)
               refine step_allocNm (by rfl) (by rfl) ?_; intro g16 x16 o16 hg16 bx; have bh := grow_trans hHeld.2.2.2 bx; (try replace p8 := p8.below bx); replace hg16 := Nat.le_trans hHeld.2.2.2.size hg16
               refine hK.out _ _ (by exact HS.out _ bh) (fun hHeldn => ?_)
               clear hHeld hK K
               have hHeld := hHeldn
               clear hHeldn
               try simp only [Act.put, qA, qB, qC, qD, qE, qF]
               refine wpAnyH_ready (rs := [17]) (by kernel_rfl) (by simp) ?_
               refine (AllReadyH.cons rfl (fun K hK => ?_) AllReadyH.nil)
               refine step_storeOff aggNmE (by rfl) _ _ (by rfl) (by rfl) (by rfl) o16 (by rfl) (by decide) (Nm.one_cells X) ?_; intro w17 hw17; have bh : Below wr.heap.size wr w17 := (by rw [hw17]; exact hHeld.2.2.2.setRow hg16 _); have o17 : w17.cell? ⟨g16, 5, none⟩ = some (.int .u32 X.gen) := (by rw [hw17]; exact cell_obj (objAt_setRow o16 _) 5); clear hw17
               refine hK.out _ _ (by exact HS.out _ bh) (fun hHeldn => ?_)
               clear hHeld hK K
               have hHeld := hHeldn
               clear hHeldn
               try simp only [Act.put, qA, qB, qC, qD, qE, qF]
               refine gT (i := 18) (v := ?kv35) rfl ?ky35 ?kr35
               case ky35 => (intro w hSw; (try dsimp only at hSw); go_split_ands; (try simp only [qA, qB, qC]); go_simp; (try with_reducible rfl))
               try simp only [Act.put, qA, qB, qC, qD, qE, qF]
               refine gT (i := 19) (v := ?kv36) rfl ?ky36 ?kr36
               case ky36 => (intro w hSw; (try dsimp only at hSw); go_split_ands; (try simp only [qA, qB, qC]); go_simp; (try with_reducible rfl))
               try simp only [Act.put, qA, qB, qC, qD, qE, qF]
               refine wpAnyH_done (by kernel_rfl) ?_ _
               go_wp2_with fail
               go_meet
               exact ⟨_, rfl, rfl, o17, hHeld.2.2.2⟩
              case kb28x1 =>
               refine step_allocNm (by rfl) (by rfl) ?_; intro g16 x16 o16 hg16 bx; have bh := grow_trans hHeld.2.2.2 bx; (try replace p8 := p8.below bx); replace hg16 := Nat.le_trans hHeld.2.2.2.size hg16
               refine hK.out _ _ (by exact HS.out _ bh) (fun hHeldn => ?_)
               clear hHeld hK K
               have hHeld := hHeldn
               clear hHeldn
               try simp only [Act.put, qA, qB, qC, qD, qE, qF]
               refine wpAnyH_ready (rs := [11]) (by kernel_rfl) (by simp) ?_
               refine (AllReadyH.cons rfl (fun K hK => ?_) AllReadyH.nil)
               try simp only [qA, qB, qC]
               go_simp
               go_at_call 48; refine (HF.out _ hHeld.2.2.2 _ Hcn.out.1).mono ?_; rintro e x11 ⟨rfl, bx⟩; have bh := grow_trans hHeld.2.2.2 bx; (try replace o16 := grow_obj bx o16)
               refine hK.out _ _ (by exact HS.out _ bh) (fun hHeldn => ?_)
               clear hHeld hK K
               have hHeld := hHeldn
               clear hHeldn
               try simp only [qD, qE, qF]
               refine gT (i := 12) (v := ?kv38) rfl ?ky38 ?kr38
               case ky38 => (intro w hSw; (try dsimp only at hSw); go_split_ands; (try simp only [qA, qB, qC]); go_simp; (try with_reducible rfl))
               try simp only [Act.put, qA, qB, qC, qD, qE, qF]
               refine gT (i := 13) (v := ?kv39) rfl ?ky39 ?kr39
               case ky39 => (intro w hSw; (try dsimp only at hSw); go_split_ands; (try simp only [qA, qB, qC]); go_simp; (try with_reducible rfl))
               try simp only [Act.put, qA, qB, qC, qD, qE, qF]
               refine gT (i := 14) (v := ?kv40) rfl ?ky40 ?kr40
               case ky40 => (intro w hSw; (try dsimp only at hSw); go_split_ands; (try simp only [qA, qB, qC]); go_simp; (try with_reducible rfl))
               try simp only [Act.put, qA, qB, qC, qD, qE, qF]
               refine gT (i := 15) (v := ?kv41) rfl ?ky41 ?kr41
               case ky41 => (intro w hSw; (try dsimp only at hSw); go_split_ands; (try simp only [qA, qB, qC]); go_simp; (try with_reducible rfl))
               try simp only [Act.put, qA, qB, qC, qD, qE, qF]
               refine wpAnyH_ready (rs := [17]) (by kernel_rfl) (by simp) ?_
               refine (AllReadyH.cons rfl (fun K hK => ?_) AllReadyH.nil)
               refine step_storeOff aggNmE (by rfl) _ _ (by rfl) (by rfl) (by rfl) o16 (by rfl) (by decide) (Nm.one_cells X) ?_; intro w17 hw17; have bh : Below wr.heap.size wr w17 := (by rw [hw17]; exact hHeld.2.2.2.setRow hg16 _); have o17 : w17.cell? ⟨g16, 5, none⟩ = some (.int .u32 X.gen) := (by rw [hw17]; exact cell_obj (objAt_setRow o16 _) 5); clear hw17
               refine hK.out _ _ (by exact HS.out _ bh) (fun hHeldn => ?_)
               clear hHeld hK K
               have hHeld := hHeldn
               clear hHeldn
               try simp only [Act.put, qA, qB, qC, qD, qE, qF]
               refine gT (i := 18) (v := ?kv43) rfl ?ky43 ?kr43
               case ky43 => (intro w hSw; (try dsimp only at hSw); go_split_ands; (try simp only [qA, qB, qC]); go_simp; (try with_reducible rfl))
               try simp only [Act.put, qA, qB, qC, qD, qE, qF]
               refine gT (i := 19) (v := ?kv44) rfl ?ky44 ?kr44
               case ky44 => (intro w hSw; (try dsimp only at hSw); go_split_ands; (try simp only [qA, qB, qC]); go_simp; (try with_reducible rfl))
               try simp only [Act.put, qA, qB, qC, qD, qE, qF]
               refine wpAnyH_done (by kernel_rfl) ?_ _
               go_wp2_with fail
               go_meet
               exact ⟨_, rfl, rfl, o17, hHeld.2.2.2⟩
             case kb26x1 =>
              refine step_allocNm (by rfl) (by rfl) ?_; intro g16 x16 o16 hg16 bx; have bh := grow_trans hHeld.2.2.2 bx; (try replace p8 := p8.below bx); replace hg16 := Nat.le_trans hHeld.2.2.2.size hg16
              refine hK.out _ _ (by exact HS.out _ bh) (fun hHeldn => ?_)
              clear hHeld hK K
              have hHeld := hHeldn
              clear hHeldn
              try simp only [Act.put, qA, qB, qC, qD, qE, qF]
              refine wpAnyH_ready (rs := [9]) (by kernel_rfl) (by simp) ?_
              refine (AllReadyH.cons rfl (fun K hK => ?_) AllReadyH.nil)
              refine step_convB (by rfl) _ (by rfl) (by rfl) (by rfl) p8 ?_; have bh := hHeld.2.2.2
              refine hK.out _ _ (by exact HS.out _ bh) (fun hHeldn => ?_)
              clear hHeld hK K
              have hHeld := hHeldn
              clear hHeldn
              try simp only [Act.put, qA, qB, qC, qD, qE, qF]
              refine gT (i := 10) (v := ?kv46) rfl ?ky46 ?kr46
              case ky46 => (intro w hSw; (try dsimp only at hSw); go_split_ands; (try simp only [qA, qB, qC]); go_simp; (try with_reducible rfl))
              try simp only [Act.put, qA, qB, qC, qD, qE, qF]
              refine wpAnyH_ready (rs := [11]) (by kernel_rfl) (by simp) ?_
              refine (AllReadyH.cons rfl (fun K hK => ?_) AllReadyH.nil)
              try simp only [qA, qB, qC]
              go_simp
              go_at_call 48; refine (HF.out _ hHeld.2.2.2 _ Hcn.out.1).mono ?_; rintro e x11 ⟨rfl, bx⟩; have bh := grow_trans hHeld.2.2.2 bx; (try replace o16 := grow_obj bx o16)
              refine hK.out _ _ (by exact HS.out _ bh) (fun hHeldn => ?_)
              clear hHeld hK K
              have hHeld := hHeldn
              clear hHeldn
              try simp only [qD, qE, qF]
              refine gT (i := 12) (v := ?kv48) rfl ?ky48 ?kr48
              case ky48 => (intro w hSw; (try dsimp only at hSw); go_split_ands; (try simp only [qA, qB, qC]); go_simp; (try with_reducible rfl))
              try simp only [Act.put, qA, qB, qC, qD, qE, qF]
              refine gT (i := 13) (v := ?kv49) rfl ?ky49 ?kr49
              case ky49 => (intro w hSw; (try dsimp only at hSw); go_split_ands; (try simp only [qA, qB, qC]); go_simp; (try with_reducible rfl))
              try simp only [Act.put, qA, qB, qC, qD, qE, qF]
              refine gT (i := 14) (v := ?kv50) rfl ?ky50 ?kr50
              case ky50 => (intro w hSw; (try dsimp only at hSw); go_split_ands; (try simp only [qA, qB, qC]); go_simp; (try with_reducible rfl))
              try simp only [Act.put, qA, qB, qC, qD, qE, qF]
              refine gT (i := 15) (v := ?kv51) rfl ?ky51 ?kr51
              case ky51 => (intro w hSw; (try dsimp only at hSw); go_split_ands; (try simp only [qA, qB, qC]); go_simp; (try with_reducible rfl))
              try simp only [Act.put, qA, qB, qC, qD, qE, qF]
              refine wpAnyH_ready (rs := [17]) (by kernel_rfl) (by simp) ?_
              refine (AllReadyH.cons rfl (fun K hK => ?_) AllReadyH.nil)
              refine step_storeOff aggNmE (by rfl) _ _ (by rfl) (by rfl) (by rfl) o16 (by rfl) (by decide) (Nm.one_cells X) ?_; intro w17 hw17; have bh : Below wr.heap.size wr w17 := (by rw [hw17]; exact hHeld.2.2.2.setRow hg16 _); have o17 : w17.cell? ⟨g16, 5, none⟩ = some (.int .u32 X.gen) := (by rw [hw17]; exact cell_obj (objAt_setRow o16 _) 5); clear hw17
              refine hK.out _ _ (by exact HS.out _ bh) (fun hHeldn => ?_)
              clear hHeld hK K
              have hHeld := hHeldn
              clear hHeldn
              try simp only [Act.put, qA, qB, qC, qD, qE, qF]
              refine gT (i := 18) (v := ?kv53) rfl ?ky53 ?kr53
              case ky53 => (intro w hSw; (try dsimp only at hSw); go_split_ands; (try simp only [qA, qB, qC]); go_simp; (try with_reducible rfl))
              try simp only [Act.put, qA, qB, qC, qD, qE, qF]
              refine gT (i := 19) (v := ?kv54) rfl ?ky54 ?kr54
              case ky54 => (intro w hSw; (try dsimp only at hSw); go_split_ands; (try simp only [qA, qB, qC]); go_simp; (try with_reducible rfl))
              try simp only [Act.put, qA, qB, qC, qD, qE, qF]
              refine wpAnyH_done (by kernel_rfl) ?_ _
              go_wp2_with fail
              go_meet
              exact ⟨_, rfl, rfl, o17, hHeld.2.2.2⟩
            case kb25x1 =>
             refine step_allocNm (by rfl) (by rfl) ?_; intro g16 x16 o16 hg16 bx; have bh := grow_trans hHeld.2.2.2 bx; (try replace p8 := p8.below bx); replace hg16 := Nat.le_trans hHeld.2.2.2.size hg16
             refine hK.out _ _ (by exact HS.out _ bh) (fun hHeldn => ?_)
             clear hHeld hK K
             have hHeld := hHeldn
             clear hHeldn
             try simp only [Act.put, qA, qB, qC, qD, qE, qF]
             refine wpAnyH_ready (rs := [8]) (by kernel_rfl) (by simp) ?_
             refine (AllReadyH.cons rfl (fun K hK => ?_) AllReadyH.nil)
             refine step_lit1b (by rfl) _ (by rfl) ch (by rfl) (by exact Hcn.out.2) ?_; intro g8 x8 p8 bx; have bh := grow_trans hHeld.2.2.2 bx; (try replace o16 := grow_obj bx o16)
             refine hK.out _ _ (by exact HS.out _ bh) (fun hHeldn => ?_)
             clear hHeld hK K
             have hHeld := hHeldn
             clear hHeldn
             try simp only [Act.put, qA, qB, qC, qD, qE, qF]
             refine wpAnyH_ready (rs := [9]) (by kernel_rfl) (by simp) ?_
             refine (AllReadyH.cons rfl (fun K hK => ?_) AllReadyH.nil)
             refine step_convB (by rfl) _ (by rfl) (by rfl) (by rfl) p8 ?_; have bh := hHeld.2.2.2
             refine hK.out _ _ (by exact HS.out _ bh) (fun hHeldn => ?_)
             clear hHeld hK K
             have hHeld := hHeldn
             clear hHeldn
             try simp only [Act.put, qA, qB, qC, qD, qE, qF]
             refine gT (i := 10) (v := ?kv57) rfl ?ky57 ?kr57
             case ky57 => (intro w hSw; (try dsimp only at hSw); go_split_ands; (try simp only [qA, qB, qC]); go_simp; (try with_reducible rfl))
             try simp only [Act.put, qA, qB, qC, qD, qE, qF]
             refine wpAnyH_ready (rs := [11]) (by kernel_rfl) (by simp) ?_
             refine (AllReadyH.cons rfl (fun K hK => ?_) AllReadyH.nil)
             try simp only [qA, qB, qC]
             go_simp
             go_at_call 48; refine (HF.out _ hHeld.2.2.2 _ Hcn.out.1).mono ?_; rintro e x11 ⟨rfl, bx⟩; have bh := grow_trans hHeld.2.2.2 bx; (try replace o16 := grow_obj bx o16)
             refine hK.out _ _ (by exact HS.out _ bh) (fun hHeldn => ?_)
             clear hHeld hK K
             have hHeld := hHeldn
             clear hHeldn
             try simp only [qD, qE, qF]
             refine gT (i := 12) (v := ?kv59) rfl ?ky59 ?kr59
             case ky59 => (intro w hSw; (try dsimp only at hSw); go_split_ands; (try simp only [qA, qB, qC]); go_simp; (try with_reducible rfl))
             try simp only [Act.put, qA, qB, qC, qD, qE, qF]
             refine gT (i := 13) (v := ?kv60) rfl ?ky60 ?kr60
             case ky60 => (intro w hSw; (try dsimp only at hSw); go_split_ands; (try simp only [qA, qB, qC]); go_simp; (try with_reducible rfl))
             try simp only [Act.put, qA, qB, qC, qD, qE, qF]
             refine gT (i := 14) (v := ?kv61) rfl ?ky61 ?kr61
             case ky61 => (intro w hSw; (try dsimp only at hSw); go_split_ands; (try simp only [qA, qB, qC]); go_simp; (try with_reducible rfl))
             try simp only [Act.put, qA, qB, qC, qD, qE, qF]
             refine gT (i := 15) (v := ?kv62) rfl ?ky62 ?kr62
             case ky62 => (intro w hSw; (try dsimp only at hSw); go_split_ands; (try simp only [qA, qB, qC]); go_simp; (try with_reducible rfl))
             try simp only [Act.put, qA, qB, qC, qD, qE, qF]
             refine wpAnyH_ready (rs := [17]) (by kernel_rfl) (by simp) ?_
             refine (AllReadyH.cons rfl (fun K hK => ?_) AllReadyH.nil)
             refine step_storeOff aggNmE (by rfl) _ _ (by rfl) (by rfl) (by rfl) o16 (by rfl) (by decide) (Nm.one_cells X) ?_; intro w17 hw17; have bh : Below wr.heap.size wr w17 := (by rw [hw17]; exact hHeld.2.2.2.setRow hg16 _); have o17 : w17.cell? ⟨g16, 5, none⟩ = some (.int .u32 X.gen) := (by rw [hw17]; exact cell_obj (objAt_setRow o16 _) 5); clear hw17
             refine hK.out _ _ (by exact HS.out _ bh) (fun hHeldn => ?_)
             clear hHeld hK K
             have hHeld := hHeldn
             clear hHeldn
             try simp only [Act.put, qA, qB, qC, qD, qE, qF]
             refine gT (i := 18) (v := ?kv64) rfl ?ky64 ?kr64
             case ky64 => (intro w hSw; (try dsimp only at hSw); go_split_ands; (try simp only [qA, qB, qC]); go_simp; (try with_reducible rfl))
             try simp only [Act.put, qA, qB, qC, qD, qE, qF]
             refine gT (i := 19) (v := ?kv65) rfl ?ky65 ?kr65
             case ky65 => (intro w hSw; (try dsimp only at hSw); go_split_ands; (try simp only [qA, qB, qC]); go_simp; (try with_reducible rfl))
             try simp only [Act.put, qA, qB, qC, qD, qE, qF]
             refine wpAnyH_done (by kernel_rfl) ?_ _
             go_wp2_with fail
             go_meet
             exact ⟨_, rfl, rfl, o17, hHeld.2.2.2⟩
           case rest =>
            obtain ⟨G, rfl, rfl, hXc, hbx⟩ := hcut
            have gc := grow_cell hbx H12.out.2.2.2.2
            have hS2 : ∀ w', Below wc.heap.size wc w' → w'.cell? ⟨TH, a * 5 + b, none⟩ = some (.int .i64 (q : Int)) ∧ w'.cell? ⟨G, 5, none⟩ = some (.int .u32 X.gen) ∧ Below wc.heap.size wc w' := fun w' hb => ⟨grow_cell hb gc, grow_cell hb hXc, hb⟩
            clear f0 f1 f2
            by_cases hp : 0 < q
            · rw [decide_eq_true hp]
              rw [H12.out.2.2.2.1 hp] at hXc hS2
              have hcs := H12.out.2.2.1
              rw [if_pos hp] at hcs
              have Hcs := Lib.hid (And.intro hcs hbx)
              have hp0 : (0 : Int) < (q : Int) := by omega
              have hdq : decide (0 < q) = true := decide_eq_true hp
              clear hcs hp hbx
              go_upto_region 38 with fail
              refine wp_region_held_drew (S := fun w' => w'.cell? ⟨TH, a * 5 + b, none⟩ = some (.int .i64 (q : Int)) ∧ w'.cell? ⟨G, 5, none⟩ = some (.int .u32 (q : Int)) ∧ Below wc.heap.size wc w') (by kernel_rfl) (hS2 _ (Below.refl _ _).drew) (fun hHeld => ?_)
              show wpAnyH _ _ _ _ _ 22 #[false, false, false, false, false, false, false, false, false, false, false, false, false, false, false, false, false, false, false, false, false, false] _ _
              refine gT (i := 0) (v := ?kv66) rfl ?ky66 ?kr66
              case ky66 => (intro w hSw; (try dsimp only at hSw); go_split_ands; (try simp only [qA, qB]); go_simp; (try with_reducible rfl))
              try simp only [Act.put, qA, qB, qD, qE, qF]
              refine gT (i := 1) (v := ?kv67) rfl ?ky67 ?kr67
              case ky67 => (intro w hSw; (try dsimp only at hSw); go_split_ands; (try simp only [qA, qB, qC]); go_simp; (try with_reducible rfl))
              try simp only [Act.put, qA, qB, qC, qD, qE, qF]
              refine gT (i := 2) (v := ?kv68) rfl ?ky68 ?kr68
              case ky68 => (intro w hSw; (try dsimp only at hSw); go_split_ands; (try simp only [qA, qB, qC]); go_simp; (try with_reducible rfl))
              try simp only [Act.put, qA, qB, qC, qD, qE, qF]
              refine gT (i := 3) (v := ?kv69) rfl ?ky69 ?kr69
              case ky69 => (intro w hSw; (try dsimp only at hSw); go_split_ands; (try simp only [qA, qB, qC]); go_simp; (try with_reducible rfl))
              try simp only [Act.put, qA, qB, qC, qD, qE, qF]
              refine gT (i := 4) (v := ?kv70) rfl ?ky70 ?kr70
              case ky70 => (intro w hSw; (try dsimp only at hSw); go_split_ands; (try simp only [qA, qB, qC]); go_simp; (try with_reducible rfl))
              try simp only [Act.put, qA, qB, qC, qD, qE, qF]
              refine gT (i := 5) (v := ?kv71) rfl ?ky71 ?kr71
              case ky71 => (intro w hSw; (try dsimp only at hSw); go_split_ands; (try simp only [qA, qB, qC]); go_simp; (try with_reducible rfl))
              try simp only [Act.put, qA, qB, qC, qD, qE, qF]
              refine gT (i := 6) (v := ?kv72) rfl ?ky72 ?kr72
              case ky72 => (intro w hSw; (try dsimp only at hSw); go_split_ands; (try simp only [qA, qB, qC]); go_simp; (try with_reducible rfl))
              try simp only [Act.put, qA, qB, qC, qD, qE, qF]
              refine gT (i := 7) (v := ?kv73) rfl ?ky73 ?kr73
              case ky73 => (intro w hSw; (try dsimp only at hSw); go_split_ands; (try simp only [qA, qB, qC]); go_simp; (try with_reducible rfl))
              try simp only [Act.put, qA, qB, qC, qD, qE, qF]
              refine gT (i := 8) (v := ?kv74) rfl ?ky74 ?kr74
              case ky74 => (intro w hSw; (try dsimp only at hSw); go_split_ands; (try simp only [qA, qB, qC]); go_simp; (try with_reducible rfl))
              try simp only [Act.put, qA, qB, qC, qD, qE, qF]
              refine gT (i := 9) (v := ?kv75) rfl ?ky75 ?kr75
              case ky75 => (intro w hSw; (try dsimp only at hSw); go_split_ands; (try simp only [qA, qB, qC]); go_simp; (try with_reducible rfl))
              try simp only [Act.put, qA, qB, qC, qD, qE, qF]
              refine gT (i := 10) (v := ?kv76) rfl ?ky76 ?kr76
              case ky76 => (intro w hSw; (try dsimp only at hSw); go_split_ands; (try simp only [qA, qB, qC]); go_simp; (try with_reducible rfl))
              try simp only [Act.put, qA, qB, qC, qD, qE, qF]
              refine gT (i := 11) (v := ?kv77) rfl ?ky77 ?kr77
              case ky77 => (intro w hSw; (try dsimp only at hSw); go_split_ands; (try simp only [qA, qB, qC]); go_simp; (try with_reducible rfl))
              try simp only [Act.put, qA, qB, qC, qD, qE, qF]
              refine gT (i := 12) (v := ?kv78) rfl ?ky78 ?kr78
              case ky78 => (intro w hSw; (try dsimp only at hSw); go_split_ands; (try simp only [qA, qB, qC]); go_simp; (try with_reducible rfl))
              try simp only [Act.put, qA, qB, qC, qD, qE, qF]
              refine gT (i := 13) (v := ?kv79) rfl ?ky79 ?kr79
              case ky79 => (intro w hSw; (try dsimp only at hSw); go_split_ands; (try simp only [qA, qB, qC]); go_simp; (try with_reducible rfl))
              try simp only [Act.put, qA, qB, qC, qD, qE, qF]
              refine gT (i := 14) (v := ?kv80) rfl ?ky80 ?kr80
              case ky80 => (intro w hSw; (try dsimp only at hSw); go_split_ands; (try simp only [qA, qB, qC]); go_simp; (try with_reducible rfl))
              try simp only [Act.put, qA, qB, qC, qD, qE, qF]
              refine gT (i := 15) (v := ?kv81) rfl ?ky81 ?kr81
              case ky81 => (intro w hSw; (try dsimp only at hSw); go_split_ands; (try simp only [qA, qB, qC]); go_simp; (try with_reducible rfl))
              try simp only [Act.put, qA, qB, qC, qD, qE, qF]
              refine gT (i := 16) (v := ?kv82) rfl ?ky82 ?kr82
              case ky82 => (intro w hSw; (try dsimp only at hSw); go_split_ands; (try simp only [qA, qB, qC]); go_simp; (try with_reducible rfl))
              try simp only [Act.put, qA, qB, qC, qD, qE, qF]
              refine gT (i := 17) (v := ?kv83) rfl ?ky83 ?kr83
              case ky83 => (intro w hSw; (try dsimp only at hSw); go_split_ands; (try simp only [qA, qB, qC]); go_simp; (try with_reducible rfl))
              try simp only [Act.put, qA, qB, qC, qD, qE, qF]
              refine gT (i := 18) (v := ?kv84) rfl ?ky84 ?kr84
              case ky84 => (intro w hSw; (try dsimp only at hSw); go_split_ands; (try simp only [qA, qB, qC]); go_simp; (try with_reducible rfl))
              try simp only [Act.put, qA, qB, qC, qD, qE, qF]
              refine gT (i := 19) (v := ?kv85) rfl ?ky85 ?kr85
              case ky85 => (intro w hSw; (try dsimp only at hSw); go_split_ands; (try simp only [qA, qB, qC]); go_simp; (try with_reducible rfl))
              try simp only [Act.put, qA, qB, qC, qD, qE, qF]
              refine gT (i := 20) (v := ?kv86) rfl ?ky86 ?kr86
              case ky86 => (intro w hSw; (try dsimp only at hSw); go_split_ands; (try simp only [qA, qB, qC]); go_simp; (try with_reducible rfl))
              try simp only [Act.put, qA, qB, qC, qD, qE, qF]
              refine gT (i := 21) (v := ?kv87) rfl ?ky87 ?kr87
              case ky87 => (intro w hSw; (try dsimp only at hSw); go_split_ands; (try simp only [qA, qB, qC]); go_simp; (try with_reducible rfl))
              try simp only [Act.put, qA, qB, qC, qD, qE, qF]
              refine wpAnyH_done (by kernel_rfl) ?_ _
              go_wp2_with fail
              go_roundw
              case rel => exact ⟨b + 1, by have := H12.out.2.1; omega, by go_num, by rw [Hcs.out.1]; go_num, grow_trans H12.out.1 (grow_trans Hcs.out.2 hHeld.2.2)⟩
              case measure => have := H12.out.2.1; simp [Go.RowKit.intOf]; omega
            · rw [decide_eq_false hp]
              have hcs := H12.out.2.2.1
              rw [if_neg hp, Nat.add_zero] at hcs
              obtain rfl : q = 0 := by omega
              have Hcs := Lib.hid (And.intro hcs hbx)
              clear hcs hp hbx
              go_upto_region 38 with fail
              refine wp_region_held_drew (S := fun w' => w'.cell? ⟨TH, a * 5 + b, none⟩ = some (.int .i64 0) ∧ w'.cell? ⟨G, 5, none⟩ = some (.int .u32 X.gen) ∧ Below wc.heap.size wc w') (by kernel_rfl) (hS2 _ (Below.refl _ _).drew) (fun hHeld => ?_)
              show wpAnyH _ _ _ _ _ 22 #[false, false, false, false, false, false, false, false, false, false, false, false, false, false, false, false, false, false, false, false, false, false] _ _
              refine gT (i := 0) (v := ?kv88) rfl ?ky88 ?kr88
              case ky88 => (intro w hSw; (try dsimp only at hSw); go_split_ands; (try simp only [qA, qB]); go_simp; (try with_reducible rfl))
              try simp only [Act.put, qA, qB, qD, qE, qF]
              refine gT (i := 1) (v := ?kv89) rfl ?ky89 ?kr89
              case ky89 => (intro w hSw; (try dsimp only at hSw); go_split_ands; (try simp only [qA, qB, qC]); go_simp; (try with_reducible rfl))
              try simp only [Act.put, qA, qB, qC, qD, qE, qF]
              refine gT (i := 2) (v := ?kv90) rfl ?ky90 ?kr90
              case ky90 => (intro w hSw; (try dsimp only at hSw); go_split_ands; (try simp only [qA, qB, qC]); go_simp; (try with_reducible rfl))
              try simp only [Act.put, qA, qB, qC, qD, qE, qF]
              refine gT (i := 3) (v := ?kv91) rfl ?ky91 ?kr91
              case ky91 => (intro w hSw; (try dsimp only at hSw); go_split_ands; (try simp only [qA, qB, qC]); go_simp; (try with_reducible rfl))
              try simp only [Act.put, qA, qB, qC, qD, qE, qF]
              refine gT (i := 4) (v := ?kv92) rfl ?ky92 ?kr92
              case ky92 => (intro w hSw; (try dsimp only at hSw); go_split_ands; (try simp only [qA, qB, qC]); go_simp; (try with_reducible rfl))
              try simp only [Act.put, qA, qB, qC, qD, qE, qF]
              refine gT (i := 5) (v := ?kv93) rfl ?ky93 ?kr93
              case ky93 => (intro w hSw; (try dsimp only at hSw); go_split_ands; (try simp only [qA, qB, qC]); go_simp; (try with_reducible rfl))
              try simp only [Act.put, qA, qB, qC, qD, qE, qF]
              refine gT (i := 6) (v := ?kv94) rfl ?ky94 ?kr94
              case ky94 => (intro w hSw; (try dsimp only at hSw); go_split_ands; (try simp only [qA, qB, qC]); go_simp; (try with_reducible rfl))
              try simp only [Act.put, qA, qB, qC, qD, qE, qF]
              refine gT (i := 7) (v := ?kv95) rfl ?ky95 ?kr95
              case ky95 => (intro w hSw; (try dsimp only at hSw); go_split_ands; (try simp only [qA, qB, qC]); go_simp; (try with_reducible rfl))
              try simp only [Act.put, qA, qB, qC, qD, qE, qF]
              refine gT (i := 8) (v := ?kv96) rfl ?ky96 ?kr96
              case ky96 => (intro w hSw; (try dsimp only at hSw); go_split_ands; (try simp only [qA, qB, qC]); go_simp; (try with_reducible rfl))
              try simp only [Act.put, qA, qB, qC, qD, qE, qF]
              refine gT (i := 9) (v := ?kv97) rfl ?ky97 ?kr97
              case ky97 => (intro w hSw; (try dsimp only at hSw); go_split_ands; (try simp only [qA, qB, qC]); go_simp; (try with_reducible rfl))
              try simp only [Act.put, qA, qB, qC, qD, qE, qF]
              refine gT (i := 10) (v := ?kv98) rfl ?ky98 ?kr98
              case ky98 => (intro w hSw; (try dsimp only at hSw); go_split_ands; (try simp only [qA, qB, qC]); go_simp; (try with_reducible rfl))
              try simp only [Act.put, qA, qB, qC, qD, qE, qF]
              refine gU (i := 11) rfl ?kr99
              try simp only [Act.put, qA, qB, qC, qD, qE, qF]
              refine gU (i := 12) rfl ?kr100
              try simp only [Act.put, qA, qB, qC, qD, qE, qF]
              refine gU (i := 13) rfl ?kr101
              try simp only [Act.put, qA, qB, qC, qD, qE, qF]
              refine gU (i := 14) rfl ?kr102
              try simp only [Act.put, qA, qB, qC, qD, qE, qF]
              refine gU (i := 15) rfl ?kr103
              try simp only [Act.put, qA, qB, qC, qD, qE, qF]
              refine gU (i := 16) rfl ?kr104
              try simp only [Act.put, qA, qB, qC, qD, qE, qF]
              refine gU (i := 17) rfl ?kr105
              try simp only [Act.put, qA, qB, qC, qD, qE, qF]
              refine gU (i := 18) rfl ?kr106
              try simp only [Act.put, qA, qB, qC, qD, qE, qF]
              refine gU (i := 19) rfl ?kr107
              try simp only [Act.put, qA, qB, qC, qD, qE, qF]
              refine gT (i := 20) (v := ?kv108) rfl ?ky108 ?kr108
              case ky108 => (intro w hSw; (try dsimp only at hSw); go_split_ands; (try simp only [qA, qB, qC]); go_simp; (try with_reducible rfl))
              try simp only [Act.put, qA, qB, qC, qD, qE, qF]
              refine gT (i := 21) (v := ?kv109) rfl ?ky109 ?kr109
              case ky109 => (intro w hSw; (try dsimp only at hSw); go_split_ands; (try simp only [qA, qB, qC]); go_simp; (try with_reducible rfl))
              try simp only [Act.put, qA, qB, qC, qD, qE, qF]
              refine wpAnyH_done (by kernel_rfl) ?_ _
              go_wp2_with fail
              go_roundw
              case rel => exact ⟨b + 1, by have := H12.out.2.1; omega, by go_num, by rw [Hcs.out.1]; rfl, grow_trans H12.out.1 (grow_trans Hcs.out.2 hHeld.2.2)⟩
              case measure => have := H12.out.2.1; simp [Go.RowKit.intOf]; omega
         · obtain rfl : b = 5 := by omega
           have HLi := Lib.hid (h12.listC HA.out.1)
           have H12 := Lib.hid hbb
           clear h12 hbb hb hb5
           go_wp2_with (go_at_call 47; refine HLi.out.mono ?_; rintro e w14 ⟨⟨u, cu, rfl⟩, b14⟩)
           go_roundw
           case rel => exact ⟨a + 1, by have := HA.out.1; omega, by go_num, grow_trans H12.out b14⟩
           case measure => have := HA.out.1; simp [Go.RowKit.intOf]; omega
      · obtain rfl : a = 3 := by omega
        have HA := Lib.hid hba
        clear ha ha3 hba
        go_wp2_with fail
        go_roundw
        case rel => exact ⟨i + 1, Sd', st', c', th', by omega, by go_num, (H11.out.1.below HA.out).ov, by have := H6.out.2.1; have := H11.out.2; omega⟩
        case measure => simp [Go.RowKit.intOf]; omega
  · have hii : ¬ ((i : Int) < (len1 : Int)) := by omega
    have Hov := Lib.hid hov
    clear hov
    go_wp2_with fail
    go_ret
    exact ⟨rfl, Hov.out.bel⟩
end Go.Proofs.YtbbnejehglonjaaGreat
