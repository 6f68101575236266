/- DERIVED. Contracts and laws that the proofs of this seat share, part 10 of 36: RcC. -/
import Derived.Test.YtbbnejehglonjaaGreatMo00
import Derived.Test.YtbbnejehglonjaaGreatMo09
/- DERIVED. Contracts of rec.head, Put. -/
namespace Go.Proofs.YtbbnejehglonjaaGreat
open Go.RowKit
attribute [local irreducible] Calls
set_option maxRecDepth 100000

theorem lit2 {w : World} {g : Nat} {x0 x1 : Int} {c0 c1 : UInt8} (h : objAt w g = some (.cells #[.int .u8 x0, .int .u8 x1] 5 (0, 0))) (e0 : x0 = c0.toNat) (e1 : x1 = c1.toNat) {B : Nat} (hb : B ≤ g) : BRow w B (.slice (some ⟨g, 0, none⟩) 2 2) [c0, c1] := by
 subst e0 e1
 exact ⟨rfl, .inr ⟨g, 2, _, rfl, hb, h, Nat.le_refl _, by decide, rfl, rfl⟩⟩
theorem lit_rowB {w : World} {S : Nat → Prop} {g : Nat} {x : Value} {l : List UInt8} (h : objAt w g = some (.cells #[x] 22 (0, 0))) (hx : ByteAt w S x l) (hS : S g) : RowB w S (.slice (some ⟨g, 0, none⟩) 1 1) [l] :=
 ⟨⟨[[x]], ⟨rfl, .inr ⟨g, 1, _, rfl, Nat.zero_le _, h, Nat.le_refl _, by decide, rfl, rfl⟩⟩, rfl, fun c hc => by simp at hc; subst hc; rfl, fun i a c ha hc => by
  match i with
  | 0 => simp at ha hc; subst ha hc; exact ⟨x, rfl, hx⟩
  | i + 1 => simp at ha⟩, fun q hq => by obtain rfl : g = q := Option.some.inj hq; exact hS⟩
theorem RowB.below {w w' : World} {S : Nat → Prop} {v : Value} {ls : List (List UInt8)} (h : RowB w S v ls) (hb : Below w.heap.size w w') : RowB w' S v ls :=
 RowB.keeps h (Keeps.of_below_size hb) (fun g hg e => by have := RowG.lt h hg; omega) (fun g q _ hq e => by have := block_lt hq; omega) (fun _ h _ => h)
theorem BRow.ownObjR {w : World} {B : Nat} {v : Value} {l : List UInt8} (h : BRow w B v l) {g : Nat} (hg : v.ownBlock = some g) : ∃ q, objAt w g = some (.cells q 5 (0, 0)) := by
 rcases h.2 with ⟨h', _⟩ | ⟨g', cap', cur, h', hb, hg', _⟩
 · rw [h'] at hg; cases hg
 · rw [h'] at hg; obtain rfl := Option.some.inj hg; exact ⟨cur, hg'⟩
theorem nat_of {a : Int} (h : 0 ≤ a) : ∃ n : Nat, a = (n : Int) := ⟨a.toNat, by omega⟩

set_option maxHeartbeats 4000000 in
theorem head_any (lb : UInt8) (epoch seq : Nat) {w : World} {S : Nat → Prop} {v : Value} {ws : List Wr} (h : WRow w S v ws) (hm : mayRec ws = true) (he : epoch < 4294967296) (hs : seq < 4294967296) :
 Calls Tryz.prog 176 #[.int .u8 (lb.toNat : Int), .int .u32 epoch, .int .u32 seq, v] w fun e w' => ∃ v', e = .returned v' ∧ BRow w' w.heap.size v' (headB lb epoch seq ws) ∧ Below w.heap.size w w' := by
 obtain ⟨hok, hl1, hl2⟩ := mayRec_iff.1 hm
 rw [wrsOk_iff] at hok
 obtain ⟨g, cap, rfl⟩ := RowG.form h hl1
 have ho1 : objAt (w.alloc (.cells #[.int .u8 72, .int .u8 (lb.toNat : Int)] 5)) w.heap.size = some (.cells #[.int .u8 72, .int .u8 (lb.toNat : Int)] 5 (0, 0)) := by rw [objAt_alloc, if_pos rfl]
 have hb1 := lit2 (c0 := 72) (c1 := lb) ho1 rfl rfl (B := w.heap.size) (Nat.le_refl _)
 have hB1 : Below w.heap.size w (w.alloc (.cells #[.int .u8 72, .int .u8 (lb.toNat : Int)] 5)) := grow_alloc (Below.refl _ _) _
 have HW := Lib.hid (And.intro h (And.intro hok (And.intro hb1 hB1)))
 have U0 := Lib.hid (show (ws.length : Int) = ((UInt8.ofNat ws.length).toNat : Int) by rw [UInt8.toNat_ofNat']; omega)
 clear h hok hb1 hB1 ho1 hm
 go_enter Tryz.func176, Tryz.ntmps176
 go_upto_region 2 with (first | (go_at_call 201; first | (refine (number_any _ _ epoch 4 w.heap.size _ HW.out.2.2.2.size HW.out.2.2.1 he (by decide) (by simp)).mono ?_; rintro e w2 ⟨v2, rfl, hr2, b2⟩) | (refine (number_any _ _ seq 4 w.heap.size _ (Nat.le_trans HW.out.2.2.2.size b2.size) hr2 hs (by decide) (by simp [high_length])).mono ?_; rintro e w3 ⟨v3, rfl, hr3, b3⟩)))
 go_upto_region 3 with (at_builtin; refine list_appB rfl _ _ rfl rfl (BRow.alloc hr3 _) rfl (lit_row w3 w.heap.size _ (UInt8.ofNat ws.length) U0.out (Nat.le_trans (Nat.le_trans HW.out.2.2.2.size b2.size) b3.size)) (by simp) 11 (by simp [high_length]) (by decide) (by rw [size_alloc]; exact Nat.le_succ_of_le (Nat.le_trans (Nat.le_trans HW.out.2.2.2.size b2.size) b3.size)) ?_; intro g4 cap4 w4 hr4 _ b4)
 have hB4 := ((HW.out.2.2.2.trans b2).trans b3).trans ((grow_alloc (Below.refl w3.heap.size w3) _).mono (Nat.le_trans (Nat.le_trans HW.out.2.2.2.size b2.size) b3.size) |>.trans b4)
 have H4 := Lib.hid (And.intro hr4 hB4)
 clear hr2 hr3 hr4 b2 b3 b4 hB4
 go_wp2_with fail
 go_loopw [9, 26] (fun s9 i wr => ∃ (k : Nat) (V : Value), k ≤ ws.length ∧ i = .int .i64 k ∧ V = s9 ∧ BRow wr w.heap.size V (headL lb epoch seq ws.length ++ placesB (ws.take k)) ∧ Below w.heap.size w wr) (fun _ i _ => ws.length - (Go.RowKit.intOf i).toNat)
 case atStart => exact ⟨0, _, Nat.zero_le _, rfl, rfl, by rw [List.take_zero]; show BRow _ _ _ (_ ++ []); rw [List.append_nil]; exact H4.out.1, H4.out.2⟩
 case round =>
  obtain ⟨k, V, hk, rfl, rfl, hV, hbel⟩ := hrel
  by_cases hlt : k < ws.length
  · obtain ⟨x, hx⟩ : ∃ x, ws[k]? = some x := ⟨_, List.getElem?_eq_getElem hlt⟩
    have hWr := WRow.below HW.out.1 hbel
    have hhas := WRow.has hWr hx
    have hrow := WRow.row hWr hx
    have hglt : g < wr.heap.size := RowG.lt hWr (g := g) rfl
    have hlti : (k : Int) < (ws.length : Int) := by omega
    have hok := (HW.out.2.1 k x hx).1
    rw [wrOk_iff] at hok
    obtain ⟨an, han⟩ := nat_of hok.2.2.1
    obtain ⟨kn, hkn⟩ := nat_of hok.1
    have hb1 : an < 200 := by omega
    have hb2 : kn ≤ 7 := by omega
    have HX := Lib.hid (And.intro hV (And.intro hbel (And.intro hx (And.intro han hkn))))
    clear hV hbel hWr hx hok
    go_upto_region 6 with fail
    have hxa := WrAt.new wr x
    have hB2 : Below wr.heap.size wr (wr.alloc (.cells x.cells 52)) := grow_alloc (Below.refl _ _) _
    obtain ⟨G, hG⟩ : ∃ G, G = wr.heap.size := ⟨_, rfl⟩
    obtain ⟨w2, hw2⟩ : ∃ w2, w2 = wr.alloc (.cells x.cells 52) := ⟨_, rfl⟩
    rw [← hG, ← hw2] at hxa ⊢
    rw [← hw2] at hB2
    have k0 := hxa.c0
    have k1 := hxa.c1
    rw [han] at k0
    rw [hkn] at k1
    have hle2 : w.heap.size ≤ w2.heap.size := Nat.le_trans HX.out.2.1.size hB2.size
    have hnG : ∀ q, But V q → q ≠ G := fun q hq e => by obtain ⟨c, hc⟩ := BRow.ownObjR (HX.out.1.below hB2) hq; exact ne_of_obj hc hxa (by decide) e
    have H2 := Lib.hid (And.intro hB2 (And.intro (HX.out.1.below hB2) (And.intro hxa hnG)))
    have hlen : (headL lb epoch seq ws.length ++ placesB (ws.take k)).length ≤ 60 := by rw [List.length_append, headL_length, placesB_length, List.length_take]; omega
    have hS : ∀ w', Below w.heap.size w2 w' → G < w.heap.size → True := fun _ _ _ => trivial
    have hGw : w.heap.size ≤ G := by rw [hG]; exact HX.out.2.1.size
    clear hG hw2 hxa hB2 hhas hrow hglt han hkn hS hnG
    have u1 : IntKind.u32.wrap (an : Int) = an := IntWalk.u32_in _ (by omega)
    have u2 : IntKind.u32.wrap (kn : Int) = kn := IntWalk.u32_in _ (by omega)
    refine wp_region_F [9] (S := fun w' => w'.cell? ⟨G, 0, none⟩ = some (.int .i64 (an : Int)) ∧ w'.cell? ⟨G, 1, none⟩ = some (.int .i64 (kn : Int)) ∧ True) (by kernel_rfl) (⟨k0, k1, trivial⟩) (fun hHeld => ?_)
    show wpAnyF _ _ _ _ _ _ 11 #[false, false, false, false, false, false, false, false, false, false, false] _ _
    refine gF [0, 4, 9, 10] (i := 0) (v := ?kv1) rfl ?ky1 ?kr1
    case ky1 => (intro w hSw; (try dsimp only at hSw); go_split_ands; (try simp only [qA, qB]); go_simp; (try with_reducible rfl))
    try simp only [Act.put, qA, qB, qD, qE, qF]
    refine gF [1, 2, 3, 4, 9, 10] (i := 1) (v := ?kv2) rfl ?ky2 ?kr2
    case ky2 => (intro w hSw; (try dsimp only at hSw); go_split_ands; (try simp only [qA, qB, qC]); go_simp; (try with_reducible rfl))
    try simp only [Act.put, qA, qB, qC, qD, qE, qF]
    refine gF [2, 3, 4, 9, 10] (i := 2) (v := ?kv3) rfl ?ky3 ?kr3
    case ky3 => (intro w hSw; (try dsimp only at hSw); go_split_ands; (try simp only [qA, qB, qC]); go_simp; (try with_reducible rfl))
    try simp only [Act.put, qA, qB, qC, qD, qE, qF]
    refine gF [3, 4, 9, 10] (i := 3) (v := ?kv4) rfl ?ky4 ?kr4
    case ky4 => (intro w hSw; (try dsimp only at hSw); go_split_ands; (try simp only [qA, qB, qC]); go_simp; (try with_reducible rfl))
    try simp only [Act.put, qA, qB, qC, qD, qE, qF]
    refine gF [5, 6, 7, 8, 9, 10] (i := 5) (v := ?kv5) rfl ?ky5 ?kr5
    case ky5 => (intro w hSw; (try dsimp only at hSw); go_split_ands; (try simp only [qA, qB, qC]); go_simp; (try with_reducible rfl))
    try simp only [Act.put, qA, qB, qC, qD, qE, qF]
    refine gF [6, 7, 8, 9, 10] (i := 6) (v := ?kv6) rfl ?ky6 ?kr6
    case ky6 => (intro w hSw; (try dsimp only at hSw); go_split_ands; (try simp only [qA, qB, qC]); go_simp; (try with_reducible rfl))
    try simp only [Act.put, qA, qB, qC, qD, qE, qF]
    refine gF [7, 8, 9, 10] (i := 7) (v := ?kv7) rfl ?ky7 ?kr7
    case ky7 => (intro w hSw; (try dsimp only at hSw); go_split_ands; (try simp only [qA, qB, qC]); go_simp; (try with_reducible rfl))
    try simp only [Act.put, qA, qB, qC, qD, qE, qF]
    refine gF [8, 9, 10] (i := 8) (v := ?kv8) rfl ?ky8 ?kr8
    case ky8 => (intro w hSw; (try dsimp only at hSw); go_split_ands; (try simp only [qA, qB, qC]); go_simp; (try with_reducible rfl))
    try simp only [Act.put, qA, qB, qC, qD, qE, qF]
    refine wpAnyF_ready (rs := [4]) (by kernel_rfl) (by simp) ?_
    refine (AllReadyF.cons rfl (fun K hK => ?_) AllReadyF.nil)
    try simp only [qA, qB, qC]
    go_simp
    go_at_call 201; refine (number_own _ _ an 2 w.heap.size w2.drew hle2 (BRow.drew H2.out.2.1) (by omega) (by decide) (by omega)).mono ?_; rintro e w5 ⟨v5, rfl, hr5, b5, k5, _⟩; have hle5 := Nat.le_trans hle2 b5.size; have hx5 : WrAt w5 G x := k5.obj (show objAt w2.drew G = _ from H2.out.2.2.1) (fun e => H2.out.2.2.2 _ e rfl); have d0 := hx5.c0; have d1 := hx5.c1; rw [HX.out.2.2.2.1] at d0; rw [HX.out.2.2.2.2] at d1
    refine hK.out _ _ (by exact ⟨d0, d1, trivial⟩) (fun hHeldn => ?_)
    clear hHeld hK K
    have hHeld := hHeldn
    clear hHeldn
    try simp only [qD, qE, qF]
    refine wpAnyF_ready (rs := [9]) (by kernel_rfl) (by simp) ?_
    refine (AllReadyF.last rfl (by kernel_rfl) (fun K hK => ?_) AllReadyF.nil)
    try simp only [qA, qB, qC]
    go_simp
    go_at_call 201; refine (number_any _ _ kn 1 w.heap.size _ hle5 hr5 (by omega) (by decide) (by rw [List.length_append, high_length]; omega)).mono ?_; rintro e w6 ⟨v6, rfl, hr6, b6⟩
    refine hK.out _ _ (trivial) (fun hHeldn => ?_)
    clear hHeld hK K
    have hHeld := hHeldn
    clear hHeldn
    try simp only [qD, qE, qF]
    refine gP (i := 10) (v := ?kv11) rfl ?ky11 ?kr11
    case ky11 => (intro w hSw; clear hSw; (try simp only [qA, qB, qC]); go_simp; (try with_reducible rfl))
    try simp only [Act.put, qA, qB, qC, qD, qE, qF]
    refine wpAnyF_done (by kernel_rfl) ?_ _
    go_wp2_with fail
    go_roundw
    case rel =>
     refine ⟨k + 1, _, by omega, by go_num, rfl, ?_, ?_⟩
     · rw [placesB_succ HX.out.2.2.1]
       unfold placeB
       rw [HX.out.2.2.2.1, HX.out.2.2.2.2, Int.toNat_natCast, Int.toNat_natCast, ← List.append_assoc, ← List.append_assoc]
       exact hr6
     · exact ((HX.out.2.1.trans (H2.out.1.mono HX.out.2.1.size)).trans ((Below.refl w.heap.size w2).drew)).trans (b5.trans b6)
    case measure => simp [Go.RowKit.intOf]; omega
  · obtain rfl : k = ws.length := by omega
    have HX := Lib.hid (And.intro hV hbel)
    have hlen : (headL lb epoch seq ws.length ++ placesB (ws.take ws.length)).length ≤ 60 ∧ 0 < (headL lb epoch seq ws.length ++ placesB (ws.take ws.length)).length := by rw [List.length_append, headL_length, placesB_length, List.length_take]; omega
    have Hl := Lib.hid hlen
    have hn : ¬ ((ws.length : Int) < (ws.length : Int)) := by omega
    clear hV hbel hlen
    go_wp2_with (go_at_call 200; refine (Sealed_any _ _ w.heap.size _ HX.out.2.size HX.out.1 Hl.out.1 Hl.out.2).mono ?_; rintro e w5 ⟨v5, rfl, hr5, b5⟩)
    go_ret
    rw [List.take_length] at hr5
    exact ⟨v5, rfl, hr5, HX.out.2.trans b5⟩

set_option maxHeartbeats 4000000 in
theorem recPut_any (lb : UInt8) (epoch seq : Nat) {w : World} {S : Nat → Prop} {v : Value} {ws : List Wr} (h : WRow w S v ws) (hl : ws.length ≤ 1000) (he : epoch < 4294967296) (hs : seq < 4294967296) :
 Calls Tryz.prog 117 #[.int .u8 (lb.toNat : Int), .int .u32 epoch, .int .u32 seq, v] w fun e w' => ∃ v', e = .returned (.tuple #[v', .bool (mayRec ws)]) ∧ (mayRec ws = true → RowB w' (fun q => w.heap.size ≤ q) v' (putRec lb epoch seq ws)) ∧ Below w.heap.size w w' := by
 have Hm := Lib.hid (fun w' (hb : Below w.heap.size w w') => may_any (WRow.below h hb) hl)
 have Hh := Lib.hid (fun hm w' (hb : Below w.heap.size w w') => head_any lb epoch seq (WRow.below h hb) hm he hs)
 have HW := Lib.hid h
 obtain ⟨R, hR⟩ : ∃ R, R = mayRec ws := ⟨_, rfl⟩
 have HR := Lib.hid hR
 rw [← hR] at Hm ⊢
 clear h hR
 go_enter Tryz.func117, Tryz.ntmps117
 cases R with
 | false =>
   go_wp2_with (go_at_call 175; refine (Hm.out _ (Below.refl _ _)).mono ?_; rintro e w1 ⟨rfl, b1⟩)
   refine bodyPost_ret (results_two rfl (resOne_tmp _ _ _) (resOne_tmp _ _ _)) rfl ?_
   exact ⟨_, rfl, (fun h => by cases h), b1⟩
 | true =>
   have hm := HR.out.symm
   obtain ⟨hok, hl1, hl2⟩ := mayRec_iff.1 hm
   have hhl := headB_length (lb := lb) (epoch := epoch) (seq := seq) hm
   obtain ⟨g, cap, rfl⟩ := RowG.form HW.out hl1
   have Hh2 := Lib.hid (Hh.out hm)
   have Hhl := Lib.hid hhl
   clear hok hm Hh hhl
   go_wp2_with (first | (go_at_call 175; refine (Hm.out _ (Below.refl _ _)).mono ?_; rintro e w1 ⟨rfl, b1⟩) | (go_at_call 176; refine (Hh2.out _ b1).mono ?_; rintro e w2 ⟨v2, rfl, hr2, b2⟩; obtain ⟨g2, cap2, rfl, hg2, _⟩ := hr2.form (by rw [Hhl.out]; decide); rw [Hhl.out] at hr2 ⊢))
   have hB2 : Below w.heap.size w w2 := grow_trans b1 b2
   have hgw : w.heap.size ≤ g2 := Nat.le_trans b1.size hg2
   have hB3 : Below w2.heap.size w2 (w2.alloc (.cells #[.slice (some ⟨g2, 0, none⟩) 64 cap2] 22)) := grow_alloc (Below.refl _ _) _
   have hR3 := lit_rowB (S := fun q => w.heap.size ≤ q) (show objAt (w2.alloc (.cells #[.slice (some ⟨g2, 0, none⟩) 64 cap2] 22)) w2.heap.size = _ by rw [objAt_alloc, if_pos rfl]) (BRow.byteAt (hr2.below hB3) Hhl.out.symm hgw) hB2.size
   have H3 := Lib.hid (And.intro (grow_trans hB2 hB3) hR3)
   clear b1 b2 hr2 hg2 hB2 hgw hB3 hR3
   go_loopw [10, 24] (fun s10 i wr => ∃ (k : Nat) (V : Value), k ≤ ws.length ∧ i = .int .i64 k ∧ V = s10 ∧ RowB wr (fun q => w.heap.size ≤ q) V (headB lb epoch seq ws :: (ws.take k).map fun x => imageB epoch seq x.b) ∧ Below w.heap.size w wr) (fun _ i _ => ws.length - (Go.RowKit.intOf i).toNat)
   case atStart => exact ⟨0, _, Nat.zero_le _, rfl, rfl, H3.out.2, H3.out.1⟩
   case round =>
    obtain ⟨k, V, hk, rfl, rfl, hV, hbel⟩ := hrel
    by_cases hlt : k < ws.length
    · obtain ⟨x, hx⟩ : ∃ x, ws[k]? = some x := ⟨_, List.getElem?_eq_getElem hlt⟩
      have hWr := WRow.below HW.out hbel
      have hhas := WRow.has hWr hx
      have hrow := WRow.row hWr hx
      have hglt : g < wr.heap.size := RowG.lt hWr (g := g) rfl
      have hlti : (k : Int) < (ws.length : Int) := by omega
      have HX := Lib.hid (And.intro hV (And.intro hbel hx))
      have hB4 : Below wr.heap.size wr (wr.alloc (.cells x.cells 52)) := grow_alloc (Below.refl _ _) _
      have Hi := Lib.hid (image_any epoch seq x (wr.alloc (.cells x.cells 52)) he hs)
      have Hil := Lib.hid (imageB_length epoch seq x.b)
      have HB4 := Lib.hid hB4
      have hklen : (headB lb epoch seq ws :: (ws.take k).map fun x => imageB epoch seq x.b).length < 1000000 := by simp; omega
      clear hV hbel hWr hx hB4
      go_wp2_with (first | (go_at_call 177; refine Hi.out.mono ?_; rintro e w5 ⟨v5, rfl, hr5, b5⟩; obtain ⟨g5, cap5, rfl, hg5, _⟩ := hr5.form (by rw [Hil.out]; decide); rw [Hil.out] at hr5 ⊢; have hB5 := grow_trans HB4.out b5; have hR5 := (RowB.below HX.out.1 hB5); have hB6 : Below w5.heap.size w5 (w5.alloc (.cells #[.slice (some ⟨g5, 0, none⟩) 64 cap5] 22)) := grow_alloc (Below.refl _ _) _; have hR6 := RowB.below hR5 hB6; have hby := BRow.byteAt (S := fun q => w.heap.size ≤ q) (hr5.below hB6) Hil.out.symm (Nat.le_trans (Nat.le_trans HX.out.2.1.size HB4.out.size) hg5); have H6 := Lib.hid (And.intro hR6 (And.intro hby (And.intro hB5 hB6))); clear hR6 hby hR5 hr5 b5 hB5 hB6) | (at_builtin; refine list_appG elemBytesK (v := V) rfl _ _ rfl rfl H6.out.1 rfl (by rw [objAt_alloc, if_pos rfl]) rfl (by simp [Value.oneCell']) hklen (BEl (fun q => w.heap.size ≤ q)) (imageB epoch seq x.b) (fun w7 hk7 => ⟨fun a c h => BEl.own H6.out.1 (by decide) hk7 a c h, BEl.own H6.out.1 (by decide) hk7 _ _ ⟨_, rfl, H6.out.2.1⟩⟩) ?_; intro g7 cap7 w7 hv7 hk7 ho7 hl7))
      have hle : w.heap.size ≤ (w5.alloc (.cells #[.slice (some ⟨g5, 0, none⟩) 64 cap5] 22)).heap.size := Nat.le_trans HX.out.2.1.size (Nat.le_trans H6.out.2.2.1.size H6.out.2.2.2.size)
      have hfin : Below w.heap.size w w7 := (grow_trans HX.out.2.1 (grow_trans H6.out.2.2.1 H6.out.2.2.2)).trans (hk7.below hle (fun q e => H6.out.1.own q e))
      have hrow7 := RowG.mono (S2 := fun q => w.heap.size ≤ q) hv7 (fun q hq => hq.elim id (Nat.le_trans hle))
      go_roundw
      case rel =>
       refine ⟨k + 1, _, by omega, by go_num, rfl, ?_, hfin⟩
       obtain ⟨hk', hx'⟩ := List.getElem?_eq_some_iff.1 HX.out.2.2
       rw [show (headB lb epoch seq ws :: (ws.take k).map fun x => imageB epoch seq x.b).length = k + 1 by simp; omega] at hrow7
       rw [List.take_succ_eq_append_getElem hk', List.map_append, hx']
       exact hrow7
      case measure => simp [Go.RowKit.intOf]; omega
    · obtain rfl : k = ws.length := by omega
      have HX := Lib.hid (And.intro hV hbel)
      have hn : ¬ ((ws.length : Int) < (ws.length : Int)) := by omega
      clear hV hbel
      go_wp2_with fail
      refine bodyPost_ret (results_two rfl (resOne_tmp _ _ _) (resOne_tmp _ _ _)) rfl ?_
      have := HX.out.1
      rw [List.take_length] at this
      exact ⟨V, rfl, this, HX.out.2⟩
end Go.Proofs.YtbbnejehglonjaaGreat
