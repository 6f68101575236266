/- DERIVED. Contracts and laws that the proofs of this seat share, part 12 of 36: RcC LibFr RcD NoD. -/
import Derived.Test.YtbbnejehglonjaaGreatMh00
import Derived.Test.YtbbnejehglonjaaGreatMh10
import Derived.Test.YtbbnejehglonjaaGreatMh11
namespace Go.Proofs.YtbbnejehglonjaaGreat
set_option maxHeartbeats 8000000
set_option maxRecDepth 100000
set_option linter.unusedSimpArgs false
set_option linter.unusedVariables false
section
open Go.RowKit
attribute [local irreducible] Calls

theorem lit2 {w : World} {g : Nat} {x0 x1 : Int} {c0 c1 : UInt8} (h : objAt w g = some (.cells #[.int .u8 x0, .int .u8 x1] 5 (0, 0))) (e0 : x0 = c0.toNat) (e1 : x1 = c1.toNat) {B : Nat} (hb : B ≤ g) : BRow w B (.slice (some ⟨g, 0, none⟩) 2 2) [c0, c1] := by
 subst e0 e1
 exact ⟨rfl, .inr ⟨g, 2, _, rfl, hb, h, Nat.le_refl _, by decide, rfl, rfl⟩⟩
theorem lit_rowB {w : World} {S : Nat → Prop} {g : Nat} {x : Value} {l : List UInt8} (h : objAt w g = some (.cells #[x] 22 (0, 0))) (hx : ByteAt w S x l) (hS : S g) : RowB w S (.slice (some ⟨g, 0, none⟩) 1 1) [l] :=
 ⟨⟨[[x]], ⟨rfl, .inr ⟨g, 1, _, rfl, Nat.zero_le _, h, Nat.le_refl _, by decide, rfl, rfl⟩⟩, rfl, fun c hc => by simp at hc; subst hc; rfl, fun i a c ha hc => by
  match i with
  | 0 => simp at ha hc; subst ha hc; exact ⟨x, rfl, hx⟩
  | i + 1 => simp at ha⟩, fun q hq => by obtain rfl : g = q := Option.some.inj hq; exact hS⟩
theorem RowB.below {w w' : World} {S : Nat → Prop} {v : Value} {ls : List (List UInt8)} (h : RowB w S v ls) (hb : Below w.heap.size w w') : RowB w' S v ls :=
 RowB.keeps h (Keeps.of_below_size hb) (fun g hg e => by have := RowG.lt h hg; omega) (fun g q _ hq e => by have := block_lt hq; omega) (fun _ h _ => h)
theorem BRow.ownObjR {w : World} {B : Nat} {v : Value} {l : List UInt8} (h : BRow w B v l) {g : Nat} (hg : v.ownBlock = some g) : ∃ q, objAt w g = some (.cells q 5 (0, 0)) := by
 rcases h.2 with ⟨h', _⟩ | ⟨g', cap', cur, h', hb, hg', _⟩
 · rw [h'] at hg; cases hg
 · rw [h'] at hg; obtain rfl := Option.some.inj hg; exact ⟨cur, hg'⟩
theorem nat_of {a : Int} (h : 0 ≤ a) : ∃ n : Nat, a = (n : Int) := ⟨a.toNat, by omega⟩

theorem head_any (lb : UInt8) (epoch seq : Nat) {w : World} {S : Nat → Prop} {v : Value} {ws : List Wr} (h : WRow w S v ws) (hm : mayRec ws = true) (he : epoch < 4294967296) (hs : seq < 4294967296) :
 Calls Tryz.prog 176 #[.int .u8 (lb.toNat : Int), .int .u32 epoch, .int .u32 seq, v] w fun e w' => ∃ v', e = .returned v' ∧ BRow w' w.heap.size v' (headB lb epoch seq ws) ∧ Below w.heap.size w w' := by
 obtain ⟨hok, hl1, hl2⟩ := mayRec_iff.1 hm
 rw [wrsOk_iff] at hok
 obtain ⟨g, cap, rfl⟩ := RowG.form h hl1
 have ho1 : objAt (w.alloc (.cells #[.int .u8 72, .int .u8 (lb.toNat : Int)] 5)) w.heap.size = some (.cells #[.int .u8 72, .int .u8 (lb.toNat : Int)] 5 (0, 0)) := by rw [objAt_alloc, if_pos rfl]
 have hb1 := lit2 (c0 := 72) (c1 := lb) ho1 rfl rfl (B := w.heap.size) (Nat.le_refl _)
 have hB1 : Below w.heap.size w (w.alloc (.cells #[.int .u8 72, .int .u8 (lb.toNat : Int)] 5)) := grow_alloc (Below.refl _ _) _
 have HW := Lib.hid (And.intro h (And.intro hok (And.intro hb1 hB1)))
 have U0 := Lib.hid (show (ws.length : Int) = ((UInt8.ofNat ws.length).toNat : Int) by rw [UInt8.toNat_ofNat']; omega)
 clear h hok hb1 hB1 ho1 hm
 go_enter Tryz.func176, Tryz.ntmps176
 go_upto_region 2 with (first | (go_at_call 201; first | (refine (number_any _ _ epoch 4 w.heap.size _ HW.out.2.2.2.size HW.out.2.2.1 he (by decide) (by simp)).mono ?_; rintro e w2 ⟨v2, rfl, hr2, b2⟩) | (refine (number_any _ _ seq 4 w.heap.size _ (Nat.le_trans HW.out.2.2.2.size b2.size) hr2 hs (by decide) (by simp [high_length])).mono ?_; rintro e w3 ⟨v3, rfl, hr3, b3⟩)))
 go_upto_region 3 with (at_builtin; refine list_appB rfl _ _ rfl rfl (BRow.alloc hr3 _) rfl (lit_row w3 w.heap.size _ (UInt8.ofNat ws.length) U0.out (Nat.le_trans (Nat.le_trans HW.out.2.2.2.size b2.size) b3.size)) (by simp) 11 (by simp [high_length]) (by decide) (by rw [size_alloc]; exact Nat.le_succ_of_le (Nat.le_trans (Nat.le_trans HW.out.2.2.2.size b2.size) b3.size)) ?_; intro g4 cap4 w4 hr4 _ b4)
 have hB4 := ((HW.out.2.2.2.trans b2).trans b3).trans ((grow_alloc (Below.refl w3.heap.size w3) _).mono (Nat.le_trans (Nat.le_trans HW.out.2.2.2.size b2.size) b3.size) |>.trans b4)
 have H4 := Lib.hid (And.intro hr4 hB4)
 clear hr2 hr3 hr4 b2 b3 b4 hB4
 go_wp2_with fail
 go_loopw [9, 26] (fun s9 i wr => ∃ (k : Nat) (V : Value), k ≤ ws.length ∧ i = .int .i64 k ∧ V = s9 ∧ BRow wr w.heap.size V (headL lb epoch seq ws.length ++ placesB (ws.take k)) ∧ Below w.heap.size w wr) (fun _ i _ => ws.length - (Go.RowKit.intOf i).toNat)
 case atStart => exact ⟨0, _, Nat.zero_le _, rfl, rfl, by rw [List.take_zero]; show BRow _ _ _ (_ ++ []); rw [List.append_nil]; exact H4.out.1, H4.out.2⟩
 case round =>
  obtain ⟨k, V, hk, rfl, rfl, hV, hbel⟩ := hrel
  by_cases hlt : k < ws.length
  · obtain ⟨x, hx⟩ : ∃ x, ws[k]? = some x := ⟨_, List.getElem?_eq_getElem hlt⟩
    have hWr := WRow.below HW.out.1 hbel
    have hhas := WRow.has hWr hx
    have hrow := WRow.row hWr hx
    have hglt : g < wr.heap.size := RowG.lt hWr (g := g) rfl
    have hlti : (k : Int) < (ws.length : Int) := by omega
    have hok := (HW.out.2.1 k x hx).1
    rw [wrOk_iff] at hok
    obtain ⟨an, han⟩ := nat_of hok.2.2.1
    obtain ⟨kn, hkn⟩ := nat_of hok.1
    have hb1 : an < 200 := by omega
    have hb2 : kn ≤ 7 := by omega
    have HX := Lib.hid (And.intro hV (And.intro hbel (And.intro hx (And.intro han hkn))))
    clear hV hbel hWr hx hok
    go_upto_region 6 with fail
    have hxa := WrAt.new wr x
    have hB2 : Below wr.heap.size wr (wr.alloc (.cells x.cells 52)) := grow_alloc (Below.refl _ _) _
    obtain ⟨G, hG⟩ : ∃ G, G = wr.heap.size := ⟨_, rfl⟩
    obtain ⟨w2, hw2⟩ : ∃ w2, w2 = wr.alloc (.cells x.cells 52) := ⟨_, rfl⟩
    rw [← hG, ← hw2] at hxa ⊢
    rw [← hw2] at hB2
    have k0 := hxa.c0
    have k1 := hxa.c1
    rw [han] at k0
    rw [hkn] at k1
    have hle2 : w.heap.size ≤ w2.heap.size := Nat.le_trans HX.out.2.1.size hB2.size
    have hnG : ∀ q, But V q → q ≠ G := fun q hq e => by obtain ⟨c, hc⟩ := BRow.ownObjR (HX.out.1.below hB2) hq; exact ne_of_obj hc hxa (by decide) e
    have H2 := Lib.hid (And.intro hB2 (And.intro (HX.out.1.below hB2) (And.intro hxa hnG)))
    have hlen : (headL lb epoch seq ws.length ++ placesB (ws.take k)).length ≤ 60 := by rw [List.length_append, headL_length, placesB_length, List.length_take]; omega
    have hS : ∀ w', Below w.heap.size w2 w' → G < w.heap.size → True := fun _ _ _ => trivial
    have hGw : w.heap.size ≤ G := by rw [hG]; exact HX.out.2.1.size
    clear hG hw2 hxa hB2 hhas hrow hglt han hkn hS hnG
    have u1 : IntKind.u32.wrap (an : Int) = an := IntWalk.u32_in _ (by omega)
    have u2 : IntKind.u32.wrap (kn : Int) = kn := IntWalk.u32_in _ (by omega)
    refine wp_region_F [9] (S := fun w' => w'.cell? ⟨G, 0, none⟩ = some (.int .i64 (an : Int)) ∧ w'.cell? ⟨G, 1, none⟩ = some (.int .i64 (kn : Int)) ∧ True) (by kernel_rfl) (⟨k0, k1, trivial⟩) (fun hHeld => ?_)
    show wpAnyF _ _ _ _ _ _ 11 #[false, false, false, false, false, false, false, false, false, false, false] _ _
    refine gF 0 [0, 4, 9, 10] ?_; try simp only [Act.put, qs]
    refine gF 1 [1, 2, 3, 4, 9, 10] ?_; try simp only [Act.put, qs]
    refine gF 2 [2, 3, 4, 9, 10] ?_; try simp only [Act.put, qs]
    refine gF 3 [3, 4, 9, 10] ?_; try simp only [Act.put, qs]
    refine gF 5 [5, 6, 7, 8, 9, 10] ?_; try simp only [Act.put, qs]
    refine gF 6 [6, 7, 8, 9, 10] ?_; try simp only [Act.put, qs]
    refine gF 7 [7, 8, 9, 10] ?_; try simp only [Act.put, qs]
    refine gF 8 [8, 9, 10] ?_; try simp only [Act.put, qs]
    refine gW 4 fun K hK => ?_
    try simp only [qs]
    go_simp
    go_at_call 201; refine (number_own _ _ an 2 w.heap.size w2.drew hle2 (BRow.drew H2.out.2.1) (by omega) (by decide) (by omega)).mono ?_; rintro e w5 ⟨v5, rfl, hr5, b5, k5, _⟩; have hle5 := Nat.le_trans hle2 b5.size; have hx5 : WrAt w5 G x := k5.obj (show objAt w2.drew G = _ from H2.out.2.2.1) (fun e => H2.out.2.2.2 _ e rfl); have d0 := hx5.c0; have d1 := hx5.c1; rw [HX.out.2.2.2.1] at d0; rw [HX.out.2.2.2.2] at d1
    refine hK.out _ _ (by exact ⟨d0, d1, trivial⟩) (fun hN => ?_); replace hHeld := hN; clear hK K hN
    try simp only [qs]
    refine gV 9 fun K hK => ?_
    try simp only [qs]
    go_simp
    go_at_call 201; refine (number_any _ _ kn 1 w.heap.size _ hle5 hr5 (by omega) (by decide) (by rw [List.length_append, high_length]; omega)).mono ?_; rintro e w6 ⟨v6, rfl, hr6, b6⟩
    refine hK.out _ _ (trivial) (fun hN => ?_); replace hHeld := hN; clear hK K hN
    try simp only [qs]
    refine gP 10 ?_; try simp only [Act.put, qs]
    refine wpAnyF_done (by kernel_rfl) ?_ _
    go_wp2_with fail
    go_roundw
    case rel =>
     refine ⟨k + 1, _, by omega, by go_num, rfl, ?_, ?_⟩
     · rw [placesB_succ HX.out.2.2.1]
       unfold placeB
       rw [HX.out.2.2.2.1, HX.out.2.2.2.2, Int.toNat_natCast, Int.toNat_natCast, ← List.append_assoc, ← List.append_assoc]
       exact hr6
     · exact ((HX.out.2.1.trans (H2.out.1.mono HX.out.2.1.size)).trans ((Below.refl w.heap.size w2).drew)).trans (b5.trans b6)
    case measure => simp [Go.RowKit.intOf]; omega
  · obtain rfl : k = ws.length := by omega
    have HX := Lib.hid (And.intro hV hbel)
    have hlen : (headL lb epoch seq ws.length ++ placesB (ws.take ws.length)).length ≤ 60 ∧ 0 < (headL lb epoch seq ws.length ++ placesB (ws.take ws.length)).length := by rw [List.length_append, headL_length, placesB_length, List.length_take]; omega
    have Hl := Lib.hid hlen
    have hn : ¬ ((ws.length : Int) < (ws.length : Int)) := by omega
    clear hV hbel hlen
    go_wp2_with (go_at_call 200; refine (Sealed_any _ _ w.heap.size _ HX.out.2.size HX.out.1 Hl.out.1 Hl.out.2).mono ?_; rintro e w5 ⟨v5, rfl, hr5, b5⟩)
    go_ret
    rw [List.take_length] at hr5
    exact ⟨v5, rfl, hr5, HX.out.2.trans b5⟩

theorem recPut_any (lb : UInt8) (epoch seq : Nat) {w : World} {S : Nat → Prop} {v : Value} {ws : List Wr} (h : WRow w S v ws) (hl : ws.length ≤ 1000) (he : epoch < 4294967296) (hs : seq < 4294967296) :
 Calls Tryz.prog 117 #[.int .u8 (lb.toNat : Int), .int .u32 epoch, .int .u32 seq, v] w fun e w' => ∃ v', e = .returned (.tuple #[v', .bool (mayRec ws)]) ∧ (mayRec ws = true → RowB w' (fun q => w.heap.size ≤ q) v' (putRec lb epoch seq ws)) ∧ Below w.heap.size w w' := by
 have Hm := Lib.hid (fun w' (hb : Below w.heap.size w w') => may_any (WRow.below h hb) hl)
 have Hh := Lib.hid (fun hm w' (hb : Below w.heap.size w w') => head_any lb epoch seq (WRow.below h hb) hm he hs)
 have HW := Lib.hid h
 obtain ⟨R, hR⟩ : ∃ R, R = mayRec ws := ⟨_, rfl⟩
 have HR := Lib.hid hR
 rw [← hR] at Hm ⊢
 clear h hR
 go_enter Tryz.func117, Tryz.ntmps117
 cases R with
 | false =>
   go_wp2_with (go_at_call 175; refine (Hm.out _ (Below.refl _ _)).mono ?_; rintro e w1 ⟨rfl, b1⟩)
   refine bodyPost_ret (results_two rfl (resOne_tmp _ _ _) (resOne_tmp _ _ _)) rfl ?_
   exact ⟨_, rfl, (fun h => by cases h), b1⟩
 | true =>
   have hm := HR.out.symm
   obtain ⟨hok, hl1, hl2⟩ := mayRec_iff.1 hm
   have hhl := headB_length (lb := lb) (epoch := epoch) (seq := seq) hm
   obtain ⟨g, cap, rfl⟩ := RowG.form HW.out hl1
   have Hh2 := Lib.hid (Hh.out hm)
   have Hhl := Lib.hid hhl
   clear hok hm Hh hhl
   go_wp2_with (first | (go_at_call 175; refine (Hm.out _ (Below.refl _ _)).mono ?_; rintro e w1 ⟨rfl, b1⟩) | (go_at_call 176; refine (Hh2.out _ b1).mono ?_; rintro e w2 ⟨v2, rfl, hr2, b2⟩; obtain ⟨g2, cap2, rfl, hg2, _⟩ := hr2.form (by rw [Hhl.out]; decide); rw [Hhl.out] at hr2 ⊢))
   have hB2 : Below w.heap.size w w2 := grow_trans b1 b2
   have hgw : w.heap.size ≤ g2 := Nat.le_trans b1.size hg2
   have hB3 : Below w2.heap.size w2 (w2.alloc (.cells #[.slice (some ⟨g2, 0, none⟩) 64 cap2] 22)) := grow_alloc (Below.refl _ _) _
   have hR3 := lit_rowB (S := fun q => w.heap.size ≤ q) (show objAt (w2.alloc (.cells #[.slice (some ⟨g2, 0, none⟩) 64 cap2] 22)) w2.heap.size = _ by rw [objAt_alloc, if_pos rfl]) (BRow.byteAt (hr2.below hB3) Hhl.out.symm hgw) hB2.size
   have H3 := Lib.hid (And.intro (grow_trans hB2 hB3) hR3)
   clear b1 b2 hr2 hg2 hB2 hgw hB3 hR3
   go_loopw [10, 24] (fun s10 i wr => ∃ (k : Nat) (V : Value), k ≤ ws.length ∧ i = .int .i64 k ∧ V = s10 ∧ RowB wr (fun q => w.heap.size ≤ q) V (headB lb epoch seq ws :: (ws.take k).map fun x => imageB epoch seq x.b) ∧ Below w.heap.size w wr) (fun _ i _ => ws.length - (Go.RowKit.intOf i).toNat)
   case atStart => exact ⟨0, _, Nat.zero_le _, rfl, rfl, H3.out.2, H3.out.1⟩
   case round =>
    obtain ⟨k, V, hk, rfl, rfl, hV, hbel⟩ := hrel
    by_cases hlt : k < ws.length
    · obtain ⟨x, hx⟩ : ∃ x, ws[k]? = some x := ⟨_, List.getElem?_eq_getElem hlt⟩
      have hWr := WRow.below HW.out hbel
      have hhas := WRow.has hWr hx
      have hrow := WRow.row hWr hx
      have hglt : g < wr.heap.size := RowG.lt hWr (g := g) rfl
      have hlti : (k : Int) < (ws.length : Int) := by omega
      have HX := Lib.hid (And.intro hV (And.intro hbel hx))
      have hB4 : Below wr.heap.size wr (wr.alloc (.cells x.cells 52)) := grow_alloc (Below.refl _ _) _
      have Hi := Lib.hid (image_any epoch seq x (wr.alloc (.cells x.cells 52)) he hs)
      have Hil := Lib.hid (imageB_length epoch seq x.b)
      have HB4 := Lib.hid hB4
      have hklen : (headB lb epoch seq ws :: (ws.take k).map fun x => imageB epoch seq x.b).length < 1000000 := by simp; omega
      clear hV hbel hWr hx hB4
      go_wp2_with (first | (go_at_call 177; refine Hi.out.mono ?_; rintro e w5 ⟨v5, rfl, hr5, b5⟩; obtain ⟨g5, cap5, rfl, hg5, _⟩ := hr5.form (by rw [Hil.out]; decide); rw [Hil.out] at hr5 ⊢; have hB5 := grow_trans HB4.out b5; have hR5 := (RowB.below HX.out.1 hB5); have hB6 : Below w5.heap.size w5 (w5.alloc (.cells #[.slice (some ⟨g5, 0, none⟩) 64 cap5] 22)) := grow_alloc (Below.refl _ _) _; have hR6 := RowB.below hR5 hB6; have hby := BRow.byteAt (S := fun q => w.heap.size ≤ q) (hr5.below hB6) Hil.out.symm (Nat.le_trans (Nat.le_trans HX.out.2.1.size HB4.out.size) hg5); have H6 := Lib.hid (And.intro hR6 (And.intro hby (And.intro hB5 hB6))); clear hR6 hby hR5 hr5 b5 hB5 hB6) | (at_builtin; refine list_appG elemBytesK (v := V) rfl _ _ rfl rfl H6.out.1 rfl (by rw [objAt_alloc, if_pos rfl]) rfl (by simp [Value.oneCell']) hklen (BEl (fun q => w.heap.size ≤ q)) (imageB epoch seq x.b) (fun w7 hk7 => ⟨fun a c h => BEl.own H6.out.1 (by decide) hk7 a c h, BEl.own H6.out.1 (by decide) hk7 _ _ ⟨_, rfl, H6.out.2.1⟩⟩) ?_; intro g7 cap7 w7 hv7 hk7 ho7 hl7))
      have hle : w.heap.size ≤ (w5.alloc (.cells #[.slice (some ⟨g5, 0, none⟩) 64 cap5] 22)).heap.size := Nat.le_trans HX.out.2.1.size (Nat.le_trans H6.out.2.2.1.size H6.out.2.2.2.size)
      have hfin : Below w.heap.size w w7 := (grow_trans HX.out.2.1 (grow_trans H6.out.2.2.1 H6.out.2.2.2)).trans (hk7.below hle (fun q e => H6.out.1.own q e))
      have hrow7 := RowG.mono (S2 := fun q => w.heap.size ≤ q) hv7 (fun q hq => hq.elim id (Nat.le_trans hle))
      go_roundw
      case rel =>
       refine ⟨k + 1, _, by omega, by go_num, rfl, ?_, hfin⟩
       obtain ⟨hk', hx'⟩ := List.getElem?_eq_some_iff.1 HX.out.2.2
       rw [show (headB lb epoch seq ws :: (ws.take k).map fun x => imageB epoch seq x.b).length = k + 1 by simp; omega] at hrow7
       rw [List.take_succ_eq_append_getElem hk', List.map_append, hx']
       exact hrow7
      case measure => simp [Go.RowKit.intOf]; omega
    · obtain rfl : k = ws.length := by omega
      have HX := Lib.hid (And.intro hV hbel)
      have hn : ¬ ((ws.length : Int) < (ws.length : Int)) := by omega
      clear hV hbel
      go_wp2_with fail
      refine bodyPost_ret (results_two rfl (resOne_tmp _ _ _) (resOne_tmp _ _ _)) rfl ?_
      have := HX.out.1
      rw [List.take_length] at this
      exact ⟨V, rfl, this, HX.out.2⟩
end
section
open Go.RowKit
theorem frame_list (A : Array Value) (n : Nat) (h : A.size = n) : A = ((List.range n).map fun i => A.getD i undef).toArray := by
 apply Array.ext
 · simp [h]
 · intro i h1 h2
   simp [Array.getD, h1]
end
section
open Go.RowKit
attribute [local irreducible] Calls

theorem frame105 (A : Array Value) (h : A.size = 105) : A = #[A.getD 0 undef, A.getD 1 undef, A.getD 2 undef, A.getD 3 undef, A.getD 4 undef, A.getD 5 undef, A.getD 6 undef, A.getD 7 undef, A.getD 8 undef, A.getD 9 undef, A.getD 10 undef, A.getD 11 undef, A.getD 12 undef, A.getD 13 undef, A.getD 14 undef, A.getD 15 undef, A.getD 16 undef, A.getD 17 undef, A.getD 18 undef, A.getD 19 undef, A.getD 20 undef, A.getD 21 undef, A.getD 22 undef, A.getD 23 undef, A.getD 24 undef, A.getD 25 undef, A.getD 26 undef, A.getD 27 undef, A.getD 28 undef, A.getD 29 undef, A.getD 30 undef, A.getD 31 undef, A.getD 32 undef, A.getD 33 undef, A.getD 34 undef, A.getD 35 undef, A.getD 36 undef, A.getD 37 undef, A.getD 38 undef, A.getD 39 undef, A.getD 40 undef, A.getD 41 undef, A.getD 42 undef, A.getD 43 undef, A.getD 44 undef, A.getD 45 undef, A.getD 46 undef, A.getD 47 undef, A.getD 48 undef, A.getD 49 undef, A.getD 50 undef, A.getD 51 undef, A.getD 52 undef, A.getD 53 undef, A.getD 54 undef, A.getD 55 undef, A.getD 56 undef, A.getD 57 undef, A.getD 58 undef, A.getD 59 undef, A.getD 60 undef, A.getD 61 undef, A.getD 62 undef, A.getD 63 undef, A.getD 64 undef, A.getD 65 undef, A.getD 66 undef, A.getD 67 undef, A.getD 68 undef, A.getD 69 undef, A.getD 70 undef, A.getD 71 undef, A.getD 72 undef, A.getD 73 undef, A.getD 74 undef, A.getD 75 undef, A.getD 76 undef, A.getD 77 undef, A.getD 78 undef, A.getD 79 undef, A.getD 80 undef, A.getD 81 undef, A.getD 82 undef, A.getD 83 undef, A.getD 84 undef, A.getD 85 undef, A.getD 86 undef, A.getD 87 undef, A.getD 88 undef, A.getD 89 undef, A.getD 90 undef, A.getD 91 undef, A.getD 92 undef, A.getD 93 undef, A.getD 94 undef, A.getD 95 undef, A.getD 96 undef, A.getD 97 undef, A.getD 98 undef, A.getD 99 undef, A.getD 100 undef, A.getD 101 undef, A.getD 102 undef, A.getD 103 undef, A.getD 104 undef] := frame_list A 105 h
def TakeJ (w : World) (x0 x1 x2 x3 : Value) (l : Nat) (a' : Act) (w' : World) : Prop :=
 Below w.heap.size w w' ∧ ((l = 0 ∧ ∃ A : Array Value, A.size = 105 ∧ (True) ∧ a' = { tmps := A, defers := [] }) ∨ (l = 1 ∧ ∃ A : Array Value, A.size = 105 ∧ (A.getD 0 undef = x0 ∧ A.getD 1 undef = x1 ∧ A.getD 2 undef = x2 ∧ A.getD 3 undef = x3 ∧ A.getD 8 undef = .slice none 0 0 ∧ A.getD 9 undef = .int .i64 0 ∧ A.getD 11 undef = .int .i64 0 ∧ True) ∧ a' = { tmps := A, defers := [] }))
theorem Take_none (lb : UInt8) (epoch seq : Nat) {w : World} {S : Nat → Prop} {g n cap : Nat} {ls : List (List UInt8)} (h : RowB w S (.slice (some ⟨g, 0, none⟩) n cap) ls) (hn : n ≤ 1000) {l : List UInt8} (hl : ls[0]? = some l) (h64 : l.length = 64) (h10 : l[10]? = some 0) (he : epoch < 4294967296) (hs : seq < 4294967296) :
 Calls Tryz.prog 172 #[.int .u8 (lb.toNat : Int), .int .u32 epoch, .int .u32 seq, .slice (some ⟨g, 0, none⟩) n cap] w fun e w' => e = .returned (.tuple #[.slice none 0 0, .int .i64 0, .bool false]) ∧ Below w.heap.size w w' := by
 have hlen := RowG.len h
 have hpos := (List.getElem?_eq_some_iff.1 hl).1
 obtain ⟨c, hc1, ⟨x, rfl, a, q, nx, rfl, hb, _, _⟩, hc3⟩ := RowG.cells h hl
 have c0 := hc3 0 _ rfl
 rw [Nat.zero_mul, Nat.add_zero, h64] at c0
 obtain ⟨bb, off, hba, hbc⟩ := hb
 obtain rfl := Option.some.inj (hba (by omega))
 have hi10 : 10 < l.length := by omega
 have c10 := hbc 10 hi10
 have e10 : l[10] = 0 := by rw [List.getElem?_eq_getElem hi10] at h10; exact Option.some.inj h10
 rw [e10] at c10
 replace c10 : w.cell? ⟨bb, off + 10, none⟩ = some (.int .u8 0) := c10
 have n0 : ¬ ((n : Int) = 0) := by omega
 have n1 : ((n : Int) == 0) = false := by simpa using n0
 have n2 : (0 : Int) < (n : Int) := by omega
 have n3 : ¬ ((n : Int) < 1) := by omega
 have HP := Lib.hid (fun w' => recPut_any lb epoch seq (S := fun _ => True) (RowG.nil w' _ _ _ _ : WRow w' (fun _ => True) (.slice none 0 0) []) (by decide) he hs)
 have hm0 : mayRec [] = false := by decide
 rw [hm0] at HP
 clear h hl hc1 hc3 hba hbc e10 h10 hm0 hlen hpos
 go_enter Tryz.func172, Tryz.ntmps172
 go_wp2_with fail
 refine wp_scope_labels (TakeJ w (.int .u8 (lb.toNat : Int)) (.int .u32 epoch) (.int .u32 seq) (.slice (some ⟨g, 0, none⟩) n cap)) (fun l _ _ => l) ?_ ?_ ?_
 · rintro l a w' ⟨_, ⟨rfl, _⟩ | ⟨rfl, _⟩⟩ <;> exact ⟨_, rfl⟩
 · rintro l rest a w' ⟨hb, ⟨rfl, ⟨A, hA, ⟨_⟩, rfl⟩⟩ | ⟨rfl, ⟨A, hA, ⟨hA0, hA1, hA2, hA3, hA8, hA9, hA11, _⟩, rfl⟩⟩⟩ hrest
   · obtain rfl := (Code.seq.inj (Option.some.inj hrest)).2
     rw [frame105 A hA]
     clear hrest
     go_wp2_with fail
     rw [jumps_ret]
     refine bodyPost_ret (results_three rfl (resOne_tmp _ _ _) (resOne_tmp _ _ _) (resOne_tmp _ _ _)) rfl ?_
     exact ⟨rfl, hb⟩
   · obtain rfl := (Code.seq.inj (Option.some.inj hrest)).2
     rw [frame105 A hA, hA0, hA1, hA2, hA3, hA8, hA9, hA11]
     clear hrest
     go_wp2_with (go_at_call 117; refine (HP.out _).mono ?_; rintro e w5 ⟨v5, rfl, _, b5⟩)
     go_step3
     exact ⟨⟨grow_trans hb b5, .inl ⟨rfl, ⟨_, rfl, trivial, rfl⟩⟩⟩, by decide⟩
 · intro hfall
   have HF := Lib.hid hfall
   clear hfall
   go_wp2_with fail
   go_step3
   simp only [Exit.then]
   go_step
   refine HF.out 1 _ _ _ ?_ rfl
   exact ⟨Below.refl _ _, .inr ⟨rfl, ⟨_, rfl, ⟨rfl, rfl, rfl, rfl, rfl, rfl, rfl, trivial⟩, rfl⟩⟩⟩
end
section
open Go.RowKit
attribute [local irreducible] Calls

theorem frame59 (A : Array Value) (h : A.size = 59) : A = #[A.getD 0 undef, A.getD 1 undef, A.getD 2 undef, A.getD 3 undef, A.getD 4 undef, A.getD 5 undef, A.getD 6 undef, A.getD 7 undef, A.getD 8 undef, A.getD 9 undef, A.getD 10 undef, A.getD 11 undef, A.getD 12 undef, A.getD 13 undef, A.getD 14 undef, A.getD 15 undef, A.getD 16 undef, A.getD 17 undef, A.getD 18 undef, A.getD 19 undef, A.getD 20 undef, A.getD 21 undef, A.getD 22 undef, A.getD 23 undef, A.getD 24 undef, A.getD 25 undef, A.getD 26 undef, A.getD 27 undef, A.getD 28 undef, A.getD 29 undef, A.getD 30 undef, A.getD 31 undef, A.getD 32 undef, A.getD 33 undef, A.getD 34 undef, A.getD 35 undef, A.getD 36 undef, A.getD 37 undef, A.getD 38 undef, A.getD 39 undef, A.getD 40 undef, A.getD 41 undef, A.getD 42 undef, A.getD 43 undef, A.getD 44 undef, A.getD 45 undef, A.getD 46 undef, A.getD 47 undef, A.getD 48 undef, A.getD 49 undef, A.getD 50 undef, A.getD 51 undef, A.getD 52 undef, A.getD 53 undef, A.getD 54 undef, A.getD 55 undef, A.getD 56 undef, A.getD 57 undef, A.getD 58 undef] := frame_list A 59 h
def NMayJ (w : World) (r : Bool) (l : Nat) (a' : Act) (w' : World) : Prop :=
 Below w.heap.size w w' ∧ l = 0 ∧ r = false ∧ ∃ A : Array Value, A.size = 59 ∧ (True) ∧ a' = { tmps := A, defers := [] }
theorem nMay_any (kind : Int) (n : Nd) (w : World) (hn : n.wf) : Calls Tryz.prog 188 #[.int .i64 kind, .agg n.cells] w fun e w' => e = .returned (.bool (mayNode kind n)) ∧ Below w.heap.size w w' := by
 have hB0 : Below w.heap.size w (w.alloc (.cells n.cells 165)) := grow_alloc (Below.refl _ _) _
 have ho : objAt (w.alloc (.cells n.cells 165)) w.heap.size = some (.cells n.cells 165 (0, 0)) := by rw [objAt_alloc, if_pos rfl]
 obtain ⟨G, hG⟩ : ∃ G, G = w.heap.size := ⟨_, rfl⟩
 obtain ⟨w1, hw1⟩ : ∃ w1, w1 = w.alloc (.cells n.cells 165) := ⟨_, rfl⟩
 rw [← hw1] at hB0 ho
 rw [← hG] at ho
 have hN := hasNd_obj ho
 have hrow := rowAt_heap ho
 have c0 : w1.cell? ⟨G, 0, none⟩ = some (.int .u32 n.gen) := Nd.c n ho 0
 have c1 : w1.cell? ⟨G, 1, none⟩ = some (.int .i64 n.links) := Nd.c n ho 1
 have c2 : w1.cell? ⟨G, 2, none⟩ = some (.int .i64 n.size) := Nd.c n ho 2
 have c8 : w1.cell? ⟨G, 8, none⟩ = some (.string n.target) := Nd.c n ho 8
 have HG := Lib.hid (And.intro hG hw1)
 have H1 := Lib.hid (And.intro hB0 (And.intro ho hn.long))
 obtain ⟨r, hr⟩ : ∃ r, r = mayNode kind n := ⟨_, rfl⟩
 rw [← hr]
 have Hr := Lib.hid hr
 clear hB0 hG hw1 ho hr hn
 go_enter Tryz.func188, Tryz.ntmps188
 go_upto_region 1 with fail
 rw [← HG.out.2, ← HG.out.1]
 refine wp_scope_labels (NMayJ w r) (fun l _ _ => l) ?_ ?_ ?_
 · rintro l a w' ⟨_, rfl, _⟩; exact ⟨_, rfl⟩
 · rintro l rest a w' ⟨hb, rfl, hf, ⟨A, hA, ⟨_⟩, rfl⟩⟩ hrest
   obtain rfl := (Code.seq.inj (Option.some.inj hrest)).2
   rw [frame59 A hA]
   clear hrest
   have Hf := Lib.hid hf
   clear hf
   go_wp2_with fail
   try rw [jumps_ret]
   refine bodyPost_ret (results_one rfl (resOne_tmp _ _ _)) rfl ?_
   exact ⟨by rw [Hf.out]; rfl, hb⟩
 · intro hfall
   have HF := Lib.hid hfall
   clear hfall
   by_cases g0 : n.gen < 1
   · have Hm := Lib.hid (mayNode_no (kind := kind) (n := n) (.inl g0))
     go_wp2_with fail
     go_step3
     exact ⟨H1.out.1, rfl, by rw [Hr.out]; exact Hm.out, ⟨_, rfl, trivial, rfl⟩⟩
   by_cases g1 : n.links < 0
   · have Hm := Lib.hid (mayNode_no (kind := kind) (n := n) (.inr (.inl g1)))
     go_wp2_with fail
     go_step3
     exact ⟨H1.out.1, rfl, by rw [Hr.out]; exact Hm.out, ⟨_, rfl, trivial, rfl⟩⟩
   by_cases g2 : 1000 < n.links
   · have Hm := Lib.hid (mayNode_no (kind := kind) (n := n) (.inr (.inr (.inl g2))))
     go_wp2_with fail
     go_step3
     exact ⟨H1.out.1, rfl, by rw [Hr.out]; exact Hm.out, ⟨_, rfl, trivial, rfl⟩⟩
   have Hok := Lib.hid (show 1 ≤ n.gen ∧ 0 ≤ n.links ∧ n.links ≤ 1000 by omega)
   by_cases k1 : kind = 1
   · subst k1
     have Hm := Lib.hid (mayNode_file Hok.out rfl)
     have HP := Lib.hid (file_any n w1)
     go_wp2_with (go_at_call 218; refine HP.out.mono ?_; rintro e w2 ⟨rfl, b2⟩)
     try rw [jumps_ret]
     refine bodyPost_ret (results_one rfl (resOne_tmp _ _ _)) rfl ?_
     exact ⟨by rw [Hr.out, Hm.out]; rfl, H1.out.1.trans (b2.mono H1.out.1.size)⟩
   by_cases k2 : kind = 2
   · subst k2
     have Hm := Lib.hid (mayNode_dir Hok.out rfl)
     have HP := Lib.hid (bare_any n w1)
     by_cases s0 : n.size = 0
     · have s0' : (n.size == 0) = true := by simpa using s0
       rw [decide_eq_true s0, Bool.true_and] at Hm
       clear s0
       cases hb : none5 n.places with
       | true =>
         rw [hb] at Hm HP
         clear hb
         cases ht : n.target.toList.isEmpty with
         | true =>
           rw [← ByteArray.toList_eq, ht] at Hm
           by_cases l1 : n.links ≤ 1
           · rw [decide_eq_true l1] at Hm
             go_wp2_with (go_at_call 219; refine HP.out.mono ?_; rintro e w2 ⟨rfl, b2⟩; replace c1 := grow_cell b2 c1; replace c8 := grow_cell b2 c8)
             try rw [jumps_ret]
             refine bodyPost_ret (results_one rfl (resOne_tmp _ _ _)) rfl ?_
             exact ⟨by rw [Hr.out, Hm.out]; first | rfl | (simp; done) | (simp; omega), H1.out.1.trans (b2.mono H1.out.1.size)⟩
           · rw [decide_eq_false l1] at Hm
             go_wp2_with (go_at_call 219; refine HP.out.mono ?_; rintro e w2 ⟨rfl, b2⟩; replace c1 := grow_cell b2 c1; replace c8 := grow_cell b2 c8)
             try rw [jumps_ret]
             refine bodyPost_ret (results_one rfl (resOne_tmp _ _ _)) rfl ?_
             exact ⟨by rw [Hr.out, Hm.out]; first | rfl | (simp; done) | (simp; omega), H1.out.1.trans (b2.mono H1.out.1.size)⟩
         | false =>
           rw [← ByteArray.toList_eq, ht] at Hm
           go_wp2_with (go_at_call 219; refine HP.out.mono ?_; rintro e w2 ⟨rfl, b2⟩; replace c1 := grow_cell b2 c1; replace c8 := grow_cell b2 c8)
           try rw [jumps_ret]
           refine bodyPost_ret (results_one rfl (resOne_tmp _ _ _)) rfl ?_
           exact ⟨by rw [Hr.out, Hm.out]; first | rfl | (simp; done) | (simp; omega), H1.out.1.trans (b2.mono H1.out.1.size)⟩
       | false =>
         rw [hb] at Hm HP
         clear hb
         go_wp2_with (go_at_call 219; refine HP.out.mono ?_; rintro e w2 ⟨rfl, b2⟩; replace c1 := grow_cell b2 c1; replace c8 := grow_cell b2 c8)
         try rw [jumps_ret]
         refine bodyPost_ret (results_one rfl (resOne_tmp _ _ _)) rfl ?_
         exact ⟨by rw [Hr.out, Hm.out]; first | rfl | (simp; done) | (simp; omega), H1.out.1.trans (b2.mono H1.out.1.size)⟩
     · have s0' : (n.size == 0) = false := by simpa using s0
       rw [decide_eq_false s0] at Hm
       clear s0
       go_wp2_with fail
       try rw [jumps_ret]
       refine bodyPost_ret (results_one rfl (resOne_tmp _ _ _)) rfl ?_
       exact ⟨by rw [Hr.out, Hm.out]; first | rfl | (simp; done) | (simp; omega), H1.out.1⟩
   by_cases k3 : kind = 3
   · subst k3
     have Hm := Lib.hid (mayNode_sign Hok.out rfl)
     have HP := Lib.hid (bare_any n)
     have HS := Lib.hid (sign_any n.target w1 H1.out.2.2)
     cases ht : mayTarget n.target.data.toList with
     | true =>
       rw [ht] at Hm HS
       clear ht
       by_cases s0 : n.size = (n.target.size : Int)
       · rw [decide_eq_true s0] at Hm
         have s0' : (n.size == (n.target.size : Int)) = true := by simpa using s0
         clear s0
         go_wp2_with (first | (go_at_call 220; refine HS.out.mono ?_; rintro e w2 ⟨rfl, b2⟩; replace c2 := grow_cell b2 c2; replace c8 := grow_cell b2 c8; replace hN := hasNd_obj (grow_obj b2 H1.out.2.1); replace hrow := rowAt_heap (grow_obj b2 H1.out.2.1)) | (go_at_call 219; refine (HP.out _).mono ?_; rintro e w3 ⟨rfl, b3⟩))
         try rw [jumps_ret]
         refine bodyPost_ret (results_one rfl (resOne_tmp _ _ _)) rfl ?_
         exact ⟨by rw [Hr.out, Hm.out]; first | rfl | (simp; done) | (simp; omega), H1.out.1.trans ((grow_trans b2 b3).mono H1.out.1.size)⟩
       · rw [decide_eq_false s0] at Hm
         have s0' : (n.size == (n.target.size : Int)) = false := by simpa using s0
         clear s0
         go_wp2_with (go_at_call 220; refine HS.out.mono ?_; rintro e w2 ⟨rfl, b2⟩; replace c2 := grow_cell b2 c2; replace c8 := grow_cell b2 c8; replace hN := hasNd_obj (grow_obj b2 H1.out.2.1); replace hrow := rowAt_heap (grow_obj b2 H1.out.2.1))
         try rw [jumps_ret]
         refine bodyPost_ret (results_one rfl (resOne_tmp _ _ _)) rfl ?_
         exact ⟨by rw [Hr.out, Hm.out]; first | rfl | (simp; done) | (simp; omega), H1.out.1.trans (b2.mono H1.out.1.size)⟩
     | false =>
       rw [ht] at Hm HS
       clear ht
       go_wp2_with (go_at_call 220; refine HS.out.mono ?_; rintro e w2 ⟨rfl, b2⟩; replace c2 := grow_cell b2 c2; replace c8 := grow_cell b2 c8)
       try rw [jumps_ret]
       refine bodyPost_ret (results_one rfl (resOne_tmp _ _ _)) rfl ?_
       exact ⟨by rw [Hr.out, Hm.out]; first | rfl | (simp; done) | (simp; omega), H1.out.1.trans (b2.mono H1.out.1.size)⟩
   have Hm := Lib.hid (mayNode_no (kind := kind) (n := n) (.inr (.inr (.inr ⟨k1, k2, k3⟩))))
   have e1 : (kind == 1) = false := by simpa using k1
   have e2 : (kind == 2) = false := by simpa using k2
   have e3 : (kind == 3) = false := by simpa using k3
   clear k1 k2 k3
   go_wp2_with fail
   go_step3
   simp only [Exit.then]
   go_step
   refine HF.out 0 _ _ _ ?_ rfl
   exact ⟨H1.out.1, rfl, by rw [Hr.out]; exact Hm.out, ⟨_, rfl, trivial, rfl⟩⟩
end
end Go.Proofs.YtbbnejehglonjaaGreat
