/- DERIVED. Contracts and laws that the proofs of this seat share, part 14 of 36: NoG LibZ IxA. -/
import Derived.Test.YtbbnejehglonjaaGreatLibNH
import Derived.Test.YtbbnejehglonjaaGreatMh00
import Derived.Test.YtbbnejehglonjaaGreatMh03
import Derived.Test.YtbbnejehglonjaaGreatMh07
import Derived.Test.YtbbnejehglonjaaGreatMh13
namespace Go.Proofs.YtbbnejehglonjaaGreat
set_option maxHeartbeats 8000000
set_option maxRecDepth 100000
set_option linter.unusedSimpArgs false
set_option linter.unusedVariables false
section
open Go.RowKit
attribute [local irreducible] Calls

theorem BRow.rebase {w : World} {B : Nat} {v : Value} {l : List UInt8} (h : BRow w 0 v l) (hb : ∀ g, v.ownBlock = some g → B ≤ g) : BRow w B v l := by
 refine ⟨h.1, ?_⟩
 rcases h.2 with h' | ⟨g, cap, cur, h1, h2, h3⟩
 · exact .inl h'
 · exact .inr ⟨g, cap, cur, h1, hb g (by rw [h1]; rfl), h3⟩
theorem IRow.ownObj {w : World} {B : Nat} {v : Value} {l : List Int} (h : IRow w B v l) {g : Nat} (hg : v.ownBlock = some g) : B ≤ g ∧ ∃ q, objAt w g = some (.cells q 3 (0, 0)) := by
 rcases h.2 with ⟨h', _⟩ | ⟨g', cap', cur, h', hb, hg', _⟩
 · subst h'; cases hg
 · subst h'
   obtain rfl := Option.some.inj hg
   exact ⟨hb, cur, hg'⟩
theorem over_of (kind : Int) (l : List UInt8) : (Blk.of kind []).over l = Blk.of kind l := by
 refine Blk.ext' (by rw [Blk.of_kind]; exact Blk.of_kind kind []) ?_
 rw [Blk.of_body]
 show l.take 56 ++ (Blk.of kind []).body.drop (min l.length 56) = fill56 l
 rw [Blk.of_body]
 apply List.ext_getElem
 · simp [fill56]; omega
 · intro i h1 h2
   rw [fill56_len] at h2
   simp only [fill56, List.getElem_append, List.getElem_take, List.length_take, List.getElem_drop, List.nil_append, List.getElem_replicate]
   by_cases hi : i < l.length
   · rw [dif_pos (by omega), dif_pos (by omega)]
   · rw [dif_neg (by omega), dif_neg (by omega)]
theorem grown_keeps {w w' : World} {o : Option Nat} (h : w.grownBy w' o) : Keeps (fun q => o = some q) w w' := ⟨h.os, h.tape, h.output, h.size, fun k' hk' hn' => h.block k' hk' (fun e => hn' e.symm)⟩
theorem WtrStep.ints {w w' : World} {W B : Nat} {v v' u : Value} {xs ys : List UInt8} {l : List Int} (h : WtrStep w w' 281 W v v' ys) (h0 : WtrAt w 281 W v xs) (hr : IRow w B u l) : IRow w' B u l :=
 owns_keeps hr h.keeps (fun q hq e => by
  obtain ⟨_, c, hc⟩ := IRow.ownObj hr hq
  rcases e with e | e
  · subst e; exact ne_of_obj hc h0.obj (by decide) rfl
  · obtain ⟨_, c2, hc2⟩ := BRow.ownObj h0.row e
    exact ne_of_obj hc hc2 (by decide) rfl)
theorem high_one (x : Nat) : high x 1 = [UInt8.ofNat x] := by
 show [UInt8.ofNat (x / 256 ^ 0 % 256)] = _
 rw [Nat.pow_zero, Nat.div_one]
 exact congrArg (fun c => [c]) (UInt8.toNat_inj.1 (by rw [UInt8.toNat_ofNat', UInt8.toNat_ofNat']; omega))
theorem ats_places (n : Nd) : ats n.places = ats n.direct ++ high (n.index + 1).toNat 2 := by
 simp [ats, Nd.places, Nd.direct]
theorem nodeBytes_places (n : Nd) : nodeBytes n = nodeHead n ++ ats n.places ++ high n.target.size 1 ++ n.target.data.toList := by
 rw [ats_places, high_one]; simp [nodeBytes]
theorem nPut_ok (kind : Int) (n : Nd) (w : World) (hn : n.wf) (hm : mayNode kind n = true) : Calls Tryz.prog 149 #[.int .i64 kind, .agg n.cells] w fun e w' => e = .returned (.tuple #[.agg (Blk.of kind (nodeBytes n)).cells, .bool true]) ∧ Below w.heap.size w w' := by
 have hB0 : Below w.heap.size w ((w.alloc (.cells n.cells 165)).alloc (.cells Blk.zero.cells 37)) := grow_alloc (grow_alloc (Below.refl _ _) _) _
 have ho : objAt ((w.alloc (.cells n.cells 165)).alloc (.cells Blk.zero.cells 37)) w.heap.size = some (.cells n.cells 165 (0, 0)) := by rw [objAt_alloc, if_neg (by simp), objAt_alloc, if_pos rfl]
 have hb : BlkAt ((w.alloc (.cells n.cells 165)).alloc (.cells Blk.zero.cells 37)) (w.heap.size + 1) Blk.zero := by
  have := BlkAt.alloc_new (w.alloc (.cells n.cells 165)) Blk.zero
  rwa [size_alloc] at this
 obtain ⟨G, hG⟩ : ∃ G, G = w.heap.size := ⟨_, rfl⟩
 obtain ⟨w1, hw1⟩ : ∃ w1, w1 = (w.alloc (.cells n.cells 165)).alloc (.cells Blk.zero.cells 37) := ⟨_, rfl⟩
 rw [← hw1] at hB0 ho hb
 rw [← hG] at ho hb
 have hN := hasNd_obj ho
 have hrow := rowAt_heap ho
 have HG := Lib.hid (And.intro hG hw1)
 have H1 := Lib.hid (And.intro hB0 (And.intro ho hb))
 have HM := Lib.hid (nMay_any kind n w1 hn)
 rw [hm] at HM
 have Hsm := Lib.hid (mayNode_small hm)
 have Hwf := Lib.hid hn
 clear hB0 hG hw1 ho hb hn hm
 obtain ⟨gn, hgn⟩ : ∃ k : Nat, n.gen = k := ⟨n.gen.toNat, by have := Hsm.out.gen; omega⟩
 obtain ⟨lk, hlk⟩ : ∃ k : Nat, n.links = k := ⟨n.links.toNat, by have := Hsm.out.links0; omega⟩
 obtain ⟨sz, hsz⟩ : ∃ k : Nat, n.size = k := ⟨n.size.toNat, by have := Hsm.out.size0; omega⟩
 have hgl : gn < 4294967296 := by have := Hwf.out.gen1; omega
 have hll : lk ≤ 1000 := by have := Hsm.out.links1; omega
 have hzl : sz ≤ 1120 := by have := Hsm.out.size1; omega
 have u1 : IntKind.u32.wrap (lk : Int) = lk := IntWalk.u32_in _ (by omega)
 have u2 : IntKind.u32.wrap (sz : Int) = sz := IntWalk.u32_in _ (by omega)
 have hhead : nodeHead n = high gn 4 ++ high lk 2 ++ high sz 4 := by unfold nodeHead; rw [hgn, hlk, hsz]; rfl
 have HH := Lib.hid (And.intro hgn (And.intro hlk (And.intro hsz hhead)))
 have hOO : ∀ x : World, objAt x G = some (.cells n.cells 165 (0, 0)) → x.cell? ⟨G, 0, none⟩ = some (.int .u32 gn) ∧ x.cell? ⟨G, 1, none⟩ = some (.int .i64 lk) ∧ x.cell? ⟨G, 2, none⟩ = some (.int .i64 sz) ∧ x.cell? ⟨G, 8, none⟩ = some (.string n.target) := fun x hx => by
  rw [← hgn, ← hlk, ← hsz]
  exact ⟨cell_obj hx 0, cell_obj hx 1, cell_obj hx 2, cell_obj hx 8⟩
 have HO := Lib.hid hOO
 clear hOO
 clear hgn hlk hsz hhead
 go_enter Tryz.func149, Tryz.ntmps149
 go_upto_region 1 with fail
 rw [← HG.out.2, ← HG.out.1]
 go_upto_region 4 with (go_at_call 188; refine HM.out.mono ?_; rintro e w2 ⟨rfl, b2⟩; clear hN hrow)
 have hw0 : WtrAt (w2.alloc (.cells #[.slice none 0 0] 281)) 281 w2.heap.size (.slice none 0 0) [] := ⟨by rw [objAt_alloc, if_pos rfl], BRow.nil _ _⟩
 have hO2 := grow_obj (grow_alloc b2 (.cells #[.slice none 0 0] 281)) H1.out.2.1
 have hZ2 := (H1.out.2.2.below b2 (block_lt H1.out.2.2)).alloc (.cells #[.slice none 0 0] 281)
 have hBB : Below w.heap.size w (w2.alloc (.cells #[.slice none 0 0] 281)) := H1.out.1.trans ((grow_alloc b2 _).mono H1.out.1.size)
 have hWs : w1.heap.size ≤ w2.heap.size := b2.size
 obtain ⟨W, hW⟩ : ∃ W, W = w2.heap.size := ⟨_, rfl⟩
 obtain ⟨w3, hw3⟩ : ∃ w3, w3 = w2.alloc (.cells #[.slice none 0 0] 281) := ⟨_, rfl⟩
 rw [← hw3] at hw0 hO2 hZ2 hBB ⊢
 rw [← hW] at hw0 hWs ⊢
 have c0 := (HO.out _ hO2).1
 have HA := Lib.hid (And.intro hO2 (And.intro hZ2 (And.intro hBB (And.intro hw0 (And.intro hW (And.intro hw3 hWs))))))
 clear hO2 hZ2 hBB hW hw3 hWs
 go_wp2_with (first
  | (go_at_call 189; refine (wnum_any W _ _ gn 4 _ hw0 hgl (by decide) (by decide)).mono ?_; rintro e x1 ⟨rfl, V1, s1⟩; have h1 := s1.at_; rw [List.nil_append] at h1; have o1 := s1.obj HA.out.2.2.2.1 HA.out.1 (by decide) (by decide); have c1 := (HO.out _ o1).2.1; clear hw0 c0)
  | (go_at_call 189; refine (wnum_any W _ _ lk 2 _ h1 (by omega) (by decide) (by simp [high_length])).mono ?_; rintro e x2 ⟨rfl, V2, s2⟩; have h2 := s2.at_; have o2 := s2.obj h1 o1 (by decide) (by decide); have c2 := (HO.out _ o2).2.2.1; clear c1)
  | (go_at_call 189; refine (wnum_any W _ _ sz 4 _ h2 (by omega) (by decide) (by simp [high_length])).mono ?_; rintro e x3 ⟨rfl, V3, s3⟩; have h3 := s3.at_; have o3 := s3.obj h2 o2 (by decide) (by decide); have hN3 := hasNd_obj o3; have hr3 := rowAt_heap o3; clear c2)
  | (go_at_call 190; refine (places_any n _).mono ?_; rintro e x4 ⟨g, cap, rfl, hr4, b4⟩; clear hN3 hr3))
 have s14 := ((s1.trans s2).trans s3).trans (WtrStep.pre b4 (WtrStep.same (h3.below b4)))
 rw [← HH.out.2.2.2] at s14
 have hr5 := IRow.mono hr4 (Nat.zero_le _)
 clear s1 s2 s3 h1 h2 h3 o1 o2 o3 hr4 b4
 go_loopw [34] (fun i wr => ∃ (k : Nat) (V : Value), k ≤ 5 ∧ i = .int .i64 k ∧ WtrStep w3 wr 281 W (.slice none 0 0) V (nodeHead n ++ ats (n.places.take k)) ∧ IRow wr 0 (.slice (some ⟨g, 0, none⟩) 5 cap) n.places) (fun i _ => 5 - (Go.RowKit.intOf i).toNat)
 case atStart => exact ⟨0, V3, Nat.zero_le _, rfl, by simpa [ats] using s14, hr5⟩
 case round =>
  clear s14 hr5
  obtain ⟨k, V, hk, rfl, hs, hr⟩ := hrel
  have hnh : (nodeHead n).length = 10 := by simp [nodeHead, high_length]
  have hal : (ats (n.places.take k)).length ≤ 10 := by rw [ats_length, List.length_take]; omega
  by_cases hlt : k < 5
  · have hlti : (k : Int) < 5 := by omega
    have hp := Hsm.out.place k hlt
    have Hat := Lib.hid (ats_succ (l := n.places) (k := k) hlt)
    obtain ⟨x, hx⟩ : ∃ x, n.places[k]? = some x := ⟨_, List.getElem?_eq_getElem hlt⟩
    have hcx := IRow.at_ hr hx
    have hgd : n.places.getD k 0 = x := by rw [List.getD_eq_getElem?_getD, hx]; rfl
    rw [hgd] at hp Hat
    obtain ⟨hp0, hp1⟩ := hp
    have u3 : IntKind.u32.wrap (x + 1) = ((x + 1).toNat : Int) := by rw [IntWalk.u32_in _ (by omega)]; omega
    have hlen : (nodeHead n ++ ats (n.places.take k)).length ≤ 1000 := by rw [List.length_append]; omega
    have hx4 : (x + 1).toNat < 4294967296 := by omega
    obtain ⟨m, hm⟩ : ∃ m, m = (x + 1).toNat := ⟨_, rfl⟩
    rw [← hm] at u3 hx4 Hat
    have HS := Lib.hid (And.intro hs (And.intro hr hlen))
    clear hs hr hx hgd hnh hal hlen hm
    go_wp2_with (go_at_call 189; refine (wnum_any W _ _ m 2 _ HS.out.1.at_ hx4 (by decide) HS.out.2.2).mono ?_; rintro e x5 ⟨rfl, V5, s5⟩)
    go_roundw
    case rel =>
     refine ⟨k + 1, V5, by omega, by go_num, ?_, ?_⟩
     · rw [Hat.out, ← List.append_assoc]; exact HS.out.1.trans s5
     · exact s5.ints HS.out.1.at_ HS.out.2.1
    case measure => simp [Go.RowKit.intOf]; omega
  · obtain rfl : k = 5 := by omega
    have ht32 := Hsm.out.target
    have u4 : IntKind.u32.wrap (n.target.size : Int) = n.target.size := IntWalk.u32_in _ (by omega)
    have hp5 : n.places.take 5 = n.places := rfl
    rw [hp5] at hs hal
    have o5 := hs.obj HA.out.2.2.2.1 HA.out.1 (by decide) (by decide)
    have c8 := (HO.out _ o5).2.2.2
    obtain ⟨t, ht⟩ : ∃ t, t = n.target := ⟨_, rfl⟩
    rw [← ht] at u4 c8 ht32
    have HS := Lib.hid (And.intro hs (And.intro o5 (And.intro ht (show (nodeHead n ++ ats n.places).length ≤ 20 by rw [List.length_append]; omega))))
    clear hs hr hnh hal o5 ht hp5
    go_upto_region 13 with (go_at_call 189; refine (wnum_any W _ _ t.size 1 _ HS.out.1.at_ (by omega) (by decide) (Nat.le_trans HS.out.2.2.2 (by decide))).mono ?_; rintro e x5 ⟨rfl, V5, s5⟩)
    have s6 := HS.out.1.trans s5
    have o6 := s5.obj HS.out.1.at_ HS.out.2.1 (by decide) (by decide)
    have z6 : BlkAt x5 (G + 1) Blk.zero := s6.obj HA.out.2.2.2.1 HA.out.2.1 (by decide) (by decide)
    go_upto_region 14 with fail
    have hAl : Below x5.heap.size x5 (x5.alloc (.cells (Blk.of kind []).cells 37)) := grow_alloc (Below.refl _ _) _
    have hH := BlkAt.alloc_new x5 (Blk.of kind [])
    have o7 := grow_obj hAl o6
    have z7 := z6.alloc (.cells (Blk.of kind []).cells 37)
    have a7 := s6.at_.below hAl
    have s7 : Keeps (Wt W (.slice none 0 0)) w3 (x5.alloc (.cells (Blk.of kind []).cells 37)) := s6.keeps.trans (Keeps.of_below hAl)
    obtain ⟨w7, hw7⟩ : ∃ w7, w7 = x5.alloc (.cells (Blk.of kind []).cells 37) := ⟨_, rfl⟩
    obtain ⟨H, hHe⟩ : ∃ H, H = x5.heap.size := ⟨_, rfl⟩
    rw [← hw7] at hAl hH o7 z7 a7 s7 ⊢
    rw [← hHe] at hH ⊢
    have q0 := a7.c0
    have q8 := (HO.out _ o7).2.2.2
    rw [← HS.out.2.2.1] at q8
    have hrow := a7.row
    have hW3 : w3.heap.size ≤ x5.heap.size := s6.keeps.size
    have hrb := BRow.rebase hrow (fun q hq => (s6.own q hq).resolve_left (fun e => by cases e))
    have H7 := Lib.hid (And.intro hH (And.intro o7 (And.intro z7 (And.intro a7 (And.intro s7 (And.intro hrb (And.intro hHe (And.intro hW3 hw7))))))))
    clear hAl hH o7 z7 a7 s7 hw7 hHe hrow hrb c8 s5 s6 o6 z6
    obtain ⟨L, hL⟩ : ∃ L, L = nodeHead n ++ ats n.places ++ high t.size 1 := ⟨_, rfl⟩
    rw [← hL] at H7
    have hLl : L.length ≤ 21 := by rw [hL, List.length_append, high_length]; have := HS.out.2.2.2; omega
    have hL0 : 0 < L.length := by rw [hL, List.length_append, high_length]; omega
    have HL := Lib.hid hL
    clear hL
    refine wp_region_F [8, 9] (S := fun w' => w'.cell? ⟨W, 0, none⟩ = some V5 ∧ w'.cell? ⟨G, 8, none⟩ = some (.string t) ∧ True) (by kernel_rfl) (And.intro q0 (And.intro q8 trivial)) (fun hHeld => ?_)
    show wpAnyF _ _ _ _ _ _ 10 #[false, false, false, false, false, false, false, false, false, false] _ _
    refine gP 0 ?_; try simp only [Act.put, qs]
    refine gP 1 ?_; try simp only [Act.put, qs]
    refine gF 2 [2, 3, 4, 5, 8, 9] ?_; try simp only [Act.put, qs]
    refine gF 3 [3, 4, 5, 8, 9] ?_; try simp only [Act.put, qs]
    refine gF 4 [4, 5, 8, 9] ?_; try simp only [Act.put, qs]
    refine gF 5 [5, 8, 9] ?_; try simp only [Act.put, qs]
    refine gF 6 [6, 7, 8, 9] ?_; try simp only [Act.put, qs]
    refine gF 7 [7, 8, 9] ?_; try simp only [Act.put, qs]
    refine gV 8 fun K hK => ?_
    refine step_appS (by rfl) (.tmp 57) (.tmp 59) (by rfl) (base := w3.heap.size) (by rfl) H7.out.2.2.2.2.2.1 t (by rfl) hL0 (L ++ t.data.toList).length (by simp) (by simp; omega) (by rw [H7.out.2.2.2.2.2.2.2.2]; exact Nat.le_trans hW3 (by show _ ≤ (x5.alloc _).heap.size; rw [size_alloc]; omega)) ?_; intro g6 cap6 w6 hr6 gr6 b6; have hH6 : BlkAt w6 H (Blk.of kind []) := (grown_keeps gr6).obj H7.out.1 (fun e => by obtain ⟨_, c, hc⟩ := BRow.ownObj H7.out.2.2.2.2.2.1 e; exact ne_of_obj H7.out.1 hc (by decide) rfl)
    refine hK.out _ _ (trivial) (fun hN => ?_); replace hHeld := hN; clear hK K hN
    try simp only [Act.put, qs]
    refine gV 9 fun K hK => ?_
    refine step_copyBlk rfl _ _ rfl rfl rfl hH6 (BRow.bytesAt hr6).1 (over_of kind _) ?_
    refine hK.out _ _ (trivial) (fun hN => ?_); replace hHeld := hN; clear hK K hN
    try simp only [Act.put, qs]
    refine wpAnyF_done (by kernel_rfl) ?_ _
    have hGW : G + 1 < w3.heap.size := block_lt HA.out.2.1
    have hHge : w3.heap.size ≤ H := by have := H7.out.2.2.2.2.2.2.1; omega
    have hH8 := hH6.setRow (Blk.of kind (L ++ t.data.toList))
    have z6 : BlkAt w6 (G + 1) Blk.zero := BlkAt.below (w := w7.drew) H7.out.2.2.1 b6 hGW
    have z8 : BlkAt (w6.setRow H (Blk.of kind (L ++ t.data.toList)).cells) (G + 1) Blk.zero := by
     unfold BlkAt; rw [setRow_other _ _ _ _ (by omega)]; exact z6
    have hK7 : Below w.heap.size w w7 := HA.out.2.2.1.trans (H7.out.2.2.2.2.1.below HA.out.2.2.1.size (fun q hq => by
     rcases hq with rfl | hq
     · have := HA.out.2.2.2.2.1; have := HA.out.2.2.2.2.2.2; have := H1.out.1.size; omega
     · cases hq))
    have hK8 : Below w.heap.size w (w6.setRow H (Blk.of kind (L ++ t.data.toList)).cells) := (hK7.drew.trans (b6.mono HA.out.2.2.1.size)).setRow (Nat.le_trans HA.out.2.2.1.size hHge) _
    obtain ⟨w8, hw8⟩ : ∃ w8, w8 = w6.setRow H (Blk.of kind (L ++ t.data.toList)).cells := ⟨_, rfl⟩
    rw [← hw8] at hH8 z8 hK8 ⊢
    have h8 := hH8.has
    have r8 := hH8.row
    have g8 := z8.has
    have H8 := Lib.hid (And.intro z8 hK8)
    clear hw8 hH8 z8 hK8 hK7 z6 hHge hGW hr6 gr6 b6 hH6 hHeld q0 q8
    go_wp2_with fail
    refine bodyPost_ret (results_two rfl (resOne_blk rfl (BlkAt.setRow H8.out.1 (Blk.of kind (L ++ t.data.toList))).row) (resOne_tmp _ _ _)) rfl ?_
    exact ⟨by rw [nodeBytes_places, ← HS.out.2.2.1, ← HL.out]; rfl, H8.out.2.setRow (by rw [HG.out.1]; exact Nat.le_succ _) _⟩
theorem nPut_any (kind : Int) : nPutSays kind := fun n w hn => by
 cases hm : mayNode kind n with
 | true =>
   have hp : putNode kind n = (Blk.of kind (nodeBytes n), true) := by unfold putNode; rw [hm]; rfl
   rw [hp]; exact nPut_ok kind n w hn hm
 | false =>
   have hp : putNode kind n = (Blk.zero, false) := by unfold putNode; rw [hm]; rfl
   rw [hp]; exact nPut_no kind n w hn hm
theorem nTake_all (b : Blk) (w : World) : Calls Tryz.prog 143 #[.agg b.cells] w fun e w' => e = .returned (.tuple #[.agg (takeNode b).1.cells, .bool (takeNode b).2]) ∧ Below w.heap.size w w' := nTake_any b w (nPut_any b.kind)
end
section
open Go.RowKit Go.ChangeMaps
structure MapZ (w : World) (m : Nat) (L : ML) : Prop where
 ex : ∃ es clock, objAt w m = some (.map es clock) ∧ es.toList.map (fun e => (e.key, e.val)) = L.map (fun p => (Value.int .i64 p.1, p.2)) ∧ MapKept.Stamped es clock
 small : L.length ≤ 1000000
theorem MapZ.obj {w w' : World} {m : Nat} {L : ML} (h : MapZ w m L) (e : objAt w' m = objAt w m) : MapZ w' m L := by
 obtain ⟨es, clock, h1, h2⟩ := h.ex
 exact ⟨⟨es, clock, e.trans h1, h2⟩, h.small⟩
theorem MapZ.lt {w : World} {m : Nat} {L : ML} (h : MapZ w m L) : m < w.heap.size := by
 obtain ⟨es, clock, h1, _⟩ := h.ex
 exact block_lt h1
theorem MapZ.below {w w' : World} {m : Nat} {L : ML} (h : MapZ w m L) (hb : Below w.heap.size w w') : MapZ w' m L := h.obj (hb.block m h.lt)
theorem MapZ.keeps {w w' : World} {m : Nat} {L : ML} {T : Nat → Prop} (h : MapZ w m L) (hk : Keeps T w w') (hT : ¬ T m) : MapZ w' m L := h.obj (hk.block m h.lt hT)
theorem MapZ.made (w : World) : MapZ (w.alloc (.map #[] 0)) w.heap.size [] :=
 ⟨⟨#[], 0, by rw [objAt_alloc, if_pos rfl], rfl, by simp [MapKept.Stamped]⟩, by simp⟩
section
variable {P : Program}
theorem run_lookupZ {w : World} {t kt et m : Nat} {L : ML} (h : MapZ w m L) (ht : P.underlying t = some (.map kt et)) (hk : P.underlying kt = some (.int .i64)) {z : Value} (hz : (zeroValue et).run P w = .ok z w) (k : Int) (ok : Bool) :
 (Instr.lookup t (.map (some m)) (.int .i64 k) ok).run P w = .ok (if ok then .tuple #[(lk L k).getD z, .bool (lk L k).isSome] else (lk L k).getD z) w := by
 obtain ⟨es, clock, h1, h2, h3⟩ := h.ex
 have hc : ∀ b, (Instr.checkKey b 10000 kt (.int .i64 k)).run P w = .ok () w := fun b => MapKept.run_checkKey (k := .int .i64 k) hk (by simp [MapKept.IsKey]) b 9999
 have hf := MapKept.run_findKey (w := w) hk (findNow_int k L es.toList 0 h2)
 have hg := MapKept.run_getObj_map (P := P) (objAt_heap h1)
 cases hi : L.findIdx? (fun p => p.1 == k) with
 | none =>
   have hl : lk L k = none := by
    rw [lk_none]
    intro hm
    rw [List.findIdx?_eq_none_iff] at hi
    obtain ⟨p, hp, e⟩ := List.mem_map.1 hm
    have := hi p hp
    rw [e] at this; simp at this
   rw [hi] at hf
   simp [Instr.lookup, run_underlying ht, hg, hc, hf, hz, hl, Result.andThen]
 | some j =>
   obtain ⟨hj, e1, hl⟩ := idx_spec hi
   rw [hi] at hf
   simp only [Option.bind_some, List.getElem?_eq_getElem hj, Option.map_some] at hf
   simp [Instr.lookup, run_underlying ht, hg, hc, hf, hl, Result.andThen]
theorem MapZ.set {w : World} {m : Nat} {L : ML} (h : MapZ w m L) (L' : ML) (es' : Array MapEntry) (clock' : Nat) (h2 : es'.toList.map (fun e => (e.key, e.val)) = L'.map (fun p => (Value.int .i64 p.1, p.2))) (h3 : MapKept.Stamped es' clock') (hs : L'.length ≤ 1000000) :
 MapZ (setBlock w m (.map es' clock')) m L' ∧ Keeps (fun g => g = m) w (setBlock w m (.map es' clock')) := by
 obtain ⟨es, clock, h1, _⟩ := h.ex
 refine ⟨⟨⟨es', clock', heap_setBlock_same (objAt_heap h1) _, h2, h3⟩, hs⟩, rfl, rfl, rfl, by simp [setBlock], fun k hk hn => heap_setBlock_other (objAt_heap h1) _ hn⟩
theorem run_updateZ {w : World} {t kt et m : Nat} {L : ML} (h : MapZ w m L) (ht : P.underlying t = some (.map kt et)) (hk : P.underlying kt = some (.int .i64)) (k : Int) (v : Value) (hl : L.length < 1000000) :
 ∃ w', (Instr.mapUpdate t (.map (some m)) (.int .i64 k) v).run P w = .ok () w' ∧ MapZ w' m (up L k v) ∧ Keeps (fun g => g = m) w w' := by
 obtain ⟨es, clock, h1, h2, h3⟩ := h.ex
 have hc : ∀ b, (Instr.checkKey b 10000 kt (.int .i64 k)).run P w = .ok () w := fun b => MapKept.run_checkKey (k := .int .i64 k) hk (by simp [MapKept.IsKey]) b 9999
 have hf := MapKept.run_findKey (w := w) hk (findNow_int k L es.toList 0 h2)
 have hg := MapKept.run_getObj_map (P := P) (objAt_heap h1)
 have hlen := (up_length (L := L) (k := k) v).1
 cases hi : L.findIdx? (fun p => p.1 == k) with
 | none =>
   have hnk : k ∉ keysL L := by
    intro hm
    rw [List.findIdx?_eq_none_iff] at hi
    obtain ⟨p, hp, e⟩ := List.mem_map.1 hm
    have := hi p hp
    rw [e] at this; simp at this
   rw [hi] at hf
   have hup := up_none hnk v
   have hs := MapZ.set h (up L k v) (es.push { key := .int .i64 k, val := v, born := clock }) (clock + 1) (by rw [hup]; simp [h2]) ⟨?_, ?_, ?_⟩ (by omega)
   · refine ⟨_, ?_, hs⟩
     simp [Instr.mapUpdate, run_underlying ht, hg, hc, hf, MapKept.run_setObj_map _ (objAt_heap h1), Result.andThen, setBlock]
   · intro x hx
     simp only [Array.toList_push, List.mem_append, List.mem_singleton] at hx
     rcases hx with hx | rfl
     · have := h3.1 x hx; omega
     · show clock < clock + 1; omega
   · simp only [Array.toList_push, List.map_append, List.map_cons, List.map_nil]
     rw [List.nodup_append]
     refine ⟨h3.2.1, by simp, fun a ha b hb e => ?_⟩
     simp only [List.mem_singleton] at hb
     obtain ⟨x, hx, rfl⟩ := List.mem_map.1 ha
     have := h3.1 x hx
     omega
   · simp only [Array.toList_push, List.map_append, List.map_cons, List.map_nil]
     rw [List.nodup_append]
     refine ⟨h3.2.2, by simp, fun a ha b hb e => ?_⟩
     simp only [List.mem_singleton] at hb
     subst hb; subst e
     have e2 : es.toList.map (·.key) = (keysL L).map (Value.int .i64) := by
      have := congrArg (List.map Prod.fst) h2
      simpa [keysL, Function.comp_def] using this
     rw [e2] at ha
     obtain ⟨x, hx, e3⟩ := List.mem_map.1 ha
     simp only [Value.int.injEq, true_and] at e3
     subst e3
     exact hnk hx
 | some j =>
   obtain ⟨hj, e1, hlk⟩ := idx_spec hi
   have hup := up_some hi v
   rw [hi] at hf
   simp only [Option.bind_some, List.getElem?_eq_getElem hj, Option.map_some, Nat.zero_add] at hf
   have hjs : j < es.toList.length := by have := congrArg List.length h2; simp only [List.length_map] at this; omega
   have hkey : es.toList[j].key = .int .i64 k := by
    have := congrArg (fun l => l[j]?) h2
    simp only [List.getElem?_map, List.getElem?_eq_getElem hjs, List.getElem?_eq_getElem hj, Option.map_some, Option.some.injEq, Prod.mk.injEq] at this
    rw [this.1, e1]
   have hjs' : j < es.size := by simpa using hjs
   have hkey' : es[j].key = .int .i64 k := by simpa using hkey
   have hmod : (es.modify j fun e => { e with key := .int .i64 k, val := v }).toList = es.toList.set j { es.toList[j] with key := .int .i64 k, val := v } := by
    apply List.ext_getElem
    · simp
    · intro i h5 h6
      simp only [Array.getElem_toList, Array.getElem_modify, List.getElem_set]
      by_cases e : j = i
      · subst e; simp
      · simp [e]
   have hs := MapZ.set h (up L k v) (es.modify j fun e => { e with key := .int .i64 k, val := v }) clock (by
    rw [hup, hmod, List.map_set, List.map_set, h2]) ⟨?_, ?_, ?_⟩ (by omega)
   · refine ⟨_, ?_, hs⟩
     have hst : (Instr.keyThatStays (.int .i64 k) (.int .i64 k)).run P w = .ok (.int .i64 k) w := by simp [Instr.keyThatStays, Instr.sameBits]
     simp [Instr.mapUpdate, run_underlying ht, hg, hc, hf, hjs', hkey', hst, MapKept.run_setObj_map _ (objAt_heap h1), Result.andThen, setBlock]
   · intro x hx
     rw [hmod] at hx
     rcases List.mem_or_eq_of_mem_set hx with hx | rfl
     · exact h3.1 x hx
     · exact h3.1 es.toList[j] (List.getElem_mem hjs)
   · rw [hmod, List.map_set]
     have : (es.toList.map (·.born)).set j es.toList[j].born = es.toList.map (·.born) := by
      apply List.ext_getElem
      · simp
      · intro i h5 h6
        rw [List.getElem_set]
        split
        · rename_i e; subst e; simp
        · rfl
     show ((es.toList.map (·.born)).set j es.toList[j].born).Nodup
     rw [this]; exact h3.2.1
   · rw [hmod, List.map_set]
     have : (es.toList.map (·.key)).set j (.int .i64 k) = es.toList.map (·.key) := by
      apply List.ext_getElem
      · simp
      · intro i h5 h6
        rw [List.getElem_set]
        split
        · rename_i e; subst e; rw [List.getElem_map]; exact hkey.symm
        · rfl
     rw [this]; exact h3.2.2
end
section
variable {P : Program} {ops : Array Oper} {o : Oper} {a b0 : Act} {w : World} {K : Act → World → Prop} {Q : Exit → Act → World → Prop} {rest : List Oper} {F : Prop}
theorem wp_updateZ (t kt et : TypeId) (x y u : Operand) (ho : o.op = .mapUpdate t x y u) {m : Nat} {L : ML} (h : MapZ w m L) (ht : P.underlying t = some (.map kt et)) (hk : P.underlying kt = some (.int .i64)) (hx : a.eval x = .map (some m)) {k : Int} (hy : a.eval y = .int .i64 k)
 {v : Value} (hu : a.eval u = v) (hl : L.length < 1000000) (hK : ∀ w', MapZ w' m (up L k v) → Keeps (fun g => g = m) w w' → K (a.put o.dst undef) w') : o.wp P a w K Q := by
 obtain ⟨w', hr, h2, h3⟩ := run_updateZ h ht hk k v hl
 unfold Oper.wp execOp
 simp only [ho, hx, hy, hu, Sem.run_bind]
 rw [hr]
 exact hK w' h2 h3
theorem list_updateZ (hgd : o.guard = none) (t kt et : TypeId) (x y u : Operand) (ho : o.op = .mapUpdate t x y u) {m : Nat} {L : ML} (h : MapZ w m L) (ht : P.underlying t = some (.map kt et)) (hk : P.underlying kt = some (.int .i64)) (hx : a.eval x = .map (some m)) {k : Int} (hy : a.eval y = .int .i64 k)
 {v : Value} (hu : a.eval u = v) (hl : L.length < 1000000) (hK : ∀ w', MapZ w' m (up L k v) → Keeps (fun g => g = m) w w' → wpList P ops Q rest (a.put o.dst undef) w') : wpList P ops Q (o :: rest) a w :=
 wpList_plain hgd fun _ h' => wp_updateZ t kt et x y u ho h ht hk hx hy hu hl fun w' h2 h3 => h' _ _ (hK w' h2 h3)
end
end
section
open Go.RowKit
attribute [local irreducible] Calls

theorem high_two (x : Nat) : high x 2 = [UInt8.ofNat (x / 256 % 256), UInt8.ofNat (x % 256)] := by
 show [UInt8.ofNat (x / 256 ^ 1 % 256), UInt8.ofNat (x / 256 ^ 0 % 256)] = _
 rw [Nat.pow_zero, Nat.div_one, Nat.pow_one]
theorem Blk.of_app (kind : Int) (l : List UInt8) (c : UInt8) (h : l.length < 56) : (Blk.of kind l).setB l.length c = Blk.of kind (l ++ [c]) := by
 have := Blk.of_step kind (l ++ [c]) l.length (by simp) h
 simp only [List.take_left', List.getElem_concat_length] at this
 rw [this, List.take_of_length_le (by simp)]
theorem high_byte (m : Nat) (c : UInt8) (h : m = c.toNat) : high m 2 = [0] ++ [c] := by
 subst h
 have := c.toNat_lt
 have e1 : UInt8.ofNat (c.toNat / 256 % 256) = 0 := UInt8.toNat_inj.1 (by rw [UInt8.toNat_ofNat', show c.toNat / 256 % 256 = 0 by omega]; rfl)
 have e2 : UInt8.ofNat (c.toNat % 256) = c := UInt8.toNat_inj.1 (by rw [UInt8.toNat_ofNat']; omega)
 rw [high_two, e1, e2]; rfl
theorem of_app' (A : List UInt8) (c : UInt8) (p : Nat) (h : A.length = p) (hp : p < 56) : (Blk.of 5 A).setB p c = Blk.of 5 (A ++ [c]) := by
 subst h; exact Blk.of_app 5 A c hp
theorem putIndex_bad {l : List Int} (k : Nat) (hk : k < l.length) (h : okNew (l.take k) (l.getD k 0) = false) : putIndex l = (Blk.zero, false) := by
 unfold putIndex
 rw [if_neg (fun e => by rw [placesOk_not k hk h] at e; exact absurd e.2 (by decide))]
theorem frame56 (A : Array Value) (h : A.size = 56) : A = #[A.getD 0 undef, A.getD 1 undef, A.getD 2 undef, A.getD 3 undef, A.getD 4 undef, A.getD 5 undef, A.getD 6 undef, A.getD 7 undef, A.getD 8 undef, A.getD 9 undef, A.getD 10 undef, A.getD 11 undef, A.getD 12 undef, A.getD 13 undef, A.getD 14 undef, A.getD 15 undef, A.getD 16 undef, A.getD 17 undef, A.getD 18 undef, A.getD 19 undef, A.getD 20 undef, A.getD 21 undef, A.getD 22 undef, A.getD 23 undef, A.getD 24 undef, A.getD 25 undef, A.getD 26 undef, A.getD 27 undef, A.getD 28 undef, A.getD 29 undef, A.getD 30 undef, A.getD 31 undef, A.getD 32 undef, A.getD 33 undef, A.getD 34 undef, A.getD 35 undef, A.getD 36 undef, A.getD 37 undef, A.getD 38 undef, A.getD 39 undef, A.getD 40 undef, A.getD 41 undef, A.getD 42 undef, A.getD 43 undef, A.getD 44 undef, A.getD 45 undef, A.getD 46 undef, A.getD 47 undef, A.getD 48 undef, A.getD 49 undef, A.getD 50 undef, A.getD 51 undef, A.getD 52 undef, A.getD 53 undef, A.getD 54 undef, A.getD 55 undef] := frame_list A 56 h
def IxJ (w : World) (G : Nat) (li : List Int) (l : Nat) (a' : Act) (w' : World) : Prop :=
 Below w.heap.size w w' ∧ BlkAt w' G Blk.zero ∧ putIndex li = (Blk.zero, false) ∧ l = 0 ∧ ∃ A : Array Value, A.size = 56 ∧ (A.getD 2 undef = .pointer (some ⟨G, 0, none⟩) ∧ True) ∧ a' = { tmps := A, defers := [] }
theorem xPut_any (a : Option Addr) (li : List Int) (cap : Nat) (w : World) (h : IntsAt w a li) (_ : li.length ≤ 1000) :
 Calls Tryz.prog 148 #[.slice a li.length cap] w fun e w' => e = .returned (.tuple #[.agg (putIndex li).1.cells, .bool (putIndex li).2]) ∧ Below w.heap.size w w' := by
 have hmm : ∀ w, (Instr.makeMap 34 none).run Tryz.prog w = .ok (.map (some w.heap.size)) (w.alloc (.map #[] 0)) := fun w => run_makeMap _ w
 have hG1 := (BlkAt.alloc_new w Blk.zero).alloc (.cells (Blk.of 5 []).cells 37)
 have hH1 := BlkAt.alloc_new (w.alloc (.cells Blk.zero.cells 37)) (Blk.of 5 [])
 have hB1 : Below w.heap.size w ((w.alloc (.cells Blk.zero.cells 37)).alloc (.cells (Blk.of 5 []).cells 37)) := grow_alloc (grow_alloc (Below.refl _ _) _) _
 obtain ⟨G, hG⟩ : ∃ G, G = w.heap.size := ⟨_, rfl⟩
 rw [size_alloc] at hH1
 rw [← hG] at hG1 hH1
 obtain ⟨w1, hw1⟩ : ∃ w1, w1 = (w.alloc (.cells Blk.zero.cells 37)).alloc (.cells (Blk.of 5 []).cells 37) := ⟨_, rfl⟩
 rw [← hw1] at hG1 hH1 hB1
 have hM0 := MapZ.made w1
 have hB2 : Below w1.heap.size w1 (w1.alloc (.map #[] 0)) := grow_alloc (Below.refl _ _) _
 have hs1 : w1.heap.size = G + 2 := by rw [hw1, size_alloc, size_alloc, hG]
 obtain ⟨w2, hw2⟩ : ∃ w2, w2 = w1.alloc (.map #[] 0) := ⟨_, rfl⟩
 rw [← hw2, hs1] at hM0
 rw [← hw2] at hB2
 have hI2 := h.below (hB1.trans (hB2.mono hB1.size))
 have HW := Lib.hid (And.intro hG (And.intro hw1 (And.intro hw2 hs1)))
 have H2 := Lib.hid (And.intro (hG1.below hB2 (block_lt hG1)) (And.intro (hH1.below hB2 (block_lt hH1)) (And.intro hM0 (And.intro (hB1.trans (hB2.mono hB1.size)) hI2))))
 have HI := Lib.hid h
 clear hG1 hH1 hB1 hM0 hB2 hI2 hG hw1 hw2 hs1 h
 go_enter Tryz.func148, Tryz.ntmps148
 go_wp2_with fail
 refine wp_scope_labels (IxJ w G li) (fun l _ _ => l) ?_ ?_ ?_
 · rintro l a w' ⟨_, _, _, rfl, _⟩; exact ⟨_, rfl⟩
 · rintro l rest a w' ⟨hb, hz, hp, rfl, ⟨A, hA, ⟨hA2, _⟩, rfl⟩⟩ hrest
   obtain rfl := (Code.seq.inj (Option.some.inj hrest)).2
   rw [frame56 A hA, hA2]
   clear hrest hmm
   have hh := hz.has
   have HZ := Lib.hid (And.intro hb (And.intro hz hp))
   clear hb hz hp
   go_wp2_with fail
   rw [jumps_ret]
   refine bodyPost_ret (results_two rfl (resOne_blk rfl (BlkAt.setRow HZ.out.2.1 Blk.zero).row) (resOne_tmp _ _ _)) rfl ?_
   exact ⟨by rw [HZ.out.2.2]; rfl, HZ.out.1.setRow (by rw [HW.out.1]; exact Nat.le_refl _) _⟩
 · intro _
   go_upto_region 2 with fail
   rw [← HW.out.2.1, ← HW.out.1]
   go_upto_region 3 with fail
   clear hmm
   rw [← HW.out.2.2.1, HW.out.2.2.2]
   by_cases h16 : li.length = 16
   · obtain ⟨b0, off, ha, hcells⟩ := HI.out
     obtain rfl := ha (by omega)
     have H16 := Lib.hid h16
     have HC := Lib.hid (And.intro hcells ha)
     clear hcells ha
     rw [h16]
     go_wp2_with fail
     go_loopw [15] (fun i wr => ∃ (k : Nat) (L : ML), k ≤ 16 ∧ i = .int .i64 k ∧ MapZ wr (G + 2) L ∧ (∀ y, y ∈ keysL L ↔ y ∈ li.take k) ∧ allTrue L ∧ L.length ≤ k ∧ okPre li k ∧ BlkAt wr (G + 1) (Blk.of 5 (ats (li.take k))) ∧ Keeps (fun q => q = G + 1 ∨ q = G + 2) w2 wr) (fun i _ => 16 - (Go.RowKit.intOf i).toNat)
     case atStart => exact ⟨0, [], by decide, rfl, H2.out.2.2.1, fun y => by simp [keysL], fun p hp => by simp at hp, Nat.le_refl _, fun j hj => by omega, H2.out.2.1, Keeps.refl _ _⟩
     case round =>
      obtain ⟨k, L, hk, rfl, hM, hL, hT, hLl, hok, hO, hK⟩ := hrel
      have hbw : Below w.heap.size w wr := H2.out.2.2.2.1.trans (hK.below H2.out.2.2.2.1.size (fun q hq => by have := HW.out.1; omega))
      have hz : BlkAt wr G Blk.zero := hK.obj H2.out.1 (by omega)
      by_cases hlt : k < 16
      · have hlti : (k : Int) < 16 := by omega
        have hkl : k < li.length := by omega
        have hcx := grow_cell hbw (HC.out.1 k hkl)
        obtain ⟨x, hx⟩ : ∃ x, x = li.getD k 0 := ⟨_, rfl⟩
        rw [← hx] at hcx
        have hlk := run_lookupZ (P := Tryz.prog) hM Tryz.underlying34 Tryz.underlying3 (zero_bool wr) x false
        simp only [Bool.false_eq_true, if_false] at hlk
        rw [allTrue_lk hT] at hlk
        have hbad : okNew (li.take k) x = false → putIndex li = (Blk.zero, false) := fun e => putIndex_bad k hkl (by rw [← hx]; exact e)
        have HX := Lib.hid (And.intro hM (And.intro hL (And.intro hT (And.intro hLl (And.intro hok (And.intro hK (And.intro hx (And.intro hkl (And.intro hbad (And.intro hbw hz))))))))))
        have HO := Lib.hid hO
        clear hM hL hT hLl hok hK hx hkl hbad hbw hz hO
        by_cases hm1 : x = -1
        · have Ho := Lib.hid (show okNew (li.take k) x = true by rw [hm1]; exact okNew_none _)
          have hm1' : (x != -1) = false := by rw [hm1]; rfl
          clear hm1
          -- STORE
          have hb := okNew_bounds Ho.out
          obtain ⟨hb0, hb1⟩ := hb
          obtain ⟨c2, hc2⟩ : ∃ c : UInt8, x + 1 = (c.toNat : Int) := ⟨UInt8.ofNat (x + 1).toNat, by rw [UInt8.toNat_ofNat']; omega⟩
          obtain ⟨m, hm⟩ : ∃ m, m = c2.toNat := ⟨_, rfl⟩
          have hmx : x + 1 = (m : Int) := by rw [hm]; exact hc2
          have hm2 : (m : Int) < 256 := by have := c2.toNat_lt; omega
          have hm0 : (0 : Int) ≤ (m : Int) := Int.natCast_nonneg _
          have v0 : wrap64 (m : Int) = (m : Int) := IntWalk.wrap64_in _ (by omega)
          have v1 : (m : Int) / 256 = 0 := by omega
          have v2 : (m : Int) % 256 = (m : Int) := by omega
          have hats : ats (li.take (k + 1)) = ats (li.take k) ++ [0] ++ [c2] := by
           rw [ats_succ HX.out.2.2.2.2.2.2.2.1, ← HX.out.2.2.2.2.2.2.1, hmx, Int.toNat_natCast, high_byte m c2 hm, List.append_assoc]
          have hal : (ats (li.take k)).length = 2 * k := by rw [ats_length, List.length_take]; have := HX.out.2.2.2.2.2.2.2.1; omega
          obtain ⟨p, hp⟩ : ∃ p, p = 2 * k := ⟨_, rfl⟩
          obtain ⟨A, hA⟩ : ∃ A, A = ats (li.take k) := ⟨_, rfl⟩
          rw [← hA] at hats hal HO
          rw [← hp] at hal
          have hpk : 2 * (k : Int) = (p : Int) := by omega
          have hp54 : p < 55 := by omega
          have hp0 : (0 : Int) ≤ (p : Int) := Int.natCast_nonneg _
          have HZ := Lib.hid (And.intro hats (And.intro hal (And.intro hb0 (And.intro hb1 hm))))
          clear hats hal hc2 hm hA hp hb0 hb1
          have hOnce : True := trivial
          go_upto_region 8 with fail
          go_wp2_with (clear hOnce; refine list_updateZ rfl 34 3 4 _ _ _ rfl HX.out.1 Tryz.underlying34 Tryz.underlying3 rfl rfl rfl (Nat.lt_of_le_of_lt HX.out.2.2.2.1 (Nat.lt_of_le_of_lt hk (by decide))) ?_; intro w4 hM4 hk4; replace hM4 : MapZ w4 (G + 2) (up L x (.bool true)) := hM4; have hO4 := HO.out.keeps hk4 (by omega); have q1 := hO4.cell p (by omega); have f1 := hO4.free (1 + p); have hO5 := hO4.setCell p 0; rw [of_app' A 0 p HZ.out.2.1 (by omega)] at hO5; have q2 := hO5.cell (p + 1) (by omega); have f2 := hO4.free (1 + (p + 1)); have q3 := hO4.cell (p + 1) (by omega); have hO6 := hO5.setCell (p + 1) c2; rw [← HZ.out.2.2.2.2] at hO6; rw [of_app' (A ++ [0]) c2 (p + 1) (by rw [List.length_append, HZ.out.2.1]; rfl) (by omega), ← HZ.out.1] at hO6; have hk6 : Keeps (fun q => q = G + 1 ∨ q = G + 2) wr ((w4.setCell ⟨G + 1, 1 + p, none⟩ (.int .u8 0)).setCell ⟨G + 1, 1 + (p + 1), none⟩ (.int .u8 m)) := ((hk4.mono fun q _ e => .inr e).trans (Keeps.setCell _ _ _ (.inl rfl))).trans (Keeps.setCell _ _ _ (.inl rfl)); have hM6 := (hM4.keeps (Keeps.setCell (S := fun q => q = G + 1) w4 ⟨G + 1, 1 + p, none⟩ (.int .u8 0) rfl) (by omega)).keeps (Keeps.setCell (S := fun q => q = G + 1) _ ⟨G + 1, 1 + (p + 1), none⟩ (.int .u8 m) rfl) (by omega); have H6 := Lib.hid (And.intro hO6 (And.intro hk6 hM6)); clear hO4 hO5 hO6 hk6 hM6 hM4 hk4; generalize ((Blk.of 5 A).body[p]'_).toNat = o1 at q1; generalize ((Blk.of 5 (A ++ [0])).body[p + 1]'_).toNat = o2 at q2; generalize ((Blk.of 5 A).body[p + 1]'_).toNat = o3 at q3)
          go_roundw
          case rel =>
           refine ⟨k + 1, _, by omega, by go_num, H6.out.2.2, fun y => ?_, allTrue_up HX.out.2.2.1 _, by have := (up_length (L := L) (k := x) (.bool true)).1; have := HX.out.2.2.2.1; omega, okPre_succ HX.out.2.2.2.2.1 (by rw [← HX.out.2.2.2.2.2.2.1]; exact Ho.out), H6.out.1, HX.out.2.2.2.2.2.1.trans H6.out.2.1⟩
           rw [keys_up, HX.out.2.1]
           have hkl := HX.out.2.2.2.2.2.2.2.1
           have he : li[k]'hkl = x := by rw [HX.out.2.2.2.2.2.2.1, List.getD_eq_getElem?_getD, List.getElem?_eq_getElem hkl]; rfl
           rw [List.take_succ_eq_append_getElem hkl, List.mem_append, List.mem_singleton, he, or_comm]
          case measure => simp [Go.RowKit.intOf]; omega
          -- ENDSTORE
        · have hm1' : (x != -1) = true := by simpa using hm1
          have hm1'' : (x == -1) = false := by simpa using hm1
          by_cases c1 : x < 1
          · have Hf := Lib.hid (HX.out.2.2.2.2.2.2.2.2.1 (by unfold okNew okAt; rw [hm1'']; simp; omega))
            clear hlk
            go_wp2_with fail
            go_step3
            exact ⟨HX.out.2.2.2.2.2.2.2.2.2.1, HX.out.2.2.2.2.2.2.2.2.2.2, Hf.out, rfl, ⟨_, rfl, ⟨rfl, trivial⟩, rfl⟩⟩
          · by_cases c2 : 200 ≤ x
            · have Hf := Lib.hid (HX.out.2.2.2.2.2.2.2.2.1 (by unfold okNew okAt; rw [hm1'']; simp; omega))
              clear hlk
              go_wp2_with fail
              go_step3
              exact ⟨HX.out.2.2.2.2.2.2.2.2.2.1, HX.out.2.2.2.2.2.2.2.2.2.2, Hf.out, rfl, ⟨_, rfl, ⟨rfl, trivial⟩, rfl⟩⟩
            · have hcon : (lk L x).isSome = (li.take k).contains x := by
               rw [keys_lk]
               have h1 := HX.out.2.1 x
               cases h : (li.take k).contains x with
               | true => simpa using h1.2 (by simpa using h)
               | false => simpa using fun h' => absurd (h1.1 h') (by simpa using h)
              have hokx : okNew (li.take k) x = !((li.take k).contains x) := by
               unfold okNew okAt; rw [hm1'']; simp; omega
              rw [hcon] at hlk
              obtain ⟨cb, hcb⟩ : ∃ cb, cb = (li.take k).contains x := ⟨_, rfl⟩
              rw [← hcb] at hlk hokx
              have Ho := Lib.hid hokx
              clear hcon hokx hcb
              cases cb with
              | true =>
                have Hf := Lib.hid (HX.out.2.2.2.2.2.2.2.2.1 Ho.out)
                go_wp2_with fail
                go_step3
                exact ⟨HX.out.2.2.2.2.2.2.2.2.2.1, HX.out.2.2.2.2.2.2.2.2.2.2, Hf.out, rfl, ⟨_, rfl, ⟨rfl, trivial⟩, rfl⟩⟩
              | false =>
                -- STORE
                have hb := okNew_bounds Ho.out
                obtain ⟨hb0, hb1⟩ := hb
                obtain ⟨c2, hc2⟩ : ∃ c : UInt8, x + 1 = (c.toNat : Int) := ⟨UInt8.ofNat (x + 1).toNat, by rw [UInt8.toNat_ofNat']; omega⟩
                obtain ⟨m, hm⟩ : ∃ m, m = c2.toNat := ⟨_, rfl⟩
                have hmx : x + 1 = (m : Int) := by rw [hm]; exact hc2
                have hm2 : (m : Int) < 256 := by have := c2.toNat_lt; omega
                have hm0 : (0 : Int) ≤ (m : Int) := Int.natCast_nonneg _
                have v0 : wrap64 (m : Int) = (m : Int) := IntWalk.wrap64_in _ (by omega)
                have v1 : (m : Int) / 256 = 0 := by omega
                have v2 : (m : Int) % 256 = (m : Int) := by omega
                have hats : ats (li.take (k + 1)) = ats (li.take k) ++ [0] ++ [c2] := by
                 rw [ats_succ HX.out.2.2.2.2.2.2.2.1, ← HX.out.2.2.2.2.2.2.1, hmx, Int.toNat_natCast, high_byte m c2 hm, List.append_assoc]
                have hal : (ats (li.take k)).length = 2 * k := by rw [ats_length, List.length_take]; have := HX.out.2.2.2.2.2.2.2.1; omega
                obtain ⟨p, hp⟩ : ∃ p, p = 2 * k := ⟨_, rfl⟩
                obtain ⟨A, hA⟩ : ∃ A, A = ats (li.take k) := ⟨_, rfl⟩
                rw [← hA] at hats hal HO
                rw [← hp] at hal
                have hpk : 2 * (k : Int) = (p : Int) := by omega
                have hp54 : p < 55 := by omega
                have hp0 : (0 : Int) ≤ (p : Int) := Int.natCast_nonneg _
                have HZ := Lib.hid (And.intro hats (And.intro hal (And.intro hb0 (And.intro hb1 hm))))
                clear hats hal hc2 hm hA hp hb0 hb1
                have hOnce : True := trivial
                go_upto_region 8 with fail
                go_wp2_with (clear hOnce; refine list_updateZ rfl 34 3 4 _ _ _ rfl HX.out.1 Tryz.underlying34 Tryz.underlying3 rfl rfl rfl (Nat.lt_of_le_of_lt HX.out.2.2.2.1 (Nat.lt_of_le_of_lt hk (by decide))) ?_; intro w4 hM4 hk4; replace hM4 : MapZ w4 (G + 2) (up L x (.bool true)) := hM4; have hO4 := HO.out.keeps hk4 (by omega); have q1 := hO4.cell p (by omega); have f1 := hO4.free (1 + p); have hO5 := hO4.setCell p 0; rw [of_app' A 0 p HZ.out.2.1 (by omega)] at hO5; have q2 := hO5.cell (p + 1) (by omega); have f2 := hO4.free (1 + (p + 1)); have q3 := hO4.cell (p + 1) (by omega); have hO6 := hO5.setCell (p + 1) c2; rw [← HZ.out.2.2.2.2] at hO6; rw [of_app' (A ++ [0]) c2 (p + 1) (by rw [List.length_append, HZ.out.2.1]; rfl) (by omega), ← HZ.out.1] at hO6; have hk6 : Keeps (fun q => q = G + 1 ∨ q = G + 2) wr ((w4.setCell ⟨G + 1, 1 + p, none⟩ (.int .u8 0)).setCell ⟨G + 1, 1 + (p + 1), none⟩ (.int .u8 m)) := ((hk4.mono fun q _ e => .inr e).trans (Keeps.setCell _ _ _ (.inl rfl))).trans (Keeps.setCell _ _ _ (.inl rfl)); have hM6 := (hM4.keeps (Keeps.setCell (S := fun q => q = G + 1) w4 ⟨G + 1, 1 + p, none⟩ (.int .u8 0) rfl) (by omega)).keeps (Keeps.setCell (S := fun q => q = G + 1) _ ⟨G + 1, 1 + (p + 1), none⟩ (.int .u8 m) rfl) (by omega); have H6 := Lib.hid (And.intro hO6 (And.intro hk6 hM6)); clear hO4 hO5 hO6 hk6 hM6 hM4 hk4; generalize ((Blk.of 5 A).body[p]'_).toNat = o1 at q1; generalize ((Blk.of 5 (A ++ [0])).body[p + 1]'_).toNat = o2 at q2; generalize ((Blk.of 5 A).body[p + 1]'_).toNat = o3 at q3)
                go_roundw
                case rel =>
                 refine ⟨k + 1, _, by omega, by go_num, H6.out.2.2, fun y => ?_, allTrue_up HX.out.2.2.1 _, by have := (up_length (L := L) (k := x) (.bool true)).1; have := HX.out.2.2.2.1; omega, okPre_succ HX.out.2.2.2.2.1 (by rw [← HX.out.2.2.2.2.2.2.1]; exact Ho.out), H6.out.1, HX.out.2.2.2.2.2.1.trans H6.out.2.1⟩
                 rw [keys_up, HX.out.2.1]
                 have hkl := HX.out.2.2.2.2.2.2.2.1
                 have he : li[k]'hkl = x := by rw [HX.out.2.2.2.2.2.2.1, List.getD_eq_getElem?_getD, List.getElem?_eq_getElem hkl]; rfl
                 rw [List.take_succ_eq_append_getElem hkl, List.mem_append, List.mem_singleton, he, or_comm]
                case measure => simp [Go.RowKit.intOf]; omega
                -- ENDSTORE
      · obtain rfl : k = 16 := by omega
        have hpl : placesOk li = true := placesOk_all (fun j hj => hok j (by omega))
        rw [List.take_of_length_le (by omega)] at hO
        have Hp := Lib.hid (show putIndex li = (Blk.of 5 (ats li), true) by unfold putIndex; rw [if_pos ⟨H16.out, hpl⟩])
        have hg := hz.has
        have hh := hO.has
        have hr := hO.row
        have HZ := Lib.hid (And.intro hz hbw)
        clear hM hL hT hLl hok hK hz hbw hO hpl
        go_wp2_with fail
        try rw [jumps_ret]
        refine bodyPost_ret (results_two rfl (resOne_blk rfl (BlkAt.setRow HZ.out.1 _).row) (resOne_tmp _ _ _)) rfl ?_
        exact ⟨by rw [Hp.out]; rfl, HZ.out.2.setRow (by rw [HW.out.1]; exact Nat.le_refl _) _⟩
   · have hp : putIndex li = (Blk.zero, false) := by unfold putIndex; rw [if_neg (fun e => h16 e.1)]
     have e16 : ((li.length : Int) != 16) = true := by
      have : ((li.length : Int) == 16) = false := by simpa using (fun e : (li.length : Int) = 16 => h16 (by omega))
      rw [bne, this]; rfl
     have Hp := Lib.hid hp
     clear hp h16
     go_wp2_with fail
     go_step3
     exact ⟨H2.out.2.2.2.1, H2.out.1, Hp.out, rfl, ⟨_, rfl, ⟨rfl, trivial⟩, rfl⟩⟩
end
end Go.Proofs.YtbbnejehglonjaaGreat
