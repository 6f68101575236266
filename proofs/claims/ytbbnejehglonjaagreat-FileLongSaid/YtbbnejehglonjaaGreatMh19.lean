/- DERIVED. Contracts and laws that the proofs of this seat share, part 19 of 36: PvG. -/
import Derived.Test.YtbbnejehglonjaaGreatMh00
import Derived.Test.YtbbnejehglonjaaGreatMh18
namespace Go.Proofs.YtbbnejehglonjaaGreat
set_option maxHeartbeats 8000000
set_option maxRecDepth 100000
set_option linter.unusedSimpArgs false
set_option linter.unusedVariables false
section
open Go.RowKit
attribute [local irreducible] Calls

theorem zero_blkV (w : World) : (zeroValue 37).run Tryz.prog w = .ok (.agg Blk.zero.cells) w := by kernel_rfl
theorem DevAt.regions {w : World} {Sd : Nat → Prop} {d : Nat} {D : Dv} {c : Nat} (h : DevAt w Sd d D c) : Calls Tryz.prog 112 #[.pointer (some ⟨d, 0, none⟩)] w fun e w' => e = .returned (.int .i64 D.regs.length) ∧ w' = w := by
 obtain ⟨hok, _, S, rl, rcap, rs, hD, _⟩ := h
 exact Regions_in hD
theorem VolO.rowSet {w : World} {v d reg : Nat} {s : Sh} {epoch seq : Nat} {used : Int} {bv : Value} {m : Nat} (h : VolO w v d reg s epoch seq used bv m) (x : Value) : VolO (w.setCell ⟨v, 11, none⟩ x) v d reg s epoch seq used x m := by
 unfold VolO at *
 rw [objAt_setCell h]; rfl
structure MtSt (w0 w : World) (Sd : Nat → Prop) (v d reg : Nat) (s : Sh) (e : Nat) (V : Value) (m m2 : Nat) (bs : List Blk) (D : Dv) (c : Nat) : Prop where
 below : Below w0.heap.size w0 w
 o : VolO w v d reg s e 0 0 V m
 row : KRow w w0.heap.size V bs
 map : MapI w m []
 map2 : MapI w m2 []
 vge : w0.heap.size ≤ v
 mge : w0.heap.size ≤ m
theorem MtSt.grow {w0 w w' : World} {Sd : Nat → Prop} {v d reg : Nat} {s : Sh} {e : Nat} {V : Value} {m m2 : Nat} {bs : List Blk} {D : Dv} {c : Nat} (h : MtSt w0 w Sd v d reg s e V m m2 bs D c) (hb : Below w.heap.size w w') : MtSt w0 w' Sd v d reg s e V m m2 bs D c :=
 ⟨h.below.trans (hb.mono h.below.size), grow_obj hb h.o, h.row.below hb, h.map.below hb, h.map2.below hb, h.vge, h.mge⟩
theorem KRow.ownObj {w : World} {B : Nat} {v : Value} {bs : List Blk} (h : KRow w B v bs) {g : Nat} (hg : v.ownBlock = some g) : B ≤ g ∧ ∃ q, objAt w g = some (.cells q 37 (0, 0)) := by
 rcases h.2 with ⟨h', _⟩ | ⟨g', cap', cur, h', hb, hg', _⟩
 · rw [h'] at hg; cases hg
 · rw [h'] at hg; obtain rfl := Option.some.inj hg; exact ⟨hb, cur, hg'⟩
theorem MapI.neCells {w : World} {m g : Nat} {L : ML} {q : Array Value} {t : TypeId} {f : Nat × Nat} (h : MapI w m L) (hg : objAt w g = some (.cells q t f)) : g ≠ m := by
 obtain ⟨es, clock, h1, _⟩ := h.ex
 intro e
 subst e
 rw [hg] at h1; cases h1
theorem MtSt.push {w0 w w' : World} {Sd : Nat → Prop} {v d reg : Nat} {s : Sh} {e : Nat} {V : Value} {m m2 g' n' cap' : Nat} {bs : List Blk} {b : Blk} {D : Dv} {c : Nat} (h : MtSt w0 w Sd v d reg s e V m m2 bs D c) (hrow : KRow w' w0.heap.size (.slice (some ⟨g', 0, none⟩) n' cap') (bs ++ [b])) (hk : Keeps (fun q => V.ownBlock = some q) w w') :
 VolO w' v d reg s e 0 0 V m ∧ MtSt w0 (w'.setCell ⟨v, 11, none⟩ (.slice (some ⟨g', 0, none⟩) n' cap')) Sd v d reg s e (.slice (some ⟨g', 0, none⟩) n' cap') m m2 (bs ++ [b]) D c := by
 have ho : VolO w' v d reg s e 0 0 V m := hk.obj h.o (fun e => by obtain ⟨_, q, hq⟩ := h.row.ownObj e; exact ne_of_obj hq h.o (by decide) rfl)
 have hK : Keeps (fun q => q = v) w' (w'.setCell ⟨v, 11, none⟩ (.slice (some ⟨g', 0, none⟩) n' cap')) := Keeps.setCell _ _ _ rfl
 have hmm : ∀ x, MapI w x [] → MapI (w'.setCell ⟨v, 11, none⟩ (.slice (some ⟨g', 0, none⟩) n' cap')) x [] := fun x hx => (hx.keeps hk (fun e => by obtain ⟨_, q, hq⟩ := h.row.ownObj e; exact hx.neCells hq rfl)).keeps hK (fun e => hx.neCells h.o e.symm)
 refine ⟨ho, (h.below.trans (hk.below h.below.size (fun q e => (h.row.ownObj e).1))).trans (hK.below (Nat.le_trans h.below.size hk.size) (fun q e => by rw [e]; exact h.vge)), ho.rowSet _, hrow.keeps hK (fun g hg e => ?_), hmm m h.map, hmm m2 h.map2, h.vge, h.mge⟩
 obtain ⟨_, q, hq⟩ := hrow.ownObj hg
 exact ne_of_obj hq ho (by decide) e

theorem Mount_new {w : World} {Sd : Nat → Prop} {d reg : Nat} {s : Sh} {D : Dv} {c e0 : Nat} {R : Reg} {hb : List Blk} (hs : s.Ok) (hd : DevAt w Sd d D c) (hc : c < 600000) (hR : D.regs[reg]? = some R) (hsz : R.seen.length = s.size) (hl0 : 0 < s.log)
 {l : List UInt8} (hl : R.seen[2]? = some l) (h10 : l[10]? = some 0) (hbeg : beginsUpto s.lb 0 R.seen 2 = (e0, true)) (he : e0 < 4294967296) (hlen : s.blocks = hb.length) (hh : ∀ a b, hb[a]? = some b → (0 ≤ b.kind ∧ b.kind ≤ 7) ∧ R.seen[2 + s.log + a]? = some (sealB s.lb a b)) :
 Calls Tryz.prog 56 #[.pointer (some ⟨d, 0, none⟩), .int .i64 reg, .agg s.cells] w fun e w' => ∃ v gb cap m S', e = .returned (.tuple #[.pointer (some ⟨v, 0, none⟩), .int .i64 0]) ∧ VolP w' S' v d reg s ((e0 + 1) % 4294967296) 0 0 gb cap m hb [] (tidiesD D reg s hb [] ((e0 + 1) % 4294967296)) (c + hb.length + 4) ∧ (∀ k, S' k → Sd k ∨ w.heap.size ≤ k) ∧ w.heap.size ≤ v ∧ w.heap.size ≤ gb ∧ w.heap.size ≤ m ∧ Keeps Sd w w' := by
 have hmd := fun w' => made_any d reg s hs 0 w'
 have hbl := hs.blocks
 obtain ⟨cs, hcs⟩ : ∃ cs : Int × Int × Nat × Nat × Int, s = ⟨cs.1, cs.2.1, cs.2.2.1, cs.2.2.2.1, cs.2.2.2.2⟩ := ⟨(s.level, s.cats, s.blocks, s.log, s.frames), rfl⟩
 obtain ⟨lv, ca, bl, lo, fr⟩ := cs
 dsimp only at hcs
 have hcells : s.cells = #[.int .i64 lv, .int .i64 ca, .int .i64 bl, .int .i64 lo, .int .i64 fr] := by rw [hcs]; rfl
 have hb0 : s.blocks = bl := by rw [hcs]
 rw [hcells] at hmd ⊢
 have Hmd := Lib.hid hmd
 have H0 := Lib.hid (And.intro hd (And.intro hR (And.intro hs (And.intro hb0 (And.intro hsz (And.intro hl0 (And.intro hl (And.intro h10 (And.intro hbeg (And.intro hlen (And.intro hh hbl)))))))))))
 rw [hb0] at hbl
 have hrg : reg < D.regs.length := (List.getElem?_eq_some_iff.1 hR).1
 have hrgi : ¬ ((D.regs.length : Int) ≤ (reg : Int)) := by omega
 have hrg0 : ¬ ((reg : Int) < 0) := by omega
 clear hmd hcells hcs hb0 hd hR hs hsz hl0 hl h10 hbeg hlen hh hrg
 go_enter Tryz.func56, Tryz.ntmps56
 go_upto_region 2 with (go_at_call 108; refine (Hmd.out _).mono ?_; rintro e w1 ⟨v, m, rfl, hV, hm, hv1, hm1, b1⟩; have q2 : w1.cell? ⟨w.heap.size, 2, none⟩ = some (.int .i64 bl) := grow_cell b1 (by simp))
 have hB1 := grow_trans (grow_alloc (Below.refl w.heap.size w) (.cells #[.int .i64 lv, .int .i64 ca, .int .i64 bl, .int .i64 lo, .int .i64 fr] 124)) b1
 have hvw : w.heap.size ≤ v := by rw [size_alloc] at hv1; omega
 have hmw : w.heap.size ≤ m := by rw [size_alloc] at hm1; omega
 have hd1 := H0.out.1.below hB1
 have hnv : ¬ Sd v := fun e => by have := H0.out.1.lt v e; omega
 have Hrg := Lib.hid hd1.regions
 have Hbg := Lib.hid (begins_any hV hnv hd1 H0.out.2.1 (by rw [H0.out.2.2.2.2.1]; unfold Sh.size; omega))
 rw [H0.out.2.2.2.2.2.2.2.2.1] at Hbg
 have H1 := Lib.hid (And.intro hB1 (And.intro hvw (And.intro hmw (And.intro hd1 (And.intro hnv (And.intro hV hm))))))
 have hX : w.heap.size ≠ v := by rw [size_alloc] at hv1; omega
 have Hq := Lib.hid (And.intro q2 hX)
 clear hB1 hvw hmw hd1 hnv hV hm hv1 hm1 b1 q2 hX
 go_upto_region 5 with (first | (go_at_call 112; refine Hrg.out.mono ?_; rintro e wx ⟨rfl, hwx⟩; obtain rfl := hwx.symm) | (go_at_call 113; refine Hbg.out.mono ?_; rintro e w2 ⟨rfl, k2, hV2⟩; have hm2 := H1.out.2.2.2.2.2.2.keeps k2 (fun e => H1.out.2.2.2.2.2.2.neCells H1.out.2.2.2.2.2.1 e.symm); have hd2 := H1.out.2.2.2.1.keeps k2 (fun g hg e => H1.out.2.2.2.2.1 (e ▸ hg)); have q3 : w2.cell? ⟨w.heap.size, 2, none⟩ = some (.int .i64 bl) := (World.cell?_of_block (k2.block _ (World.block_lt_of_cell? _ _ Hq.out.1) Hq.out.2)).trans Hq.out.1; have Hrp := Lib.hid (replays_none H0.out.2.2.1 hV2 hd2 H0.out.2.1 H0.out.2.2.2.2.1 H0.out.2.2.2.2.2.1 H0.out.2.2.2.2.2.2.1 H0.out.2.2.2.2.2.2.2.1 he (by decide)); have H2 := Lib.hid (And.intro k2 (And.intro hV2 (And.intro hm2 hd2))); clear k2 hV2 hm2 hd2) | (go_at_call 114; refine Hrp.out.mono ?_; rintro e w3 ⟨m2, rfl, hm3, hmw3, b3⟩; have q4 := grow_cell b3 q3))
 have hst3 : MtSt w w3 Sd v d reg s e0 (.slice none 0 0) m m2 [] D c :=
  ⟨(H1.out.1.trans (H2.out.1.below H1.out.1.size (fun q e => by rw [e]; exact H1.out.2.1))).trans (b3.mono (Nat.le_trans H1.out.1.size H2.out.1.size)), grow_obj b3 H2.out.2.1, World.ownsRow_nil _ _ _ 57, H2.out.2.2.1.below b3, hm3, H1.out.2.1, H1.out.2.2.1⟩
 have H3 := Lib.hid hst3
 clear hst3 hm3 hmw3 b3 q3
 go_wp2_with fail
 clear q4
 go_loopw [38] (fun i wr => ∃ (k : Nat) (V : Value), k ≤ bl ∧ i = .int .i64 k ∧ MtSt w wr Sd v d reg s e0 V m m2 (hb.take k) D c) (fun i _ => bl - (Go.RowKit.intOf i).toNat)
 case atStart => exact ⟨0, _, Nat.zero_le _, rfl, by rw [List.take_zero]; exact H3.out⟩
 case round =>
  obtain ⟨k, V, hk, rfl, hst⟩ := hrel
  by_cases hlt : k < bl
  · have hlti : (k : Int) < (bl : Int) := by omega
    have hkh : k < hb.length := by have := H0.out.2.2.2.2.2.2.2.2.2.1; have := H0.out.2.2.2.1; omega
    obtain ⟨b, hbk⟩ : ∃ b, hb[k]? = some b := ⟨_, List.getElem?_eq_getElem hkh⟩
    obtain ⟨hkind, hseal⟩ := H0.out.2.2.2.2.2.2.2.2.2.2.1 k b hbk
    have hlk := run_lookupI (P := Tryz.prog) hst.map2 Tryz.underlying132 Tryz.underlying3 (zero_blkV wr) k true
    rw [show lk [] (k : Int) = none from rfl] at hlk
    simp only [if_true, Option.getD_none, Option.isSome_none] at hlk
    have HS := Lib.hid (And.intro hst (And.intro hbk (And.intro hkind hseal)))
    have hB4 : Below wr.heap.size wr (wr.alloc (.cells Blk.zero.cells 37)) := grow_alloc (Below.refl _ _) _
    have hst4 := hst.grow hB4
    have Hrd := Lib.hid (read_any H0.out.2.2.1 hst4.o (H0.out.1.below hst4.below) H0.out.2.1 k (by rw [H0.out.2.2.2.1]; exact hlt) b hkind hseal)
    have hbz := BlkAt.alloc_new wr Blk.zero
    obtain ⟨G, hG⟩ : ∃ G, G = wr.heap.size := ⟨_, rfl⟩
    obtain ⟨w4, hw4⟩ : ∃ w4, w4 = wr.alloc (.cells Blk.zero.cells 37) := ⟨_, rfl⟩
    rw [← hw4] at hst4 Hrd hbz
    rw [← hG] at hbz
    have H4 := Lib.hid (And.intro hst4 (And.intro hbz (And.intro hG hw4)))
    have hVG : ∀ g, V.ownBlock = some g → g ≠ G := fun g hg e => by obtain ⟨_, q, hq⟩ := hst.row.ownObj hg; have := block_lt hq; omega
    have HVG := Lib.hid hVG
    clear hst hbk hkind hseal hst4 hB4 hbz hG hw4 hVG
    go_upto_region 11 with fail
    rw [← H4.out.2.2.2, ← H4.out.2.2.1]
    go_upto_region 14 with (go_at_call 115; refine Hrd.out.mono ?_; rintro e w5 ⟨rfl, b5⟩; have hb5 := H4.out.2.1.below b5 (block_lt H4.out.2.1); have hbk5 := hb5.has; have H5 := Lib.hid (And.intro hb5 b5); clear hb5 b5)
    have hb6 := BlkAt.setRow H5.out.1 b
    have hk6 : Keeps (fun q => q = G) w5 (w5.setRow G b.cells) := ⟨rfl, rfl, rfl, by simp [World.setRow], fun q hq hn => by simp only [World.setRow, Array.getElem?_modify]; rw [if_neg (fun e => hn e.symm)]⟩
    have hst5 := H4.out.1.grow H5.out.2
    obtain ⟨w6, hw6⟩ : ∃ w6, w6 = w5.setRow G b.cells := ⟨_, rfl⟩
    rw [← hw6] at hb6 hk6 ⊢
    have hGw : w.heap.size ≤ G := by rw [H4.out.2.2.1]; exact HS.out.1.below.size
    have hst6 : MtSt w w6 Sd v d reg s e0 V m m2 (hb.take k) D c :=
     ⟨hst5.below.trans (hk6.below hst5.below.size (fun q e => by rw [e]; exact hGw)), hk6.obj hst5.o (fun e => ne_of_obj hst5.o H5.out.1 (by decide) e), hst5.row.keeps hk6 (fun g hg e => HVG.out g hg e), hst5.map.keeps hk6 (fun e => hst5.map.neCells H5.out.1 e.symm), hst5.map2.keeps hk6 (fun e => hst5.map2.neCells H5.out.1 e.symm), hst5.vge, hst5.mge⟩
    have c11 := VolO.c11 hst6.o
    have hbk := hb6.has
    have hrk := hb6.row
    have H6 := Lib.hid (And.intro hst6 hb6)
    have hkl : (hb.take k).length < 1000000 := by rw [List.length_take]; omega
    clear hw6 hk6 hst5 hst6 hb6 hbk5 hlk hGw
    refine wp_region_F [10] (S := fun w' => w'.cell? ⟨v, 11, none⟩ = some V ∧ hasBlk w' G = true ∧ rowAt w' G = some b.cells ∧ True) (by kernel_rfl) (⟨c11, hbk, hrk, trivial⟩) (fun hHeld => ?_)
    show wpAnyF _ _ _ _ _ _ 11 #[false, false, false, false, false, false, false, false, false, false, false] _ _
    refine gF 0 [0, 8, 9, 10] ?_; try simp only [Act.put, qs]
    refine gF 1 [1, 2, 3, 4, 7, 8, 9, 10] ?_; try simp only [Act.put, qs]
    refine gF 2 [2, 3, 4, 7, 8, 9, 10] ?_; try simp only [Act.put, qs]
    refine gF 3 [3, 4, 7, 8, 9, 10] ?_; try simp only [Act.put, qs]
    refine gF 4 [4, 7, 8, 9, 10] ?_; try simp only [Act.put, qs]
    refine gF 5 [5, 6, 7, 8, 9, 10] ?_; try simp only [Act.put, qs]
    refine gW 6 fun K hK => ?_
    refine step_lit1 elemBlkK rfl _ rfl rfl (Blk.size_cells _) (by decide) ?_; intro x6 hx6; have hB6 : Below w6.heap.size w6 x6 := (Below.refl _ w6).drew.trans (below_alloc hx6); have ho6 : BlkAt x6 w6.heap.size b := obj_alloc (w := w6.drew) hx6; have HX6 := Lib.hid (And.intro (H6.out.1.grow hB6) (And.intro ho6 (And.intro (H6.out.2.below hB6 (block_lt H6.out.2)) hB6))); clear hx6 ho6 hB6
    refine hK.out _ _ (by exact ⟨VolO.c11 HX6.out.1.o, HX6.out.2.2.1.has, HX6.out.2.2.1.row, trivial⟩) (fun hN => ?_); replace hHeld := hN; clear hK K hN
    try simp only [Act.put, qs]
    refine gW 7 fun K hK => ?_
    refine step_appK rfl _ _ rfl rfl HX6.out.1.row rfl HX6.out.2.1 hkl HX6.out.1.below.size ?_; intro g7 cap7 x7 hr7 hk7 ho7 hl7; obtain ⟨hv7, hst7⟩ := HX6.out.1.push hr7 hk7; have d11 := VolO.c11 hv7; have e11 := VolO.free hv7 11; have hb7 : BlkAt x7 G b := HX6.out.2.2.1.keeps hk7 (fun e => HVG.out G e rfl); have HX7 := Lib.hid hst7; clear hr7 hk7 ho7 hl7 hv7 hst7
    refine hK.out _ _ (by exact ⟨d11, hb7.has, hb7.row, trivial⟩) (fun hN => ?_); replace hHeld := hN; clear hK K hN
    try simp only [Act.put, qs]
    refine gF 8 [8, 9, 10] ?_; try simp only [Act.put, qs]
    refine gF 9 [9, 10] ?_; try simp only [Act.put, qs]
    refine gV 10 fun K hK => ?_
    try simp only [qs]
    go_simp
    refine hK.out _ _ (trivial) (fun hN => ?_); replace hHeld := hN; clear hK K hN
    try simp only [qs]
    refine wpAnyF_done (by kernel_rfl) ?_ _
    go_wp2_with fail
    go_roundw
    case rel => exact ⟨k + 1, _, by omega, by go_num, by have h9 := HX7.out; rw [List.length_take] at h9; rw [List.take_succ_eq_append_getElem hkh, (List.getElem?_eq_some_iff.1 HS.out.2.1).2]; exact h9⟩
    case measure => simp [Go.RowKit.intOf]; omega
  · obtain rfl : k = bl := by omega
    have hn : ¬ ((k : Int) < (k : Int)) := by omega
    have hkh : k = hb.length := by have := H0.out.2.2.2.2.2.2.2.2.2.1; have := H0.out.2.2.2.1; omega
    rw [hkh, List.take_length] at hst
    obtain ⟨gb, cap, rfl, hgb, _⟩ := hst.row.form (by rw [← hkh, ← H0.out.2.2.2.1]; exact H0.out.2.2.1.pos)
    have hdr := H0.out.1.below hst.below
    have hlt : ∀ q, w.heap.size ≤ q → ¬ Sd q := fun q hq e => by have := H0.out.1.lt q e; omega
    have hV : VolP wr Sd v d reg s e0 0 0 gb cap m hb [] D c :=
     { sok := H0.out.2.2.1, slen := H0.out.2.2.2.2.2.2.2.2.2.1, o := hst.o, e32 := he, q32 := by decide, ub := ⟨Int.le_refl _, Int.natCast_nonneg _⟩, dev := hdr, has := ⟨R, H0.out.2.1, H0.out.2.2.2.2.1⟩, nv := hlt v hst.vge, nm := hlt m hst.mge, nb := hlt gb hgb, row := hst.row.mono (Nat.zero_le _), map := hst.map, keys := fun k hk => by simp [keysL] at hk,
       kinds := fun b hb' => by obtain ⟨a, ha⟩ := List.getElem?_of_mem hb'; exact (H0.out.2.2.2.2.2.2.2.2.2.2.1 a b ha).1 }
    have Ht := Lib.hid (tidies_any hV (by omega))
    have H7 := Lib.hid (And.intro hst hgb)
    clear hst hgb hdr hlt hV
    go_wp2_with (go_at_call 116; refine Ht.out.mono ?_; rintro e w8 ⟨rfl, hk8, hV8⟩)
    refine bodyPost_ret (results_two rfl (resOne_tmp _ _ _) (resOne_tmp _ _ _)) rfl ?_
    have hsk : sortedKeys [] = [] := by unfold sortedKeys keysL; simp
    rw [hsk] at hV8
    refine ⟨v, gb, cap, m, grownS Sd wr w8, rfl, hV8, fun q hq => hq.2.imp id (Nat.le_trans H7.out.1.below.size), H7.out.1.vge, H7.out.2, H7.out.1.mge, ?_⟩
    exact (Keeps.of_below H7.out.1.below).chain hk8 (fun q hq e => by
     rcases e with e | rfl | rfl
     · exact e
     · have := H7.out.1.vge; omega
     · have := H7.out.1.mge; omega)
end
end Go.Proofs.YtbbnejehglonjaaGreat
