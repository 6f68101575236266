/- DERIVED. Contracts and laws that the proofs of this seat share, part 34 of 36: FiR ShI FiS. -/
import Derived.Lib.ConvBytes
import Derived.Lib.SlBytesConst
import Derived.Test.YtbbnejehglonjaaGreatMf00
import Derived.Test.YtbbnejehglonjaaGreatMf04
import Derived.Test.YtbbnejehglonjaaGreatMf05
import Derived.Test.YtbbnejehglonjaaGreatMf06
import Derived.Test.YtbbnejehglonjaaGreatMf07
import Derived.Test.YtbbnejehglonjaaGreatMf14
import Derived.Test.YtbbnejehglonjaaGreatMf16
import Derived.Test.YtbbnejehglonjaaGreatMf25
import Derived.Test.YtbbnejehglonjaaGreatMf32
import Derived.Test.YtbbnejehglonjaaGreatMf33
namespace Go.Proofs.YtbbnejehglonjaaGreat
set_option maxHeartbeats 8000000
set_option maxRecDepth 100000
set_option linter.unusedSimpArgs false
set_option linter.unusedVariables false
section
open Go.RowKit
attribute [local irreducible] Calls

theorem step_wantedB {P : Program} {ops : Array Oper} {o : Oper} {a b0 : Act} {w : World} {K : Act → World → Prop} {Q : Exit → Act → World → Prop} {F : Prop} (hw : Region.wanted o (yielded ops b0.tmps) = true) (hK : o.wp P a w K Q) : if Region.wanted o (yielded ops b0.tmps) = true then Oper.wp P o a w K Q else F := by
 rw [if_pos hw]; exact hK
theorem WRow.one {w : World} {g : Nat} {S : Nat → Prop} (x : Wr) (h : objAt w g = some (.cells x.cells 52 (0, 0))) (hS : S g) : WRow w S (.slice (some ⟨g, 0, none⟩) 1 1) [x] := by
 have hl : x.cells.toList.length = 58 := by rw [Array.length_toList, Wr.size_cells]
 refine ⟨⟨[x.cells.toList], ⟨by simp [hl], .inr ⟨g, 1, x.cells, rfl, Nat.zero_le _, h, Nat.le_refl _, by decide, by rw [Wr.size_cells], ?_⟩⟩, rfl, fun c hc => by rw [List.mem_singleton] at hc; rw [hc, hl], fun i a c ha hc => ?_⟩, fun q hq => by cases hq; exact hS⟩
 · rw [List.flatten_singleton, List.take_of_length_le (by rw [hl]; show 58 ≤ 1 * 58; decide)]
 · cases i with
   | zero =>
     simp only [List.getElem?_cons_zero, Option.some.injEq] at ha hc
     subst ha hc; rfl
   | succ i => simp at ha
theorem mayRec_one {a : Nat} {b : Blk} (ha : a < 200) (hb : 0 ≤ b.kind ∧ b.kind ≤ 7) : mayRec [⟨(a : Int), b⟩] = true := by
 unfold mayRec
 have : wrsOk [⟨(a : Int), b⟩] = true := wrsOk_iff.2 fun i x hx => by
  cases i with
  | zero =>
    simp only [List.getElem?_cons_zero, Option.some.injEq] at hx
    subst hx
    exact ⟨wrOk_iff.2 ⟨hb.1, hb.2, by show (0 : Int) ≤ (a : Int); omega, by show (a : Int) < 200; omega⟩, by simp [freshWr]⟩
  | succ i => simp at hx
 rw [this]; rfl
theorem changeOk_one {s : Sh} {a : Nat} {b : Blk} (ha : a < s.blocks) (h2 : s.blocks ≤ 200) (hb : 0 ≤ b.kind ∧ b.kind ≤ 7) : changeOk s [⟨(a : Int), b⟩] = true := by
 unfold changeOk
 rw [mayRec_one (by omega) hb]
 simp [pastEnd]; omega
theorem changeV_one (reg : Nat) (s : Sh) (a : Nat) (b : Blk) (st : VSt) : (changeV reg s [⟨(a : Int), b⟩] st).bs = st.bs.set a b := by
 unfold changeV writeV
 show overlay (roomV reg s _ st).bs _ = _
 rw [roomV_bs]; rfl
structure FilS (w wr : World) (d v : Nat) (s : Sh) (gb cap m : Nat) (Sd : Nat → Prop) (st : VSt) (c : Nat) (bs : List Blk) (k : Nat) : Prop where
 vol : VolS wr Sd v d 0 s gb cap m st c
 sd : ∀ q, Sd q → w.heap.size ≤ q
 bel : Below w.heap.size w wr
 bs : st.bs = bs.take k ++ (frBlks bs.length).drop k
 c : c ≤ 1000 + 300 * k
theorem Filled_any {w : World} {bs : List Blk} {n g cap0 : Nat} (h0 : 4 ≤ n) (h1 : n ≤ 200) (hbn : bs.length = n) (hk : KRow w 0 (.slice (some ⟨g, 0, none⟩) n cap0) bs) (hkd : ∀ j, j < n → 0 ≤ (bs.getD j Blk.zero).kind ∧ (bs.getD j Blk.zero).kind ≤ 7) :
 Calls Tryz.prog 18 #[.slice (some ⟨g, 0, none⟩) n cap0] w fun e w' => ∃ d v, e = .returned (.tuple #[.pointer (some ⟨d, 0, none⟩), .pointer (some ⟨v, 0, none⟩), .bool true]) ∧ ∃ Sd gb cap m st c, FillAt w w' d v Sd (shN n) gb cap m st c ∧ st.bs = bs ∧ c ≤ 61000 := by
 have Hkd := Lib.hid (And.intro hkd hbn)
 clear hkd hbn
 have hok := shN_ok (n := n) (by omega) h1
 obtain ⟨R, hR, hRl, hR2, hRb, hRh⟩ := make_seen (n := n) (by omega) h1
 obtain ⟨w0, hw0⟩ : ∃ w0, w0 = w.alloc (.cells #[.int .i64 0, .int .i64 0, .int .i64 (n : Int), .int .i64 40, .int .i64 4] 124) := ⟨_, rfl⟩
 obtain ⟨G, hG⟩ : ∃ G, G = w.heap.size := ⟨_, rfl⟩
 have hB0 : Below w.heap.size w w0 := below_alloc hw0
 have hO : objAt w0 G = some (.cells #[.int .i64 0, .int .i64 0, .int .i64 (n : Int), .int .i64 40, .int .i64 4] 124 (0, 0)) := by rw [hG]; exact obj_alloc hw0
 have HZ := Lib.hid (fun w => Size_any (shN n) hok w)
 have hsc : (shN n).cells = #[.int .i64 0, .int .i64 0, .int .i64 (n : Int), .int .i64 40, .int .i64 4] := rfl
 rw [hsc, shN_size] at HZ
 have H0 := Lib.hid (And.intro hk (And.intro hB0 (And.intro hO (And.intro hok hsc))))
 have HR := Lib.hid (And.intro hR (And.intro hRl (And.intro hR2 (And.intro hRb hRh))))
 have c0 : w0.cell? ⟨G, 0, none⟩ = some (.int .i64 0) := cell_obj hO 0
 have c1 : w0.cell? ⟨G, 1, none⟩ = some (.int .i64 0) := cell_obj hO 1
 have c2 : w0.cell? ⟨G, 2, none⟩ = some (.int .i64 (n : Int)) := cell_obj hO 2
 have c3 : w0.cell? ⟨G, 3, none⟩ = some (.int .i64 40) := cell_obj hO 3
 have c4 : w0.cell? ⟨G, 4, none⟩ = some (.int .i64 4) := cell_obj hO 4
 clear hk hB0 hO hok hR hRl hR2 hRb hRh hsc
 go_enter Tryz.func18, Tryz.ntmps18
 go_upto_region 2 with fail
 rw [← hw0, ← hG]
 clear hw0 hG
 go_upto_region 3 with (first
  | (go_at_call 54; refine (HZ.out _).mono ?_; rintro e w1 ⟨rfl, b1⟩)
  | (go_at_call 53; refine (DevNew_any (some ⟨w1.heap.size, 0, none⟩) [((42 + n : Nat) : Int)] 1 _ ⟨w1.heap.size, 0, fun _ => rfl, fun i hi => by obtain rfl : i = 0 := (by simp only [List.length_singleton] at hi; omega); simp⟩ (by simp) (by simp) (fun x hx => by simp only [List.mem_singleton] at hx; omega)).mono ?_; rintro e w2 ⟨d, rfl, hd, b2⟩))
 have hd2 : DevAt w2 (fun q => w0.heap.size ≤ q ∧ q < w2.heap.size) d (dvN n) 0 := (show DevAt w2 _ d (dvN n) 0 from hd).mono (fun q hq => ⟨by have h1 := hq.1; have h2 := b1.size; simp only [size_alloc] at h1; omega, hq.2⟩) (fun q hq => hq.2) (Nat.le_refl _)
 have hB2 : Below w0.heap.size w0 w2 := grow_trans (grow_alloc b1 _) b2
 have HM := Lib.hid (Make_any (reg := 0) hd2 ⟨Reg.new (42 + n), rfl, by simp [Reg.new, shN_size]⟩ H0.out.2.2.2.1 (by decide))
 rw [H0.out.2.2.2.2] at HM
 have e0 := grow_cell hB2 c0
 have e1 := grow_cell hB2 c1
 have e2 := grow_cell hB2 c2
 have e3 := grow_cell hB2 c3
 have e4 := grow_cell hB2 c4
 have H2 := Lib.hid (And.intro hd2 hB2)
 clear hd hd2 hB2 b1 b2 c0 c1 c2 c3 c4
 go_upto_region 5 with (go_at_call 55; refine HM.out.mono ?_; rintro e w3 ⟨rfl, h3⟩)
 have hG : G < w0.heap.size := block_lt H0.out.2.2.1
 have hO3 : objAt w3 G = some (.cells #[.int .i64 0, .int .i64 0, .int .i64 (n : Int), .int .i64 40, .int .i64 4] 124 (0, 0)) := h3.obj (grow_obj H2.out.2 H0.out.2.2.1) (fun e => by have := e.1; omega)
 have HT := Lib.hid (Mount_new (reg := 0) (hb := frBlks n) H0.out.2.2.2.1 h3.dev (by show 0 + n + 3 < 600000; omega) (R := R) (by rw [HR.out.1]; rfl) HR.out.2.1 (by show 0 < 40; decide) HR.out.2.2.1 zeros_ten HR.out.2.2.2.1 (by decide) (by rw [frBlks_length]; rfl) HR.out.2.2.2.2)
 rw [H0.out.2.2.2.2] at HT
 have k0 : w3.cell? ⟨G, 0, none⟩ = some (.int .i64 0) := cell_obj hO3 0
 have k1 : w3.cell? ⟨G, 1, none⟩ = some (.int .i64 0) := cell_obj hO3 1
 have k2 : w3.cell? ⟨G, 2, none⟩ = some (.int .i64 (n : Int)) := cell_obj hO3 2
 have k3 : w3.cell? ⟨G, 3, none⟩ = some (.int .i64 40) := cell_obj hO3 3
 have k4 : w3.cell? ⟨G, 4, none⟩ = some (.int .i64 4) := cell_obj hO3 4
 have H3 := Lib.hid (And.intro h3 hO3)
 clear h3 hO3 e0 e1 e2 e3 e4 hG
 go_upto_region 8 with (go_at_call 56; refine HT.out.mono ?_; rintro e w4 ⟨v, gb, cap, m, S', rfl, hv, hS', hwv, hwg, hwm, hk4⟩)
 have hbel4 : Below w.heap.size w w4 := by
  have h02 := grow_trans H0.out.2.1 H2.out.2
  have h03 : Below w.heap.size w w3 := h02.trans (H3.out.1.keeps.below h02.size (fun q e => Nat.le_trans H0.out.2.1.size e.1))
  exact h03.trans (hk4.below h03.size (fun q e => by
   rcases e.2 with h | h
   · exact Nat.le_trans H0.out.2.1.size h.1
   · exact Nat.le_trans h02.size h))
 have hw3 : w.heap.size ≤ w3.heap.size := Nat.le_trans (grow_trans H0.out.2.1 H2.out.2).size H3.out.1.keeps.size
 have hFA : FillAt w w4 d v S' (shN n) gb cap m ⟨(1 + 1) % 4294967296, 0, 0, frBlks n, [], tidiesD (makeD (dvN n) 0 (shN n)) 0 (shN n) (frBlks n) [] ((1 + 1) % 4294967296)⟩ (0 + (shN n).blocks + 3 + (frBlks n).length + 4) :=
  ⟨hv, fun q hq => by
   rcases hS' q hq with h | h
   · rcases h.2 with h | h
     · exact Nat.le_trans H0.out.2.1.size h.1
     · exact Nat.le_trans (grow_trans H0.out.2.1 H2.out.2).size h
   · exact Nat.le_trans hw3 h, Nat.le_trans hw3 hwv, Nat.le_trans hw3 hwg, Nat.le_trans hw3 hwm, hbel4⟩
 have hq0 : w.heap.size ≤ v ∧ w.heap.size ≤ gb ∧ w.heap.size ≤ m := ⟨hFA.hv, hFA.hg, hFA.hm⟩
 have hS0 : FilS w w4 d v (shN n) gb cap m S' ⟨(1 + 1) % 4294967296, 0, 0, frBlks n, [], tidiesD (makeD (dvN n) 0 (shN n)) 0 (shN n) (frBlks n) [] ((1 + 1) % 4294967296)⟩ (0 + (shN n).blocks + 3 + (frBlks n).length + 4) bs 0 :=
  ⟨hFA.vol, hFA.sd, hFA.below, by rw [List.take_zero, List.drop_zero, Hkd.out.2]; rfl, by rw [frBlks_length]; show 0 + n + 3 + n + 4 ≤ _; omega⟩
 have HF := Lib.hid (And.intro hq0 hS0)
 clear hFA hbel4 hv hS' hwv hwg hwm hk4 hw3 k0 k1 k2 k3 k4 hq0 hS0
 go_wp2_with fail
 go_loopw [10] (fun q wr => ∃ (k : Nat) (Sd : Nat → Prop) (st : VSt) (c : Nat), k ≤ n ∧ q = .int .i64 k ∧ FilS w wr d v (shN n) gb cap m Sd st c bs k) (fun q _ => n - (Go.RowKit.intOf q).toNat)
 case atStart => exact ⟨0, _, _, _, Nat.zero_le _, rfl, HF.out.2⟩
 case round =>
  obtain ⟨k, Sd, st, c, hk, rfl, hfs⟩ := hrel
  by_cases hlt : k < n
  · have hlti : (k : Int) < (n : Int) := by omega
    have hk2 : (k : Int) < 200 := by omega
    have hG := VolP.get hfs.vol (k : Int)
    have hstl : st.bs.length = n := by rw [hfs.bs, List.length_append, List.length_take, List.length_drop, frBlks_length, Hkd.out.2]; omega
    have hgb : getB st.bs (k : Int) = newBlk k := by
     unfold getB
     rw [inB_nat (by omega), if_pos rfl, blkD_nat, hfs.bs, List.getD_eq_getElem?_getD, List.getElem?_append_right (by rw [List.length_take, Hkd.out.2]; omega), List.length_take, Hkd.out.2, List.getElem?_drop, show k + (k - min k n) = k by omega]
     rw [List.getElem?_eq_getElem (by rw [frBlks_length]; exact hlt)]
     simp [frBlks]
    rw [hgb, inB_nat (by omega)] at hG
    have hK : KRow wr 0 (.slice (some ⟨g, 0, none⟩) n cap0) bs := H0.out.1.below hfs.bel
    have hkl2 : k < bs.length := by rw [Hkd.out.2]; exact hlt
    obtain ⟨b, hb⟩ : ∃ b, b = bs.getD k Blk.zero := ⟨_, rfl⟩
    obtain ⟨x, hx⟩ : ∃ x, x = newBlk k := ⟨_, rfl⟩
    rw [← hx] at hG
    have hset : st.bs.set k b = bs.take (k + 1) ++ (frBlks bs.length).drop (k + 1) := by
     rw [hfs.bs]
     apply List.ext_getElem?
     intro i
     have e1 : (bs.take k).length = k := by rw [List.length_take]; omega
     have e2 : (bs.take (k + 1)).length = k + 1 := by rw [List.length_take]; omega
     rw [List.getElem?_set, List.getElem?_append, List.getElem?_append, e1, e2, List.getElem?_take, List.getElem?_take, List.getElem?_drop, List.getElem?_drop]
     by_cases c1 : k = i
     · subst c1
       rw [if_pos rfl, if_pos (by rw [List.length_append, List.length_take, List.length_drop, frBlks_length]; omega), if_pos (by omega), if_pos (by omega), List.getElem?_eq_getElem hkl2, hb, List.getD_eq_getElem?_getD, List.getElem?_eq_getElem hkl2]; rfl
     · rw [if_neg c1]
       by_cases c2 : i < k
       · have c3 : i < k + 1 := by omega
         simp only [c2, c3, if_true]
       · rw [if_neg c2, if_neg (by omega), show k + (i - k) = i by omega, show k + 1 + (i - (k + 1)) = i by omega]
    have hsame : x = b → st.bs = bs.take (k + 1) ++ (frBlks bs.length).drop (k + 1) := fun e => by
     rw [← hset]
     have hkl : k < st.bs.length := by rw [hstl]; exact hlt
     have : st.bs[k]? = some b := by
      rw [← e, hx, ← hgb]
      unfold getB
      rw [inB_nat hkl, if_pos rfl, blkD_nat, List.getD_eq_getElem?_getD, List.getElem?_eq_getElem hkl]; rfl
     apply List.ext_getElem?
     intro i
     rw [List.getElem?_set]
     by_cases c1 : k = i
     · subst c1; rw [if_pos rfl, if_pos hkl, this]
     · rw [if_neg c1]
    have HX := Lib.hid (And.intro hG (And.intro hfs (And.intro hK (And.intro hkl2 (And.intro hb (And.intro hset hsame))))))
    clear hG hgb hK hkl2 hb hfs hx hset hsame hstl
    go_upto_region 12 with (go_at_call 23; refine HX.out.1.mono ?_; rintro e w5 ⟨rfl, b5⟩)
    obtain ⟨J, hJ⟩ : ∃ J, J = w5.heap.size := ⟨_, rfl⟩
    obtain ⟨w6, hw6⟩ : ∃ w6, w6 = w5.alloc (.cells x.cells 37) := ⟨_, rfl⟩
    have hX6 : BlkAt w6 J x := by rw [hJ]; exact obj_alloc hw6
    have hb6 : Below wr.heap.size wr w6 := grow_trans b5 (below_alloc hw6)
    rw [← hw6, ← hJ]
    have hK6 := HX.out.2.2.1.below hb6
    have i1 := hX6.has
    have i2 := hX6.row
    have i3 := hK6.has k HX.out.2.2.2.1
    have i4 := hK6.row k HX.out.2.2.2.1
    rw [← HX.out.2.2.2.2.1] at i4
    have H6 := Lib.hid (And.intro hb6 (And.intro hX6 hK6))
    clear hw6 hJ hX6 hb6 hK6 b5
    by_cases hxb : x = b
    · have hs2 := HX.out.2.2.2.2.2.2 hxb
      subst hxb
      have Hs2 := Lib.hid hs2
      have hnb : decide (x = x) = true := by simp
      clear hs2
      refine wp_region_held_drew (S := fun w' => hasBlk w' J = true ∧ rowAt w' J = some x.cells ∧ hasOff w' g (k * 57) = true ∧ rowOff w' g (k * 57) = some x.cells ∧ True) (by kernel_rfl) (⟨i1, i2, i3, i4, trivial⟩) (fun hHeld => ?_)
      show wpAnyH _ _ _ _ _ 22 #[false, false, false, false, false, false, false, false, false, false, false, false, false, false, false, false, false, false, false, false, false, false] _ _
      refine gT 0 ?_; try simp only [Act.put, qs]
      refine gT 1 ?_; try simp only [Act.put, qs]
      refine gT 2 ?_; try simp only [Act.put, qs]
      refine gT 3 ?_; try simp only [Act.put, qs]
      refine gT 4 ?_; try simp only [Act.put, qs]
      refine gT 5 ?_; try simp only [Act.put, qs]
      refine gT 6 ?_; try simp only [Act.put, qs]
      refine gT 7 ?_; try simp only [Act.put, qs]
      refine gT 8 ?_; try simp only [Act.put, qs]
      refine gT 9 ?_; try simp only [Act.put, qs]
      refine gU 10 ?_; try simp only [Act.put, qs]
      refine gU 11 ?_; try simp only [Act.put, qs]
      refine gU 12 ?_; try simp only [Act.put, qs]
      refine gU 13 ?_; try simp only [Act.put, qs]
      refine gU 14 ?_; try simp only [Act.put, qs]
      refine gU 15 ?_; try simp only [Act.put, qs]
      refine gU 16 ?_; try simp only [Act.put, qs]
      refine gU 17 ?_; try simp only [Act.put, qs]
      refine gU 18 ?_; try simp only [Act.put, qs]
      refine gU 19 ?_; try simp only [Act.put, qs]
      refine gT 20 ?_; try simp only [Act.put, qs]
      refine gT 21 ?_; try simp only [Act.put, qs]
      refine wpAnyH_done (by kernel_rfl) ?_ _
      go_wp2_with fail
      go_roundw
      case rel => exact ⟨k + 1, Sd, st, c, by omega, by go_num, ⟨VolP.below HX.out.2.1.vol H6.out.1.drew, HX.out.2.1.sd, (grow_trans HX.out.2.1.bel H6.out.1).drew, Hs2.out, by have := HX.out.2.1.c; omega⟩⟩
      case measure => simp [Go.RowKit.intOf]; omega
    · have hnb : decide (x = b) = false := by simpa using hxb
      clear hxb
      have hSdl : ∀ q, Sd q → q < wr.heap.size := fun q hq => HX.out.2.1.vol.dev.lt q hq
      have hc2 := HX.out.2.1.c
      have hok : changeOk (shN n) [⟨(k : Int), b⟩] = true := changeOk_one (show k < n from hlt) h1 (by rw [HX.out.2.2.2.2.1]; exact Hkd.out.1 k hlt)
      have Hok := Lib.hid (And.intro hok (And.intro hSdl hc2))
      have HB6 := Lib.hid (show ∀ w', Below w6.heap.size w6 w' → hasBlk w' J = true ∧ rowAt w' J = some x.cells ∧ hasOff w' g (k * 57) = true ∧ rowOff w' g (k * 57) = some b.cells ∧ Below w6.heap.size w6 w' from fun w' hb => by
       have h6 := BlkAt.below H6.out.2.1 hb (block_lt H6.out.2.1)
       have h7 := H6.out.2.2.below hb
       exact ⟨h6.has, h6.row, h7.has k HX.out.2.2.2.1, by rw [h7.row k HX.out.2.2.2.1, ← HX.out.2.2.2.2.1], hb⟩)
      have HL7 := Lib.hid (show objAt (w6.alloc (.cells (Wr.cells ⟨k, b⟩) 52)).drew w6.heap.size = some (.cells (Wr.cells ⟨k, b⟩) 52 (0, 0)) ∧ Below wr.heap.size wr (w6.alloc (.cells (Wr.cells ⟨k, b⟩) 52)).drew ∧ True from ⟨by show objAt (w6.alloc _) _ = _; rw [objAt_alloc, if_pos rfl], (grow_alloc H6.out.1 _).drew, trivial⟩)
      clear hok hSdl hc2 i1 i2 i3 i4
      refine wp_region_F [18] (S := fun w' => hasBlk w' J = true ∧ rowAt w' J = some x.cells ∧ hasOff w' g (k * 57) = true ∧ rowOff w' g (k * 57) = some b.cells ∧ Below w6.heap.size w6 w') (by kernel_rfl) (HB6.out _ (Below.refl _ _).drew) (fun hHeld => ?_)
      show wpAnyF _ _ _ _ _ _ 22 #[false, false, false, false, false, false, false, false, false, false, false, false, false, false, false, false, false, false, false, false, false, false] _ _
      refine gF 0 [0, 1, 2, 3, 4, 5, 6, 7, 8, 9, 10, 11, 12, 13, 14, 15, 16, 17, 18, 19, 20, 21] ?_; try simp only [Act.put, qs]
      refine gF 1 [1, 2, 3, 4, 5, 6, 7, 8, 9, 10, 11, 12, 13, 14, 15, 16, 17, 18, 19, 20, 21] ?_; try simp only [Act.put, qs]
      refine gF 2 [2, 3, 4, 5, 6, 7, 8, 9, 10, 11, 12, 13, 14, 15, 16, 17, 18, 19, 20, 21] ?_; try simp only [Act.put, qs]
      refine gF 3 [3, 8, 9, 10, 11, 12, 13, 14, 15, 16, 17, 18, 19, 20, 21] ?_; try simp only [Act.put, qs]
      refine gF 4 [4, 6, 7, 8, 9, 10, 11, 12, 13, 14, 15, 16, 17, 18, 19, 20, 21] ?_; try simp only [Act.put, qs]
      refine gF 5 [5, 6, 7, 8, 9, 10, 11, 12, 13, 14, 15, 16, 17, 18, 19, 20, 21] ?_; try simp only [Act.put, qs]
      refine gF 6 [6, 7, 8, 9, 10, 11, 12, 13, 14, 15, 16, 17, 18, 19, 20, 21] ?_; try simp only [Act.put, qs]
      refine gF 7 [7, 8, 9, 10, 11, 12, 13, 14, 15, 16, 17, 18, 19, 20, 21] ?_; try simp only [Act.put, qs]
      refine gF 8 [8, 9, 10, 11, 12, 13, 14, 15, 16, 17, 18, 19, 20, 21] ?_; try simp only [Act.put, qs]
      refine gF 9 [9, 10, 11, 12, 13, 14, 15, 16, 17, 18, 19, 20, 21] ?_; try simp only [Act.put, qs]
      refine gF 10 [10, 18, 19, 20, 21] ?_; try simp only [Act.put, qs]
      refine gF 11 [11, 16, 17, 18, 19, 20, 21] ?_; try simp only [Act.put, qs]
      refine gF 12 [12, 14, 15, 16, 17, 18, 19, 20, 21] ?_; try simp only [Act.put, qs]
      refine gF 13 [13, 14, 15, 16, 17, 18, 19, 20, 21] ?_; try simp only [Act.put, qs]
      refine gF 14 [14, 15, 16, 17, 18, 19, 20, 21] ?_; try simp only [Act.put, qs]
      refine gF 15 [15, 16, 17, 18, 19, 20, 21] ?_; try simp only [Act.put, qs]
      refine gF 16 [16, 17, 18, 19, 20, 21] ?_; try simp only [Act.put, qs]
      refine wpAnyF_ready (rs := [17]) (by kernel_rfl) (by simp) ?_
      refine (AllReadyF.cons rfl (fun K hK => ?_) AllReadyF.nil)
      refine step_wantedB (by rfl) (wp_lit1 elemWrK _ rfl (by rfl) (Wr.size_cells _) (by decide) ?_); intro w7 hw7
      refine hK.out _ _ (by exact HB6.out _ (grow_trans hHeld.2.2.2.2 (below_alloc hw7))) (fun hN => ?_); replace hHeld := hN; clear hK K hN
      try simp only [Act.put, qs]
      refine wpAnyF_ready (rs := [18]) (by kernel_rfl) (by simp) ?_
      refine (AllReadyF.last rfl (by kernel_rfl) (fun K hK => ?_) AllReadyF.nil)
      try simp only [qs]
      go_simp
      go_at_call 57; refine (VolP.change (VolP.below HX.out.2.1.vol HL7.out.2.1) (WRow.one (S := fun q => q = w6.heap.size) ⟨k, b⟩ HL7.out.1 rfl) (fun q hq e => by have hq' : w6.heap.size = q := Option.some.inj hq; have := Hok.out.2.1 _ e; have := H6.out.1.size; omega) (by show 1 ≤ 1000; decide) (by show 13 ≤ 40; decide) (by have := Hok.out.2.2; omega)).mono ?_; rintro e w8 hres; obtain ⟨rfl, k8, hv8⟩ := hres.2 Hok.out.1
      refine hK.out _ _ (trivial) (fun hN => ?_); replace hHeld := hN; clear hK K hN
      try simp only [qs]
      refine gP 19 ?_; try simp only [Act.put, qs]
      refine gP 20 ?_; try simp only [Act.put, qs]
      refine gP 21 ?_; try simp only [Act.put, qs]
      refine wpAnyF_done (by kernel_rfl) ?_ _
      have hbel8 : Below w.heap.size w w8 := by
       have h7 := grow_trans HX.out.2.1.bel HL7.out.2.1
       exact h7.trans (k8.below h7.size (fun q e => by
        rcases e with e | e | e | e
        · exact HX.out.2.1.sd q e
        · rw [e]; exact HF.out.1.1
        · rw [e]; exact HF.out.1.2.2
        · rw [e]; exact HF.out.1.2.1))
      have hfs8 : FilS w w8 d v (shN n) gb cap m (grownS Sd (w6.alloc (.cells (Wr.cells ⟨k, b⟩) 52)).drew w8) (changeV 0 (shN n) [⟨k, b⟩] st) (c + 300) bs (k + 1) :=
       ⟨hv8, fun q hq => hq.2.elim (HX.out.2.1.sd q) (fun h => Nat.le_trans (grow_trans HX.out.2.1.bel HL7.out.2.1).size h), hbel8, by rw [changeV_one, HX.out.2.2.2.2.2.1], by have := Hok.out.2.2; omega⟩
      have H8 := Lib.hid hfs8
      clear hfs8 hbel8 k8 hv8 hres
      go_wp2_with fail
      go_roundw
      case rel => exact ⟨k + 1, _, _, _, by omega, by go_num, H8.out⟩
      case measure => simp [Go.RowKit.intOf]; omega
  · obtain rfl : k = n := by omega
    have HB := Lib.hid hfs
    clear hfs
    go_wp2_with fail
    refine bodyPost_ret (results_three rfl (resOne_tmp _ _ _) (resOne_tmp _ _ _) (resOne_tmp _ _ _)) rfl ?_
    refine ⟨d, v, rfl, Sd, gb, cap, m, st, c, ⟨HB.out.vol, HB.out.sd, HF.out.1.1, HF.out.1.2.1, HF.out.1.2.2, HB.out.bel⟩, ?_, by have := HB.out.c; omega⟩
    rw [HB.out.bs, List.take_of_length_le (by rw [Hkd.out.2]; exact Nat.le_refl _), List.drop_of_length_le (by rw [frBlks_length, Hkd.out.2]; exact Nat.le_refl _), List.append_nil]
end
section
open Go.RowKit
attribute [local irreducible] Calls

theorem FillAt.txV {w w' w2 : World} {d v n : Nat} {Sd : Nat → Prop} {s : Sh} {gb cap m c : Nat} {st : VSt} (h : FillAt w w' d v Sd s gb cap m st c) (hn : n = w'.heap.size) (ht : TxAt w2 (n + 2) v n (n + 1) [] [] st.bs.length) (hb : Below w'.heap.size w' w2) :
 TxV w2 Sd (n + 2) v n (n + 1) [] [] d 0 s gb cap m st c := by
 have hl : ∀ q, Sd q → q < n := fun q hq => by rw [hn]; exact h.vol.dev.lt q hq
 have hm := h.vol.lt_m
 refine ⟨ht, VolP.below h.vol hb, ⟨fun e => by have := hl _ e; omega, fun e => by have := hl _ e; omega, fun e => by have := hl _ e; omega, by omega, by omega⟩⟩
def nm0 : Nm := ⟨Id.root, ⟨#[97]⟩, 5, 1⟩
def L1 : PL := upB [] ((1 : Nat) : Int) (putEntry nm0).1
end
section
open Go.RowKit
attribute [local irreducible] Calls

section
variable {w : World} {Sd : Nat → Prop} {t v mp mt : Nat} {L : PL} {T : ML} {d reg : Nat} {s : Sh} {gb cap m : Nat} {st : VSt} {c : Nat} {f : Fl} {cc : Nat → UInt8}
def wMany (data : List UInt8) (off : Nat) : Nat := min data.length (min (1120 - off) (224 - off % 56))
theorem tWrite (H : TxV w Sd t v mp mt L T d reg s gb cap m st c) (hw : WI (txV L st.bs) T f f cc) {off : Nat} {data : List UInt8} (ho : off < 1120) (hd : data ≠ []) (hl : 8 ≤ leftT (txV L st.bs) T) {ad : Option Addr} {dc : Nat} (hda : BytesAt w ad data) (hdl : data.length ≤ 100000) (hdc : data.length ≤ dc) :
 Calls Tryz.prog 35 #[.pointer (some ⟨t, 0, none⟩), .int .i64 1, .int .i64 (off : Int), .slice ad data.length dc] w fun e w' => e = .returned (.tuple #[.int .i64 (wMany data off : Nat), .int .i64 0]) ∧
  ∃ (L' : PL) (T' : ML) (f' : Fl), TxV w' Sd t v mp mt L' T' d reg s gb cap m st c ∧ Wrote st.bs L L' T' f f' (ov cc data off off (off + wMany data off)) off (off + wMany data off) ∧ Keeps (fun q => q = mp ∨ q = mt) w w' := by
 obtain ⟨mm, L', T', f', hmm, hwr, hW⟩ := write_spec hw ho hd hl
 have hm : mm = wMany data off := hmm
 subst hm
 refine (fWrite_any H 1 (off : Int) hda hdl hdc).mono ?_
 rintro e w' ⟨he, hT, hk⟩
 rw [hwr] at he hT
 exact ⟨he, L', T', f', hT, hW, hk⟩
theorem tRead (H : TxV w Sd t v mp mt L T d reg s gb cap m st c) (hr : FRest (txV L st.bs) f cc) (off n : Nat) (ho : off < 1000000) :
 Calls Tryz.prog 36 #[.pointer (some ⟨t, 0, none⟩), .int .i64 1, .int .i64 (off : Int), .int .i64 (n : Int)] w fun e w' => ∃ V, e = .returned (.tuple #[V, .int .i64 0]) ∧ BRow w' w.heap.size V ((List.range (min n (f.n.size.toNat - off))).map fun i => cc (off + i)) ∧ Below w.heap.size w w' := by
 have hz := (mayNode_fileP.1 hr.may0).2.2.2.2
 have e1 : readR (txV L st.bs) 1 (off : Int) (n : Int) = ((List.range (min n (f.n.size.toNat - off))).map fun i => cc (off + i), 0) := by
  unfold readR
  rw [FRest.flOf hr]
  dsimp only
  rw [if_neg (by omega), Int.toNat_natCast]
  have e2 : (min (n : Int) (max (f.n.size - (off : Int)) 0)).toNat = min n (f.n.size.toNat - off) := by omega
  rw [e2]
  by_cases hb : off + min n (f.n.size.toNat - off) ≤ 1120
  · rw [read_spec hr.cur hb _ off rfl, Nat.add_sub_cancel_left]
  · have : min n (f.n.size.toNat - off) = 0 := by omega
    rw [this]
    unfold readF
    rw [pieces_done (by omega)]; rfl
 have := fRead_any H 1 (off : Int) (n : Int) (by omega)
 rw [e1] at this
 exact this
theorem tTrunc (H : TxV w Sd t v mp mt L T d reg s gb cap m st c) (hr : FRest (txV L st.bs) f cc) {size : Nat} (hs : size ≤ 1120) :
 Calls Tryz.prog 37 #[.pointer (some ⟨t, 0, none⟩), .int .i64 1, .int .i64 (size : Int)] w fun e w' => e = .returned (.int .i64 0) ∧
  ∃ (L' : PL) (f' : Fl), TxV w' Sd t v mp mt L' T d reg s gb cap m st c ∧ CutR st.bs L L' f f' cc size ∧ Keeps (fun q => q = mp ∨ q = mt) w w' := by
 obtain ⟨L', f', htr, hC⟩ := trunc_spec T hr hs
 refine (fTrunc_any H 1 (size : Int)).mono ?_
 rintro e w' ⟨he, hT, hk⟩
 rw [htr] at he hT
 exact ⟨he, L', f', hT, hC, hk⟩
theorem Wrote.rest {bs : List Blk} {L L' : PL} {T' : ML} {f f' : Fl} {c : Nat → UInt8} {a e : Nat} (h : Wrote bs L L' T' f f' c a e) : FRest (txV L' bs) f' c := h.wi.mid
theorem new_left {n : Nat} (hn : 4 ≤ n) (h2 : n ≤ 200) : WI (fileBlks n) [] fl0 fl0 (fun _ => 0) ∧ leftT (fileBlks n) [] + 3 = n := by
 have hr := fileBlks_rest hn h2
 refine ⟨hr.wi, ?_⟩
 have := hr.wi.left
 rw [fl0_cnt, fileBlks_len] at this
 omega
end
theorem begun16_any (w : World) : Calls Tryz.prog 31 #[] w fun e w' => e = .returned (.bool true) ∧ Below w.heap.size w w' := by
 have HN := Lib.hid (fun w => sNew_any 0 20 w (by decide) (by decide))
 go_enter Tryz.func31, Tryz.ntmps31
 go_upto_region 2 with (go_at_call 32; refine (HN.out _).mono ?_; rintro e w1 ⟨p, g, rfl, hs, b1, hp1, hg1⟩)
 have H1 := Lib.hid (And.intro hs (And.intro b1 (And.intro hp1 hg1)))
 clear hs b1 hp1 hg1
 go_upto_region 3 with (first
  | (go_at_call 34; refine (Root_lit _).mono ?_; rintro e w2 ⟨rfl, b2⟩)
  | (go_at_call 33; refine (sFile_any (H1.out.1.below b2) (by decide) (by decide)).mono ?_; rintro e w3 ⟨g3, cap3, rfl, hs3, hk3, hg3⟩))
 have hb3 : Below w.heap.size w w3 := by
  have h2 := grow_trans H1.out.2.1 b2
  exact h2.trans (hk3.below h2.size (fun q e => by rw [e]; exact H1.out.2.2.1))
 obtain ⟨w4, hw4⟩ : ∃ w4, w4 = w3.alloc (.cells #[.int .i64 0, .int .i64 1, .int .u32 1] 66) := ⟨_, rfl⟩
 obtain ⟨G, hG⟩ : ∃ G, G = w3.heap.size := ⟨_, rfl⟩
 have hs4 := hs3.below (below_alloc hw4)
 have ho4 : objAt w4 G = some (.cells #[.int .i64 0, .int .i64 1, .int .u32 1] 66 (0, 0)) := by rw [hG]; exact obj_alloc hw4
 have hb4 := grow_trans hb3 (below_alloc hw4)
 rw [← hw4, ← hG]
 have c1 := hs4.c1
 have hrow := hs4.row
 rw [fileBlks_len] at c1 hrow
 have HF := Lib.hid (Filled_any (bs := fileBlks 20) (n := 20) (by decide) (by decide) (fileBlks_len 20) hrow (fileBlks_kinds (by decide) (by decide)))
 have H4 := Lib.hid (And.intro hb4 ho4)
 clear hs3 hk3 hg3 hb3 hs4 hb4 ho4 hrow hw4 hG b2
 go_upto_region 4 with (go_at_call 18; refine HF.out.mono ?_; rintro e w5 ⟨d, v, rfl, Sd, gb, cap, m, st, c, hf, hst, hc⟩)
 have HX := Lib.hid (txNew_any v st.bs.length w5)
 obtain ⟨N, hN⟩ : ∃ N, N = w5.heap.size := ⟨_, rfl⟩
 rw [← hN] at HX
 have H5 := Lib.hid (And.intro hf (And.intro hst (And.intro hN hc)))
 clear hf hst hN hc c1
 go_upto_region 7 with (go_at_call 19; refine HX.out.mono ?_; rintro e w6 ⟨rfl, ht, b6⟩)
 have hT6 := H5.out.1.txV H5.out.2.2.1 ht (by rw [← H5.out.2.2.1]; exact b6)
 have hNw : w.heap.size ≤ N := by rw [H5.out.2.2.1]; exact (grow_trans H4.out.1 H5.out.1.below).size
 have hB6 : Below w.heap.size w w6 := (grow_trans H4.out.1 H5.out.1.below).trans (b6.mono hNw)
 have ho6 : objAt w6 G = some (.cells #[.int .i64 0, .int .i64 1, .int .u32 1] 66 (0, 0)) := grow_obj (by rw [← H5.out.2.2.1]; exact b6) (grow_obj H5.out.1.below H4.out.2)
 have hWI := (new_left (n := 20) (by decide) (by decide)).1
 have hlf := (new_left (n := 20) (by decide) (by decide)).2
 rw [← H5.out.2.1] at hWI hlf
 rw [← txV_nil st.bs] at hWI hlf
 obtain ⟨w7, hw7⟩ : ∃ w7, w7 = w6.alloc (.cells #[.int .u8 97, .int .u8 98] 5 (2, 3)) := ⟨_, rfl⟩
 have hb7 : Below w6.heap.size w6 w7 := below_alloc hw7
 have hT7 := hT6.below hb7
 obtain ⟨J, hJ⟩ : ∃ J, J = w6.heap.size := ⟨_, rfl⟩
 have hby : BytesAt w7 (some ⟨J, 0, none⟩) [97, 98] := by
  have ho : w7.heap[J]? = some (.cells #[.int .u8 97, .int .u8 98] 5 (2, 3)) := by rw [hJ, hw7, heap_alloc_if, if_pos rfl]
  refine ⟨J, 0, fun _ => rfl, fun i hi => ?_⟩
  match i, hi with
  | 0, _ => simp only [World.cell?, ho]; rfl
  | 1, _ => simp only [World.cell?, ho]; rfl
 have HW := Lib.hid (tWrite (off := 2) (data := [97, 98]) (dc := 2) hT7 hWI (by decide) (by decide) (by omega) hby (by decide) (by decide))
 rw [show ((2 : Nat) : Int) = 2 from rfl, show wMany [97, 98] 2 = 2 from rfl, show ([97, 98] : List UInt8).length = 2 from rfl, show ((2 : Nat) : Int) = 2 from rfl] at HW
 have q1 : w6.cell? ⟨G, 1, none⟩ = some (.int .i64 1) := cell_obj ho6 1
 have q1' : w7.cell? ⟨G, 1, none⟩ = some (.int .i64 1) := grow_cell hb7 q1
 have H7 := Lib.hid (And.intro (grow_trans hB6 hb7) (And.intro (grow_obj hb7 ho6) (And.intro hNw hT7)))
 have HW7 := Lib.hid hw7
 clear hT6 ht b6 hB6 ho6 hWI hlf hb7 hT7 hby hNw
 have hcv : (Go.convert 22 22 (.slice (some ⟨w6.heap.size, 0, none⟩) 2 2)).run Tryz.prog (w6.alloc (.cells #[.int .u8 97, .int .u8 98] 5)) = .ok (.slice (some ⟨w6.heap.size, 0, none⟩) 2 2) (w6.alloc (.cells #[.int .u8 97, .int .u8 98] 5 (2, 3))) :=
  Go.Lib.run_convert_bytes_const (P := Tryz.prog) w6 22 5 #[.int .u8 97, .int .u8 98] 2 2 Tryz.underlying22 Tryz.underlying5
 go_upto_region 8 with (go_at_call 35; rw [← HW7.out, ← hJ]; refine HW.out.mono ?_; rintro e w8 ⟨rfl, L8, T8, f8, hT8, hR8, hk8⟩)
 have hGN : G < N := by rw [H5.out.2.2.1]; exact Nat.lt_of_lt_of_le (block_lt H4.out.2) H5.out.1.below.size
 have ho8 := hk8.obj H7.out.2.1 (fun e => by omega)
 have hB8 : Below w.heap.size w w8 := H7.out.1.trans (hk8.below H7.out.1.size (fun q e => by have := H7.out.2.2.1; omega))
 have hs8 : f8.n.size = 4 := by rw [hR8.size]; rfl
 have HR8 := Lib.hid (tRead (off := 0) (n := 9) hT8 hR8.rest (by decide))
 rw [hs8, show ((0 : Nat) : Int) = 0 from rfl, show ((9 : Nat) : Int) = 9 from rfl, show (List.range (min 9 ((4 : Int).toNat - 0))).map (fun i => ov (fun _ => 0) [97, 98] 2 2 (2 + 2) (0 + i)) = [0, 0, 97, 98] from rfl] at HR8
 have q8 : w8.cell? ⟨G, 1, none⟩ = some (.int .i64 1) := cell_obj ho8 1
 have H8 := Lib.hid (And.intro hB8 (And.intro ho8 (And.intro hT8 (And.intro hR8 hGN))))
 clear hT8 hR8 hk8 hGN ho8 hB8 hs8 q1 q1' hcv hJ hw7
 go_upto_region 9 with (go_at_call 36; refine HR8.out.mono ?_; rintro e w9 ⟨V9, rfl, hV9, b9⟩)
 have hT9 := H8.out.2.2.1.below b9
 have HT9 := Lib.hid (tTrunc (size := 3) hT9 H8.out.2.2.2.1.rest (by decide))
 rw [show ((3 : Nat) : Int) = 3 from rfl] at HT9
 have q9 : w9.cell? ⟨G, 1, none⟩ = some (.int .i64 1) := grow_cell b9 q8
 obtain ⟨a9, c9, rfl, hby9⟩ := hV9.bytes
 have H9 := Lib.hid (And.intro b9 (And.intro hV9 hT9))
 clear b9 hV9 hT9 hby9 q8
 go_upto_region 10 with (go_at_call 37; refine HT9.out.mono ?_; rintro e w10 ⟨rfl, L10, f10, hT10, hC10, hk10⟩)
 have ho10 := hk10.obj (grow_obj H9.out.1 H8.out.2.1) (fun e => by have := H8.out.2.2.2.2; omega)
 have hV10 : BRow w10 w8.heap.size (.slice a9 4 c9) [0, 0, 97, 98] := owns_keeps H9.out.2.1 hk10 (fun g hg e => by
  have h1 := H8.out.2.2.1.tx.put.lt
  have h2 := H8.out.2.2.1.tx.tk.lt
  have h3 : w8.heap.size ≤ g := by
   rcases H9.out.2.1.2 with ⟨h', _⟩ | ⟨g', cap', cur, h', hb', _⟩
   · rw [show (.slice a9 4 c9 : Value) = .slice none 0 0 from h'] at hg; cases hg
   · rw [show (.slice a9 4 c9 : Value) = _ from h'] at hg; cases hg; exact hb'
  omega)
 have hB10 : Below w.heap.size w w10 := (grow_trans H8.out.1 H9.out.1).trans (hk10.below (grow_trans H8.out.1 H9.out.1).size (fun q e => by have := H7.out.2.2.1; omega))
 have HR10 := Lib.hid (tRead (off := 0) (n := 9) hT10 hC10.rest (by decide))
 rw [hC10.sz, show ((0 : Nat) : Int) = 0 from rfl, show ((9 : Nat) : Int) = 9 from rfl, show (List.range (min 9 (((3 : Nat) : Int).toNat - 0))).map (fun i => cutC (ov (fun _ => 0) [97, 98] 2 2 (2 + 2)) 3 20 (0 + i)) = [0, 0, 97] from rfl] at HR10
 have q10 : w10.cell? ⟨G, 1, none⟩ = some (.int .i64 1) := cell_obj ho10 1
 have H10 := Lib.hid (And.intro hB10 (And.intro hT10 (And.intro hC10 hV10)))
 clear hB10 hT10 hC10 hV10 hk10 ho10 q9
 go_upto_region 11 with (go_at_call 36; refine HR10.out.mono ?_; rintro e w11 ⟨V11, rfl, hV11, b11⟩)
 have hT11 := H10.out.2.1.below b11
 have HR11 := Lib.hid (fRead_any hT11 0 0 1 (by decide))
 have hr11 : readR (txV L10 st.bs) 0 0 1 = ([], 2) := by
  unfold readR
  have hk := H10.out.2.2.1.rest.k0
  have hl := H10.out.2.2.1.rest.len.1
  have : flOf (txV L10 st.bs) 0 = none := by
   unfold flOf
   rw [if_neg (fun e => by
    have h1 := e.1
    have h2 := getB_at (B := txV L10 st.bs) (j := 0) (by omega)
    rw [show ((0 : Nat) : Int) = 0 from rfl] at h2
    rw [h2, hk] at h1
    cases h1)]
  rw [this]
 rw [hr11] at HR11
 obtain ⟨a11, c11, rfl, hby11⟩ := hV11.bytes
 have H11 := Lib.hid (And.intro b11 hV11)
 clear b11 hV11 hT11 hr11 hby11 q10
 go_upto_region 12 with (go_at_call 36; refine HR11.out.mono ?_; rintro e w12 ⟨V12, rfl, hV12, b12⟩)
 have e1 : (Go.convert 22 9 (.slice a9 4 c9)).run Tryz.prog w12 = .ok (.string ⟨#[0, 0, 97, 98]⟩) w12 := conv_at c9 (((BRow.bytesAt H10.out.2.2.2).1.below H11.out.1).below b12)
 have e2 : (Go.convert 22 9 (.slice a11 3 c11)).run Tryz.prog w12 = .ok (.string ⟨#[0, 0, 97]⟩) w12 := conv_at c11 ((BRow.bytesAt H11.out.2).1.below b12)
 have H12 := Lib.hid (grow_trans (grow_trans H10.out.1 H11.out.1) b12)
 clear hV12 b12
 go_wp2_with fail

 go_ret
 exact ⟨rfl, H12.out⟩
end
end Go.Proofs.YtbbnejehglonjaaGreat
