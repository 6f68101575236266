/- DERIVED. Contracts and laws that the proofs of this seat share, part 13 of 36: NoE NoF WrA. -/
import Derived.Test.YtbbnejehglonjaaGreatMh00
import Derived.Test.YtbbnejehglonjaaGreatMh02
import Derived.Test.YtbbnejehglonjaaGreatMh07
import Derived.Test.YtbbnejehglonjaaGreatMh08
import Derived.Test.YtbbnejehglonjaaGreatMh12
namespace Go.Proofs.YtbbnejehglonjaaGreat
set_option maxHeartbeats 8000000
set_option maxRecDepth 100000
set_option linter.unusedSimpArgs false
set_option linter.unusedVariables false
section
open Go.RowKit
attribute [local irreducible] Calls

theorem nPut_no (kind : Int) (n : Nd) (w : World) (hn : n.wf) (hm : mayNode kind n = false) : Calls Tryz.prog 149 #[.int .i64 kind, .agg n.cells] w fun e w' => e = .returned (.tuple #[.agg Blk.zero.cells, .bool false]) ∧ Below w.heap.size w w' := by
 have hB0 : Below w.heap.size w ((w.alloc (.cells n.cells 165)).alloc (.cells Blk.zero.cells 37)) := grow_alloc (grow_alloc (Below.refl _ _) _) _
 have ho : objAt ((w.alloc (.cells n.cells 165)).alloc (.cells Blk.zero.cells 37)) w.heap.size = some (.cells n.cells 165 (0, 0)) := by rw [objAt_alloc, if_neg (by simp), objAt_alloc, if_pos rfl]
 have hb : BlkAt ((w.alloc (.cells n.cells 165)).alloc (.cells Blk.zero.cells 37)) (w.heap.size + 1) Blk.zero := by
  have := BlkAt.alloc_new (w.alloc (.cells n.cells 165)) Blk.zero
  rwa [size_alloc] at this
 obtain ⟨G, hG⟩ : ∃ G, G = w.heap.size := ⟨_, rfl⟩
 obtain ⟨w1, hw1⟩ : ∃ w1, w1 = (w.alloc (.cells n.cells 165)).alloc (.cells Blk.zero.cells 37) := ⟨_, rfl⟩
 rw [← hw1] at hB0 ho hb
 rw [← hG] at ho hb
 have hN := hasNd_obj ho
 have hrow := rowAt_heap ho
 have hbk := hb.has
 have hrk := hb.row
 have HG := Lib.hid (And.intro hG hw1)
 have H1 := Lib.hid (And.intro hB0 (And.intro ho hb))
 have HM := Lib.hid (nMay_any kind n w1 hn)
 rw [hm] at HM
 clear hB0 hG hw1 ho hb hn hm
 go_enter Tryz.func149, Tryz.ntmps149
 go_upto_region 1 with fail
 rw [← HG.out.2, ← HG.out.1]
 go_wp2_with (go_at_call 188; refine HM.out.mono ?_; rintro e w2 ⟨rfl, b2⟩; have hb2 := H1.out.2.2.below b2 (block_lt H1.out.2.2); have hbk2 := hb2.has; have hrk2 := hb2.row; clear hbk hrk hN hrow)
 have hz := (hb2.setRow Blk.zero).row
 refine bodyPost_ret (results_two rfl (resOne_blk rfl hz) (resOne_tmp _ _ _)) rfl ?_
 exact ⟨rfl, (H1.out.1.trans (b2.mono H1.out.1.size)).setRow (by rw [HG.out.1]; exact Nat.le_succ _) _⟩
structure TkAt (w : World) (B A : Nat) (b : Blk) (k : Nat) : Prop where
 blk : BlkAt w B b
 at_ : objAt w A = some (.cells #[.int .i64 k] 3 (0, 0))
theorem fold_num (l : List UInt8) : ∀ k, k < l.length → num (l.take (k + 1)) = num (l.take k) * 256 + (l.getD k 0).toNat := fun k hk => by
 rw [num_take_succ l k hk, List.getD_eq_getElem?_getD, List.getElem?_eq_getElem hk]; rfl
theorem tnum_any (B A : Nat) (b : Blk) (p n : Nat) (w : World) (h : TkAt w B A b p) (hn : n ≤ 4) (hp : p + n ≤ 56) :
 Calls Tryz.prog 186 #[.int .i64 n, .pointer (some ⟨B, 0, none⟩), .pointer (some ⟨A, 0, none⟩)] w fun e w' => e = .returned (.int .u32 (b.sub p n : Nat)) ∧ Keeps (fun q => q = A) w w' ∧ TkAt w' B A b (p + n) := by
 have H := Lib.hid h
 clear h
 go_enter Tryz.func186, Tryz.ntmps186
 go_wp2_with fail
 go_loopw [4, 6] (fun v i wr => ∃ k : Nat, k ≤ n ∧ i = .int .i64 k ∧ v = .int .u32 (b.sub p k : Nat) ∧ Keeps (fun q => q = A) w wr ∧ TkAt wr B A b (p + k)) (fun _ i _ => n - (Go.RowKit.intOf i).toNat)
 case atStart => exact ⟨0, Nat.zero_le _, rfl, by simp [Blk.sub, num], Keeps.refl _ _, H.out⟩
 case round =>
  obtain ⟨k, hk, rfl, rfl, hK, hT⟩ := hrel
  by_cases hlt : k < n
  · have hlti : (k : Int) < (n : Int) := by omega
    have hs : b.sub p (k + 1) = b.sub p k * 256 + (b.body.getD (p + k) 0).toNat := by
     unfold Blk.sub
     rw [fold_num _ k (by rw [List.length_drop, b.len]; omega)]
     rw [List.getD_eq_getElem?_getD, List.getElem?_drop, List.getD_eq_getElem?_getD]
    have hlt4 : b.sub p k < 16777216 := by
     have := num_le ((b.body.drop p).take k) 3 (by rw [List.length_take]; omega)
     exact this
    obtain ⟨q, hq⟩ : ∃ q, q = p + k := ⟨_, rfl⟩
    rw [← hq] at hT hs
    have hq56 : q < 56 := by omega
    have cA := cell_obj hT.at_ 0
    have fA := free_obj hT.at_ 0
    have cB : wr.cell? ⟨B, 1 + q, none⟩ = some (.int .u8 ((b.body.getD q 0).toNat : Int)) := by rw [hT.blk.cell q hq56, List.getD_eq_getElem?_getD, List.getElem?_eq_getElem (by rw [b.len]; exact hq56)]; rfl
    have hc2 := (b.body.getD q 0).toNat_lt
    have q0 : (0 : Int) ≤ (q : Int) := Int.natCast_nonneg _
    have q1 : (q : Int) < 56 := by omega
    have hAB : A ≠ B := fun e => by
     have h1 := hT.at_
     rw [e] at h1
     exact ne_of_obj h1 hT.blk (by decide) rfl
    have HT := Lib.hid (And.intro hK (And.intro hT (And.intro hq (And.intro hs hAB))))
    generalize (b.body.getD q 0).toNat = c at *
    generalize b.sub p k = u at *
    clear hK hT hq hs hAB
    go_wp2_with fail
    go_roundw
    case rel =>
     have hset : Keeps (fun x => x = A) wr (wr.setCell ⟨A, 0, none⟩ (.int .i64 (q + 1 : Nat))) := Keeps.setCell _ _ _ rfl
     exact ⟨k + 1, by omega, by go_num, by rw [HT.out.2.2.2.1, or_byte u c hlt4 hc2], HT.out.1.trans hset, ⟨hset.obj HT.out.2.1.blk (fun e => HT.out.2.2.2.2 e.symm), by rw [show p + (k + 1) = q + 1 by have := HT.out.2.2.1; omega, objAt_setCell HT.out.2.1.at_]; rfl⟩⟩
    case measure => simp [Go.RowKit.intOf]; omega
  · obtain rfl : k = n := by omega
    have HT := Lib.hid (And.intro hK hT)
    clear hK hT
    go_wp2_with fail
    go_ret
    exact ⟨rfl, HT.out⟩
end
section
open Go.RowKit
attribute [local irreducible] Calls

structure TkSt (w0 w : World) (G H : Nat) (b : Blk) (p : Nat) (n : Nd) : Prop where
 rd : TkAt w G (G + 2) b p
 nd : objAt w H = some (.cells n.cells 165 (0, 0))
 out : objAt w (G + 1) = some (.cells Nd.zero.cells 165 (0, 0))
 bel : Below G w0 w
 hH : G + 2 < H
theorem TkSt.num {w0 w w' : World} {G H p q : Nat} {b : Blk} {n : Nd} (h : TkSt w0 w G H b p n) (hk : Keeps (fun x => x = G + 2) w w') (ht : TkAt w' G (G + 2) b q) : TkSt w0 w' G H b q n :=
 ⟨ht, hk.obj h.nd (fun e => by have := h.hH; omega), hk.obj h.out (by omega), hk.below (by have := block_lt h.rd.at_; omega) (fun x e => by omega) |> h.bel.trans, h.hH⟩
theorem TkSt.set {w0 w : World} {G H p : Nat} {b : Blk} {n n' : Nd} (h : TkSt w0 w G H b p n) (i : Nat) (x : Value) (hx : n.cells.setIfInBounds i x = n'.cells) : TkSt w0 (w.setCell ⟨H, i, none⟩ x) G H b p n' := by
 have hk : Keeps (fun q => q = H) w (w.setCell ⟨H, i, none⟩ x) := Keeps.setCell _ _ _ rfl
 have := h.hH
 exact ⟨⟨hk.obj h.rd.blk (by omega), hk.obj h.rd.at_ (by omega)⟩, by rw [objAt_setCell h.nd, hx], hk.obj h.out (by omega), h.bel.trans (hk.below (by have := block_lt h.rd.at_; omega) (fun q e => by omega)), h.hH⟩
theorem sub_long (b : Blk) : b.sub 20 1 = b.long := by
 unfold Blk.sub Blk.long
 rw [List.getD_eq_getElem?_getD, List.getElem?_eq_getElem (by rw [b.len]; decide), Option.getD_some]
 have : (b.body.drop 20).take 1 = [b.body[20]'(by rw [b.len]; decide)] := by
  rw [List.drop_eq_getElem_cons (by rw [b.len]; decide)]; rfl
 rw [this]
 simp [num]
def nodeCut (b : Blk) : Nd := { nodeUpto b 4 with index := (b.sub 18 2 : Int) - 1, target := ⟨((b.body.drop 21).take (min b.long 35)).toArray⟩ }
theorem nodeCut_of {b : Blk} (h : ¬ 35 < b.long) : nodeCut b = nodeOf b := by
 unfold nodeCut
 rw [show min b.long 35 = b.long by omega]; rfl
theorem nodeCut_long {b : Blk} (h : 35 < b.long) (kind : Int) : mayNode kind (nodeCut b) = false := by
 have hl : (nodeCut b).target.data.toList.length = 35 := by
  unfold nodeCut
  rw [show min b.long 35 = 35 by omega]
  simp [b.len]
 unfold mayNode kindOk
 have h1 : (nodeCut b).target.data.toList.isEmpty = false := by
  cases hx : (nodeCut b).target.data.toList with
  | nil => rw [hx] at hl; simp at hl
  | cons a l => rfl
 have h2 : mayTarget (nodeCut b).target.data.toList = false := by
  unfold mayTarget
  rw [hl]; simp
 rw [h1, h2]
 split
 · simp
 · split
   · simp
   · split <;> simp
theorem takeNode_eq (b : Blk) : takeNode b = if putNode b.kind (nodeCut b) = (b, true) then (nodeCut b, true) else (Nd.zero, false) := by
 unfold takeNode
 by_cases h : 35 < b.long
 · rw [if_pos h, if_neg (fun e => by
    unfold putNode at e
    rw [nodeCut_long h] at e
    cases e)]
 · rw [if_neg h, nodeCut_of h]
def nPutSays (kind : Int) : Prop := ∀ (n : Nd) (w : World), n.wf → Calls Tryz.prog 149 #[.int .i64 kind, .agg n.cells] w fun e w' => e = .returned (.tuple #[.agg (putNode kind n).1.cells, .bool (putNode kind n).2]) ∧ Below w.heap.size w w'
theorem nTake_any (b : Blk) (w : World) (hPut : nPutSays b.kind) :
 Calls Tryz.prog 143 #[.agg b.cells] w fun e w' => e = .returned (.tuple #[.agg (takeNode b).1.cells, .bool (takeNode b).2]) ∧ Below w.heap.size w w' := by
 have HPut := Lib.hid hPut
 clear hPut
 go_enter Tryz.func143, Tryz.ntmps143
 go_upto_region 2 with fail
 have hA : BlkAt (((w.alloc (.cells b.cells 37)).alloc (.cells Nd.zero.cells 165)).alloc (.cells #[.int .i64 0] 3)) w.heap.size b := ((BlkAt.alloc_new _ _).alloc _).alloc _
 have hZ : objAt (((w.alloc (.cells b.cells 37)).alloc (.cells Nd.zero.cells 165)).alloc (.cells #[.int .i64 0] 3)) (w.heap.size + 1) = some (.cells Nd.zero.cells 165 (0, 0)) := by rw [objAt_alloc, size_alloc, size_alloc, if_neg (by omega), objAt_alloc, size_alloc, if_pos rfl]
 have hI : objAt (((w.alloc (.cells b.cells 37)).alloc (.cells Nd.zero.cells 165)).alloc (.cells #[.int .i64 0] 3)) (w.heap.size + 2) = some (.cells #[.int .i64 0] 3 (0, 0)) := by rw [objAt_alloc, size_alloc, size_alloc, if_pos rfl]
 have hB : Below w.heap.size w (((w.alloc (.cells b.cells 37)).alloc (.cells Nd.zero.cells 165)).alloc (.cells #[.int .i64 0] 3)) := grow_alloc (grow_alloc (grow_alloc (Below.refl _ _) _) _) _
 rw [show Nd.zero.cells = #[.int .u32 0, .int .i64 0, .int .i64 0, .int .i64 0, .int .i64 0, .int .i64 0, .int .i64 0, .int .i64 0, .string ⟨#[]⟩] from rfl] at hA hZ hB hI
 obtain ⟨w0, hw0⟩ : ∃ w0, w0 = ((w.alloc (.cells b.cells 37)).alloc (.cells #[.int .u32 0, .int .i64 0, .int .i64 0, .int .i64 0, .int .i64 0, .int .i64 0, .int .i64 0, .int .i64 0, .string ⟨#[]⟩] 165)).alloc (.cells #[.int .i64 0] 3) := ⟨_, rfl⟩
 obtain ⟨G, hG⟩ : ∃ G, G = w.heap.size := ⟨_, rfl⟩
 have hGw : Below G w w := by rw [hG]; exact Below.refl _ _
 rw [← hw0] at hA hZ hI hB ⊢
 rw [← hG] at hA hZ hI hB ⊢
 have H0 := Lib.hid (And.intro (TkAt.mk hA hI) (And.intro hZ (And.intro hB hG)))
 clear hA hZ hI hB hw0 hG hGw
 have u1 : IntKind.i64.wrap (b.sub 4 2 : Int) = b.sub 4 2 := IntWalk.i64_in _ (by have := b.sub_lt 4 2; omega)
 have u2 : IntKind.i64.wrap (b.sub 6 4 : Int) = b.sub 6 4 := IntWalk.i64_in _ (by have := b.sub_lt 6 4; omega)
 go_upto_region 4 with (first
  | (go_at_call 186; refine (tnum_any G (G + 2) b 0 4 _ H0.out.1 (by decide) (by decide)).mono ?_; rintro e x1 ⟨rfl, k1, t1⟩)
  | (go_at_call 186; refine (tnum_any G (G + 2) b 4 2 _ t1 (by decide) (by decide)).mono ?_; rintro e x2 ⟨rfl, k2, t2⟩)
  | (go_at_call 186; refine (tnum_any G (G + 2) b 6 4 _ t2 (by decide) (by decide)).mono ?_; rintro e x3 ⟨rfl, k3, t3⟩))
 have hk3 : Keeps (fun x => x = G + 2) w0 x3 := (k1.trans k2).trans k3
 have hH : G + 2 < x3.heap.size := block_lt t3.at_
 obtain ⟨H, hH'⟩ : ∃ H, H = x3.heap.size := ⟨_, rfl⟩
 have hst : TkSt w (x3.alloc (.cells (nodeUpto b 0).cells 165)) G H b 10 (nodeUpto b 0) :=
  ⟨⟨t3.blk.alloc _, grow_obj (grow_alloc (Below.refl _ _) _) t3.at_⟩, by rw [objAt_alloc, if_pos hH'], grow_obj (grow_alloc (Below.refl _ _) _) (hk3.obj H0.out.2.1 (by omega)),
   (H0.out.2.2.1.trans (hk3.below (by have := H0.out.2.2.1.size; have := H0.out.2.2.2; omega) (fun q e => by omega))).alloc (by omega) _, by omega⟩
 rw [show (nodeUpto b 0).cells = #[.int .u32 (b.sub 0 4 : Nat), .int .i64 (b.sub 4 2 : Nat), .int .i64 (b.sub 6 4 : Nat), .int .i64 0, .int .i64 0, .int .i64 0, .int .i64 0, .int .i64 0, .string ⟨#[]⟩] from rfl] at hst
 rw [← hH']
 obtain ⟨w4, hw4⟩ : ∃ w4, w4 = x3.alloc (.cells #[.int .u32 (b.sub 0 4 : Nat), .int .i64 (b.sub 4 2 : Nat), .int .i64 (b.sub 6 4 : Nat), .int .i64 0, .int .i64 0, .int .i64 0, .int .i64 0, .int .i64 0, .string ⟨#[]⟩] 165) := ⟨_, rfl⟩
 rw [← hw4] at hst ⊢
 clear hk3 hH hH' hw4 k1 k2 k3 t1 t2 t3 u1 u2
 go_wp2_with fail
 go_loopw [21] (fun s6 wr => ∃ k : Nat, k ≤ 4 ∧ s6 = .int .i64 k ∧ TkSt w wr G H b (10 + 2 * k) (nodeUpto b k)) (fun i _ => 4 - (Go.RowKit.intOf i).toNat)
 case atStart => exact ⟨0, Nat.zero_le _, rfl, hst⟩
 case round =>
  clear hst
  obtain ⟨k, hk, rfl, hs⟩ := hrel
  by_cases hlt : k < 4
  · obtain rfl | rfl | rfl | rfl : k = 0 ∨ k = 1 ∨ k = 2 ∨ k = 3 := by omega
    · have cN := cell_obj hs.nd 3
      have fN := free_obj hs.nd 3
      have cN' : wr.cell? ⟨H, 3, none⟩ = some (.int .i64 0) := cN.trans rfl
      have hb0 : (0 : Int) ≤ (b.sub 10 2 : Int) := Int.natCast_nonneg _
      have hb1 : (b.sub 10 2 : Int) < 65536 := by have := b.sub_lt 10 2; omega
      have u1 : IntKind.i64.wrap (b.sub 10 2 : Int) = b.sub 10 2 := IntWalk.i64_in _ (by omega)
      have HS := Lib.hid hs
      clear hs cN
      go_wp2_with (go_at_call 186; refine (tnum_any G (G + 2) b 10 2 _ HS.out.rd (by decide) (by decide)).mono ?_; rintro e x1 ⟨rfl, k1, t1⟩; have hs1 := HS.out.num k1 t1; have cM : x1.cell? ⟨H, 3, none⟩ = some (.int .i64 0) := (cell_obj hs1.nd 3).trans rfl; have fM := free_obj hs1.nd 3; have HS1 := Lib.hid hs1; clear hs1 k1 t1 cN' fN)
      go_roundw
      case rel => exact ⟨1, by omega, rfl, HS1.out.set 3 _ rfl⟩
      case measure => decide
    · have cN := cell_obj hs.nd 4
      have fN := free_obj hs.nd 4
      have cN' : wr.cell? ⟨H, 4, none⟩ = some (.int .i64 0) := cN.trans rfl
      have hb0 : (0 : Int) ≤ (b.sub 12 2 : Int) := Int.natCast_nonneg _
      have hb1 : (b.sub 12 2 : Int) < 65536 := by have := b.sub_lt 12 2; omega
      have u1 : IntKind.i64.wrap (b.sub 12 2 : Int) = b.sub 12 2 := IntWalk.i64_in _ (by omega)
      have HS := Lib.hid hs
      clear hs cN
      go_wp2_with (go_at_call 186; refine (tnum_any G (G + 2) b 12 2 _ HS.out.rd (by decide) (by decide)).mono ?_; rintro e x1 ⟨rfl, k1, t1⟩; have hs1 := HS.out.num k1 t1; have cM : x1.cell? ⟨H, 4, none⟩ = some (.int .i64 0) := (cell_obj hs1.nd 4).trans rfl; have fM := free_obj hs1.nd 4; have HS1 := Lib.hid hs1; clear hs1 k1 t1 cN' fN)
      go_roundw
      case rel => exact ⟨2, by omega, rfl, HS1.out.set 4 _ rfl⟩
      case measure => decide
    · have cN := cell_obj hs.nd 5
      have fN := free_obj hs.nd 5
      have cN' : wr.cell? ⟨H, 5, none⟩ = some (.int .i64 0) := cN.trans rfl
      have hb0 : (0 : Int) ≤ (b.sub 14 2 : Int) := Int.natCast_nonneg _
      have hb1 : (b.sub 14 2 : Int) < 65536 := by have := b.sub_lt 14 2; omega
      have u1 : IntKind.i64.wrap (b.sub 14 2 : Int) = b.sub 14 2 := IntWalk.i64_in _ (by omega)
      have HS := Lib.hid hs
      clear hs cN
      go_wp2_with (go_at_call 186; refine (tnum_any G (G + 2) b 14 2 _ HS.out.rd (by decide) (by decide)).mono ?_; rintro e x1 ⟨rfl, k1, t1⟩; have hs1 := HS.out.num k1 t1; have cM : x1.cell? ⟨H, 5, none⟩ = some (.int .i64 0) := (cell_obj hs1.nd 5).trans rfl; have fM := free_obj hs1.nd 5; have HS1 := Lib.hid hs1; clear hs1 k1 t1 cN' fN)
      go_roundw
      case rel => exact ⟨3, by omega, rfl, HS1.out.set 5 _ rfl⟩
      case measure => decide
    · have cN := cell_obj hs.nd 6
      have fN := free_obj hs.nd 6
      have cN' : wr.cell? ⟨H, 6, none⟩ = some (.int .i64 0) := cN.trans rfl
      have hb0 : (0 : Int) ≤ (b.sub 16 2 : Int) := Int.natCast_nonneg _
      have hb1 : (b.sub 16 2 : Int) < 65536 := by have := b.sub_lt 16 2; omega
      have u1 : IntKind.i64.wrap (b.sub 16 2 : Int) = b.sub 16 2 := IntWalk.i64_in _ (by omega)
      have HS := Lib.hid hs
      clear hs cN
      go_wp2_with (go_at_call 186; refine (tnum_any G (G + 2) b 16 2 _ HS.out.rd (by decide) (by decide)).mono ?_; rintro e x1 ⟨rfl, k1, t1⟩; have hs1 := HS.out.num k1 t1; have cM : x1.cell? ⟨H, 6, none⟩ = some (.int .i64 0) := (cell_obj hs1.nd 6).trans rfl; have fM := free_obj hs1.nd 6; have HS1 := Lib.hid hs1; clear hs1 k1 t1 cN' fN)
      go_roundw
      case rel => exact ⟨4, by omega, rfl, HS1.out.set 6 _ rfl⟩
      case measure => decide
  · obtain rfl : k = 4 := by omega
    have cN : wr.cell? ⟨H, 7, none⟩ = some (.int .i64 0) := (cell_obj hs.nd 7).trans rfl
    have fN := free_obj hs.nd 7
    have hb0 : (0 : Int) ≤ (b.sub 18 2 : Int) := Int.natCast_nonneg _
    have hb1 : (b.sub 18 2 : Int) < 65536 := by have := b.sub_lt 18 2; omega
    have u1 : IntKind.i64.wrap (b.sub 18 2 : Int) = b.sub 18 2 := IntWalk.i64_in _ (by omega)
    have HS := Lib.hid hs
    clear hs
    go_upto_region 10 with (go_at_call 186; refine (tnum_any G (G + 2) b 18 2 _ HS.out.rd (by decide) (by decide)).mono ?_; rintro e x1 ⟨rfl, k1, t1⟩; have hs1 := HS.out.num k1 t1; have cM : x1.cell? ⟨H, 7, none⟩ = some (.int .i64 0) := (cell_obj hs1.nd 7).trans rfl; have fM := free_obj hs1.nd 7; have HS1 := Lib.hid hs1; clear hs1 k1 t1 cN fN)
    have h7 := HS1.out.set (n' := { nodeUpto b 4 with index := (b.sub 18 2 : Int) - 1 }) 7 (.int .i64 ((b.sub 18 2 : Nat) - 1)) rfl
    obtain ⟨w7, hw7⟩ : ∃ w7, w7 = x1.setCell ⟨H, 7, none⟩ (.int .i64 ((b.sub 18 2 : Nat) - 1)) := ⟨_, rfl⟩
    rw [← hw7] at h7 ⊢
    clear hw7 cM fM HS1 HS u1 hb0 hb1
    have hlong : b.sub 20 1 = b.long := sub_long b
    have hl255 : b.long ≤ 255 := by unfold Blk.long; have := (b.body.getD 20 0).toNat_lt; omega
    have H7 := Lib.hid h7
    clear h7
    have u1 : IntKind.i64.wrap (b.long : Int) = b.long := IntWalk.i64_in _ (by omega)
    go_upto_region 11 with (go_at_call 186; refine (tnum_any G (G + 2) b 20 1 _ H7.out.rd (by decide) (by decide)).mono ?_; rw [hlong]; rintro e x1 ⟨rfl, k1, t1⟩)
    have h8 := H7.out.num k1 t1
    clear k1 t1
    obtain ⟨m, hm⟩ : ∃ m, m = min b.long 35 := ⟨_, rfl⟩
    have cA : x1.cell? ⟨G + 1 + 1, 0, none⟩ = some (.int .i64 21) := cell_obj h8.rd.at_ 0
    have c8 : x1.cell? ⟨H, 8, none⟩ = some (.string ⟨#[]⟩) := (cell_obj h8.nd 8).trans rfl
    have f8 := free_obj h8.nd 8
    have htl : ((b.body.drop 21).take m).length = m := by rw [List.length_take, List.length_drop, b.len]; omega
    have hconv := run_convert_bytes_back (P := Tryz.prog) x1 22 9 5 ⟨G, 22, none⟩ 35 ((b.body.drop 21).take m) Tryz.underlying22 Tryz.underlying5 Tryz.underlying9 (fun j hj => by
     rw [htl] at hj
     have hc := h8.rd.blk.cell (21 + j) (by omega)
     have hadd : (⟨G, 22, none⟩ : Addr).add j = ⟨G, 22 + j, none⟩ := by unfold Addr.add; split <;> simp_all
     rw [hadd, show 22 + j = 1 + (21 + j) by omega, hc]
     simp only [List.getElem_take, List.getElem_drop])
    rw [htl] at hconv
    have h9 := h8.set (n' := nodeCut b) 8 (.string ⟨((b.body.drop 21).take m).toArray⟩) (by rw [hm]; rfl)
    obtain ⟨T, hT⟩ : ∃ T, T = ((b.body.drop 21).take m).toArray := ⟨_, rfl⟩
    rw [← hT] at hconv h9
    have H8 := Lib.hid (And.intro h9 (And.intro h8 (And.intro htl (And.intro hm hT))))
    clear h8 h9 htl hT hlong hm
    go_cut [] (fun wx => wx = x1.setCell ⟨H, 8, none⟩ (.string ⟨T⟩))
    case first =>
     by_cases hl : b.long ≤ 35
     · have hm : m = b.long := by have := H8.out.2.2.2.1; omega
       subst hm
       clear H8
       have z1 : min (21 + (b.long : Int)) 56 = 21 + (b.long : Int) := by omega
       have z2 : (b.long : Int) ≤ 35 := by omega
       have z3 : (0 : Int) ≤ (b.long : Int) := by omega
       have z4 : (21 : Int) ≤ 21 + (b.long : Int) := by omega
       have z5 : 21 + (b.long : Int) ≤ 56 := by omega
       have z6 : ¬ (21 + (b.long : Int) < 21) := by omega
       clear hl
       go_wp2_with fail
       go_meet
       rfl
     · have hm : m = 35 := by have := H8.out.2.2.2.1; omega
       subst hm
       clear H8
       have z1 : min (21 + (b.long : Int)) 56 = 56 := by omega
       go_wp2_with fail
       go_meet
       rfl
    case rest =>
     have h9 := H8.out.1
     rw [← hcut] at h9
     clear hconv cA c8 f8 u1 H8 H7 hcut hl255 hlt hk
     have ck : wc.cell? ⟨G, 0, none⟩ = some (.int .i64 b.kind) := (cell_obj h9.rd.blk 0).trans b.cell0
     have hnd := hasNd_obj h9.nd
     have hnr := rowAt_heap h9.nd
     have hwf : (nodeCut b).wf := by
      have := b.sub_lt 0 4
      refine ⟨by simp [nodeCut, nodeUpto], by simp only [nodeCut, nodeUpto]; omega, ?_⟩
      show ((b.body.drop 21).take (min b.long 35)).toArray.size ≤ 1000000
      simp; omega
     obtain ⟨⟨pb, pok⟩, hp⟩ : ∃ p, putNode b.kind (nodeCut b) = p := ⟨_, rfl⟩
     have hP := HPut.out (nodeCut b) wc hwf
     have hTk := takeNode_eq b
     rw [hp] at hP hTk
     dsimp only at hP
     have HP := Lib.hid hP
     have HTk := Lib.hid hTk
     have H9 := Lib.hid h9
     clear hP hp hTk hwf h9
     generalize hNC : nodeCut b = N at *
     clear hNC
     go_upto_region 13 with (go_at_call 149; refine HP.out.mono ?_; rintro e w9 ⟨rfl, be9⟩)
     have hB10 : Below wc.heap.size wc (w9.alloc (.cells pb.cells 37)) := grow_alloc be9 _
     have hb10 := H9.out.rd.blk.below hB10 (block_lt H9.out.rd.blk)
     have hk10 := BlkAt.alloc_new w9 pb
     have hO10 := grow_obj hB10 H9.out.nd
     have hZ10 := grow_obj hB10 H9.out.out
     have hbel10 : Below G w (w9.alloc (.cells pb.cells 37)) := H9.out.bel.trans (hB10.mono (by have := block_lt H9.out.rd.at_; omega))
     clear ck hnd hnr hB10 be9
     generalize hw10 : w9.alloc (.cells pb.cells 37) = w10 at *
     generalize hK : w9.heap.size = K at *
     have hh1 := hb10.has
     have hr1 := hb10.row
     have hh2 := hk10.has
     have hr2 := hk10.row
     have hh3 := hasNd_obj hO10
     have hr3 : rowAt w10 H = some N.cells := rowAt_heap hO10
     have hh4 := hasNd_obj hZ10
     have HF := Lib.hid (And.intro (rowAt_heap (objAt_setRow hZ10 Nd.zero.cells)) (And.intro (hbel10.setRow (g := G + 1) (Nat.le_succ _) Nd.zero.cells)
      (And.intro (rowAt_heap (objAt_setRow hZ10 N.cells)) (hbel10.setRow (g := G + 1) (Nat.le_succ _) N.cells))))
     have HG := Lib.hid H0.out.2.2.2
     clear hb10 hk10 hO10 hZ10 hbel10 hw10 hK H9 H0
     cases pok
     · have Ht := Lib.hid (show takeNode b = (Nd.zero, false) by rw [HTk.out, if_neg (by intro h; cases h)])
       go_wp2_with fail
       refine bodyPost_ret (results_two rfl (resOne_nd rfl HF.out.1) (resOne_tmp _ _ _)) rfl ?_
       exact ⟨by rw [Ht.out]; rfl, by rw [← HG.out]; exact HF.out.2.1⟩
     · by_cases hpb : pb = b
       · have d1 : decide (pb = b) = true := by simpa using hpb
         have Ht := Lib.hid (show takeNode b = (N, true) by rw [HTk.out, if_pos (by rw [hpb])])
         clear hpb
         go_wp2_with fail
         refine bodyPost_ret (results_two rfl (resOne_nd rfl HF.out.2.2.1) (resOne_tmp _ _ _)) rfl ?_
         exact ⟨by rw [Ht.out]; rfl, by rw [← HG.out]; exact HF.out.2.2.2⟩
       · have d1 : decide (pb = b) = false := by simpa using hpb
         have Hpb := Lib.hid hpb
         clear hpb
         have Ht := Lib.hid (show takeNode b = (Nd.zero, false) by rw [HTk.out, if_neg (by intro h; injection h with h1 h2; exact Hpb.out h1)])
         go_wp2_with fail
         refine bodyPost_ret (results_two rfl (resOne_nd rfl HF.out.1) (resOne_tmp _ _ _)) rfl ?_
         exact ⟨by rw [Ht.out]; rfl, by rw [← HG.out]; exact HF.out.2.1⟩
end
section
open Go.RowKit
attribute [local irreducible] Calls

theorem step_appOwn {ops : Array Oper} {o : Oper} {a b0 : Act} {w : World} {K : Act → World → Prop} {Q : Exit → Act → World → Prop} {F : Prop} (hgd : o.guard = none) (s x : Operand) (ho : o.op = .call { callee := .builtin .append, args := #[s, x], argTypes := #[22, 22] })
 {base : Nat} {v : Value} {xs : List UInt8} (hs : a.eval s = v) (hown : BRow w base v xs) {b2 : Nat} {u : Value} {ys : List UInt8} (hx : a.eval x = u) (hu : BRow w b2 u ys) (hys : 0 < ys.length) (hsz : xs.length + ys.length < 2000000000) (hbase : base ≤ w.heap.size)
 (h : ∀ g cap w', BRow w' base (.slice (some ⟨g, 0, none⟩) (xs.length + ys.length) cap) (xs ++ ys) → Below base w w' → Keeps (fun q => v.ownBlock = some q) w w' → (v.ownBlock = some g ∨ g = w.heap.size) → K (a.put o.dst (.slice (some ⟨g, 0, none⟩) (xs.length + ys.length) cap)) w') :
 if Region.wanted o (yielded ops b0.tmps) = true then Oper.wp Tryz.prog o a w K Q else F := by
 have hw : Region.wanted o (yielded ops b0.tmps) = true := by simp [Region.wanted, hgd]
 rw [if_pos hw]
 obtain ⟨g2, cap2, rfl, _, _⟩ := hu.form hys
 obtain ⟨i, z, hi, hz, hsi, hby, hzs⟩ := infoByte
 refine wp_append_lies (P := Tryz.prog) w s x 22 ho base 5 i z 1 1 Tryz.underlying22 hi hz hsi hby hzs (by decide) v xs.length _ hs hown ⟨g2, 0, none⟩ ys.length cap2 (ys.map fun c => Value.int .u8 c.toNat) hx
  (by simp) (World.ownsRow.cells hu (g := g2) rfl) (by intro x hx; simp only [List.mem_map] at hx; obtain ⟨c, _, rfl⟩ := hx; rfl) hys (by unfold maxLen; omega) (by omega) hbase w.heap.size rfl ?_
 intro g cap w' h2 h3 h4 _
 refine h g cap w' ?_ ((Below.refl base w).grown h3 hbase (fun k hk => (World.ownsRow.lt hown k hk).1)) ⟨h3.os, h3.tape, h3.output, h3.size, fun k' hk' hn' => h3.block k' hk' (fun e => hn' e.symm)⟩ h4
 unfold BRow
 rw [List.length_append, List.map_append]; exact h2

structure WtrAt (w : World) (t : TypeId) (W : Nat) (v : Value) (xs : List UInt8) : Prop where
 obj : objAt w W = some (.cells #[v] t (0, 0))
 row : BRow w 0 v xs
def Wt (W : Nat) (v : Value) : Nat → Prop := fun q => q = W ∨ v.ownBlock = some q
structure WtrStep (w w' : World) (t : TypeId) (W : Nat) (v v' : Value) (xs : List UInt8) : Prop where
 at_ : WtrAt w' t W v' xs
 keeps : Keeps (Wt W v) w w'
 own : ∀ g, v'.ownBlock = some g → v.ownBlock = some g ∨ w.heap.size ≤ g
section
variable {w w' w2 : World} {t : TypeId} {W : Nat} {v v' v2 : Value} {xs ys : List UInt8}
theorem BRow.ownObj {B : Nat} (h : BRow w B v xs) {g : Nat} (hg : v.ownBlock = some g) : B ≤ g ∧ ∃ q, objAt w g = some (.cells q 5 (0, 0)) := by
 rcases h.2 with ⟨h', _⟩ | ⟨g', cap', cur, h', hb, hg', _⟩
 · subst h'; cases hg
 · subst h'
   obtain rfl := Option.some.inj hg
   exact ⟨hb, cur, hg'⟩
theorem WtrAt.c0 (h : WtrAt w t W v xs) : w.cell? ⟨W, 0, none⟩ = some v := cell_obj h.obj 0
theorem WtrAt.free (h : WtrAt w t W v xs) : w.frozen? ⟨W, 0, none⟩ = false := free_obj h.obj 0
theorem WtrAt.ne (h : WtrAt w t W v xs) (ht : t ≠ 5) : v.ownBlock ≠ some W := fun e => by
 obtain ⟨_, q, hq⟩ := BRow.ownObj h.row e
 exact ne_of_obj hq h.obj (fun e => ht e.symm) rfl
theorem WtrAt.below (h : WtrAt w t W v xs) (hb : Below w.heap.size w w') : WtrAt w' t W v xs :=
 ⟨grow_obj hb h.obj, owns_keeps h.row (Keeps.of_below_size hb) (fun g hg e => by obtain ⟨_, q, hq⟩ := BRow.ownObj h.row hg; have := block_lt hq; omega)⟩
theorem WtrAt.lt (h : WtrAt w t W v xs) : ∀ q, Wt W v q → q < w.heap.size := fun q hq => by
 rcases hq with rfl | hq
 · exact block_lt h.obj
 · obtain ⟨_, c, hc⟩ := BRow.ownObj h.row hq; exact block_lt hc
theorem WtrStep.obj (h : WtrStep w w' t W v v' ys) (h0 : WtrAt w t W v xs) {g : Nat} {c : Array Value} {t' : TypeId} (hg : objAt w g = some (.cells c t' (0, 0))) (h1 : t' ≠ t) (h2 : t' ≠ 5) : objAt w' g = some (.cells c t' (0, 0)) :=
 h.keeps.obj hg (fun e => by
  rcases e with rfl | e
  · exact ne_of_obj hg h0.obj h1 rfl
  · obtain ⟨_, q, hq⟩ := BRow.ownObj h0.row e
    exact ne_of_obj hg hq h2 rfl)
theorem WtrStep.trans (h : WtrStep w w' t W v v' xs) (h2 : WtrStep w' w2 t W v' v2 ys) : WtrStep w w2 t W v v2 ys :=
 ⟨h2.at_, h.keeps.chain h2.keeps (fun k hk e => by
  rcases e with e | e
  · exact .inl e
  · exact .inr ((h.own k e).resolve_right (by omega))), fun g hg => (h2.own g hg).elim (h.own g) (fun e => .inr (Nat.le_trans h.keeps.size e))⟩
theorem WtrStep.same (h : WtrAt w t W v xs) : WtrStep w w t W v v xs := ⟨h, Keeps.refl _ _, fun _ hg => .inl hg⟩
theorem WtrStep.pre (hb : Below w.heap.size w w') (h : WtrStep w' w2 t W v v2 xs) : WtrStep w w2 t W v v2 xs := ⟨h.at_, (Keeps.of_below hb).trans h.keeps, fun g hg => (h.own g hg).imp id (Nat.le_trans hb.size)⟩
theorem WtrAt.mid (h0 : WtrAt w t W v xs) (ht : t ≠ 5) {x : World} (hb : Below w.heap.size w x) {y : World} (hk : Keeps (fun q => v.ownBlock = some q) x y) : objAt y W = some (.cells #[v] t (0, 0)) := hk.obj (h0.below hb).obj (fun e => h0.ne ht e)
theorem WtrStep.app {g cap n : Nat} (h0 : WtrAt w t W v xs) (ht : t ≠ 5) {x : World} (hb : Below w.heap.size w x) {y : World} (hr : BRow y 0 (.slice (some ⟨g, 0, none⟩) n cap) ys) (hk : Keeps (fun q => v.ownBlock = some q) x y) (ho : v.ownBlock = some g ∨ g = x.heap.size) : WtrStep w (y.setCell ⟨W, 0, none⟩ (.slice (some ⟨g, 0, none⟩) n cap)) t W v (.slice (some ⟨g, 0, none⟩) n cap) ys := by
 have h1 := h0.below hb
 have hy : objAt y W = some (.cells #[v] t (0, 0)) := hk.obj h1.obj (fun e => h0.ne ht e)
 have hgW : g ≠ W := fun e => by
  obtain ⟨_, q, hq⟩ := BRow.ownObj hr rfl
  exact ne_of_obj hq hy (fun e => ht e.symm) e
 have hks : Keeps (fun q => q = W) y (y.setCell ⟨W, 0, none⟩ (.slice (some ⟨g, 0, none⟩) n cap)) := Keeps.setCell _ _ _ rfl
 refine ⟨⟨by rw [objAt_setCell hy]; rfl, owns_keeps hr hks (fun q hq e => by obtain rfl := Option.some.inj hq; exact hgW e)⟩, ?_, fun q hq => ?_⟩
 · exact ((Keeps.of_below hb).trans (hk.mono fun q _ e => .inr e)).trans (hks.mono fun q _ e => .inl e)
 · obtain rfl := Option.some.inj hq
   rcases ho with e | e
   · exact .inl e
   · exact .inr (by rw [e]; exact hb.size)
end
theorem wnum_any (W : Nat) (v : Value) (xs : List UInt8) (x n : Nat) (w : World) (h : WtrAt w 281 W v xs) (_ : x < 4294967296) (hn : n ≤ 4) (hl : xs.length ≤ 1000) :
 Calls Tryz.prog 189 #[.pointer (some ⟨W, 0, none⟩), .int .u32 x, .int .i64 n] w fun e w' => e = .returned (.tuple #[]) ∧ ∃ v', WtrStep w w' 281 W v v' (xs ++ high x n) := by
 go_enter Tryz.func189, Tryz.ntmps189
 go_wp2_with fail
 go_loopw [6] (fun i wr => ∃ (k : Nat) (V : Value), k ≤ n ∧ i = .int .i64 ((n : Int) - 1 - k) ∧ WtrStep w wr 281 W v V (xs ++ (high x n).take k)) (fun i _ => (Go.RowKit.intOf i + 1).toNat)
 case atStart => exact ⟨0, v, Nat.zero_le _, by simp, by rw [List.take_zero, List.append_nil]; exact WtrStep.same h⟩
 case round =>
  obtain ⟨k, V, hk, rfl, hV⟩ := hrel
  have HV := Lib.hid (And.intro hV h)
  clear hV h
  by_cases hlt : k < n
  · have Hs := Lib.hid (high_take_succ x n k hlt)
    have hlen : (xs ++ (high x n).take k).length ≤ 1004 := by rw [List.length_append, List.length_take, high_length]; omega
    have h4 : n - 1 - k < 4 := by omega
    obtain ⟨j, hj⟩ : ∃ j, j = n - 1 - k := ⟨_, rfl⟩
    have hji : (n : Int) - 1 - k = (j : Int) := by omega
    rw [hji]
    rw [← hj] at Hs h4
    have Hj := Lib.hid (And.intro hj hji)
    generalize hy : xs ++ (high x n).take k = ys at *
    have HY := Lib.hid hy
    clear hj hji hy
    obtain ⟨c, hc⟩ : ∃ c, c = UInt8.ofNat (x / 256 ^ j % 256) := ⟨_, rfl⟩
    rw [← hc] at Hs
    have c0 := HV.out.1.at_.c0
    have hB2 : Below wr.heap.size wr (wr.alloc (.cells #[.int .u8 (c.toNat : Int)] 5)).drew := (grow_alloc (Below.refl _ _) _).drew
    have f0 := (HV.out.1.at_.below hB2).c0
    have hr1 := (HV.out.1.at_.below hB2).row
    have hlit : BRow (wr.alloc (.cells #[.int .u8 (c.toNat : Int)] 5)).drew 0 (.slice (some ⟨wr.heap.size, 0, none⟩) 1 1) [c] := BRow.lit (B := 0) c rfl (by show objAt (wr.alloc _) _ = _; rw [objAt_alloc, if_pos rfl]) (Nat.zero_le _)
    have HR := Lib.hid (And.intro hr1 (And.intro hlit hB2))
    clear hr1 hlit hB2
    have hcase : j = 0 ∨ j = 1 ∨ j = 2 ∨ j = 3 := by omega
    rcases hcase with rfl | rfl | rfl | rfl
    · have hv : IntKind.u8.wrap (x : Int) = (c.toNat : Int) := by rw [IntKind.wrap_u8, hc, ofNat_mod]; omega
      have hw : IntKind.i64.wrap 0 = 0 := by decide
      clear hc
      go_upto_region 3 with fail
      refine wp_region_F [11, 14] (S := fun w' => w'.cell? ⟨W, 0, none⟩ = some V ∧ True) (by kernel_rfl) (⟨c0, trivial⟩) (fun hHeld => ?_)
      show wpAnyF _ _ _ _ _ _ 15 #[false, false, false, false, false, false, false, false, false, false, false, false, false, false, false] _ _
      refine gP 0 ?_; try simp only [Act.put, qs]
      refine gF 1 [1, 2, 3, 4, 11, 12, 13, 14] ?_; try simp only [Act.put, qs]
      refine gF 2 [2, 3, 4, 11, 12, 13, 14] ?_; try simp only [Act.put, qs]
      refine gF 3 [3, 4, 11, 12, 13, 14] ?_; try simp only [Act.put, qs]
      refine gF 4 [4, 11, 12, 13, 14] ?_; try simp only [Act.put, qs]
      refine gF 5 [5, 8, 9, 10, 11, 12, 13, 14] ?_; try simp only [Act.put, qs]
      refine gF 6 [6, 7, 8, 9, 10, 11, 12, 13, 14] ?_; try simp only [Act.put, qs]
      refine gF 7 [7, 8, 9, 10, 11, 12, 13, 14] ?_; try simp only [Act.put, qs]
      refine gF 8 [8, 9, 10, 11, 12, 13, 14] ?_; try simp only [Act.put, qs]
      refine gF 9 [9, 10, 11, 12, 13, 14] ?_; try simp only [Act.put, qs]
      refine gW 10 fun K hK => ?_
      try simp only [qs]
      go_simp
      refine hK.out _ _ (by exact ⟨f0, trivial⟩) (fun hN => ?_); replace hHeld := hN; clear hK K hN
      try simp only [qs]
      refine gV 11 fun K hK => ?_
      refine step_appOwn rfl _ _ rfl rfl HR.out.1 rfl HR.out.2.1 (by simp) (by show ys.length + 1 < 2000000000; omega) (Nat.zero_le _) ?_; intro g2 cap2 w2 hr2 _ k2 o2; have hst := WtrStep.app HV.out.1.at_ (by decide) HR.out.2.2 hr2 k2 o2; have hmid := HV.out.1.at_.mid (by decide) HR.out.2.2 k2; have q0 := cell_obj hmid 0; have fz := free_obj hmid 0; clear hmid; have hW := HV.out.1.trans hst; have HW := Lib.hid hW; clear hW hst
      refine hK.out _ _ (trivial) (fun hN => ?_); replace hHeld := hN; clear hK K hN
      try simp only [Act.put, qs]
      refine gP 12 ?_; try simp only [Act.put, qs]
      refine gP 13 ?_; try simp only [Act.put, qs]
      refine gV 14 fun K hK => ?_
      try simp only [qs]
      go_simp
      refine hK.out _ _ (trivial) (fun hN => ?_); replace hHeld := hN; clear hK K hN
      try simp only [qs]
      refine wpAnyF_done (by kernel_rfl) ?_ _
      have e9 : ys ++ [c] = xs ++ (high x n).take (k + 1) := by rw [← HY.out, List.append_assoc, ← Hs.out]
      rw [e9] at HW
      go_wp2_with fail
      have hjj := Hj.out
      go_roundw
      case rel => exact ⟨k + 1, _, by omega, by congr 1; omega, HW.out⟩
      case measure => simp [Go.RowKit.intOf]
    · have hv : IntKind.u8.wrap ((x : Int) / 256) = (c.toNat : Int) := by rw [IntKind.wrap_u8, hc, ofNat_mod]; omega
      have hw : IntKind.i64.wrap 8 = 8 := by decide
      clear hc
      go_upto_region 3 with fail
      refine wp_region_F [11, 14] (S := fun w' => w'.cell? ⟨W, 0, none⟩ = some V ∧ True) (by kernel_rfl) (⟨c0, trivial⟩) (fun hHeld => ?_)
      show wpAnyF _ _ _ _ _ _ 15 #[false, false, false, false, false, false, false, false, false, false, false, false, false, false, false] _ _
      refine gP 0 ?_; try simp only [Act.put, qs]
      refine gF 1 [1, 2, 3, 4, 11, 12, 13, 14] ?_; try simp only [Act.put, qs]
      refine gF 2 [2, 3, 4, 11, 12, 13, 14] ?_; try simp only [Act.put, qs]
      refine gF 3 [3, 4, 11, 12, 13, 14] ?_; try simp only [Act.put, qs]
      refine gF 4 [4, 11, 12, 13, 14] ?_; try simp only [Act.put, qs]
      refine gF 5 [5, 8, 9, 10, 11, 12, 13, 14] ?_; try simp only [Act.put, qs]
      refine gF 6 [6, 7, 8, 9, 10, 11, 12, 13, 14] ?_; try simp only [Act.put, qs]
      refine gF 7 [7, 8, 9, 10, 11, 12, 13, 14] ?_; try simp only [Act.put, qs]
      refine gF 8 [8, 9, 10, 11, 12, 13, 14] ?_; try simp only [Act.put, qs]
      refine gF 9 [9, 10, 11, 12, 13, 14] ?_; try simp only [Act.put, qs]
      refine gW 10 fun K hK => ?_
      try simp only [qs]
      go_simp
      refine hK.out _ _ (by exact ⟨f0, trivial⟩) (fun hN => ?_); replace hHeld := hN; clear hK K hN
      try simp only [qs]
      refine gV 11 fun K hK => ?_
      refine step_appOwn rfl _ _ rfl rfl HR.out.1 rfl HR.out.2.1 (by simp) (by show ys.length + 1 < 2000000000; omega) (Nat.zero_le _) ?_; intro g2 cap2 w2 hr2 _ k2 o2; have hst := WtrStep.app HV.out.1.at_ (by decide) HR.out.2.2 hr2 k2 o2; have hmid := HV.out.1.at_.mid (by decide) HR.out.2.2 k2; have q0 := cell_obj hmid 0; have fz := free_obj hmid 0; clear hmid; have hW := HV.out.1.trans hst; have HW := Lib.hid hW; clear hW hst
      refine hK.out _ _ (trivial) (fun hN => ?_); replace hHeld := hN; clear hK K hN
      try simp only [Act.put, qs]
      refine gP 12 ?_; try simp only [Act.put, qs]
      refine gP 13 ?_; try simp only [Act.put, qs]
      refine gV 14 fun K hK => ?_
      try simp only [qs]
      go_simp
      refine hK.out _ _ (trivial) (fun hN => ?_); replace hHeld := hN; clear hK K hN
      try simp only [qs]
      refine wpAnyF_done (by kernel_rfl) ?_ _
      have e9 : ys ++ [c] = xs ++ (high x n).take (k + 1) := by rw [← HY.out, List.append_assoc, ← Hs.out]
      rw [e9] at HW
      go_wp2_with fail
      have hjj := Hj.out
      go_roundw
      case rel => exact ⟨k + 1, _, by omega, by congr 1; omega, HW.out⟩
      case measure => simp [Go.RowKit.intOf]
    · have hv : IntKind.u8.wrap ((x : Int) / 65536) = (c.toNat : Int) := by rw [IntKind.wrap_u8, hc, ofNat_mod]; omega
      have hw : IntKind.i64.wrap 16 = 16 := by decide
      clear hc
      go_upto_region 3 with fail
      refine wp_region_F [11, 14] (S := fun w' => w'.cell? ⟨W, 0, none⟩ = some V ∧ True) (by kernel_rfl) (⟨c0, trivial⟩) (fun hHeld => ?_)
      show wpAnyF _ _ _ _ _ _ 15 #[false, false, false, false, false, false, false, false, false, false, false, false, false, false, false] _ _
      refine gP 0 ?_; try simp only [Act.put, qs]
      refine gF 1 [1, 2, 3, 4, 11, 12, 13, 14] ?_; try simp only [Act.put, qs]
      refine gF 2 [2, 3, 4, 11, 12, 13, 14] ?_; try simp only [Act.put, qs]
      refine gF 3 [3, 4, 11, 12, 13, 14] ?_; try simp only [Act.put, qs]
      refine gF 4 [4, 11, 12, 13, 14] ?_; try simp only [Act.put, qs]
      refine gF 5 [5, 8, 9, 10, 11, 12, 13, 14] ?_; try simp only [Act.put, qs]
      refine gF 6 [6, 7, 8, 9, 10, 11, 12, 13, 14] ?_; try simp only [Act.put, qs]
      refine gF 7 [7, 8, 9, 10, 11, 12, 13, 14] ?_; try simp only [Act.put, qs]
      refine gF 8 [8, 9, 10, 11, 12, 13, 14] ?_; try simp only [Act.put, qs]
      refine gF 9 [9, 10, 11, 12, 13, 14] ?_; try simp only [Act.put, qs]
      refine gW 10 fun K hK => ?_
      try simp only [qs]
      go_simp
      refine hK.out _ _ (by exact ⟨f0, trivial⟩) (fun hN => ?_); replace hHeld := hN; clear hK K hN
      try simp only [qs]
      refine gV 11 fun K hK => ?_
      refine step_appOwn rfl _ _ rfl rfl HR.out.1 rfl HR.out.2.1 (by simp) (by show ys.length + 1 < 2000000000; omega) (Nat.zero_le _) ?_; intro g2 cap2 w2 hr2 _ k2 o2; have hst := WtrStep.app HV.out.1.at_ (by decide) HR.out.2.2 hr2 k2 o2; have hmid := HV.out.1.at_.mid (by decide) HR.out.2.2 k2; have q0 := cell_obj hmid 0; have fz := free_obj hmid 0; clear hmid; have hW := HV.out.1.trans hst; have HW := Lib.hid hW; clear hW hst
      refine hK.out _ _ (trivial) (fun hN => ?_); replace hHeld := hN; clear hK K hN
      try simp only [Act.put, qs]
      refine gP 12 ?_; try simp only [Act.put, qs]
      refine gP 13 ?_; try simp only [Act.put, qs]
      refine gV 14 fun K hK => ?_
      try simp only [qs]
      go_simp
      refine hK.out _ _ (trivial) (fun hN => ?_); replace hHeld := hN; clear hK K hN
      try simp only [qs]
      refine wpAnyF_done (by kernel_rfl) ?_ _
      have e9 : ys ++ [c] = xs ++ (high x n).take (k + 1) := by rw [← HY.out, List.append_assoc, ← Hs.out]
      rw [e9] at HW
      go_wp2_with fail
      have hjj := Hj.out
      go_roundw
      case rel => exact ⟨k + 1, _, by omega, by congr 1; omega, HW.out⟩
      case measure => simp [Go.RowKit.intOf]
    · have hv : IntKind.u8.wrap ((x : Int) / 16777216) = (c.toNat : Int) := by rw [IntKind.wrap_u8, hc, ofNat_mod]; omega
      have hw : IntKind.i64.wrap 24 = 24 := by decide
      clear hc
      go_upto_region 3 with fail
      refine wp_region_F [11, 14] (S := fun w' => w'.cell? ⟨W, 0, none⟩ = some V ∧ True) (by kernel_rfl) (⟨c0, trivial⟩) (fun hHeld => ?_)
      show wpAnyF _ _ _ _ _ _ 15 #[false, false, false, false, false, false, false, false, false, false, false, false, false, false, false] _ _
      refine gP 0 ?_; try simp only [Act.put, qs]
      refine gF 1 [1, 2, 3, 4, 11, 12, 13, 14] ?_; try simp only [Act.put, qs]
      refine gF 2 [2, 3, 4, 11, 12, 13, 14] ?_; try simp only [Act.put, qs]
      refine gF 3 [3, 4, 11, 12, 13, 14] ?_; try simp only [Act.put, qs]
      refine gF 4 [4, 11, 12, 13, 14] ?_; try simp only [Act.put, qs]
      refine gF 5 [5, 8, 9, 10, 11, 12, 13, 14] ?_; try simp only [Act.put, qs]
      refine gF 6 [6, 7, 8, 9, 10, 11, 12, 13, 14] ?_; try simp only [Act.put, qs]
      refine gF 7 [7, 8, 9, 10, 11, 12, 13, 14] ?_; try simp only [Act.put, qs]
      refine gF 8 [8, 9, 10, 11, 12, 13, 14] ?_; try simp only [Act.put, qs]
      refine gF 9 [9, 10, 11, 12, 13, 14] ?_; try simp only [Act.put, qs]
      refine gW 10 fun K hK => ?_
      try simp only [qs]
      go_simp
      refine hK.out _ _ (by exact ⟨f0, trivial⟩) (fun hN => ?_); replace hHeld := hN; clear hK K hN
      try simp only [qs]
      refine gV 11 fun K hK => ?_
      refine step_appOwn rfl _ _ rfl rfl HR.out.1 rfl HR.out.2.1 (by simp) (by show ys.length + 1 < 2000000000; omega) (Nat.zero_le _) ?_; intro g2 cap2 w2 hr2 _ k2 o2; have hst := WtrStep.app HV.out.1.at_ (by decide) HR.out.2.2 hr2 k2 o2; have hmid := HV.out.1.at_.mid (by decide) HR.out.2.2 k2; have q0 := cell_obj hmid 0; have fz := free_obj hmid 0; clear hmid; have hW := HV.out.1.trans hst; have HW := Lib.hid hW; clear hW hst
      refine hK.out _ _ (trivial) (fun hN => ?_); replace hHeld := hN; clear hK K hN
      try simp only [Act.put, qs]
      refine gP 12 ?_; try simp only [Act.put, qs]
      refine gP 13 ?_; try simp only [Act.put, qs]
      refine gV 14 fun K hK => ?_
      try simp only [qs]
      go_simp
      refine hK.out _ _ (trivial) (fun hN => ?_); replace hHeld := hN; clear hK K hN
      try simp only [qs]
      refine wpAnyF_done (by kernel_rfl) ?_ _
      have e9 : ys ++ [c] = xs ++ (high x n).take (k + 1) := by rw [← HY.out, List.append_assoc, ← Hs.out]
      rw [e9] at HW
      go_wp2_with fail
      have hjj := Hj.out
      go_roundw
      case rel => exact ⟨k + 1, _, by omega, by congr 1; omega, HW.out⟩
      case measure => simp [Go.RowKit.intOf]
  · have hkn : k = n := by omega
    subst hkn
    have hneg : ¬ ((0 : Int) ≤ (k : Int) - 1 - (k : Int)) := by omega
    go_wp2_with fail
    go_end0
    have := HV.out.1
    rw [List.take_of_length_le (by rw [high_length]; exact Nat.le_refl _)] at this
    exact ⟨rfl, V, this⟩
end
end Go.Proofs.YtbbnejehglonjaaGreat
