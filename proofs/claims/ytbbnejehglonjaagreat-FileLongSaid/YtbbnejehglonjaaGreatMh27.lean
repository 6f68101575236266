/- DERIVED. Contracts and laws that the proofs of this seat share, part 27 of 36: Rf15J Rf15L FiH FiI. -/
import Derived.Test.YtbbnejehglonjaaGreatMh00
import Derived.Test.YtbbnejehglonjaaGreatMh26
namespace Go.Proofs.YtbbnejehglonjaaGreat
set_option maxHeartbeats 8000000
set_option maxRecDepth 100000
set_option linter.unusedSimpArgs false
set_option linter.unusedVariables false
section
open Go.RowKit
attribute [local irreducible] Calls
structure StoreAt (w : World) (p : Nat) (place : Int) (g cap : Nat) (bs : List Blk) : Prop where
 box : objAt w p = some (.cells #[.int .i64 place, .slice (some ⟨g, 0, none⟩) bs.length cap] 58 (0, 0))
 row : KRow w 0 (.slice (some ⟨g, 0, none⟩) bs.length cap) bs
 ne : g ≠ p
theorem StoreAt.below {w w' : World} {p g cap : Nat} {place : Int} {bs : List Blk} (h : StoreAt w p place g cap bs) (hb : Below w.heap.size w w') : StoreAt w' p place g cap bs := ⟨grow_obj hb h.box, h.row.below hb, h.ne⟩
theorem StoreAt.c0 {w : World} {p g cap : Nat} {place : Int} {bs : List Blk} (h : StoreAt w p place g cap bs) : w.cell? ⟨p, 0, none⟩ = some (.int .i64 place) := by rw [cell_of_row w p 0 _ _ _ h.box]; rfl
theorem StoreAt.c1 {w : World} {p g cap : Nat} {place : Int} {bs : List Blk} (h : StoreAt w p place g cap bs) : w.cell? ⟨p, 1, none⟩ = some (.slice (some ⟨g, 0, none⟩) bs.length cap) := by rw [cell_of_row w p 1 _ _ _ h.box]; rfl

theorem cell_setRow_ne {w : World} {g : Nat} {c : Array Value} {a : Addr} (h : a.block ≠ g) : (w.setRow g c).cell? a = w.cell? a :=
 World.cell?_of_block (by simp only [World.setRow, Array.getElem?_modify]; rw [if_neg (fun e => h e.symm)])
theorem sid_any (p : Nat) (place : Int) (sl : Value) (n : Nm) (w : World) (h : objAt w p = some (.cells #[.int .i64 place, sl] 58 (0, 0))) :
 Calls Tryz.prog 137 #[.pointer (some ⟨p, 0, none⟩), .agg n.cells] w fun e w' => e = .returned (.agg (Id.mk place n.at_ n.gen).cells) ∧ Below w.heap.size w w' := by
 obtain ⟨⟨l, a, g⟩, nm, at_, gen⟩ := n
 rw [show (⟨⟨l, a, g⟩, nm, at_, gen⟩ : Nm).cells = #[.int .i64 l, .int .i64 a, .int .u32 g, .string nm, .int .i64 at_, .int .u32 gen] from rfl]
 have hb := ((Below.refl w.heap.size w).alloc (Nat.le_refl _) (.cells #[.int .i64 l, .int .i64 a, .int .u32 g, .string nm, .int .i64 at_, .int .u32 gen] 100)).alloc (by rw [size_alloc]; omega) (.cells #[.int .i64 0, .int .i64 0, .int .u32 0] 66)
 have hO : objAt ((w.alloc (.cells #[.int .i64 l, .int .i64 a, .int .u32 g, .string nm, .int .i64 at_, .int .u32 gen] 100)).alloc (.cells #[.int .i64 0, .int .i64 0, .int .u32 0] 66)) w.heap.size = some (.cells #[.int .i64 l, .int .i64 a, .int .u32 g, .string nm, .int .i64 at_, .int .u32 gen] 100 (0, 0)) := by
  rw [objAt_alloc, if_neg (by simp), objAt_alloc, if_pos rfl]
 have hZ : objAt ((w.alloc (.cells #[.int .i64 l, .int .i64 a, .int .u32 g, .string nm, .int .i64 at_, .int .u32 gen] 100)).alloc (.cells #[.int .i64 0, .int .i64 0, .int .u32 0] 66)) (w.heap.size + 1) = some (.cells #[.int .i64 0, .int .i64 0, .int .u32 0] 66 (0, 0)) := by rw [objAt_alloc, size_alloc, if_pos rfl]
 have hbox := grow_obj hb h
 obtain ⟨G, hG⟩ : ∃ G, G = w.heap.size := ⟨_, rfl⟩
 rw [← hG] at hO hZ
 have HG := Lib.hid hG
 have h0 := h
 clear h
 go_enter Tryz.func137, Tryz.ntmps137
 go_upto_region 1 with (fail)
 generalize (w.alloc (.cells #[.int .i64 l, .int .i64 a, .int .u32 g, .string nm, .int .i64 at_, .int .u32 gen] 100)).alloc (.cells #[.int .i64 0, .int .i64 0, .int .u32 0] 66) = w0 at *
 rw [← hG]
 have c0 : w0.cell? ⟨p, 0, none⟩ = some (.int .i64 place) := by rw [cell_of_row w0 p 0 _ _ _ hbox]; rfl
 have c4 : w0.cell? ⟨G, 4, none⟩ = some (.int .i64 at_) := by rw [cell_of_row w0 G 4 _ _ _ hO]; rfl
 have c5 : w0.cell? ⟨G, 5, none⟩ = some (.int .u32 gen) := by rw [cell_of_row w0 G 5 _ _ _ hO]; rfl
 have hg := hasId_obj hZ rfl
 have HZ := Lib.hid (And.intro hZ hb)
 have hpG : p ≠ G + 1 := by have := block_lt h0; omega
 clear hG hO hZ hbox hb
 refine wp_region_held_drew (S := fun w' => w'.cell? ⟨p, 0, none⟩ = some (.int .i64 place) ∧ w'.cell? ⟨G, 4, none⟩ = some (.int .i64 at_) ∧ w'.cell? ⟨G, 5, none⟩ = some (.int .u32 gen) ∧ True) (by kernel_rfl) (And.intro c0 (And.intro c4 (And.intro c5 trivial))) (fun hHeld => ?_)
 show wpAnyH _ _ _ _ _ 10 #[false, false, false, false, false, false, false, false, false, false] _ _
 refine gT 0 ?_; try simp only [Act.put, qs]
 refine gT 1 ?_; try simp only [Act.put, qs]
 refine gT 2 ?_; try simp only [Act.put, qs]
 refine gT 3 ?_; try simp only [Act.put, qs]
 refine gT 4 ?_; try simp only [Act.put, qs]
 refine gT 5 ?_; try simp only [Act.put, qs]
 refine gT 6 ?_; try simp only [Act.put, qs]
 refine gT 7 ?_; try simp only [Act.put, qs]
 refine gT 8 ?_; try simp only [Act.put, qs]
 refine gY 9 fun K hK => ?_
 try simp only [qs]
 go_simp
 refine hK.out _ _ (by exact ⟨(cell_setRow_ne hpG).trans hHeld.1, (cell_setRow_ne (by show G ≠ G + 1; omega)).trans hHeld.2.1, (cell_setRow_ne (by show G ≠ G + 1; omega)).trans hHeld.2.2.1, trivial⟩) (fun hN => ?_); replace hHeld := hN; clear hK K hN
 try simp only [qs]
 refine wpAnyH_done (by kernel_rfl) ?_ _
 go_wp2_with fail
 refine bodyPost_ret (results_one rfl (resOne_agg aggId rfl (rowAt_heap (objAt_setRow HZ.out.1 _)) rfl)) rfl ?_
 exact ⟨rfl, HZ.out.2.drew.setRow (by rw [HG.out]; exact Nat.le_succ _) _⟩

def sFind (place : Int) (bs : List Blk) (dir : Id) (name : ByteArray) : Id × Bool := if (find bs dir name).2 < 0 then (Id.zero, false) else (⟨place, (find bs dir name).1.at_, (find bs dir name).1.gen⟩, true)
theorem sFind_none {place : Int} {bs : List Blk} {dir : Id} {name : ByteArray} (h : (find bs dir name).2 < 0) : sFind place bs dir name = (Id.zero, false) := by unfold sFind; rw [if_pos h]
theorem sFind_some {place : Int} {bs : List Blk} {dir : Id} {name : ByteArray} (h : ¬ (find bs dir name).2 < 0) : sFind place bs dir name = (⟨place, (find bs dir name).1.at_, (find bs dir name).1.gen⟩, true) := by unfold sFind; rw [if_neg h]

theorem sFind_of (p : Nat) (place : Int) (g cap : Nat) (bs : List Blk) (dir : Id) (name : ByteArray) (w : World) (h : StoreAt w p place g cap bs) (hF : ∀ w', Below w.heap.size w w' → Calls Tryz.prog 49 #[.slice (some ⟨g, 0, none⟩) bs.length cap, .agg dir.cells, .string name] w' fun e w2 => e = .returned (.tuple #[.agg (find bs dir name).1.cells, .int .i64 (find bs dir name).2]) ∧ Below w'.heap.size w' w2) :
 Calls Tryz.prog 80 #[.pointer (some ⟨p, 0, none⟩), .agg dir.cells, .string name] w fun e w' => e = .returned (.tuple #[.agg (sFind place bs dir name).1.cells, .bool (sFind place bs dir name).2]) ∧ Below w.heap.size w w' := by
 have h1 := sFind_none (place := place) (bs := bs) (dir := dir) (name := name)
 have h2 := sFind_some (place := place) (bs := bs) (dir := dir) (name := name)
 generalize find bs dir name = f at *
 generalize sFind place bs dir name = r at *
 obtain ⟨N, q⟩ := f
 dsimp only at hF h1 h2
 have hid := fun w' hb => sid_any p place (.slice (some ⟨g, 0, none⟩) bs.length cap) N w' (grow_obj hb h.box)
 obtain ⟨dl, da, dg⟩ := dir
 rw [show (⟨dl, da, dg⟩ : Id).cells = #[.int .i64 dl, .int .i64 da, .int .u32 dg] from rfl] at hF ⊢
 rw [show N.cells = #[.int .i64 N.dir.label, .int .i64 N.dir.at_, .int .u32 N.dir.gen, .string N.name, .int .i64 N.at_, .int .u32 N.gen] from rfl] at hF hid
 rw [show (Id.mk place N.at_ N.gen).cells = #[.int .i64 place, .int .i64 N.at_, .int .u32 N.gen] from rfl] at hid
 have HF := Lib.hid hF
 have Hid := Lib.hid hid
 have Hst := Lib.hid h
 have hO : objAt ((w.alloc (.cells #[.int .i64 dl, .int .i64 da, .int .u32 dg] 66)).alloc (.cells #[.int .i64 0, .int .i64 0, .int .u32 0] 66)) w.heap.size = some (.cells #[.int .i64 dl, .int .i64 da, .int .u32 dg] 66 (0, 0)) := by
  rw [objAt_alloc, if_neg (by simp), objAt_alloc, if_pos rfl]
 have hZ : objAt ((w.alloc (.cells #[.int .i64 dl, .int .i64 da, .int .u32 dg] 66)).alloc (.cells #[.int .i64 0, .int .i64 0, .int .u32 0] 66)) (w.heap.size + 1) = some (.cells Id.zero.cells 66 (0, 0)) := by rw [objAt_alloc, size_alloc, if_pos rfl]; rfl
 have hB := ((Below.refl w.heap.size w).alloc (Nat.le_refl _) (.cells #[.int .i64 dl, .int .i64 da, .int .u32 dg] 66)).alloc (by rw [size_alloc]; omega) (.cells #[.int .i64 0, .int .i64 0, .int .u32 0] 66)
 obtain ⟨G, hG⟩ : ∃ G, G = w.heap.size := ⟨_, rfl⟩
 rw [← hG] at hO hZ
 have HG := Lib.hid hG
 clear h hF hid
 go_enter Tryz.func80, Tryz.ntmps80
 go_upto_region 1 with (fail)
 generalize (w.alloc (.cells #[.int .i64 dl, .int .i64 da, .int .u32 dg] 66)).alloc (.cells #[.int .i64 0, .int .i64 0, .int .u32 0] 66) = w0 at *
 rw [← hG]
 have c1 := (Hst.out.below hB).c1
 have d0 : w0.cell? ⟨G, 0, none⟩ = some (.int .i64 dl) := by rw [cell_of_row w0 G 0 _ _ _ hO]; rfl
 have d1 : w0.cell? ⟨G, 1, none⟩ = some (.int .i64 da) := by rw [cell_of_row w0 G 1 _ _ _ hO]; rfl
 have d2 : w0.cell? ⟨G, 2, none⟩ = some (.int .u32 dg) := by rw [cell_of_row w0 G 2 _ _ _ hO]; rfl
 have HX := Lib.hid (And.intro hB hZ)
 clear hG hO hZ hB
 have hS : ∀ w', Below w0.heap.size w0 w' → (w'.cell? ⟨p, 1, none⟩ = some (.slice (some ⟨g, 0, none⟩) bs.length cap) ∧ w'.cell? ⟨G, 0, none⟩ = some (.int .i64 dl) ∧ w'.cell? ⟨G, 1, none⟩ = some (.int .i64 da) ∧ w'.cell? ⟨G, 2, none⟩ = some (.int .u32 dg) ∧ Below w0.heap.size w0 w') :=
  fun w' hb => ⟨grow_cell hb c1, grow_cell hb d0, grow_cell hb d1, grow_cell hb d2, hb⟩
 go_cut [8, 9] (fun s8 s9 wx => ∃ H, s8 = .pointer (some ⟨H, 0, none⟩) ∧ s9 = .int .i64 q ∧ w0.heap.size ≤ H ∧ Below w0.heap.size w0 wx ∧ objAt wx H = some (.cells N.cells 100 (0, 0)))
 case first =>
  refine wp_region_held_drew (S := fun w' => w'.cell? ⟨p, 1, none⟩ = some (.slice (some ⟨g, 0, none⟩) bs.length cap) ∧ w'.cell? ⟨G, 0, none⟩ = some (.int .i64 dl) ∧ w'.cell? ⟨G, 1, none⟩ = some (.int .i64 da) ∧ w'.cell? ⟨G, 2, none⟩ = some (.int .u32 dg) ∧ Below w0.heap.size w0 w') (by kernel_rfl) (hS _ (Below.refl _ _).drew) (fun hHeld => ?_)
  show wpAnyH _ _ _ _ _ 13 #[false, false, false, false, false, false, false, false, false, false, false, false, false] _ _
  refine gT 0 ?_; try simp only [Act.put, qs]
  refine gT 1 ?_; try simp only [Act.put, qs]
  refine gT 2 ?_; try simp only [Act.put, qs]
  refine gT 3 ?_; try simp only [Act.put, qs]
  refine gT 4 ?_; try simp only [Act.put, qs]
  refine gT 5 ?_; try simp only [Act.put, qs]
  refine wpAnyH_ready (rs := [6, 10]) (by kernel_rfl) (by simp) ?_
  refine (AllReadyH.cons rfl (fun K hK => ?kb17x0) (AllReadyH.cons rfl (fun K hK => ?kb17x1) AllReadyH.nil))
  case kb17x0 =>
   try simp only [qs]
   go_simp
   go_at_call 49; refine (HF.out _ (grow_trans HX.out.1 hHeld.2.2.2.2)).mono ?_; rintro e x1 ⟨rfl, b1⟩; have hx1 := grow_trans hHeld.2.2.2.2 b1; (try have hz1 := grow_obj b1 (show objAt _ w0.heap.size = some (.cells #[.int .i64 0, .int .i64 0, .int .u32 0, .string ⟨#[]⟩, .int .i64 0, .int .u32 0] 100 (0, 0)) by rw [objAt_drew, objAt_alloc, if_pos rfl])); (try have hnm1 := hasNm_obj hz1 rfl)
   refine hK.out _ _ (by exact hS _ hx1) (fun hN => ?_); replace hHeld := hN; clear hK K hN
   try simp only [qs]
   refine gT 7 ?_; try simp only [Act.put, qs]
   refine gT 8 ?_; try simp only [Act.put, qs]
   refine gT 9 ?_; try simp only [Act.put, qs]
   refine gY 10 fun K hK => ?_
   try simp only [qs]
   go_simp
   refine hK.out _ _ (by exact hS _ (grow_alloc hHeld.2.2.2.2 _)) (fun hN => ?_); replace hHeld := hN; clear hK K hN
   try simp only [qs]
   refine gY 11 fun K hK => ?_
   try simp only [qs]
   go_simp
   refine hK.out _ _ (by exact hS _ (by first | exact Below.setRow hHeld.2.2.2.2 (by first | exact hx1.size | exact Nat.le_refl _) _ | exact grow_alloc hx1 _)) (fun hN => ?_); replace hHeld := hN; clear hK K hN
   try simp only [qs]
   refine gT 12 ?_; try simp only [Act.put, qs]
   refine wpAnyH_done (by kernel_rfl) ?_ _
   go_wp2_with fail
   go_meet
   exact ⟨_, rfl, rfl, by first | exact hx1.size | exact Nat.le_refl _, hHeld.2.2.2.2, by first | (rw [objAt_alloc, if_pos rfl]; rfl) | (rw [objAt_drew, objAt_alloc, if_pos rfl]; rfl) | exact objAt_setRow hz1 _⟩
  case kb17x1 =>
   try simp only [qs]
   go_simp
   refine hK.out _ _ (by exact hS _ (grow_alloc hHeld.2.2.2.2 _)) (fun hN => ?_); replace hHeld := hN; clear hK K hN
   try simp only [qs]
   refine gY 6 fun K hK => ?_
   try simp only [qs]
   go_simp
   go_at_call 49; refine (HF.out _ (grow_trans HX.out.1 hHeld.2.2.2.2)).mono ?_; rintro e x1 ⟨rfl, b1⟩; have hx1 := grow_trans hHeld.2.2.2.2 b1; (try have hz1 := grow_obj b1 (show objAt _ w0.heap.size = some (.cells #[.int .i64 0, .int .i64 0, .int .u32 0, .string ⟨#[]⟩, .int .i64 0, .int .u32 0] 100 (0, 0)) by rw [objAt_drew, objAt_alloc, if_pos rfl])); (try have hnm1 := hasNm_obj hz1 rfl)
   refine hK.out _ _ (by exact hS _ hx1) (fun hN => ?_); replace hHeld := hN; clear hK K hN
   try simp only [qs]
   refine gT 7 ?_; try simp only [Act.put, qs]
   refine gT 8 ?_; try simp only [Act.put, qs]
   refine gT 9 ?_; try simp only [Act.put, qs]
   refine gY 11 fun K hK => ?_
   try simp only [qs]
   go_simp
   refine hK.out _ _ (by exact hS _ (by first | exact Below.setRow hHeld.2.2.2.2 (by first | exact hx1.size | exact Nat.le_refl _) _ | exact grow_alloc hx1 _)) (fun hN => ?_); replace hHeld := hN; clear hK K hN
   try simp only [qs]
   refine gT 12 ?_; try simp only [Act.put, qs]
   refine wpAnyH_done (by kernel_rfl) ?_ _
   go_wp2_with fail
   go_meet
   exact ⟨_, rfl, rfl, by first | exact hx1.size | exact Nat.le_refl _, hHeld.2.2.2.2, by first | (rw [objAt_alloc, if_pos rfl]; rfl) | (rw [objAt_drew, objAt_alloc, if_pos rfl]; rfl) | exact objAt_setRow hz1 _⟩
 case rest =>
  obtain ⟨H, rfl, rfl, hH, hbel, hobj⟩ := hcut
  have hB1 := grow_trans HX.out.1 hbel
  have hO1 := grow_obj hbel HX.out.2
  have hg1 := hasId_obj hO1 rfl
  have k0 : wc.cell? ⟨H, 0, none⟩ = some (.int .i64 N.dir.label) := by rw [cell_of_row wc H 0 _ _ _ hobj]; rfl
  have k1 : wc.cell? ⟨H, 1, none⟩ = some (.int .i64 N.dir.at_) := by rw [cell_of_row wc H 1 _ _ _ hobj]; rfl
  have k2 : wc.cell? ⟨H, 2, none⟩ = some (.int .u32 N.dir.gen) := by rw [cell_of_row wc H 2 _ _ _ hobj]; rfl
  have k3 : wc.cell? ⟨H, 3, none⟩ = some (.string N.name) := by rw [cell_of_row wc H 3 _ _ _ hobj]; rfl
  have k4 : wc.cell? ⟨H, 4, none⟩ = some (.int .i64 N.at_) := by rw [cell_of_row wc H 4 _ _ _ hobj]; rfl
  have k5 : wc.cell? ⟨H, 5, none⟩ = some (.int .u32 N.gen) := by rw [cell_of_row wc H 5 _ _ _ hobj]; rfl
  have HF1 := Lib.hid (And.intro hB1 hO1)
  clear hS c1 d0 d1 d2 hB1 hO1 hobj
  by_cases hq : q < 0
  · have Hr := Lib.hid (h1 hq)
    clear h1 h2
    go_wp2_with fail
    refine bodyPost_ret (results_two rfl (resOne_agg aggId rfl (rowAt_heap (objAt_setRow HF1.out.2 _)) rfl) (resOne_tmp _ _ _)) rfl ?_
    exact ⟨by rw [Hr.out]; rfl, HF1.out.1.setRow (by rw [HG.out]; exact Nat.le_succ _) _⟩
  · have Hr := Lib.hid (h2 hq)
    clear h1 h2
    go_wp2_with (go_at_call 137; refine (Hid.out _ HF1.out.1).mono ?_; rintro e w2 ⟨rfl, b2⟩; have hO2 := grow_obj b2 HF1.out.2; have hg2 := hasId_obj hO2 rfl)
    refine bodyPost_ret (results_two rfl (resOne_agg aggId rfl (rowAt_heap (objAt_setRow hO2 _)) rfl) (resOne_tmp _ _ _)) rfl ?_
    exact ⟨by rw [Hr.out]; rfl, (grow_trans HF1.out.1 b2).setRow (by rw [HG.out]; exact Nat.le_succ _) _⟩
def dirOk (place : Int) (bs : List Blk) (i : Id) : Bool := (i.label != place) || folderAt bs i
end
section
open Go.RowKit
attribute [local irreducible] Calls
def setNextOf (bs : List Blk) (v : Nat) : List Blk := (List.range 4).foldl (fun bs i => bs.set 0 ((bs.getD 0 Blk.zero).setB i ((high v 4).getD i 0))) bs
def setNextUpto (bs : List Blk) (v k : Nat) : List Blk := (List.range k).foldl (fun bs i => bs.set 0 ((bs.getD 0 Blk.zero).setB i ((high v 4).getD i 0))) bs
theorem setNextUpto_succ (bs : List Blk) (v k : Nat) : setNextUpto bs v (k + 1) = (setNextUpto bs v k).set 0 (((setNextUpto bs v k).getD 0 Blk.zero).setB k ((high v 4).getD k 0)) := by
 unfold setNextUpto; rw [List.range_succ, List.foldl_append]; rfl
theorem setNextUpto_length (bs : List Blk) (v : Nat) : ∀ k, (setNextUpto bs v k).length = bs.length
 | 0 => rfl
 | k + 1 => by rw [setNextUpto_succ, List.length_set, setNextUpto_length bs v k]

theorem setNext_any (B g cap : Nat) (bs : List Blk) (v : Nat) (w : World) (h : KRow w B (.slice (some ⟨g, 0, none⟩) bs.length cap) bs) (h0 : 0 < bs.length) (hl : bs.length ≤ 1000) (hv : v ≤ 4294967295) :
 Calls Tryz.prog 83 #[.slice (some ⟨g, 0, none⟩) bs.length cap, .int .u32 v] w fun e w' => e = .returned (.tuple #[]) ∧ KRow w' B (.slice (some ⟨g, 0, none⟩) bs.length cap) (setNextOf bs v) ∧ Keeps (· = g) w w' := by
 have u1 : IntKind.u64.wrap (v : Int) = v := IntWalk.u64_in _ (by omega)
 have h0' : (0 : Int) < (bs.length : Int) := by omega
 have Hrow := Lib.hid h
 have hglt := h.lt
 clear h
 go_enter Tryz.func83, Tryz.ntmps83
 go_wp2_with (go_at_call 141; refine (High_lit v 4 4 _ rfl (by decide) (by decide) (by omega) (by omega)).mono ?_; rintro e w1 ⟨⟨H, c, rfl, r1⟩, b1⟩)
 rw [Int.toNat_natCast] at r1
 obtain ⟨_, _, hform, hH, _⟩ := r1.form (by rw [high_length]; decide)
 simp only [Value.slice.injEq, Option.some.injEq, Addr.mk.injEq, and_true] at hform
 obtain ⟨rfl, -⟩ := hform
 have hcell : ∀ i, i < 4 → w1.cell? ⟨H, i, none⟩ = some (.int .u8 (((high v 4).getD i 0).toNat : Int)) := fun i hi => by
  have := World.ownsRow.cells r1 (g := H) rfl i (.int .u8 (((high v 4).getD i 0).toNat : Int)) (by simp [high_length, hi])
  rw [add_off'] at this; simpa using this
 have HX := Lib.hid (And.intro (Hrow.out.below b1) (And.intro b1 hcell))
 have hgH : g ≠ H := by omega
 have HgH := Lib.hid hgH
 clear r1 b1 hcell hH u1 hgH
 go_loopw [5] (fun s5 wr => ∃ k : Nat, k ≤ 4 ∧ s5 = .int .i64 k ∧ KRow wr B (.slice (some ⟨g, 0, none⟩) bs.length cap) (setNextUpto bs v k) ∧ (∀ i, i < 4 → wr.cell? ⟨H, i, none⟩ = some (.int .u8 (((high v 4).getD i 0).toNat : Int))) ∧ Keeps (· = g) w wr) (fun i _ => 4 - (intOf i).toNat)
 case atStart => exact ⟨0, by decide, rfl, HX.out.1, HX.out.2.2, Keeps.of_below HX.out.2.1⟩
 case round =>
  obtain ⟨k, hk, rfl, hrow, hcs, hkp⟩ := hrel
  have hlen := setNextUpto_length bs v k
  have Hr := Lib.hid (And.intro hrow (And.intro hcs hkp))
  by_cases hlt : k < 4
  · have hc := hcs k hlt
    have hold := hrow.byte 0 k (by rw [hlen]; exact h0) (by omega)
    have hf := hrow.free (0 * 57 + 1 + k)
    rw [Nat.zero_mul, Nat.zero_add] at hold hf
    have k0 : (0 : Int) ≤ (k : Int) := Int.natCast_nonneg _
    have k1 : (k : Int) < 56 := by omega
    have hlt56 : k < 56 := by omega
    have Hs := Lib.hid (setNextUpto_succ bs v k)
    generalize setNextUpto bs v k = cs at *
    generalize (high v 4).getD k 0 = cb at *
    generalize (((cs.getD 0 Blk.zero).body.getD k 0).toNat : Int) = old at hold
    have Hlen := Lib.hid hlen
    clear hrow hcs hkp hlen
    go_wp2_with fail
    have hold' : wr.drew.cell? ⟨g, 1 + k, none⟩ = some (.int .u8 old) := hold
    have hf' : wr.drew.frozen? ⟨g, 1 + k, none⟩ = false := hf
    clear hold hf
    refine wp_region_held_drew (S := fun w' => w'.cell? ⟨H, k, none⟩ = some (.int .u8 (cb.toNat : Int)) ∧ True) (by kernel_rfl) (And.intro hc trivial) (fun hHeld => ?_)
    show wpAnyH _ _ _ _ _ 10 #[false, false, false, false, false, false, false, false, false, false] _ _
    refine gT 0 ?_; try simp only [Act.put, qs]
    refine gT 1 ?_; try simp only [Act.put, qs]
    refine gT 2 ?_; try simp only [Act.put, qs]
    refine gT 3 ?_; try simp only [Act.put, qs]
    refine gT 4 ?_; try simp only [Act.put, qs]
    refine gT 5 ?_; try simp only [Act.put, qs]
    refine gT 6 ?_; try simp only [Act.put, qs]
    refine gT 7 ?_; try simp only [Act.put, qs]
    refine gT 8 ?_; try simp only [Act.put, qs]
    refine gY 9 fun K hK => ?_
    try simp only [qs]
    go_simp
    refine hK.out _ _ (by exact ⟨(World.cell?_setCell_far _ _ _ _ (by show g ≠ H; exact HgH.out)).trans hHeld.1, trivial⟩) (fun hN => ?_); replace hHeld := hN; clear hK K hN
    try simp only [qs]
    refine wpAnyH_done (by kernel_rfl) ?_ _
    have hK := KRow.setByte (show KRow wr.drew B (.slice (some ⟨g, 0, none⟩) bs.length cap) cs from Hr.out.1) 0 k (by rw [Hlen.out]; exact h0) hlt56 cb
    rw [show (0 * 57 + 1 + k : Nat) = 1 + k by omega] at hK
    go_wp2_with fail
    go_roundw
    case rel =>
     refine ⟨k + 1, by omega, by go_num, by rw [Hs.out]; exact hK, fun i hi => ?_, (Hr.out.2.2.trans (Keeps.of_below (Below.refl _ _).drew)).trans (Keeps.setCell _ _ _ rfl)⟩
     exact (World.cell?_setCell_far _ _ _ _ (by show g ≠ H; exact HgH.out)).trans (Hr.out.2.1 i hi)
    case measure => simp [intOf]; omega
  · obtain rfl : k = 4 := by omega
    clear hrow hcs hkp hlen
    go_wp2_with fail
    refine bodyPost_end (results_none rfl _ _ _) rfl ?_
    exact ⟨rfl, Hr.out.1, Hr.out.2.2⟩

def newBlks (n : Nat) : List Blk := (List.replicate n Blk.zero).set 0 ⟨7, Blk.zero.body.set 3 1, by rw [List.length_set]; exact Blk.zero.len⟩
theorem mk_blks (n : Nat) (w : World) (h1 : n ≤ 1000) :
 (Instr.makeSlice 23 (.int .i64 (n : Int)) (.int .i64 (n : Int))).run Tryz.prog w = .ok (.slice (some ⟨w.heap.size, 0, none⟩) n n) (w.alloc (.cells (madeCells Blk.zero.cells (n * 57)) 37)) ∧
  KRow (w.alloc (.cells (madeCells Blk.zero.cells (n * 57)) 37)) w.heap.size (.slice (some ⟨w.heap.size, 0, none⟩) n n) (List.replicate n Blk.zero) := by
 obtain ⟨i, z, hi, hz, hs, hby, hzs⟩ := elemBlk
 have hr := run_make (P := Tryz.prog) w 23 37 i z Tryz.underlying23 hi hz .i64 .i64 n n (by omega) (Int.le_refl _) (by rw [hby]; omega) (by omega)
 simp only [Int.toNat_natCast, hs, hzs] at hr
 refine ⟨hr, ?_⟩
 have hfl : (madeCells Blk.zero.cells (n * 57)).toList = flat (List.replicate n Blk.zero) := by
  apply List.ext_getElem?
  intro k
  have hsz : (madeCells Blk.zero.cells (n * 57)).size = n * 57 := size_madeCells _ _
  have hfl := flat_length (List.replicate n Blk.zero)
  rw [List.length_replicate] at hfl
  by_cases hk : k < n * 57
  · have h57 : k / 57 < n := Nat.div_lt_of_lt_mul (by omega)
    have := flat_get (List.replicate n Blk.zero) (k / 57) (k % 57) (by rw [List.length_replicate]; exact h57) (Nat.mod_lt _ (by decide))
    rw [show k / 57 * 57 + k % 57 = k by omega] at this
    rw [this]
    simp only [List.getElem_replicate]
    have h57' : k % 57 < Blk.zero.cells.size := by rw [Blk.size_cells]; exact Nat.mod_lt _ (by decide)
    simp [madeCells, hk, Blk.size_cells]
    rw [getElem!_pos Blk.zero.cells (k % 57) h57', Array.getElem?_eq_getElem h57']
  · rw [List.getElem?_eq_none (by rw [Array.length_toList, hsz]; omega), List.getElem?_eq_none (by omega)]
 have := World.ownsRow_lit (base := w.heap.size) (e := 37) (size := 57) w (madeCells Blk.zero.cells (n * 57)) n (Nat.le_refl _) (by unfold maxLen; omega) (size_madeCells _ _)
 unfold KRow
 rw [List.length_replicate, ← hfl]; exact this

theorem getD_replicate0 (n : Nat) (h : 0 < n) : (List.replicate n Blk.zero).getD 0 Blk.zero = Blk.zero := by
 rw [List.getD_eq_getElem?_getD, List.getElem?_eq_getElem (by rw [List.length_replicate]; exact h)]; simp
theorem Blk.set_kind (b : Blk) (k : Int) : b.cells.setIfInBounds 0 (.int .i64 k) = (⟨k, b.body, b.len⟩ : Blk).cells := by
 rw [Blk.cells_def, Blk.cells_def]; simp
theorem KRow.setKind {w : World} {B g n cap : Nat} {bs : List Blk} (h : KRow w B (.slice (some ⟨g, 0, none⟩) n cap) bs) (h0 : 0 < bs.length) (k : Int) :
 KRow (w.setCell ⟨g, 0, none⟩ (.int .i64 k)) B (.slice (some ⟨g, 0, none⟩) n cap) (bs.set 0 ⟨k, (bs.getD 0 Blk.zero).body, (bs.getD 0 Blk.zero).len⟩) := by
 obtain rfl := h.len
 have := (World.ownsRow.stored h 0 (.int .i64 k)).1
 unfold KRow
 rw [List.length_set]
 have e : (flat bs).set 0 (.int .i64 k) = flat (bs.set 0 ⟨k, (bs.getD 0 Blk.zero).body, (bs.getD 0 Blk.zero).len⟩) := by
  obtain ⟨b, cs, rfl⟩ : ∃ b cs, bs = b :: cs := by
   cases bs with
   | nil => simp at h0
   | cons b cs => exact ⟨b, cs, rfl⟩
  show (b.cells.toList ++ flat cs).set 0 _ = _
  rw [List.set_append_left _ _ (by rw [Blk.len_cells]; decide), ← Array.toList_setIfInBounds, Blk.set_kind]
  rfl
 rw [← e]; exact this

theorem sNew_any (place : Int) (n : Nat) (w : World) (h0 : 0 < n) (h1 : n ≤ 1000) :
 Calls Tryz.prog 32 #[.int .i64 place, .int .i64 n] w fun e w' => ∃ p g, e = .returned (.pointer (some ⟨p, 0, none⟩)) ∧ StoreAt w' p place g n (newBlks n) ∧ Below w.heap.size w w' ∧ w.heap.size ≤ p ∧ w.heap.size ≤ g := by
 obtain ⟨hmk, hrow⟩ := mk_blks n w h1
 generalize madeCells Blk.zero.cells (n * 57) = zs at *
 have hB := ((Below.refl w.heap.size w).alloc (Nat.le_refl _) (.cells zs 37)).alloc (by rw [size_alloc]; omega) (.cells #[.int .i64 place, .slice (some ⟨w.heap.size, 0, none⟩) n n] 58)
 have hrow2 := hrow.alloc (.cells #[.int .i64 place, .slice (some ⟨w.heap.size, 0, none⟩) n n] 58)
 have hbox : objAt ((w.alloc (.cells zs 37)).alloc (.cells #[.int .i64 place, .slice (some ⟨w.heap.size, 0, none⟩) n n] 58)) (w.heap.size + 1) = some (.cells #[.int .i64 place, .slice (some ⟨w.heap.size, 0, none⟩) n n] 58 (0, 0)) := by
  rw [objAt_alloc, size_alloc, if_pos rfl]
 have k0 : (0 : Int) < (n : Int) := by omega
 obtain ⟨A, hA⟩ : ∃ A, A = w.heap.size := ⟨_, rfl⟩
 go_enter Tryz.func32, Tryz.ntmps32
 go_wp2_with fail
 generalize hw1 : (w.alloc (.cells zs 37)).alloc (.cells #[.int .i64 place, .slice (some ⟨w.heap.size, 0, none⟩) n n] 58) = w1 at *
 rw [← hA] at hrow2 hbox ⊢
 have HA := Lib.hid (And.intro hA (And.intro hB (And.intro hbox hrow2)))
 clear hmk hrow hw1 hA
 have c1 : w1.cell? ⟨A + 1, 1, none⟩ = some (.slice (some ⟨A, 0, none⟩) n n) := by rw [cell_of_row w1 (A + 1) 1 _ _ _ hbox]; rfl
 have a0 := hrow2.kind 0 (by rw [List.length_replicate]; exact h0)
 have f0 := hrow2.free 0
 have a4 := hrow2.byte 0 3 (by rw [List.length_replicate]; exact h0) (by decide)
 have f4 := hrow2.free 4
 rw [getD_replicate0 n h0] at a0 a4
 rw [Nat.zero_mul] at a0
 rw [show 0 * 57 + 1 + 3 = 4 from rfl] at a4
 generalize Blk.zero.kind = kz at a0
 generalize ((Blk.zero.body.getD 3 0).toNat : Int) = bz at a4
 have a0' : w1.drew.cell? ⟨A, 0, none⟩ = some (.int .i64 kz) := a0
 have f0' : w1.drew.frozen? ⟨A, 0, none⟩ = false := f0
 have a4' : (w1.setCell ⟨A, 0, none⟩ (.int .i64 7)).drew.cell? ⟨A, 4, none⟩ = some (.int .u8 bz) := (World.cell?_setCell_other w1.drew ⟨A, 0, none⟩ _ _ (by simp)).trans a4
 have hK1 := KRow.setKind (show KRow w1.drew A (.slice (some ⟨A, 0, none⟩) n n) (List.replicate n Blk.zero) from hrow2) (by rw [List.length_replicate]; exact h0) 7
 have f4' : (w1.setCell ⟨A, 0, none⟩ (.int .i64 7)).drew.frozen? ⟨A, 4, none⟩ = false := hK1.free 4
 have hK2 := hK1.setByte 0 3 (by rw [List.length_set, List.length_replicate]; exact h0) (by decide) 1
 rw [show (0 * 57 + 1 + 3 : Nat) = 4 from rfl] at hK2
 have hHK := Lib.hid hK2
 clear hB hbox hrow2 a4 f4 hK1 hK2 a0 f0
 refine wp_region_held_drew (S := fun w' => w'.cell? ⟨A + 1, 1, none⟩ = some (.slice (some ⟨A, 0, none⟩) n n) ∧ True) (by kernel_rfl) (And.intro c1 trivial) (fun hHeld => ?_)
 show wpAnyH _ _ _ _ _ 15 #[false, false, false, false, false, false, false, false, false, false, false, false, false, false, false] _ _
 refine gT 0 ?_; try simp only [Act.put, qs]
 refine gT 1 ?_; try simp only [Act.put, qs]
 refine gT 2 ?_; try simp only [Act.put, qs]
 refine gT 3 ?_; try simp only [Act.put, qs]
 refine gT 4 ?_; try simp only [Act.put, qs]
 refine gT 5 ?_; try simp only [Act.put, qs]
 refine gT 6 ?_; try simp only [Act.put, qs]
 refine gT 7 ?_; try simp only [Act.put, qs]
 refine gT 8 ?_; try simp only [Act.put, qs]
 refine gT 9 ?_; try simp only [Act.put, qs]
 refine gT 11 ?_; try simp only [Act.put, qs]
 refine gT 12 ?_; try simp only [Act.put, qs]
 refine gY 10 fun K hK => ?_
 try simp only [qs]
 go_simp
 refine hK.out _ _ (by exact ⟨(World.cell?_setCell_far _ _ _ _ (by simp)).trans hHeld.1, trivial⟩) (fun hN => ?_); replace hHeld := hN; clear hK K hN
 try simp only [qs]
 refine gT 13 ?_; try simp only [Act.put, qs]
 refine gY 14 fun K hK => ?_
 try simp only [qs]
 go_simp
 refine hK.out _ _ (by exact ⟨(World.cell?_setCell_far _ _ _ _ (by simp)).trans hHeld.1, trivial⟩) (fun hN => ?_); replace hHeld := hN; clear hK K hN
 try simp only [qs]
 refine wpAnyH_done (by kernel_rfl) ?_ _
 go_wp2_with fail
 go_ret
 refine ⟨A + 1, A, rfl, ⟨?_, ?_, by omega⟩, ?_, by have := HA.out.1; omega, by have := HA.out.1; omega⟩
 · have e : objAt ((w1.setCell ⟨A, 0, none⟩ (.int .i64 7)).setCell ⟨A, 4, none⟩ (.int .u8 1)).drew (A + 1) = objAt w1 (A + 1) := by
    rw [objAt_drew]
    unfold objAt
    rw [heap_setCell_ne (by show A + 1 ≠ A; omega), heap_setCell_ne (by show A + 1 ≠ A; omega)]
   refine Eq.trans e (HA.out.2.2.1.trans ?_)
   simp [newBlks]
 · have e : newBlks n = ((List.replicate n Blk.zero).set 0 ⟨7, ((List.replicate n Blk.zero).getD 0 Blk.zero).body, ((List.replicate n Blk.zero).getD 0 Blk.zero).len⟩).set 0 ((((List.replicate n Blk.zero).set 0 ⟨7, ((List.replicate n Blk.zero).getD 0 Blk.zero).body, ((List.replicate n Blk.zero).getD 0 Blk.zero).len⟩).getD 0 Blk.zero).setB 3 1) := by
    obtain ⟨m, rfl⟩ : ∃ m, n = m + 1 := ⟨n - 1, by omega⟩
    rfl
   rw [show (newBlks n).length = n by simp [newBlks], e]; exact KRow.mono hHK.out (Nat.zero_le _)
 · exact (HA.out.2.1.drew.setCell (p := ⟨A, 0, none⟩) (by show w.heap.size ≤ A; rw [HA.out.1]; exact Nat.le_refl _) _).setCell (p := ⟨A, 4, none⟩) (by show w.heap.size ≤ A; rw [HA.out.1]; exact Nat.le_refl _) _
end
section
open Go.RowKit
attribute [local irreducible] Calls

theorem mul64_any (w : World) : Calls Tryz.prog 217 #[.int .u64 1, .int .u64 16] w fun e w' => e = .returned (.tuple #[.int .u64 0, .int .u64 16]) ∧ w' = w := by
 go_enter Tryz.func217, Tryz.ntmps217
 go_wp2_with fail
 refine bodyPost_ret (results_two rfl (resOne_tmp _ _ _) (resOne_tmp _ _ _)) rfl ?_
 exact ⟨rfl, rfl⟩
theorem mul_any (w : World) : Calls Tryz.prog 187 #[.int .u64 1, .int .u64 16] w fun e w' => e = .returned (.tuple #[.int .u64 0, .int .u64 16]) ∧ w' = w := by
 go_enter Tryz.func187, Tryz.ntmps187
 go_wp2_with (go_at_call 217; refine (mul64_any _).mono ?_; rintro e w1 ⟨rfl, hw1⟩; obtain rfl := hw1.symm)
 refine bodyPost_ret (results_two rfl (resOne_tmp _ _ _) (resOne_tmp _ _ _)) rfl ?_
 exact ⟨rfl, rfl⟩
theorem mArr_cell {w : World} {I n : Nat} (h : objAt w I = some (.cells (mArr n) 3 (0, 0))) {j : Nat} (hj : j < n) : w.cell? ((⟨I, 0, none⟩ : Addr).add j) = some (.int .i64 (-1)) := by
 rw [add_off', Nat.zero_add, cell_obj h]
 unfold mArr
 rw [List.getElem?_toArray, List.getElem?_append_left (by rw [List.length_replicate]; exact hj), List.getElem?_replicate, if_pos hj]
theorem mArr_row {w : World} {B I : Nat} (h : objAt w I = some (.cells (mArr 16) 3 (0, 0))) (hB : B ≤ I) : IRow w B (.slice (some ⟨I, 0, none⟩) 16 16) holes :=
 ⟨by decide, .inr ⟨I, 16, mArr 16, rfl, hB, h, Nat.le_refl _, by decide, by decide, by rfl⟩⟩
theorem repeat_any {w : World} {g : Nat} (hg : objAt w g = some (.cells #[.int .i64 (-1)] 3 (0, 0))) :
 Calls Tryz.prog 145 #[.slice (some ⟨g, 0, none⟩) 1 1, .int .i64 16] w fun e w' => ∃ I, e = .returned (.slice (some ⟨I, 0, none⟩) 16 16) ∧ IRow w' w.heap.size (.slice (some ⟨I, 0, none⟩) 16 16) holes ∧ Below w.heap.size w w' := by
 have hmk := mk_ints 16 w (by decide) (by decide)
 rw [show ((16 : Int).toNat) = 16 from rfl, show (List.replicate 16 (Value.int .i64 0)).toArray = mArr 0 from rfl] at hmk
 obtain ⟨w1, hw1⟩ : ∃ w1, w1 = w.alloc (.cells (mArr 0) 3) := ⟨_, rfl⟩
 obtain ⟨I, hI⟩ : ∃ I, I = w.heap.size := ⟨_, rfl⟩
 have hB1 : Below w.heap.size w w1 := below_alloc hw1
 have ho1 : objAt w1 I = some (.cells (mArr 0) 3 (0, 0)) := by rw [hI]; exact obj_alloc hw1
 have hg1 : objAt w1 g = some (.cells #[.int .i64 (-1)] 3 (0, 0)) := grow_obj hB1 hg
 rw [← hw1, ← hI] at hmk
 have hg0 : w1.cell? ((⟨g, 0, none⟩ : Addr).add 0) = some (.int .i64 (-1)) := by rw [add_off']; exact cell_obj hg1 0
 have HI := Lib.hid (And.intro hI (And.intro hB1 (And.intro ho1 hg0)))
 clear hI hB1 ho1 hg1 hg0 hg hw1
 have hOnce : True := trivial
 go_enter Tryz.func145, Tryz.ntmps145
 go_upto_region 7 with (go_at_call 187; refine (mul_any _).mono ?_; rintro e wx ⟨rfl, hwx⟩; obtain rfl := hwx.symm)
 go_wp2_with (clear hOnce; refine list_copyM rfl _ _ rfl rfl rfl (n := 0) (m := 1) HI.out.2.2.1 (fun j hj => by obtain rfl : j = 0 := (by omega); exact HI.out.2.2.2) (by decide) (by decide) ?_; intro w2 hw2; have H2 := Lib.hid (And.intro (show objAt w2 I = some (.cells (mArr 1) 3 (0, 0)) by rw [hw2]; exact objAt_setRow HI.out.2.2.1 _) (show Below w.heap.size w w2 by rw [hw2]; exact HI.out.2.1.setRow (by rw [HI.out.1]; exact Nat.le_refl _) _)); clear hw2)
 clear hmk
 go_loopw [8] (fun s8 wr => ∃ n : Nat, (n = 1 ∨ n = 2 ∨ n = 4 ∨ n = 8 ∨ n = 16) ∧ s8 = .int .i64 n ∧ objAt wr I = some (.cells (mArr n) 3 (0, 0)) ∧ Below w.heap.size w wr) (fun i _ => 16 - (Go.RowKit.intOf i).toNat)
 case atStart => exact ⟨1, .inl rfl, rfl, H2.out.1, H2.out.2⟩
 case round =>
  obtain ⟨n, hn, rfl, ho, hbel⟩ := hrel
  have HR := Lib.hid (And.intro hn (And.intro ho hbel))
  by_cases hlt : n < 16
  · have n0 : (0 : Int) ≤ (n : Int) := Int.natCast_nonneg _
    have n1 : (n : Int) < 16 := by omega
    have nn : n + n ≤ 16 := by omega
    have n2 : (n : Int) ≤ 16 := by omega
    have n3 : ¬ (16 = n) := by omega
    have wn : IntKind.i64.wrap ((n : Int) + (n : Int)) = ((n + n : Nat) : Int) := by rw [IntWalk.i64_in _ (by omega)]; omega
    have HN := Lib.hid nn
    clear hn ho hbel hlt nn
    go_upto_region 9 with fail
    refine wp_region_F [7] (S := fun w' => True) (by kernel_rfl) (trivial) (fun hHeld => ?_)
    show wpAnyF _ _ _ _ _ _ 10 #[false, false, false, false, false, false, false, false, false, false] _ _
    refine gP 0 ?_; try simp only [Act.put, qs]
    refine gF 1 [1, 3, 7, 8, 9] ?_; try simp only [Act.put, qs]
    refine gF 2 [2, 3, 7, 8, 9] ?_; try simp only [Act.put, qs]
    refine gF 3 [3, 7, 8, 9] ?_; try simp only [Act.put, qs]
    refine gF 4 [4, 6, 7, 8, 9] ?_; try simp only [Act.put, qs]
    refine gF 5 [5, 6, 7, 8, 9] ?_; try simp only [Act.put, qs]
    refine gF 6 [6, 7, 8, 9] ?_; try simp only [Act.put, qs]
    refine gV 7 fun K hK => ?_
    refine step_copyM rfl _ _ rfl rfl rfl (g := I) (n := n) (m := n) (show objAt wr.drew I = _ from HR.out.2.1) (fun j hj => mArr_cell (w := wr.drew) HR.out.2.1 hj) (by have := HN.out; omega) HN.out ?_; intro w3 hw3; have H3 := Lib.hid (And.intro (show objAt w3 I = some (.cells (mArr (n + n)) 3 (0, 0)) by rw [hw3]; exact objAt_setRow (w := wr.drew) HR.out.2.1 _) (show Below w.heap.size w w3 by rw [hw3]; exact HR.out.2.2.drew.setRow (by rw [HI.out.1]; exact Nat.le_refl _) _)); clear hw3
    refine hK.out _ _ (trivial) (fun hN => ?_); replace hHeld := hN; clear hK K hN
    try simp only [Act.put, qs]
    refine gP 8 ?_; try simp only [Act.put, qs]
    refine gP 9 ?_; try simp only [Act.put, qs]
    refine wpAnyF_done (by kernel_rfl) ?_ _
    go_wp2_with fail
    go_roundw
    case rel => exact ⟨n + n, by have := HR.out.1; have := HN.out; omega, by go_num, H3.out.1, H3.out.2⟩
    case measure => simp [Go.RowKit.intOf]; have := HR.out.1; omega
  · obtain rfl : n = 16 := by omega
    clear hn ho hbel
    go_wp2_with fail
    go_ret
    exact ⟨I, rfl, mArr_row HR.out.2.1 (by rw [HI.out.1]; exact Nat.le_refl _), HR.out.2.2⟩
end
section
open Go.RowKit
attribute [local irreducible] Calls

theorem BlkAt.kindC {w : World} {g : Nat} {b : Blk} (h : BlkAt w g b) : w.cell? ⟨g, 0, none⟩ = some (.int .i64 b.kind) := by
 rw [cell_obj (show objAt w g = some (.cells b.cells 37 (0, 0)) from h)]; exact b.cell0
section
variable {w : World} {Sd : Nat → Prop} {t v mp mt : Nat} {L : PL} {T : ML} {d reg : Nat} {s : Sh} {gb cap m : Nat} {st : VSt} {c : Nat}
theorem TxV.get (H : TxV w Sd t v mp mt L T d reg s gb cap m st c) (a : Int) :
 Calls Tryz.prog 26 #[.pointer (some ⟨t, 0, none⟩), .int .i64 a] w fun e w' => e = .returned (.tuple #[.agg (getB (txV L st.bs) a).cells, .bool (inB st.bs a)]) ∧ Below w.heap.size w w' := txGet_any H.tx H.vol a
theorem getB_out {bs : List Blk} {L : PL} {a : Int} (h : inB bs a = false) : getB (txV L bs) a = Blk.zero := by unfold getB; rw [inB_txV, h]; rfl
theorem zero_kind : Blk.zero.kind = 0 := by unfold Blk.zero; exact Blk.of_kind _ _
theorem FlAt.fresh {w w8 w9 : World} {t F I : Nat} {a : Int} {nd : Nd} (hb8 : Below w.heap.size w w8) (ho : objAt w8 F = some (.cells (Fl.cells ⟨nd, []⟩ t a (.slice none 0 0)) 177 (0, 0))) (hF : w.heap.size ≤ F) (hr : IRow w9 w8.heap.size (.slice (some ⟨I, 0, none⟩) 16 16) holes) (b9 : Below w8.heap.size w8 w9) :
 FlAt (w9.setCell ⟨F, 11, none⟩ (.slice (some ⟨I, 0, none⟩) 16 16)) w.heap.size F t a ⟨nd, holes⟩ I 16 ∧ Below w.heap.size w (w9.setCell ⟨F, 11, none⟩ (.slice (some ⟨I, 0, none⟩) 16 16)) := by
 have hO := grow_obj b9 ho
 have hk : Keeps (fun q => q = F) w9 (w9.setCell ⟨F, 11, none⟩ (.slice (some ⟨I, 0, none⟩) 16 16)) := Keeps.setCell _ _ _ rfl
 have hI := (IRow.ownObj hr rfl).1
 have hlt := block_lt ho
 have h8 := grow_trans hb8 b9
 refine ⟨⟨by rw [objAt_setCell hO]; rfl, owns_keeps (World.ownsRow.mono hr hb8.size) hk (fun g hg e => by cases hg; have e' : I = F := e; omega), rfl, hF⟩, h8.trans (hk.below h8.size (fun q e => by have : q = F := e; rw [this]; exact hF))⟩
theorem fOf_any (H : TxV w Sd t v mp mt L T d reg s gb cap m st c) (a : Int) :
 Calls Tryz.prog 84 #[.pointer (some ⟨t, 0, none⟩), .int .i64 a] w fun e w' => Below w.heap.size w w' ∧ (match flOf (txV L st.bs) a with
  | none => e = .returned (.tuple #[.pointer none, .bool false])
  | some f => ∃ F gi ci, e = .returned (.tuple #[.pointer (some ⟨F, 0, none⟩), .bool true]) ∧ FlAt w' w.heap.size F t a f gi ci) := by
 have HG := Lib.hid (fun (w' : World) (hb : Below w.heap.size w w') (a : Int) => (H.below hb).get a)
 have H0 := Lib.hid (H.get a)
 obtain ⟨b, hb⟩ : ∃ b, b = getB (txV L st.bs) a := ⟨_, rfl⟩
 have hz : inB st.bs a = false → b.kind = 0 := fun h => by rw [hb, getB_out h, zero_kind]
 unfold flOf
 rw [← hb] at H0 ⊢
 clear hb H
 by_cases hk : b.kind = 1
 · have hin : inB st.bs a = true := by
    cases h : inB st.bs a with
    | true => rfl
    | false => rw [hz h] at hk; cases hk
   rw [hin] at H0
   have Hk := Lib.hid hk
   have hk' : (b.kind != 1) = false := by rw [hk]; rfl
   obtain ⟨⟨nd, ok⟩, hnd⟩ : ∃ p, takeNode b = p := ⟨_, rfl⟩
   have HN := Lib.hid (fun w => nTake_all b w)
   rw [hnd] at HN ⊢
   dsimp only at HN ⊢
   clear hz hin hk hnd
   cases ok with
   | false =>
     rw [if_neg (fun e => by cases e.2)]
     go_enter Tryz.func84, Tryz.ntmps84
     go_upto_region 2 with (go_at_call 26; refine H0.out.mono ?_; rintro e w1 ⟨rfl, b1⟩)
     obtain ⟨G, hG⟩ : ∃ G, G = w1.heap.size := ⟨_, rfl⟩
     obtain ⟨w2, hw2⟩ : ∃ w2, w2 = w1.alloc (.cells b.cells 37) := ⟨_, rfl⟩
     have hb2 : Below w.heap.size w w2 := grow_trans b1 (below_alloc hw2)
     have hX2 : BlkAt w2 G b := by rw [hG]; exact obj_alloc hw2
     rw [← hw2, ← hG]
     have k0 := hX2.kindC
     have k1 := hX2.has
     have k2 := hX2.row
     have H2 := Lib.hid (And.intro hb2 hX2)
     clear hw2 hG hb2 hX2 b1
     go_wp2_with (go_at_call 143; refine (HN.out _).mono ?_; rintro e w3 ⟨rfl, b3⟩)
     refine bodyPost_ret (results_two rfl (resOne_tmp _ _ _) (resOne_tmp _ _ _)) rfl ?_
     exact ⟨grow_alloc (grow_trans H2.out.1 b3) _, rfl⟩
   | true =>
     rw [if_pos ⟨Hk.out, rfl⟩]
     obtain ⟨gb', hgb⟩ : ∃ gb', gb' = getB (txV L st.bs) nd.index := ⟨_, rfl⟩
     rw [← hgb]
     obtain ⟨LI, hLI⟩ : ∃ LI, LI = (takeIndex gb').getD holes := ⟨_, rfl⟩
     rw [← hLI]
     have HLI := Lib.hid (And.intro hgb hLI)
     clear hgb hLI
     go_enter Tryz.func84, Tryz.ntmps84
     go_upto_region 2 with (go_at_call 26; refine H0.out.mono ?_; rintro e w1 ⟨rfl, b1⟩)
     obtain ⟨G, hG⟩ : ∃ G, G = w1.heap.size := ⟨_, rfl⟩
     obtain ⟨w2, hw2⟩ : ∃ w2, w2 = w1.alloc (.cells b.cells 37) := ⟨_, rfl⟩
     have hb2 : Below w.heap.size w w2 := grow_trans b1 (below_alloc hw2)
     have hX2 : BlkAt w2 G b := by rw [hG]; exact obj_alloc hw2
     rw [← hw2, ← hG]
     have k0 := hX2.kindC
     have k1 := hX2.has
     have k2 := hX2.row
     have H2 := Lib.hid (And.intro hb2 hX2)
     clear hw2 hG hb2 hX2 b1
     go_upto_region 7 with (go_at_call 143; refine (HN.out _).mono ?_; rintro e w3 ⟨rfl, b3⟩)
     obtain ⟨N, hN⟩ : ∃ N, N = w3.heap.size := ⟨_, rfl⟩
     obtain ⟨w4, hw4⟩ : ∃ w4, w4 = w3.alloc (.cells nd.cells 165) := ⟨_, rfl⟩
     have hb4 : Below w.heap.size w w4 := grow_trans H2.out.1 (grow_trans b3 (below_alloc hw4))
     have hX4 : objAt w4 N = some (.cells nd.cells 165 (0, 0)) := by rw [hN]; exact obj_alloc hw4
     rw [← hw4, ← hN]
     have n0 : rowAt w4 N = some #[.int .u32 nd.gen, .int .i64 nd.links, .int .i64 nd.size, .int .i64 nd.d0, .int .i64 nd.d1, .int .i64 nd.d2, .int .i64 nd.d3, .int .i64 nd.index, .string nd.target] := rowAt_heap hX4
     have n1 : hasNd w4 N = true := hasNd_obj hX4
     have n7 : w4.cell? ⟨N, 7, none⟩ = some (.int .i64 nd.index) := Nd.c nd hX4 7
     have H4 := Lib.hid (And.intro hb4 hX4)
     clear hN hw4 hb4 hX4 b3 k0 k1 k2 hk'
     go_upto_region 8 with fail
     obtain ⟨F, hF⟩ : ∃ F, F = w4.heap.size := ⟨_, rfl⟩
     obtain ⟨w5, hw5⟩ : ∃ w5, w5 = w4.alloc (.cells #[.pointer (some ⟨t, 0, none⟩), .int .i64 a, .int .u32 nd.gen, .int .i64 nd.links, .int .i64 nd.size, .int .i64 nd.d0, .int .i64 nd.d1, .int .i64 nd.d2, .int .i64 nd.d3, .int .i64 nd.index, .string nd.target, .slice none 0 0] 177) := ⟨_, rfl⟩
     have hb5 : Below w4.heap.size w4 w5 := below_alloc hw5
     have hX5 : objAt w5 F = some (.cells (Fl.cells ⟨nd, []⟩ t a (.slice none 0 0)) 177 (0, 0)) := by rw [hF]; exact obj_alloc hw5
     rw [← hw5, ← hF]
     replace n7 := grow_cell hb5 n7
     have HG5 := Lib.hid (HG.out w5 (grow_trans H4.out.1 hb5) nd.index)
     have hgb := HLI.out.1
     rw [← hgb] at HG5
     have hneg : nd.index = -1 → inB st.bs nd.index = false := fun e => by rw [e]; unfold inB; simp
     have hzz : inB st.bs nd.index = false → takeIndex gb' = none := fun e => by rw [hgb, getB_out e, takeIndex_zero]
     have hF4 : w.heap.size ≤ F := by rw [hF]; exact H4.out.1.size
     have H5 := Lib.hid (And.intro (grow_trans H4.out.1 hb5) (And.intro hX5 hF4))
     clear n0 n1 hF hw5 hb5 hX5 hgb hF4
     go_upto_region 9 with (go_at_call 26; refine HG5.out.mono ?_; rintro e w6 ⟨rfl, b6⟩)
     obtain ⟨K, hK⟩ : ∃ K, K = w6.heap.size := ⟨_, rfl⟩
     obtain ⟨w7, hw7⟩ : ∃ w7, w7 = w6.alloc (.cells gb'.cells 37) := ⟨_, rfl⟩
     have hb7 : Below w5.heap.size w5 w7 := grow_trans b6 (below_alloc hw7)
     have hX7 : BlkAt w7 K gb' := by rw [hK]; exact obj_alloc hw7
     rw [← hw7, ← hK]
     replace n7 := grow_cell hb7 n7
     have hO7 := grow_obj hb7 H5.out.2.1
     have k1 := hX7.has
     have k2 := hX7.row
     have f11 : w7.cell? ⟨F, 11, none⟩ = some (.slice none 0 0) := cell_obj hO7 11
     have z11 : w7.frozen? ⟨F, 11, none⟩ = false := free_obj hO7 11
     have H7 := Lib.hid (And.intro (grow_trans H5.out.1 hb7) hO7)
     clear hw7 hK hb7 hX7 hO7 b6
     by_cases hx : nd.index ≠ -1 ∧ inB st.bs nd.index = true
     · obtain ⟨hx1, hx2⟩ := hx
       have hx' : (nd.index != -1) = true := by simpa using hx1
       rw [hx2]
       have HT := Lib.hid (xTake_str gb' w7)
       clear hneg hzz hx1 hx2
       cases hti : takeIndex gb' with
       | some li =>
         rw [hti] at HT
         have hl16 : li.length = 16 := (takeIndex_ge hti).1
         have Hl := Lib.hid (And.intro hl16 (show LI = li by rw [HLI.out.2, hti]; rfl))
         clear hti hl16
         go_upto_region 11 with (go_at_call 144; refine HT.out.mono ?_; rintro e w8 ⟨V, rfl, ⟨hr8, b8⟩, _⟩; obtain ⟨gi, ci, hV, hgi1, hgi2⟩ := IRow.form hr8 (by show 0 < li.length; rw [Hl.out.1]; decide); rw [show (Option.some li).getD [] = li from rfl, Hl.out.1] at hV; subst hV; have f11' := grow_cell b8 f11; have z11' : w8.frozen? ⟨F, 11, none⟩ = false := free_obj (grow_obj b8 H7.out.2) 11)
         have hO8 := grow_obj b8 H7.out.2
         have hk9 : Keeps (fun q => q = F) w8 (w8.setCell ⟨F, 11, none⟩ (.slice (some ⟨gi, 0, none⟩) 16 ci)) := Keeps.setCell _ _ _ rfl
         have hO9 : objAt (w8.setCell ⟨F, 11, none⟩ (.slice (some ⟨gi, 0, none⟩) 16 ci)) F = some (.cells (Fl.cells ⟨nd, li⟩ t a (.slice (some ⟨gi, 0, none⟩) 16 ci)) 177 (0, 0)) := by rw [objAt_setCell hO8]; rfl
         have hr9 : IRow (w8.setCell ⟨F, 11, none⟩ (.slice (some ⟨gi, 0, none⟩) 16 ci)) w.heap.size (.slice (some ⟨gi, 0, none⟩) 16 ci) li :=
          owns_keeps (World.ownsRow.mono hr8 H7.out.1.size) hk9 (fun g hg e => by cases hg; have e' : gi = F := e; have := block_lt H7.out.2; omega)
         obtain ⟨w9, hw9⟩ : ∃ w9, w9 = w8.setCell ⟨F, 11, none⟩ (.slice (some ⟨gi, 0, none⟩) 16 ci) := ⟨_, rfl⟩
         have hb9 : Below w.heap.size w w9 := by
          have h8 := grow_trans H7.out.1 b8
          rw [hw9]; exact h8.trans (hk9.below h8.size (fun q e => by have : q = F := e; rw [this]; exact H5.out.2.2))
         rw [← hw9] at hO9 hr9 ⊢
         have g11 : w9.cell? ⟨F, 11, none⟩ = some (.slice (some ⟨gi, 0, none⟩) 16 ci) := cell_obj hO9 11
         have H9 := Lib.hid (And.intro hO9 (And.intro hr9 hb9))
         clear hw9 hO8 hO9 hr9 hb9 hk9 f11' z11' b8 hr8 hgi1 hgi2 f11 z11 k1 k2 n7
         have hnil : ∀ w', (binOp .eql 33 (.slice (some ⟨gi, 0, none⟩) 16 ci) (.slice none 0 0)).run Tryz.prog w' = .ok (.bool false) w' := fun w' => eqNil_some w' _ _ Tryz.underlying33 _ _ _
         go_wp2_with fail
         refine bodyPost_ret (results_two rfl (resOne_tmp _ _ _) (resOne_tmp _ _ _)) rfl ?_
         rw [Hl.out.2]
         exact ⟨H9.out.2.2, F, gi, ci, rfl, H9.out.1, H9.out.2.1, Hl.out.1, H5.out.2.2⟩
       | none =>
         rw [hti] at HT
         have HLn := Lib.hid (show LI = holes by rw [HLI.out.2, hti]; rfl)
         clear hti
         go_upto_region 11 with (go_at_call 144; refine HT.out.mono ?_; rintro e w8 ⟨V, rfl, ⟨_, b8⟩, hV⟩; obtain rfl := hV rfl; have f11' := grow_cell b8 f11; have z11' : w8.frozen? ⟨F, 11, none⟩ = false := free_obj (grow_obj b8 H7.out.2) 11)
         have hO8 := grow_obj b8 H7.out.2
         have hk9 : Keeps (fun q => q = F) w8 (w8.setCell ⟨F, 11, none⟩ (.slice none 0 0)) := Keeps.setCell _ _ _ rfl
         have hO9 : objAt (w8.setCell ⟨F, 11, none⟩ (.slice none 0 0)) F = some (.cells (Fl.cells ⟨nd, []⟩ t a (.slice none 0 0)) 177 (0, 0)) := by rw [objAt_setCell hO8]; rfl
         have hb9 : Below w.heap.size w (w8.setCell ⟨F, 11, none⟩ (.slice none 0 0)) := by
          have h8 := grow_trans H7.out.1 b8
          exact h8.trans (hk9.below h8.size (fun q e => by have : q = F := e; rw [this]; exact H5.out.2.2))
         obtain ⟨w9, hw9⟩ : ∃ w9, w9 = w8.setCell ⟨F, 11, none⟩ (.slice none 0 0) := ⟨_, rfl⟩
         rw [← hw9] at hO9 hb9 ⊢
         obtain ⟨w10, hw10⟩ : ∃ w10, w10 = w9.alloc (.cells #[.int .i64 (-1)] 3) := ⟨_, rfl⟩
         have hb10 : Below w9.heap.size w9 w10 := below_alloc hw10
         have hR := Lib.hid (repeat_any (obj_alloc hw10))
         obtain ⟨J, hJ⟩ : ∃ J, J = w9.heap.size := ⟨_, rfl⟩
         rw [← hJ] at hR
         have g11 : w9.cell? ⟨F, 11, none⟩ = some (.slice none 0 0) := cell_obj hO9 11
         have H9 := Lib.hid (And.intro hO9 (And.intro hb9 hb10))
         clear hw9 hO8 hO9 hb9 hb10 hk9 f11' z11' b8 f11 z11 k1 k2 n7
         have hnil : ∀ w', (binOp .eql 33 (.slice none 0 0) (.slice none 0 0)).run Tryz.prog w' = .ok (.bool true) w' := fun w' => eqNil_none w' _ _ Tryz.underlying33
         go_upto_region 12 with fail
         clear hnil
         have hO10 := grow_obj H9.out.2.2 H9.out.1
         go_upto_region 13 with (go_at_call 145; rw [← hw10, ← hJ]; refine hR.out.mono ?_; rintro e w11 ⟨I, rfl, hr11, b11⟩; have f11' : w11.cell? ⟨F, 11, none⟩ = some (.slice none 0 0) := cell_obj (grow_obj b11 hO10) 11; have z11' : w11.frozen? ⟨F, 11, none⟩ = false := free_obj (grow_obj b11 hO10) 11)
         have hE := FlAt.fresh (t := t) (a := a) (nd := nd) (grow_trans H9.out.2.1 H9.out.2.2) hO10 H5.out.2.2 hr11 b11
         have HE := Lib.hid hE
         clear hE hr11 b11 hO10 hw10 hJ
         go_wp2_with fail
         refine bodyPost_ret (results_two rfl (resOne_tmp _ _ _) (resOne_tmp _ _ _)) rfl ?_
         rw [HLn.out]
         exact ⟨HE.out.2, F, I, 16, rfl, HE.out.1⟩
     · have HLn := Lib.hid (show LI = holes by
        rw [HLI.out.2]
        by_cases h1 : nd.index = -1
        · rw [hzz (hneg h1)]; rfl
        · rw [hzz (by cases h : inB st.bs nd.index with | false => rfl | true => exact absurd ⟨h1, h⟩ hx)]; rfl)
       have hb : (nd.index = -1 ∧ inB st.bs nd.index = false) ∨ (nd.index ≠ -1 ∧ inB st.bs nd.index = false) := by
        by_cases h1 : nd.index = -1
        · exact .inl ⟨h1, hneg h1⟩
        · exact .inr ⟨h1, by cases h : inB st.bs nd.index with | false => rfl | true => exact absurd ⟨h1, h⟩ hx⟩
       have hin : inB st.bs nd.index = false := hb.elim (·.2) (·.2)
       clear hneg hzz hx hb
       rw [hin]
       clear hin
       obtain ⟨w10, hw10⟩ : ∃ w10, w10 = w7.alloc (.cells #[.int .i64 (-1)] 3) := ⟨_, rfl⟩
       have hb10 : Below w7.heap.size w7 w10 := below_alloc hw10
       have hR := Lib.hid (repeat_any (obj_alloc hw10))
       obtain ⟨J, hJ⟩ : ∃ J, J = w7.heap.size := ⟨_, rfl⟩
       rw [← hJ] at hR
       have H9 := Lib.hid hb10
       clear hb10 k1 k2 n7
       have hnil : ∀ w', (binOp .eql 33 (.slice none 0 0) (.slice none 0 0)).run Tryz.prog w' = .ok (.bool true) w' := fun w' => eqNil_none w' _ _ Tryz.underlying33
       go_upto_region 12 with fail
       clear hnil
       have hO10 := grow_obj H9.out H7.out.2
       go_upto_region 13 with (go_at_call 145; rw [← hw10, ← hJ]; refine hR.out.mono ?_; rintro e w11 ⟨I, rfl, hr11, b11⟩; have f11' : w11.cell? ⟨F, 11, none⟩ = some (.slice none 0 0) := cell_obj (grow_obj b11 hO10) 11; have z11' : w11.frozen? ⟨F, 11, none⟩ = false := free_obj (grow_obj b11 hO10) 11)
       have hE := FlAt.fresh (t := t) (a := a) (nd := nd) (grow_trans H7.out.1 H9.out) hO10 H5.out.2.2 hr11 b11
       have HE := Lib.hid hE
       clear hE hr11 b11 hO10 hw10 hJ
       go_wp2_with fail
       refine bodyPost_ret (results_two rfl (resOne_tmp _ _ _) (resOne_tmp _ _ _)) rfl ?_
       rw [HLn.out]
       exact ⟨HE.out.2, F, I, 16, rfl, HE.out.1⟩
 · rw [if_neg (fun e => hk e.1)]
   have hk' : (b.kind != 1) = true := by simpa using hk
   clear hz hk
   cases hin : inB st.bs a with
   | true =>
     rw [hin] at H0
     clear hin
     go_enter Tryz.func84, Tryz.ntmps84
     go_upto_region 2 with (go_at_call 26; refine H0.out.mono ?_; rintro e w1 ⟨rfl, b1⟩)
     obtain ⟨G, hG⟩ : ∃ G, G = w1.heap.size := ⟨_, rfl⟩
     obtain ⟨w2, hw2⟩ : ∃ w2, w2 = w1.alloc (.cells b.cells 37) := ⟨_, rfl⟩
     have hb2 : Below w.heap.size w w2 := grow_trans b1 (below_alloc hw2)
     have hX2 : BlkAt w2 G b := by rw [hG]; exact obj_alloc hw2
     rw [← hw2, ← hG]
     have k0 := hX2.kindC
     have H2 := Lib.hid hb2
     clear hw2 hG hb2 hX2 b1
     go_wp2_with fail
     refine bodyPost_ret (results_two rfl (resOne_tmp _ _ _) (resOne_tmp _ _ _)) rfl ?_
     exact ⟨H2.out, rfl⟩
   | false =>
     rw [hin] at H0
     clear hin
     go_enter Tryz.func84, Tryz.ntmps84
     go_upto_region 2 with (go_at_call 26; refine H0.out.mono ?_; rintro e w1 ⟨rfl, b1⟩)
     have hb2 : Below w.heap.size w (w1.alloc (.cells b.cells 37)) := grow_alloc b1 _
     have H2 := Lib.hid hb2
     clear hb2 b1
     go_wp2_with fail
     refine bodyPost_ret (results_two rfl (resOne_tmp _ _ _) (resOne_tmp _ _ _)) rfl ?_
     exact ⟨H2.out, rfl⟩
end
end
end Go.Proofs.YtbbnejehglonjaaGreat
