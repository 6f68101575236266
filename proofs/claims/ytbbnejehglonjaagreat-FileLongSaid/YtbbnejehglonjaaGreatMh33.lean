/- DERIVED. Contracts and laws that the proofs of this seat share, part 33 of 36: RtA FiQ FlA ShH. -/
import Derived.Test.YtbbnejehglonjaaGreatMh00
import Derived.Test.YtbbnejehglonjaaGreatMh18
import Derived.Test.YtbbnejehglonjaaGreatMh19
import Derived.Test.YtbbnejehglonjaaGreatMh25
import Derived.Test.YtbbnejehglonjaaGreatMh27
import Derived.Test.YtbbnejehglonjaaGreatMh32
namespace Go.Proofs.YtbbnejehglonjaaGreat
set_option maxHeartbeats 8000000
set_option maxRecDepth 100000
set_option linter.unusedSimpArgs false
set_option linter.unusedVariables false
section
open Go.RowKit
attribute [local go_sem] hasBlk
attribute [local irreducible] Calls
theorem MayID_root (w : World) : Calls Tryz.prog 77 #[.agg Id.root.cells] w fun e w' => e = .returned (.bool (mayID Id.root)) ∧ Below w.heap.size w w' := by
 rw [show mayID Id.root = true by decide, show Id.root.cells = #[.int .i64 (-1), .int .i64 0, .int .u32 0] from rfl]

 have hc0 : (w.alloc (.cells #[.int .i64 (-1), .int .i64 0, .int .u32 0] 66)).cell? ⟨w.heap.size, 0, none⟩ = some (.int .i64 (-1)) := World.cell?_alloc_new ..
 have hc1 : (w.alloc (.cells #[.int .i64 (-1), .int .i64 0, .int .u32 0] 66)).cell? ⟨w.heap.size, 1, none⟩ = some (.int .i64 0) := World.cell?_alloc_new ..
 have hc2 : (w.alloc (.cells #[.int .i64 (-1), .int .i64 0, .int .u32 0] 66)).cell? ⟨w.heap.size, 2, none⟩ = some (.int .u32 0) := World.cell?_alloc_new ..
 have hw : Below w.heap.size w (w.alloc (.cells #[.int .i64 (-1), .int .i64 0, .int .u32 0] 66)) := (Below.refl _ _).alloc (Nat.le_refl _) _
 obtain ⟨G, hG⟩ : ∃ G, G = w.heap.size := ⟨_, rfl⟩
 rw [← hG] at hc0 hc1 hc2
 have HG := Lib.hid hG
 go_enter Tryz.func77, Tryz.ntmps77
 go_wp2_with fail
 rw [← hG]
 clear hG
 generalize w.alloc (.cells #[.int .i64 (-1), .int .i64 0, .int .u32 0] 66) = w0 at *
 have hB0 := Below.refl w0.heap.size w0
 have hS : ∀ w', Below w0.heap.size w0 w' → (w'.cell? ⟨G, 0, none⟩ = some (.int .i64 (-1)) ∧ w'.cell? ⟨G, 1, none⟩ = some (.int .i64 0) ∧ w'.cell? ⟨G, 2, none⟩ = some (.int .u32 0) ∧ Below w0.heap.size w0 w') :=
  fun w' hb => ⟨grow_cell hb hc0, grow_cell hb hc1, grow_cell hb hc2, hb⟩
 refine wp_region_held_drew (S := fun w' => w'.cell? ⟨G, 0, none⟩ = some (.int .i64 (-1)) ∧ w'.cell? ⟨G, 1, none⟩ = some (.int .i64 0) ∧ w'.cell? ⟨G, 2, none⟩ = some (.int .u32 0) ∧ Below w0.heap.size w0 w') (by kernel_rfl) (hS _ hB0.drew) (fun hHeld => ?_)
 show wpAnyH _ _ _ _ _ 29 #[false, false, false, false, false, false, false, false, false, false, false, false, false, false, false, false, false, false, false, false, false, false, false, false, false, false, false, false, false] _ _
 refine gT 0 ?_; try simp only [Act.put, qs]
 refine gY 1 fun K hK => ?_
 try simp only [qs]
 go_simp
 go_at_call 34; refine (Root_lit _).mono ?_; rintro e x1 ⟨rfl, b1⟩
 refine hK.out _ _ (by exact hS _ (grow_trans hHeld.2.2.2 b1)) (fun hN => ?_); replace hHeld := hN; clear hK K hN
 try simp only [qs]
 refine gT 2 ?_; try simp only [Act.put, qs]
 refine gT 3 ?_; try simp only [Act.put, qs]
 refine gU 4 ?_; try simp only [Act.put, qs]
 refine gU 5 ?_; try simp only [Act.put, qs]
 refine gU 6 ?_; try simp only [Act.put, qs]
 refine gU 7 ?_; try simp only [Act.put, qs]
 refine gU 8 ?_; try simp only [Act.put, qs]
 refine gU 9 ?_; try simp only [Act.put, qs]
 refine gU 10 ?_; try simp only [Act.put, qs]
 refine gU 11 ?_; try simp only [Act.put, qs]
 refine gU 12 ?_; try simp only [Act.put, qs]
 refine gU 13 ?_; try simp only [Act.put, qs]
 refine gU 14 ?_; try simp only [Act.put, qs]
 refine gU 15 ?_; try simp only [Act.put, qs]
 refine gU 16 ?_; try simp only [Act.put, qs]
 refine gU 17 ?_; try simp only [Act.put, qs]
 refine gU 18 ?_; try simp only [Act.put, qs]
 refine gU 19 ?_; try simp only [Act.put, qs]
 refine gU 20 ?_; try simp only [Act.put, qs]
 refine gU 21 ?_; try simp only [Act.put, qs]
 refine gU 22 ?_; try simp only [Act.put, qs]
 refine gU 23 ?_; try simp only [Act.put, qs]
 refine gU 24 ?_; try simp only [Act.put, qs]
 refine gU 25 ?_; try simp only [Act.put, qs]
 refine gU 26 ?_; try simp only [Act.put, qs]
 refine gT 27 ?_; try simp only [Act.put, qs]
 refine gT 28 ?_; try simp only [Act.put, qs]
 refine wpAnyH_done (by kernel_rfl) ?_ _
 go_wp2_with fail
 go_ret
 exact ⟨rfl, grow_trans hw hHeld.2.2.2⟩
theorem Find_no6 (g cap : Nat) (bs : List Blk) (dir : Id) (name : ByteArray) (w : World) (h : KRow w 0 (.slice (some ⟨g, 0, none⟩) bs.length cap) bs) (hl : bs.length ≤ 1000) (h6 : ∀ j, j < bs.length → (bs.getD j Blk.zero).kind ≠ 6) :
 Calls Tryz.prog 49 #[.slice (some ⟨g, 0, none⟩) bs.length cap, .agg dir.cells, .string name] w fun e w' => e = .returned (.tuple #[.agg (find bs dir name).1.cells, .int .i64 (find bs dir name).2]) ∧ Below w.heap.size w w' := by
 obtain ⟨D, hD⟩ : ∃ D, D = dir := ⟨dir, rfl⟩
 rw [← hD]
 have HD := Lib.hid hD
 clear hD
 obtain ⟨dl, da, dg⟩ := dir
 rw [show D.cells = #[.int .i64 dl, .int .i64 da, .int .u32 dg] by rw [HD.out]; rfl]
 have hA : objAt ((w.alloc (.cells #[.int .i64 dl, .int .i64 da, .int .u32 dg] 66)).alloc (.cells #[.int .i64 0, .int .i64 0, .int .u32 0, .string ⟨#[]⟩, .int .i64 0, .int .u32 0] 100)) w.heap.size = some (.cells #[.int .i64 dl, .int .i64 da, .int .u32 dg] 66 (0, 0)) := by
  rw [objAt_alloc, if_neg (by simp), objAt_alloc, if_pos rfl]
 have hZ : objAt ((w.alloc (.cells #[.int .i64 dl, .int .i64 da, .int .u32 dg] 66)).alloc (.cells #[.int .i64 0, .int .i64 0, .int .u32 0, .string ⟨#[]⟩, .int .i64 0, .int .u32 0] 100)) (w.heap.size + 1) = some (.cells Nm.zero.cells 100 (0, 0)) := by rw [objAt_alloc, size_alloc, if_pos rfl]; rfl
 have hB : Below w.heap.size w ((w.alloc (.cells #[.int .i64 dl, .int .i64 da, .int .u32 dg] 66)).alloc (.cells #[.int .i64 0, .int .i64 0, .int .u32 0, .string ⟨#[]⟩, .int .i64 0, .int .u32 0] 100)) := ((Below.refl _ _).alloc (Nat.le_refl _) _).alloc (by rw [size_alloc]; omega) _
 obtain ⟨G, hG⟩ : ∃ G, G = w.heap.size := ⟨_, rfl⟩
 rw [← hG] at hA hZ
 have Hrow := Lib.hid h
 have H6 := Lib.hid h6
 clear h h6
 go_enter Tryz.func49, Tryz.ntmps49
 go_wp2_with fail
 generalize (w.alloc (.cells #[.int .i64 dl, .int .i64 da, .int .u32 dg] 66)).alloc (.cells #[.int .i64 0, .int .i64 0, .int .u32 0, .string ⟨#[]⟩, .int .i64 0, .int .u32 0] 100) = w0 at *
 rw [← hG]
 have e0 : w0.cell? ⟨G, 0, none⟩ = some (.int .i64 dl) := by rw [cell_of_row w0 G 0 _ _ _ hA]; rfl
 have e1 : w0.cell? ⟨G, 1, none⟩ = some (.int .i64 da) := by rw [cell_of_row w0 G 1 _ _ _ hA]; rfl
 have e2 : w0.cell? ⟨G, 2, none⟩ = some (.int .u32 dg) := by rw [cell_of_row w0 G 2 _ _ _ hA]; rfl
 have HX := Lib.hid (And.intro hG (And.intro hB hZ))
 have HE := Lib.hid (And.intro e0 (And.intro e1 e2))
 clear hG hB hZ hA e0 e1 e2
 have hend : ∀ w1 (N : Nm), Below w0.heap.size w0 w1 → hasNm w1 (G + 1) = true ∧ rowAt (w1.setRow (G + 1) N.cells) (G + 1) = some N.cells ∧ Below w.heap.size w (w1.setRow (G + 1) N.cells) := fun w1 N hb =>
  ⟨hasNm_obj (grow_obj hb HX.out.2.2) rfl, rowAt_heap (objAt_setRow (grow_obj hb HX.out.2.2) _), (grow_trans HX.out.2.1 hb).setRow (by rw [HX.out.1]; exact Nat.le_succ _) _⟩
 have Hend := Lib.hid hend
 clear hend
 go_loopw [8] (fun s8 wr => ∃ k : Nat, k ≤ bs.length ∧ s8 = .int .i64 k ∧ (∀ j, j < k → hit bs D name j = false) ∧ Below w0.heap.size w0 wr) (fun i _ => bs.length - (intOf i).toNat)
 case atStart => exact ⟨0, Nat.zero_le _, rfl, fun j hj => by omega, Below.refl _ _⟩
 case round =>
  obtain ⟨k, hk, rfl, hno, hbel⟩ := hrel
  have Hno := Lib.hid (And.intro hno hbel)
  clear hno
  by_cases hlt : k < bs.length
  · have hK := KRow.below Hrow.out (grow_trans HX.out.2.1 hbel)
    have hc := hK.kind k hlt
    have hh := hK.has k hlt
    have hr := hK.row k hlt
    have i0 : (0 : Int) ≤ (k : Int) := Int.natCast_nonneg _
    have i1 : (k : Int) < (bs.length : Int) := by omega
    clear hK hbel
    have hkd := H6.out k hlt
    have d1 := ne_bne hkd
    have Hh := Lib.hid (hit_kind (bs := bs) (dir := D) (name := name) hkd)
    clear hkd
    generalize bs.getD k Blk.zero = b at *
    go_wp2_with fail
    go_roundw
    case rel => exact ⟨k + 1, by omega, by go_num, upto_succ Hno.out.1 Hh.out, Hno.out.2⟩
    case measure => simp [intOf]; omega
  · have Hf := Lib.hid (find_none (dir := D) (name := name) fun j hj => Hno.out.1 j (by omega))
    have hg := (Hend.out _ Nm.zero Hno.out.2).1
    clear hbel
    go_wp2_with fail
    refine bodyPost_ret (results_two rfl (resOne_agg aggNm rfl (Hend.out _ Nm.zero Hno.out.2).2.1 rfl) (resOne_tmp _ _ _)) rfl ?_
    exact ⟨by rw [Hf.out]; rfl, (Hend.out _ Nm.zero Hno.out.2).2.2⟩
theorem dir_root (p : Nat) (g cap : Nat) (bs : List Blk) (w : World) (h : StoreAt w p 0 g cap bs) :
 Calls Tryz.prog 79 #[.pointer (some ⟨p, 0, none⟩), .agg Id.root.cells] w fun e w' => e = .returned (.bool (dirOk 0 bs Id.root)) ∧ Below w.heap.size w w' := by
 have hd : dirOk 0 bs Id.root = true := rfl
 rw [hd, show Id.root.cells = #[.int .i64 (-1), .int .i64 0, .int .u32 0] from rfl]
 clear hd
 have Hst := Lib.hid h
 clear h
 have hO : objAt (w.alloc (.cells #[.int .i64 (-1), .int .i64 0, .int .u32 0] 66)) w.heap.size = some (.cells #[.int .i64 (-1), .int .i64 0, .int .u32 0] 66 (0, 0)) := by rw [objAt_alloc, if_pos rfl]
 have hB := (Below.refl w.heap.size w).alloc (Nat.le_refl _) (.cells #[.int .i64 (-1), .int .i64 0, .int .u32 0] 66)
 obtain ⟨G, hG⟩ : ∃ G, G = w.heap.size := ⟨_, rfl⟩
 rw [← hG] at hO
 go_enter Tryz.func79, Tryz.ntmps79
 go_upto_region 1 with (fail)
 generalize w.alloc (.cells #[.int .i64 (-1), .int .i64 0, .int .u32 0] 66) = w0 at *
 rw [← hG]
 have c0 := (Hst.out.below hB).c0
 have c1 := (Hst.out.below hB).c1
 have d0 : w0.cell? ⟨G, 0, none⟩ = some (.int .i64 (-1)) := by rw [cell_of_row w0 G 0 _ _ _ hO]; rfl
 have d1 : w0.cell? ⟨G, 1, none⟩ = some (.int .i64 0) := by rw [cell_of_row w0 G 1 _ _ _ hO]; rfl
 have d2 : w0.cell? ⟨G, 2, none⟩ = some (.int .u32 0) := by rw [cell_of_row w0 G 2 _ _ _ hO]; rfl
 have HX := Lib.hid hB
 clear hG hO hB
 have hS : ∀ w', Below w0.heap.size w0 w' → (w'.cell? ⟨p, 0, none⟩ = some (.int .i64 0) ∧ w'.cell? ⟨p, 1, none⟩ = some (.slice (some ⟨g, 0, none⟩) bs.length cap) ∧ w'.cell? ⟨G, 0, none⟩ = some (.int .i64 (-1)) ∧ w'.cell? ⟨G, 1, none⟩ = some (.int .i64 0) ∧ w'.cell? ⟨G, 2, none⟩ = some (.int .u32 0) ∧ Below w0.heap.size w0 w') :=
  fun w' hb => ⟨grow_cell hb c0, grow_cell hb c1, grow_cell hb d0, grow_cell hb d1, grow_cell hb d2, hb⟩

 have e1 : (!((-1 : Int) == 0)) = true := rfl
 refine wp_region_held_drew (S := fun w' => w'.cell? ⟨p, 0, none⟩ = some (.int .i64 0) ∧ w'.cell? ⟨p, 1, none⟩ = some (.slice (some ⟨g, 0, none⟩) bs.length cap) ∧ w'.cell? ⟨G, 0, none⟩ = some (.int .i64 (-1)) ∧ w'.cell? ⟨G, 1, none⟩ = some (.int .i64 0) ∧ w'.cell? ⟨G, 2, none⟩ = some (.int .u32 0) ∧ Below w0.heap.size w0 w') (by kernel_rfl) (hS _ (Below.refl _ _).drew) (fun hHeld => ?_)
 show wpAnyH _ _ _ _ _ 16 #[false, false, false, false, false, false, false, false, false, false, false, false, false, false, false, false] _ _
 refine gT 0 ?_; try simp only [Act.put, qs]
 refine gT 1 ?_; try simp only [Act.put, qs]
 refine gT 2 ?_; try simp only [Act.put, qs]
 refine gT 3 ?_; try simp only [Act.put, qs]
 refine gT 4 ?_; try simp only [Act.put, qs]
 refine gT 5 ?_; try simp only [Act.put, qs]
 refine gT 6 ?_; try simp only [Act.put, qs]
 refine gT 7 ?_; try simp only [Act.put, qs]
 refine gU 8 ?_; try simp only [Act.put, qs]
 refine gU 9 ?_; try simp only [Act.put, qs]
 refine gU 10 ?_; try simp only [Act.put, qs]
 refine gU 11 ?_; try simp only [Act.put, qs]
 refine gU 12 ?_; try simp only [Act.put, qs]
 refine gU 13 ?_; try simp only [Act.put, qs]
 refine gT 14 ?_; try simp only [Act.put, qs]
 refine gT 15 ?_; try simp only [Act.put, qs]
 refine wpAnyH_done (by kernel_rfl) ?_ _
 go_wp2_with fail
 go_ret
 exact ⟨rfl, grow_trans HX.out hHeld.2.2.2.2.2⟩
end
section
open Go.RowKit
attribute [local irreducible] Calls

theorem Keeps.new {S S' : Nat → Prop} {w w1 w2 : World} (h : Keeps S w w1) (hk : Keeps S' w1 w2) (hs : ∀ q, S' q → S q ∨ w.heap.size ≤ q) : Keeps S w w2 :=
 ⟨hk.os.trans h.os, hk.tape.trans h.tape, hk.output.trans h.output, Nat.le_trans h.size hk.size, fun k hlt hn => (hk.block k (Nat.lt_of_lt_of_le hlt h.size) (fun e => (hs k e).elim hn (fun e => by omega))).trans (h.block k hlt hn)⟩
def ndK (k : Nat) : Nd := ⟨1, 1, 0, if 0 < k then -1 else 0, if 1 < k then -1 else 0, if 2 < k then -1 else 0, if 3 < k then -1 else 0, -1, ⟨#[]⟩⟩
theorem newBlks_no6 {n : Nat} (j : Nat) (hj : j < (newBlks n).length) : ((newBlks n).getD j Blk.zero).kind ≠ 6 := by
 rw [newBlks_len] at hj
 rw [newBlks_kind hj]; split <;> decide
theorem bsB_no6 {n : Nat} (hn : 4 ≤ n) (j : Nat) (hj : j < (bsB n).length) : ((bsB n).getD j Blk.zero).kind ≠ 6 := by
 rw [bsB_len] at hj
 rw [bsB_kind hn hj]
 split
 · decide
 · split <;> decide
theorem sFile_any {w : World} {p g cap n : Nat} (h : StoreAt w p 0 g cap (newBlks n)) (hn : 4 ≤ n) (h2 : n ≤ 200) :
 Calls Tryz.prog 33 #[.pointer (some ⟨p, 0, none⟩), .agg #[.int .i64 (-1), .int .i64 0, .int .u32 0], .string ⟨#[97]⟩, .int .i64 1, .string ⟨#[]⟩] w fun e w' => ∃ g' cap', e = .returned (.tuple #[.agg #[.int .i64 0, .int .i64 1, .int .u32 1], .int .i64 0]) ∧ StoreAt w' p 0 g' cap' (fileBlks n) ∧ Keeps (fun q => q = p) w w' ∧ w.heap.size ≤ g' := by
 have hl : (newBlks n).length ≤ 1000 := by rw [newBlks_len]; omega
 have hl0 : 0 < (newBlks n).length := by rw [newBlks_len]; omega
 obtain ⟨w0, hw0⟩ : ∃ w0, w0 = (w.alloc (.cells #[.int .i64 (-1), .int .i64 0, .int .u32 0] 66)).alloc (.cells #[.int .i64 0, .int .i64 0, .int .u32 0] 66) := ⟨_, rfl⟩
 obtain ⟨G, hG⟩ : ∃ G, G = w.heap.size := ⟨_, rfl⟩
 have hB0 : Below w.heap.size w w0 := by rw [hw0]; exact grow_alloc (grow_alloc (Below.refl _ _) _) _
 have hA : objAt w0 G = some (.cells #[.int .i64 (-1), .int .i64 0, .int .u32 0] 66 (0, 0)) := by rw [hw0, hG, objAt_alloc, if_neg (by simp), objAt_alloc, if_pos rfl]
 have hZ : objAt w0 (G + 1) = some (.cells #[.int .i64 0, .int .i64 0, .int .u32 0] 66 (0, 0)) := by rw [hw0, hG, objAt_alloc, if_pos (by simp only [size_alloc])]
 have HD := Lib.hid (fun w' hb => dir_root p g cap (newBlks n) w' (h.below hb))
 have hdo : dirOk 0 (newBlks n) Id.root = true := rfl
 rw [hdo, show Id.root.cells = #[.int .i64 (-1), .int .i64 0, .int .u32 0] from rfl] at HD
 have HF := Lib.hid (fun w' hb => sFind_of p 0 g cap (newBlks n) Id.root ⟨#[97]⟩ w' (h.below hb) (fun w2 hb2 => Find_no6 g cap (newBlks n) Id.root ⟨#[97]⟩ w2 (KRow.below (h.below hb).row hb2) hl newBlks_no6))
 have hsf : sFind 0 (newBlks n) Id.root ⟨#[97]⟩ = (Id.zero, false) := sFind_none (by rw [newBlks_find]; decide)
 rw [hsf, show Id.root.cells = #[.int .i64 (-1), .int .i64 0, .int .u32 0] from rfl, show Id.zero.cells = #[.int .i64 0, .int .i64 0, .int .u32 0] from rfl] at HF
 dsimp only at HF
 have HLf := Lib.hid (fun w' hb => Left_any g cap (newBlks n) w' (h.below hb).row hl)
 obtain ⟨lf, hlf⟩ : ∃ lf, lf = left (newBlks n) := ⟨_, rfl⟩
 have hlf2 := newBlks_left (n := n) (by omega)
 rw [← hlf] at HLf hlf2
 have hlf3 : ¬ ((lf : Int) < 2) := by omega
 have HN := Lib.hid (fun w' hb => next_any g cap (newBlks n) w' (h.below hb).row hl0)
 rw [newBlks_next (by omega), show ((1 : Nat) : Int) = 1 from rfl] at HN
 have HI := Lib.hid (fun w => MayID_root w)
 rw [show mayID Id.root = true by decide, show Id.root.cells = #[.int .i64 (-1), .int .i64 0, .int .u32 0] from rfl] at HI
 have HM := Lib.hid (fun w => refMayName ⟨#[97]⟩ w (by decide))
 rw [show mayName (ByteArray.mk #[97]).data.toList = true by decide +kernel] at HM
 have HK := Lib.hid (fun w => isNode_any 1 w)
 rw [show isNode 1 = true by decide] at HK
 have H0 := Lib.hid (And.intro h (And.intro hB0 (And.intro hA (And.intro hZ (And.intro hG (And.intro hl hl0))))))
 have k0 : w0.cell? ⟨G, 0, none⟩ = some (.int .i64 (-1)) := cell_obj hA 0
 have k1 : w0.cell? ⟨G, 1, none⟩ = some (.int .i64 0) := cell_obj hA 1
 have k2 : w0.cell? ⟨G, 2, none⟩ = some (.int .u32 0) := cell_obj hA 2
 clear h hB0 hA hZ hlf hlf2 hdo hsf hl hl0
 go_enter Tryz.func33, Tryz.ntmps33
 go_upto_region 1 with fail
 rw [← hw0, ← hG]
 clear hw0 hG
 go_upto_region 3 with (first
  | (go_at_call 75; refine (HK.out _).mono ?_; rintro e w1 ⟨rfl, hw1⟩; obtain rfl := hw1.symm)
  | (go_at_call 76; refine (HM.out _).mono ?_; rintro e w1 ⟨rfl, hw1⟩; obtain rfl := hw1.symm)
  | (go_at_call 77; refine (HI.out _).mono ?_; rintro e w1 ⟨rfl, b1⟩))
 have hb1 := grow_trans H0.out.2.1 b1
 have r0 := grow_cell b1 k0
 have r1 := grow_cell b1 k1
 have r2 := grow_cell b1 k2
 have hc1 : w1.cell? ⟨p, 1, none⟩ = some (.slice (some ⟨g, 0, none⟩) (newBlks n).length cap) := (H0.out.1.below hb1).c1
 have H1 := Lib.hid (And.intro hb1 b1)
 clear hb1 b1 k0 k1 k2
 go_upto_region 5 with (go_at_call 79; refine (HD.out _ H1.out.1).mono ?_; rintro e w2 ⟨rfl, b2⟩)
 have hb2 := grow_trans H1.out.1 b2
 replace r0 := grow_cell b2 r0
 replace r1 := grow_cell b2 r1
 replace r2 := grow_cell b2 r2
 have H2 := Lib.hid (And.intro hb2 (grow_trans H1.out.2 b2))
 clear hb2 b2 hc1
 go_upto_region 8 with (go_at_call 80; refine (HF.out _ H2.out.1).mono ?_; rintro e w3 ⟨rfl, b3⟩)
 obtain ⟨w4, hw4⟩ : ∃ w4, w4 = w3.alloc (.cells #[.int .i64 0, .int .i64 0, .int .u32 0] 66) := ⟨_, rfl⟩
 have hb24 : Below w2.heap.size w2 w4 := grow_trans b3 (below_alloc hw4)
 have hb4 := grow_trans H2.out.1 hb24
 rw [← hw4]
 have hc4 : w4.cell? ⟨p, 1, none⟩ = some (.slice (some ⟨g, 0, none⟩) (newBlks n).length cap) := (H0.out.1.below hb4).c1
 replace r0 := grow_cell hb24 r0
 replace r1 := grow_cell hb24 r1
 replace r2 := grow_cell hb24 r2
 have H4 := Lib.hid (And.intro hb4 (grow_trans H2.out.2 hb24))
 clear hw4 hb24 hb4 b3
 go_upto_region 10 with (first
  | (go_at_call 64; refine (HLf.out _ H4.out.1).mono ?_; rintro e w5 ⟨rfl, b5⟩; have hc5 : w5.cell? ⟨p, 1, none⟩ = some (.slice (some ⟨g, 0, none⟩) (newBlks n).length cap) := grow_cell b5 hc4)
  | (go_at_call 81; refine (HN.out _ (grow_trans H4.out.1 b5)).mono ?_; rintro e w6 ⟨rfl, hw6⟩; obtain rfl : w5 = w6 := hw6))
 have hb5 := grow_trans H4.out.1 b5
 replace r0 := grow_cell b5 r0
 replace r1 := grow_cell b5 r1
 replace r2 := grow_cell b5 r2
 have hc6 : (w5.alloc (.cells #[] 37)).cell? ⟨p, 1, none⟩ = some (.slice (some ⟨g, 0, none⟩) (newBlks n).length cap) := grow_cell (grow_alloc (Below.refl _ _) _) hc5
 have H5 := Lib.hid (And.intro hb5 (grow_trans H4.out.2 b5))
 clear hb5 b5 hc4 hc5
 go_upto_region 11 with (at_builtin; refine list_copyK rfl _ _ rfl rfl (base := w5.heap.size) (owns_emptyK (by first | (simp [objAt_alloc]; done) | rfl) (Nat.le_refl _)) rfl (H0.out.1.below (grow_alloc H5.out.1 _)).row H0.out.2.2.2.2.2.2 H0.out.2.2.2.2.2.1 (by simp) ?_; intro g2 cap2 w6 hK6 b6)
 have hBW : Below w.heap.size w w6 := (grow_alloc H5.out.1 (.cells #[] 37)).trans (b6.mono H5.out.1.size)
 have hB06 := (grow_alloc H5.out.2 (.cells #[] 37)).trans (b6.mono H5.out.2.size)
 have hg2 : w5.heap.size ≤ g2 := by obtain ⟨cur, _, _, _, _, _, h'⟩ := hK6.obj; exact h'
 have hK0 := KRow.mono hK6 (Nat.zero_le _)
 have HN6 := Lib.hid (next_any g2 cap2 (newBlks n) w6 hK0 H0.out.2.2.2.2.2.2)
 rw [newBlks_next (by omega), show ((1 : Nat) : Int) = 1 from rfl] at HN6
 have H6 := Lib.hid (And.intro hBW (And.intro hB06 (And.intro hK6 hg2)))
 clear hBW hB06 hK6 hg2 hK0 b6 hc6 r0 r1 r2
 go_upto_region 12 with (go_at_call 81; refine HN6.out.mono ?_; rintro e w7 ⟨rfl, hw7⟩; obtain rfl : w6 = w7 := hw7)
 obtain ⟨N, hN⟩ : ∃ N, N = w6.heap.size := ⟨_, rfl⟩
 obtain ⟨w7, hw7⟩ : ∃ w7, w7 = w6.alloc (.cells (ndK 0).cells 165) := ⟨_, rfl⟩
 have hb7 : Below w6.heap.size w6 w7 := below_alloc hw7
 have ho7 : objAt w7 N = some (.cells (ndK 0).cells 165 (0, 0)) := by rw [hN]; exact obj_alloc hw7
 rw [show (ndK 0).cells = #[.int .u32 1, .int .i64 1, .int .i64 0, .int .i64 0, .int .i64 0, .int .i64 0, .int .i64 0, .int .i64 (-1), .string ⟨#[]⟩] from rfl] at hw7
 rw [← hw7, ← hN]
 have H7 := Lib.hid (And.intro hN (And.intro hb7 ho7))
 clear hN hw7 hb7 ho7
 go_wp2_with fail
 go_loopw [16] (fun s16 wr => ∃ k : Nat, k ≤ 4 ∧ s16 = .int .i64 k ∧ Keeps (fun q => q = N) w7 wr ∧ objAt wr N = some (.cells (ndK k).cells 165 (0, 0))) (fun i _ => 4 - (Go.RowKit.intOf i).toNat)
 case atStart => exact ⟨0, by decide, rfl, Keeps.refl _ _, H7.out.2.2⟩
 case round =>
  obtain ⟨k, hk, rfl, hkp, hob⟩ := hrel
  have HR := Lib.hid (And.intro hkp hob)
  by_cases hlt : k < 4
  · have hst : ∀ x : Value, objAt (wr.setCell ⟨N, 3 + k, none⟩ x) N = some (.cells ((ndK k).cells.setIfInBounds (3 + k) x) 165 (0, 0)) := fun x => objAt_setCell hob _ _
    obtain rfl | rfl | rfl | rfl : k = 0 ∨ k = 1 ∨ k = 2 ∨ k = 3 := by omega
    all_goals
     have e1 := cell_obj hob 3
     have e2 := cell_obj hob 4
     have e3 := cell_obj hob 5
     have e4 := cell_obj hob 6
     have z1 := free_obj hob 3
     have z2 := free_obj hob 4
     have z3 := free_obj hob 5
     have z4 := free_obj hob 6
     simp only [ndK, Nd.cells] at e1 e2 e3 e4
     have Hst := Lib.hid hst
     clear hkp hob hst
     go_wp2_with fail
     go_roundw
     case rel => exact ⟨_ + 1, by omega, rfl, HR.out.1.trans (Keeps.setCell _ _ _ rfl), by rw [Hst.out]; rfl⟩
     case measure => decide
  · obtain rfl : k = 4 := by omega
    have hN0 : objAt wr N = some (.cells nd0.cells 165 (0, 0)) := hob
    have hb6 : Below w6.heap.size w6 wr := H7.out.2.1.trans (hkp.below H7.out.2.1.size (fun q e => by have e' : q = N := e; rw [e', H7.out.1]; exact Nat.le_refl _))
    have hKr := H6.out.2.2.1.below hb6
    have HFi := Lib.hid (First_any g2 cap2 (newBlks n) none 0 [] wr (KRow.mono hKr (Nat.zero_le _)) H0.out.2.2.2.2.2.1 (nil_ints wr) (by decide) (fun x hx => by simp at hx))
    rw [newBlks_first hn, show (([] : List Int).length) = 0 from rfl, show ((1 : Nat) : Int) = 1 from rfl] at HFi
    have HPn := Lib.hid (fun w => PutNode_any 1 nd0 w nd0_wf)
    rw [show nd0.cells = #[.int .u32 1, .int .i64 1, .int .i64 0, .int .i64 (-1), .int .i64 (-1), .int .i64 (-1), .int .i64 (-1), .int .i64 (-1), .string ⟨#[]⟩] from rfl] at HPn
    have H8 := Lib.hid (And.intro hN0 (And.intro hb6 hKr))
    have hlen := newBlks_len n
    have hl1 : (1 : Int) < ((newBlks n).length : Int) := by omega
    clear hkp hob hN0 hb6 hKr hlen hlt hk
    go_upto_region 17 with (go_at_call 20; refine HFi.out.mono ?_; rintro e w9 ⟨rfl, b9⟩)
    have ho9 := grow_obj b9 H8.out.1
    have m1 : hasNd w9 N = true := hasNd_obj ho9
    have m2 : rowAt w9 N = some #[.int .u32 1, .int .i64 1, .int .i64 0, .int .i64 (-1), .int .i64 (-1), .int .i64 (-1), .int .i64 (-1), .int .i64 (-1), .string ⟨#[]⟩] := rowAt_heap ho9
    have H9 := Lib.hid (And.intro b9 ho9)
    clear b9 ho9
    go_upto_region 18 with (go_at_call 82; refine (HPn.out _).mono ?_; rintro e w10 ⟨rfl, b10⟩; have hK10 := H8.out.2.2.below (grow_trans H9.out.1 b10); have hh10 := hK10.has 1 (by rw [newBlks_len]; omega))
    have hK11 : KRow (putOff w10 g2 57 (putNode 1 nd0).1.cells) w5.heap.size (.slice (some ⟨g2, 0, none⟩) (newBlks n).length cap2) (bsA n) := hK10.put 1 (by rw [newBlks_len]; omega) _
    have hk11 : Keeps (· = g2) w10 (putOff w10 g2 57 (putNode 1 nd0).1.cells) := putOff_keeps _ _ _ _
    obtain ⟨cg, hcg⟩ : ∃ cg, objAt w10 g2 = some (.cells cg 37 (0, 0)) := by
     rcases hK10.2 with ⟨h', _⟩ | ⟨g', cap', cur, h', _, hg', _⟩
     · cases h'
     · cases h'; exact ⟨cur, hg'⟩
    have hb610 := grow_trans H8.out.2.1 (grow_trans H9.out.1 b10)
    have hbW10 := grow_trans H6.out.1 hb610
    have hp10 : objAt w10 p = some (.cells #[.int .i64 0, .slice (some ⟨g, 0, none⟩) (newBlks n).length cap] 58 (0, 0)) := grow_obj hbW10 H0.out.1.box
    have hG10 : objAt w10 G = some (.cells #[.int .i64 (-1), .int .i64 0, .int .u32 0] 66 (0, 0)) := grow_obj hb610 (grow_obj H6.out.2.1 H0.out.2.2.1)
    have hZ10 : objAt w10 (G + 1) = some (.cells #[.int .i64 0, .int .i64 0, .int .u32 0] 66 (0, 0)) := grow_obj hb610 (grow_obj H6.out.2.1 H0.out.2.2.2.1)
    have hN10 := grow_obj b10 H9.out.2
    have q1 : p ≠ g2 := ne_of_obj hp10 hcg (by decide)
    have q2 : G ≠ g2 := ne_of_obj hG10 hcg (by decide)
    have q3 : G + 1 ≠ g2 := ne_of_obj hZ10 hcg (by decide)
    have q4 : N ≠ g2 := ne_of_obj hN10 hcg (by decide)
    obtain ⟨w11, hw11⟩ : ∃ w11, w11 = putOff w10 g2 57 (putNode 1 nd0).1.cells := ⟨_, rfl⟩
    rw [← hw11] at hK11 hk11 ⊢
    have n0 : w11.cell? ⟨N, 0, none⟩ = some (.int .u32 1) := cell_obj (hk11.obj hN10 q4) 0
    have la : (bsA n).length = (newBlks n).length := by rw [bsA_len, newBlks_len]
    have lb : (bsB n).length = (newBlks n).length := by rw [bsB_len, newBlks_len]
    have HSn := Lib.hid (setNext_any w5.heap.size g2 cap2 (bsA n) 2 w11 (by rw [la]; exact hK11) (by rw [bsA_len]; omega) (by rw [bsA_len]; omega) (by decide))
    rw [la, show ((2 : Nat) : Int) = 2 from rfl, show setNextOf (bsA n) 2 = bsB n from rfl] at HSn
    have H10 := Lib.hid (And.intro hbW10 (And.intro (hk11.obj hp10 q1) (And.intro (hk11.obj hG10 q2) (And.intro (hk11.obj hZ10 q3) (And.intro (hk11.obj hN10 q4) (And.intro q1 (And.intro q2 (And.intro q3 (And.intro q4 (And.intro hk11 (And.intro la lb)))))))))))
    clear hw11 hK11 hk11 hcg hb610 hbW10 hp10 hG10 hZ10 hN10 q1 q2 q3 q4 la lb hK10 hh10 b10 m1 m2
    go_upto_region 19 with (go_at_call 83; refine HSn.out.mono ?_; rintro e w12 ⟨rfl, hK12, hk12⟩)
    have hp12 := hk12.obj H10.out.2.1 H10.out.2.2.2.2.2.1
    have hG12 := hk12.obj H10.out.2.2.1 H10.out.2.2.2.2.2.2.1
    have hZ12 := hk12.obj H10.out.2.2.2.1 H10.out.2.2.2.2.2.2.2.1
    have hN12 := hk12.obj H10.out.2.2.2.2.1 H10.out.2.2.2.2.2.2.2.2.1
    have r0 : w12.cell? ⟨G, 0, none⟩ = some (.int .i64 (-1)) := cell_obj hG12 0
    have r1 : w12.cell? ⟨G, 1, none⟩ = some (.int .i64 0) := cell_obj hG12 1
    have r2 : w12.cell? ⟨G, 2, none⟩ = some (.int .u32 0) := cell_obj hG12 2
    have n0' : w12.cell? ⟨N, 0, none⟩ = some (.int .u32 1) := cell_obj hN12 0
    have hK12' : KRow w12 0 (.slice (some ⟨g2, 0, none⟩) (bsB n).length cap2) (bsB n) := by rw [H10.out.2.2.2.2.2.2.2.2.2.2.2]; exact KRow.mono hK12 (Nat.zero_le _)
    have HAd := Lib.hid (Add_of g2 cap2 (bsB n) nmA w12 hK12' (by rw [bsB_len]; omega) (by rw [bsB_len]; omega) (fun w' hb => Find_no6 g2 cap2 (bsB n) nmA.dir nmA.name w' (KRow.below hK12' hb) (by rw [bsB_len]; omega) (bsB_no6 hn)) (fun w' => PutEntry_of nmA w' nmA_wf MayID_root))
    rw [H10.out.2.2.2.2.2.2.2.2.2.2.2, bsB_add hn, show nmA.cells = #[.int .i64 (-1), .int .i64 0, .int .u32 0, .string ⟨#[97]⟩, .int .i64 1, .int .u32 1] from rfl] at HAd
    have hg2W : w.heap.size ≤ g2 := Nat.le_trans H5.out.1.size H6.out.2.2.2
    have hkW : Keeps (fun q => q = p) w w12 := ((Keeps.of_below H10.out.1).new H10.out.2.2.2.2.2.2.2.2.2.1 (fun q e => by have e' : q = g2 := e; omega)).new hk12 (fun q e => by have e' : q = g2 := e; omega)
    have H12 := Lib.hid (And.intro hp12 (And.intro hZ12 (And.intro hN12 hkW)))
    clear hp12 hG12 hZ12 hN12 hkW hK12 hK12' hk12 hg2W n0
    go_upto_region 20 with (go_at_call 51; refine HAd.out.mono ?_; rintro e w13 ⟨v, rfl, hH, b13⟩; obtain ⟨g4, cap4, rfl⟩ := hH.form; have hp13 := grow_obj b13 H12.out.1; have c13 := cell_obj hp13 1; have z13 := free_obj hp13 1)
    have lf : (newBlks n).length = (fileBlks n).length := by rw [newBlks_len, fileBlks_len]
    have hrow13 : KRow w13 w12.heap.size (.slice (some ⟨g4, 0, none⟩) (newBlks n).length cap4) (fileBlks n) := hH.own rfl
    obtain ⟨cg, hcg⟩ : ∃ cg, objAt w13 g4 = some (.cells cg 37 (0, 0)) := by
     rcases hrow13.2 with ⟨h', _⟩ | ⟨g', cap', cur, h', _, hg', _⟩
     · cases h'
     · simp only [Value.slice.injEq, Option.some.injEq, Addr.mk.injEq] at h'
       obtain ⟨⟨rfl, _⟩, _, _⟩ := h'
       exact ⟨cur, hg'⟩
    have hg4 : w12.heap.size ≤ g4 := by obtain ⟨cur, _, _, _, _, _, h'⟩ := hrow13.obj; exact h'
    have q1 : p ≠ g4 := ne_of_obj hp13 hcg (by decide)
    have hk14 : Keeps (fun q => q = p) w13 (w13.setCell ⟨p, 1, none⟩ (.slice (some ⟨g4, 0, none⟩) (newBlks n).length cap4)) := Keeps.setCell _ _ _ rfl
    have hp14 := objAt_setCell hp13 1 (.slice (some ⟨g4, 0, none⟩) (newBlks n).length cap4)
    obtain ⟨w14, hw14⟩ : ∃ w14, w14 = w13.setCell ⟨p, 1, none⟩ (.slice (some ⟨g4, 0, none⟩) (newBlks n).length cap4) := ⟨_, rfl⟩
    rw [← hw14] at hk14 hp14 ⊢
    have hpZ : p ≠ G + 1 := ne_of_obj hp13 (grow_obj b13 H12.out.2.1) (by decide)
    have hpN : p ≠ N := ne_of_obj hp13 (grow_obj b13 H12.out.2.2.1) (by decide)
    have hNZ : N ≠ G + 1 := ne_of_obj H12.out.2.2.1 H12.out.2.1 (by decide)
    have hZ14 := hk14.obj (grow_obj b13 H12.out.2.1) (fun e => hpZ e.symm)
    have hN14 := hk14.obj (grow_obj b13 H12.out.2.2.1) (fun e => hpN e.symm)
    have hrow14 : KRow w14 w12.heap.size (.slice (some ⟨g4, 0, none⟩) (newBlks n).length cap4) (fileBlks n) := owns_keeps hrow13 hk14 (fun g hg e => by cases hg; exact q1 e.symm)
    have c0 : w14.cell? ⟨p, 0, none⟩ = some (.int .i64 0) := cell_obj hp14 0
    have n0 : w14.cell? ⟨N, 0, none⟩ = some (.int .u32 1) := cell_obj hN14 0
    have hg := hasId_obj hZ14 rfl
    have hkW : Keeps (fun q => q = p) w w14 := (H12.out.2.2.2.trans (Keeps.of_below b13)).trans hk14
    have hgZ : G + 1 ≠ g4 := ne_of_obj (grow_obj b13 H12.out.2.1) hcg (by decide)
    have H14 := Lib.hid (And.intro hp14 (And.intro hZ14 (And.intro hrow14 (And.intro hkW (And.intro hg4 (And.intro q1 (And.intro hgZ lf)))))))
    clear hp14 hZ14 hrow14 hkW hg4 q1 hgZ lf hcg hrow13 hH hp13 hw14 hk14 hN14 b13 c13 z13 r0 r1 r2 n0'
    refine wp_region_held_drew (S := fun w' => w'.cell? ⟨p, 0, none⟩ = some (.int .i64 0) ∧ w'.cell? ⟨N, 0, none⟩ = some (.int .u32 1) ∧ hasId w' (G + 1) = true ∧ True) (by kernel_rfl) (⟨c0, n0, hg, trivial⟩) (fun hHeld => ?_)
    show wpAnyH _ _ _ _ _ 10 #[false, false, false, false, false, false, false, false, false, false] _ _
    refine gT 0 ?_; try simp only [Act.put, qs]
    refine gT 1 ?_; try simp only [Act.put, qs]
    refine gT 2 ?_; try simp only [Act.put, qs]
    refine gT 3 ?_; try simp only [Act.put, qs]
    refine gT 4 ?_; try simp only [Act.put, qs]
    refine gT 5 ?_; try simp only [Act.put, qs]
    refine gT 6 ?_; try simp only [Act.put, qs]
    refine gT 7 ?_; try simp only [Act.put, qs]
    refine gY 8 fun K hK => ?_
    try simp only [qs]
    go_simp
    refine hK.out _ _ (by exact ⟨(cell_setRow_ne hpZ).trans hHeld.1, (cell_setRow_ne hNZ).trans hHeld.2.1, hasId_obj (objAt_setRow (w := w14.drew) H14.out.2.1 _) rfl, trivial⟩) (fun hN => ?_); replace hHeld := hN; clear hK K hN
    try simp only [qs]
    refine gT 9 ?_; try simp only [Act.put, qs]
    refine wpAnyH_done (by kernel_rfl) ?_ _
    go_wp2_with fail
    have hZ15 := objAt_setRow (w := w14.drew) H14.out.2.1 #[.int .i64 0, .int .i64 1, .int .u32 1]
    have hk15 := setRow_keeps' w14.drew (G + 1) #[.int .i64 0, .int .i64 1, .int .u32 1]
    refine bodyPost_ret (results_two rfl (resOne_agg aggId rfl (rowAt_heap hZ15) rfl) (resOne_tmp _ _ _)) rfl ?_
    have hGw : w.heap.size ≤ G + 1 := by rw [H0.out.2.2.2.2.1]; exact Nat.le_succ _
    refine ⟨g4, cap4, rfl, ⟨?_, ?_, fun e => H14.out.2.2.2.2.2.1 e.symm⟩, ?_, ?_⟩
    · rw [← H14.out.2.2.2.2.2.2.2]
      exact hk15.obj (show objAt w14.drew p = _ from H14.out.1) hpZ
    · rw [← H14.out.2.2.2.2.2.2.2]
      exact KRow.mono (owns_keeps (show KRow w14.drew _ _ _ from H14.out.2.2.1) hk15 (fun g hg e => by cases hg; exact H14.out.2.2.2.2.2.2.1 e.symm)) (Nat.zero_le _)
    · exact (H14.out.2.2.2.1.trans (Keeps.of_below (Below.refl _ _).drew)).new hk15 (fun q e => .inr (by rw [e]; exact hGw))
    · exact Nat.le_trans H12.out.2.2.2.size H14.out.2.2.2.2.1
end
section
open Go.RowKit
attribute [local irreducible] Calls
def shN (n : Nat) : Sh := ⟨0, 0, n, 40, 4⟩
theorem shN_ok {n : Nat} (h0 : 0 < n) (h : n ≤ 200) : (shN n).Ok := ⟨by show 0 ≤ (0 : Int) ∧ (0 : Int) ≤ 3; omega, by show 0 ≤ (0 : Int) ∧ (0 : Int) ≤ 15; omega, h, by show 40 ≤ 100; omega, h0⟩
theorem shN_lb (n : Nat) : (shN n).lb = 0 := rfl
theorem shN_size (n : Nat) : (shN n).size = 42 + n := rfl
def dvN (n : Nat) : Dv := ⟨[Reg.new (42 + n)], -1⟩
theorem barrier_new (R : Reg) : Dv.barrier ⟨[R], -1⟩ 0 = ⟨[R.barrier], -1⟩ := rfl
structure NewTo (R : Reg) (n k : Nat) : Prop where
 len : R.seen.length = 42 + n
 low : ∀ i, i < 42 → R.seen[i]? = some zeros64
 home : ∀ a, a < k → R.seen[42 + a]? = some (sealB 0 a (newBlk a))
theorem newTo (n : Nat) : ∀ k, k ≤ n → ∃ R, newsD (dvN n) 0 (shN n) k = ⟨[R], -1⟩ ∧ NewTo R n k
 | 0, _ => ⟨Reg.new (42 + n), rfl, by simp [Reg.new], fun i hi => by simp only [Reg.new]; rw [List.getElem?_replicate, if_pos (by omega)], fun a ha => by omega⟩
 | k + 1, hk => by
   obtain ⟨R, h1, h2⟩ := newTo n k (by omega)
   refine ⟨R.write (42 + k) (sealB 0 k (newBlk k)), by rw [newsD_succ, h1]; rfl, by simp [Reg.write, h2.len], fun i hi => ?_, fun a ha => ?_⟩
   · show (R.seen.set (42 + k) _)[i]? = _
     rw [List.getElem?_set_ne (by omega)]; exact h2.low i hi
   · show (R.seen.set (42 + k) _)[42 + a]? = _
     by_cases e : a = k
     · subst e; rw [List.getElem?_set_self (by rw [h2.len]; omega)]
     · rw [List.getElem?_set_ne (by omega)]; exact h2.home a (by omega)
def frBlks (n : Nat) : List Blk := (List.range n).map newBlk
theorem frBlks_length (n : Nat) : (frBlks n).length = n := by simp [frBlks]
theorem frBlks_at {n a : Nat} {b : Blk} (h : (frBlks n)[a]? = some b) : a < n ∧ b = newBlk a := by
 obtain ⟨h1, h2⟩ := List.getElem?_eq_some_iff.1 h
 rw [frBlks_length] at h1
 refine ⟨h1, ?_⟩
 rw [← h2]; simp [frBlks]
theorem newBlk_kind (a : Nat) : 0 ≤ (newBlk a).kind ∧ (newBlk a).kind ≤ 7 := by
 unfold newBlk
 split
 · rw [superBlk_kind]; decide
 · have : Blk.zero.kind = 0 := by rw [zero_of]; exact Blk.of_kind 0 []
   rw [this]; decide
theorem anchor_begins : beginsStep 0 (beginsStep 0 (0, false) 0 zeros64) 1 (anchorB 0 1) = (1, true) := by kernel_rfl
theorem zeros_ten : zeros64[10]? = some 0 := by kernel_rfl
theorem make_seen {n : Nat} (h0 : 0 < n) (_h : n ≤ 200) : ∃ R, (makeD (dvN n) 0 (shN n)).regs = [R] ∧ R.seen.length = (shN n).size ∧ R.seen[2]? = some zeros64 ∧ beginsUpto (shN n).lb 0 R.seen 2 = (1, true) ∧ (∀ a b, (frBlks n)[a]? = some b → (0 ≤ b.kind ∧ b.kind ≤ 7) ∧ R.seen[2 + (shN n).log + a]? = some (sealB (shN n).lb a b)) := by
 obtain ⟨R, h1, h2⟩ := newTo n n (Nat.le_refl _)
 have e : makeD (dvN n) 0 (shN n) = ⟨[(R.barrier.write 1 (anchorB 0 1)).barrier], -1⟩ := by
  unfold makeD
  rw [show (shN n).blocks = n from rfl, h1, barrier_new]
  rfl
 have hs : ((R.barrier.write 1 (anchorB 0 1)).barrier).seen = R.seen.set 1 (anchorB 0 1) := rfl
 refine ⟨_, by rw [e], by rw [hs, List.length_set, h2.len]; rfl, by rw [hs, List.getElem?_set_ne (by omega)]; exact h2.low 2 (by omega), ?_, fun a b hb => ?_⟩
 · rw [hs, shN_lb]
   have g0 : (R.seen.set 1 (anchorB 0 1)).getD 0 [] = zeros64 := by rw [List.getD_eq_getElem?_getD, List.getElem?_set_ne (by omega), h2.low 0 (by omega)]; rfl
   have g1 : (R.seen.set 1 (anchorB 0 1)).getD 1 [] = anchorB 0 1 := by rw [List.getD_eq_getElem?_getD, List.getElem?_set_self (by rw [h2.len]; omega)]; rfl
   show beginsStep 0 (beginsStep 0 (0, false) 0 ((R.seen.set 1 (anchorB 0 1)).getD 0 [])) 1 ((R.seen.set 1 (anchorB 0 1)).getD 1 []) = _
   rw [g0, g1]
   exact anchor_begins
 · obtain ⟨ha, rfl⟩ := frBlks_at hb
   refine ⟨newBlk_kind a, ?_⟩
   rw [hs, shN_lb, show 2 + (shN n).log + a = 42 + a from rfl, List.getElem?_set_ne (by omega)]
   exact h2.home a ha
end
section
open Go.RowKit

def nameK (k : Nat) : ByteArray := ⟨#[UInt8.ofNat (97 + k / 16), UInt8.ofNat (97 + k % 16)]⟩
def nmK (k : Nat) : Nm := ⟨Id.root, nameK k, 3, 1⟩
theorem nameK_list (k : Nat) : (nameK k).toList = [UInt8.ofNat (97 + k / 16), UInt8.ofNat (97 + k % 16)] := by rw [ByteArray.toList_eq]; rfl
theorem nameK_inj {j k : Nat} (hj : j < 256) (hk : k < 256) (h : nameK j = nameK k) : j = k := by
 have h1 := congrArg ByteArray.toList h
 rw [nameK_list, nameK_list] at h1
 simp only [List.cons.injEq, and_true] at h1
 have a := congrArg UInt8.toNat h1.1
 have b := congrArg UInt8.toNat h1.2
 simp only [UInt8.toNat_ofNat'] at a b
 omega
theorem nmK_may (k : Nat) (hk : k < 256) : mayEntry (nmK k) = true := by
 have : ∀ j : Fin 256, mayEntry (nmK j.val) = true := by decide +kernel
 exact this ⟨k, hk⟩
theorem nmK_wf (k : Nat) : (nmK k).wf := ⟨⟨by show (0 : Int) ≤ 0; omega, by show (0 : Int) ≤ 4294967295; omega⟩, by show (0 : Int) ≤ 1; omega, by show (1 : Int) ≤ 4294967295; omega, by show 2 ≤ 1000000; decide⟩
structure SL (bs : List Blk) (L : PL) (T : ML) (there : Nat → Bool) (m : Nat) : Prop where
 ok : NamesOk (txV L bs)
 mem : ∀ p ∈ ents (txV L bs), ∃ k, k < 256 ∧ p.1 = nmK k ∧ there k = true
 has : ∀ k, k < 256 → there k = true → ∃ i, (nmK k, i) ∈ ents (txV L bs)
 cntT : T.length ≤ m
 cntE : (ents (txV L bs)).length ≤ m
def setB (f : Nat → Bool) (k : Nat) (b : Bool) : Nat → Bool := fun j => if j = k then b else f j
theorem up_len (T : ML) (k : Int) (v : Value) : (up T k v).length ≤ T.length + 1 := (up_length v).1
theorem nodup_sub_len : ∀ (l : List Nat), l.Nodup → ∀ (r : List Nat), (∀ x ∈ l, x ∈ r) → l.length ≤ r.length
 | [], _, _, _ => Nat.zero_le _
 | x :: l, h, r, hs => by
   have hx := hs x (by simp)
   rw [List.nodup_cons] at h
   have := nodup_sub_len l h.2 (r.erase x) (fun y hy => (List.mem_erase_of_ne (fun e => h.1 (by rw [← e]; exact hy))).2 (hs y (by simp [hy])))
   rw [List.length_erase_of_mem hx] at this
   have := List.length_pos_of_mem hx
   simp only [List.length_cons]; omega
theorem frBlks_eq' {n : Nat} (_ : 0 < n) : frBlks n = newBlks n := by
 apply List.ext_getElem
 · simp [frBlks, newBlks]
 · intro a h1 h2
   simp only [frBlks, newBlks, List.getElem_map, List.getElem_range, List.getElem_set, List.getElem_replicate]
   unfold newBlk
   by_cases e : a = 0
   · subst e
     rw [if_pos rfl, if_pos rfl]
     exact Blk.ext' rfl rfl
   · rw [if_neg e, if_neg (fun h => e h.symm)]
theorem frBlk_kinds (a : Nat) : (newBlk a).kind = 7 ∨ (newBlk a).kind = 0 := by
 unfold newBlk
 split
 · exact .inl superBlk_kind
 · right; unfold Blk.zero; exact Blk.of_kind 0 []
section
variable {bs : List Blk} {L L' : PL} {T T' : ML} {there : Nat → Bool} {m : Nat}
theorem SL.find (h : SL bs L T there m) {k : Nat} (hk : k < 256) : (∃ p, findE (txV L bs) Id.root (nameK k) = some p) ↔ there k = true := by
 constructor
 · rintro ⟨p, hp⟩
   obtain ⟨h1, h2, h3⟩ := findE_some hp
   obtain ⟨j, hj, e, ht⟩ := h.mem p h1
   rw [e] at h3
   have := nameK_inj hj hk h3
   rwa [this] at ht
 · intro ht
   obtain ⟨i, hi⟩ := h.has k hk ht
   cases hf : findE (txV L bs) Id.root (nameK k) with
   | some p => exact ⟨p, rfl⟩
   | none => exact absurd ⟨rfl, rfl⟩ (findE_none hf _ hi)
theorem SL.add (h : SL bs L T there m) (hN : bs.length = 60) (hm : m ≤ 11) {k : Nat} (hk : k < 256) {r : Int} (hr : AddR bs L T (nmK k) r L' T') :
 (there k = true ∧ r = 4 ∧ SL bs L' T' (setB there k true) m) ∨ (there k = false ∧ r = 0 ∧ SL bs L' T' (setB there k true) (m + 1)) := by
 have hmay := nmK_may k hk
 rcases hr with ⟨h1, _⟩ | ⟨_, h1, rfl, rfl, rfl⟩ | ⟨_, hno, hc⟩
 · rw [hmay] at h1; cases h1
 · have ht := (h.find hk).1 h1
   have e : setB there k true = there := by
    funext j; unfold setB; by_cases hj : j = k
    · rw [if_pos hj, hj, ht]
    · rw [if_neg hj]
   exact .inl ⟨ht, rfl, by rw [e]; exact h⟩
 · have ht : there k = false := by
    cases hh : there k with
    | false => rfl
    | true =>
      obtain ⟨p, hp⟩ := (h.find hk).2 hh
      have hp' : findE (txV L bs) (nmK k).dir (nmK k).name = some p := hp
      rw [hno] at hp'; cases hp'
   have hl : (txV L bs).length = 60 := by rw [txV_length, hN]
   rcases hc with ⟨hall, _⟩ | ⟨i, hi, hfree, hlow, rfl, rfl, rfl⟩
   · obtain ⟨j, hj, hnu⟩ := h.ok.room (T := T) (by have := h.cntT; have := h.cntE; omega)
     exact absurd (hall j (by omega)) hnu
   · refine .inr ⟨ht, rfl, ?_⟩
     have hi' : i < (txV L bs).length := by rw [txV_length]; exact hi
     have hnone : ∀ q, (q, i) ∉ ents (txV L bs) := fun q hq => hfree ((h.ok.use hi').2 (.inr (.inr ⟨q, hq⟩)))
     have hno' : findE (txV L bs) (nmK k).dir (nmK k).name = none := hno
     have htk := take_putEntry hmay (nmK_wf k)
     refine ⟨by rw [txV_up]; exact h.ok.add hmay (nmK_wf k) hi' hnone hno', fun p hp => ?_, fun j hj hjt => ?_, ?_, ?_⟩
     · obtain ⟨q, a⟩ := p
       rw [txV_up] at hp
       rcases (ents_mem_set hi').1 hp with ⟨_, h1⟩ | ⟨_, h1⟩
       · rw [htk] at h1
         obtain rfl := Option.some.inj h1
         exact ⟨k, hk, rfl, by unfold setB; rw [if_pos rfl]⟩
       · obtain ⟨j, hj, e, hjt⟩ := h.mem _ h1
         refine ⟨j, hj, e, ?_⟩
         unfold setB
         by_cases hjk : j = k
         · rw [if_pos hjk]
         · rw [if_neg hjk]; exact hjt
     · rw [txV_up]
       by_cases hjk : j = k
       · subst hjk
         exact ⟨i, (ents_mem_set hi').2 (.inl ⟨rfl, htk⟩)⟩
       · unfold setB at hjt
         rw [if_neg hjk] at hjt
         obtain ⟨a, ha⟩ := h.has j hj hjt
         exact ⟨a, (ents_mem_set hi').2 (.inr ⟨fun e => hnone _ (e ▸ ha), ha⟩)⟩
     · have := up_len T (i : Int) (.bool true); have := h.cntT; omega
     · rw [txV_up]; have := ents_set_length (x := (putEntry (nmK k)).1) hi'; have := h.cntE; omega
theorem SL.out (h : SL bs L T there m) {k : Nat} (hk : k < 256) {p : Nm × Nat} (hp : findE (txV L bs) Id.root (nameK k) = some p) : SL bs (upB L (p.2 : Int) Blk.zero) T (setB there k false) m := by
 obtain ⟨h1, h2, h3⟩ := findE_some hp
 obtain ⟨j, hj, e, ht⟩ := h.mem p h1
 rw [e] at h3
 have hjk := nameK_inj hj hk h3
 subst hjk
 obtain ⟨q, a⟩ := p
 dsimp only at e
 subst e
 have ha := (mem_ents.1 h1).1
 refine ⟨by rw [txV_up]; exact h.ok.out ha, fun p hp2 => ?_, fun i hi hit => ?_, h.cntT, ?_⟩
 · obtain ⟨q, b⟩ := p
   rw [txV_up] at hp2
   rcases (ents_mem_set ha).1 hp2 with ⟨_, h4⟩ | ⟨hne, h4⟩
   · rw [take_zero] at h4; cases h4
   · obtain ⟨i, hi, e, hit⟩ := h.mem _ h4
     refine ⟨i, hi, e, ?_⟩
     unfold setB
     by_cases hij : i = j
     · subst hij
       have := h.ok.once _ h4 _ h1 (by rw [e]) (by rw [e])
       exact absurd (congrArg Prod.snd this) hne
     · rw [if_neg hij]; exact hit
 · rw [txV_up]
   unfold setB at hit
   by_cases hij : i = j
   · rw [if_pos hij] at hit; cases hit
   · rw [if_neg hij] at hit
     obtain ⟨b, hb⟩ := h.has i hi hit
     refine ⟨b, (ents_mem_set ha).2 (.inr ⟨fun e => ?_, hb⟩)⟩
     subst e
     have h5 := (mem_ents.1 hb).2
     have h6 := (mem_ents.1 h1).2
     rw [h5] at h6
     exact hij (nameK_inj hi hj (congrArg Nm.name (Option.some.inj h6)))
 · rw [txV_up]
   have hs : (ents ((txV L bs).set a Blk.zero)).length ≤ (ents (txV L bs)).length := by
    refine Nat.le_trans (m := ((ents (txV L bs)).filter fun p => decide (p.2 ≠ a)).length) ?_ (List.length_filter_le _ _)
    have hnd : ((ents ((txV L bs).set a Blk.zero)).map (·.2)).Nodup := by
     rw [List.nodup_iff_pairwise_ne, List.pairwise_map]
     exact (ents_pairwise _).imp fun h => by omega
    have hsub : ∀ x ∈ (ents ((txV L bs).set a Blk.zero)).map (·.2), x ∈ ((ents (txV L bs)).filter fun p => decide (p.2 ≠ a)).map (·.2) := fun x hx => by
     obtain ⟨⟨q, b⟩, hq, rfl⟩ := List.mem_map.1 hx
     rcases (ents_mem_set ha).1 hq with ⟨_, h4⟩ | ⟨hne, h4⟩
     · rw [take_zero] at h4; cases h4
     · exact List.mem_map.2 ⟨(q, b), List.mem_filter.2 ⟨h4, by simpa using hne⟩, rfl⟩
    have := nodup_sub_len _ hnd _ hsub
    simpa using this
   have hm := h.cntE
   exact Nat.le_trans hs hm
end
theorem newBlks_ents (n : Nat) (h0 : 0 < n) : ents (newBlks n) = [] := by
 rw [List.eq_nil_iff_forall_not_mem]
 rintro ⟨q, i⟩ hq
 obtain ⟨h1, h2⟩ := mem_ents.1 hq
 have hk := takeEntry_kind h2
 rw [← frBlks_eq' h0] at hk h1
 rw [frBlks_length] at h1
 rw [List.getD_eq_getElem?_getD, List.getElem?_eq_getElem (by rw [frBlks_length]; exact h1)] at hk
 have := frBlk_kinds i
 simp only [frBlks, List.getElem_map, List.getElem_range, Option.getD_some] at hk
 omega
theorem SL.start {n : Nat} (h0 : 0 < n) : SL (newBlks n) [] [] (fun _ => false) 0 := by
 have e : txV [] (newBlks n) = newBlks n := txV_nil _
 have he := newBlks_ents n h0
 refine ⟨?_, ?_, ?_, by simp, by rw [e, he]; simp⟩
 · rw [e]
   refine ⟨fun i hi => ?_, fun i hi h6 => ?_, fun p hp => by rw [he] at hp; simp at hp⟩
   all_goals rw [← frBlks_eq' h0] at *
   all_goals have := frBlk_kinds i
   all_goals rw [List.getD_eq_getElem?_getD, List.getElem?_eq_getElem hi] at *
   all_goals simp only [frBlks, List.getElem_map, List.getElem_range, Option.getD_some] at *
   · omega
   · omega
 · rw [e, he]; simp
 · intro k hk ht; cases ht
end
end Go.Proofs.YtbbnejehglonjaaGreat
