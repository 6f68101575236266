/- DERIVED. Contracts and laws that the proofs of this seat share, part 31 of 36: FlA Rf15J Rf15L ShH ShD ShE. -/
import Derived.Test.YtbbnejehglonjaaGreatMo00
import Derived.Test.YtbbnejehglonjaaGreatMo20
import Derived.Test.YtbbnejehglonjaaGreatMo21
import Derived.Test.YtbbnejehglonjaaGreatMo25
import Derived.Test.YtbbnejehglonjaaGreatMo26
import Derived.Test.YtbbnejehglonjaaGreatMo30
/- DERIVED. Plain: what a new device has behind vol.Make, of whatever number of blocks. -/
namespace Go.Proofs.YtbbnejehglonjaaGreat
open Go.RowKit
attribute [local irreducible] Calls
/-- The share of clathrilaw15.Filled. -/
def shN (n : Nat) : Sh := ⟨0, 0, n, 40, 4⟩
theorem shN_ok {n : Nat} (h0 : 0 < n) (h : n ≤ 200) : (shN n).Ok := ⟨by show 0 ≤ (0 : Int) ∧ (0 : Int) ≤ 3; omega, by show 0 ≤ (0 : Int) ∧ (0 : Int) ≤ 15; omega, h, by show 40 ≤ 100; omega, h0⟩
theorem shN_lb (n : Nat) : (shN n).lb = 0 := rfl
theorem shN_size (n : Nat) : (shN n).size = 42 + n := rfl
def dvN (n : Nat) : Dv := ⟨[Reg.new (42 + n)], -1⟩
theorem barrier_new (R : Reg) : Dv.barrier ⟨[R], -1⟩ 0 = ⟨[R.barrier], -1⟩ := rfl
/-- What is seen of blocks that k new ones were written to. -/
structure NewTo (R : Reg) (n k : Nat) : Prop where
 len : R.seen.length = 42 + n
 low : ∀ i, i < 42 → R.seen[i]? = some zeros64
 home : ∀ a, a < k → R.seen[42 + a]? = some (sealB 0 a (newBlk a))
theorem newTo (n : Nat) : ∀ k, k ≤ n → ∃ R, newsD (dvN n) 0 (shN n) k = ⟨[R], -1⟩ ∧ NewTo R n k
 | 0, _ => ⟨Reg.new (42 + n), rfl, by simp [Reg.new], fun i hi => by simp only [Reg.new]; rw [List.getElem?_replicate, if_pos (by omega)], fun a ha => by omega⟩
 | k + 1, hk => by
   obtain ⟨R, h1, h2⟩ := newTo n k (by omega)
   refine ⟨R.write (42 + k) (sealB 0 k (newBlk k)), by rw [newsD_succ, h1]; rfl, by simp [Reg.write, h2.len], fun i hi => ?_, fun a ha => ?_⟩
   · show (R.seen.set (42 + k) _)[i]? = _
     rw [List.getElem?_set_ne (by omega)]; exact h2.low i hi
   · show (R.seen.set (42 + k) _)[42 + a]? = _
     by_cases e : a = k
     · subst e; rw [List.getElem?_set_self (by rw [h2.len]; omega)]
     · rw [List.getElem?_set_ne (by omega)]; exact h2.home a (by omega)
/-- The blocks of a new store. -/
def frBlks (n : Nat) : List Blk := (List.range n).map newBlk
theorem frBlks_length (n : Nat) : (frBlks n).length = n := by simp [frBlks]
theorem frBlks_at {n a : Nat} {b : Blk} (h : (frBlks n)[a]? = some b) : a < n ∧ b = newBlk a := by
 obtain ⟨h1, h2⟩ := List.getElem?_eq_some_iff.1 h
 rw [frBlks_length] at h1
 refine ⟨h1, ?_⟩
 rw [← h2]; simp [frBlks]
theorem newBlk_kind (a : Nat) : 0 ≤ (newBlk a).kind ∧ (newBlk a).kind ≤ 7 := by
 unfold newBlk
 split
 · rw [superBlk_kind]; decide
 · have : Blk.zero.kind = 0 := by rw [zero_of]; exact Blk.of_kind 0 []
   rw [this]; decide
theorem anchor_begins : beginsStep 0 (beginsStep 0 (0, false) 0 zeros64) 1 (anchorB 0 1) = (1, true) := by kernel_rfl
theorem zeros_ten : zeros64[10]? = some 0 := by kernel_rfl
/-- The device behind Make. -/
theorem make_seen {n : Nat} (h0 : 0 < n) (_h : n ≤ 200) : ∃ R, (makeD (dvN n) 0 (shN n)).regs = [R] ∧ R.seen.length = (shN n).size ∧ R.seen[2]? = some zeros64 ∧ beginsUpto (shN n).lb 0 R.seen 2 = (1, true) ∧ (∀ a b, (frBlks n)[a]? = some b → (0 ≤ b.kind ∧ b.kind ≤ 7) ∧ R.seen[2 + (shN n).log + a]? = some (sealB (shN n).lb a b)) := by
 obtain ⟨R, h1, h2⟩ := newTo n n (Nat.le_refl _)
 have e : makeD (dvN n) 0 (shN n) = ⟨[(R.barrier.write 1 (anchorB 0 1)).barrier], -1⟩ := by
  unfold makeD
  rw [show (shN n).blocks = n from rfl, h1, barrier_new]
  rfl
 have hs : ((R.barrier.write 1 (anchorB 0 1)).barrier).seen = R.seen.set 1 (anchorB 0 1) := rfl
 refine ⟨_, by rw [e], by rw [hs, List.length_set, h2.len]; rfl, by rw [hs, List.getElem?_set_ne (by omega)]; exact h2.low 2 (by omega), ?_, fun a b hb => ?_⟩
 · rw [hs, shN_lb]
   have g0 : (R.seen.set 1 (anchorB 0 1)).getD 0 [] = zeros64 := by rw [List.getD_eq_getElem?_getD, List.getElem?_set_ne (by omega), h2.low 0 (by omega)]; rfl
   have g1 : (R.seen.set 1 (anchorB 0 1)).getD 1 [] = anchorB 0 1 := by rw [List.getD_eq_getElem?_getD, List.getElem?_set_self (by rw [h2.len]; omega)]; rfl
   show beginsStep 0 (beginsStep 0 (0, false) 0 ((R.seen.set 1 (anchorB 0 1)).getD 0 [])) 1 ((R.seen.set 1 (anchorB 0 1)).getD 1 []) = _
   rw [g0, g1]
   exact anchor_begins
 · obtain ⟨ha, rfl⟩ := frBlks_at hb
   refine ⟨newBlk_kind a, ?_⟩
   rw [hs, shN_lb, show 2 + (shN n).log + a = 42 + a from rfl, List.getElem?_set_ne (by omega)]
   exact h2.home a ha
end Go.Proofs.YtbbnejehglonjaaGreat

/- DERIVED. Stores in memory. Contracts of clathriref15's store: id, dir, Find, Node, file. -/
namespace Go.Proofs.YtbbnejehglonjaaGreat
open Go.RowKit
attribute [local irreducible] Calls
/-- A store lies at p, its blocks at g. -/
structure StoreAt (w : World) (p : Nat) (place : Int) (g cap : Nat) (bs : List Blk) : Prop where
 box : objAt w p = some (.cells #[.int .i64 place, .slice (some ⟨g, 0, none⟩) bs.length cap] 58 (0, 0))
 row : KRow w 0 (.slice (some ⟨g, 0, none⟩) bs.length cap) bs
 ne : g ≠ p
theorem StoreAt.below {w w' : World} {p g cap : Nat} {place : Int} {bs : List Blk} (h : StoreAt w p place g cap bs) (hb : Below w.heap.size w w') : StoreAt w' p place g cap bs := ⟨grow_obj hb h.box, h.row.below hb, h.ne⟩
theorem StoreAt.c0 {w : World} {p g cap : Nat} {place : Int} {bs : List Blk} (h : StoreAt w p place g cap bs) : w.cell? ⟨p, 0, none⟩ = some (.int .i64 place) := by rw [cell_of_row w p 0 _ _ _ h.box]; rfl
theorem StoreAt.c1 {w : World} {p g cap : Nat} {place : Int} {bs : List Blk} (h : StoreAt w p place g cap bs) : w.cell? ⟨p, 1, none⟩ = some (.slice (some ⟨g, 0, none⟩) bs.length cap) := by rw [cell_of_row w p 1 _ _ _ h.box]; rfl

end Go.Proofs.YtbbnejehglonjaaGreat

/- DERIVED. Contracts of clathriref15's store: file; holes, setNext, New. -/
namespace Go.Proofs.YtbbnejehglonjaaGreat
open Go.RowKit
attribute [local irreducible] Calls
/-- A fresh store's blocks. -/
def newBlks (n : Nat) : List Blk := (List.replicate n Blk.zero).set 0 ⟨7, Blk.zero.body.set 3 1, by rw [List.length_set]; exact Blk.zero.len⟩
theorem mk_blks (n : Nat) (w : World) (h1 : n ≤ 1000) :
 (Instr.makeSlice 23 (.int .i64 (n : Int)) (.int .i64 (n : Int))).run Tryz.prog w = .ok (.slice (some ⟨w.heap.size, 0, none⟩) n n) (w.alloc (.cells (madeCells Blk.zero.cells (n * 57)) 37)) ∧
  KRow (w.alloc (.cells (madeCells Blk.zero.cells (n * 57)) 37)) w.heap.size (.slice (some ⟨w.heap.size, 0, none⟩) n n) (List.replicate n Blk.zero) := by
 obtain ⟨i, z, hi, hz, hs, hby, hzs⟩ := elemBlk
 have hr := run_make (P := Tryz.prog) w 23 37 i z Tryz.underlying23 hi hz .i64 .i64 n n (by omega) (Int.le_refl _) (by rw [hby]; omega) (by omega)
 simp only [Int.toNat_natCast, hs, hzs] at hr
 refine ⟨hr, ?_⟩
 have hfl : (madeCells Blk.zero.cells (n * 57)).toList = flat (List.replicate n Blk.zero) := by
  apply List.ext_getElem?
  intro k
  have hsz : (madeCells Blk.zero.cells (n * 57)).size = n * 57 := size_madeCells _ _
  have hfl := flat_length (List.replicate n Blk.zero)
  rw [List.length_replicate] at hfl
  by_cases hk : k < n * 57
  · have h57 : k / 57 < n := Nat.div_lt_of_lt_mul (by omega)
    have := flat_get (List.replicate n Blk.zero) (k / 57) (k % 57) (by rw [List.length_replicate]; exact h57) (Nat.mod_lt _ (by decide))
    rw [show k / 57 * 57 + k % 57 = k by omega] at this
    rw [this]
    simp only [List.getElem_replicate]
    have h57' : k % 57 < Blk.zero.cells.size := by rw [Blk.size_cells]; exact Nat.mod_lt _ (by decide)
    simp [madeCells, hk, Blk.size_cells]
    rw [getElem!_pos Blk.zero.cells (k % 57) h57', Array.getElem?_eq_getElem h57']
  · rw [List.getElem?_eq_none (by rw [Array.length_toList, hsz]; omega), List.getElem?_eq_none (by omega)]
 have := World.ownsRow_lit (base := w.heap.size) (e := 37) (size := 57) w (madeCells Blk.zero.cells (n * 57)) n (Nat.le_refl _) (by unfold maxLen; omega) (size_madeCells _ _)
 unfold KRow
 rw [List.length_replicate, ← hfl]; exact this

theorem getD_replicate0 (n : Nat) (h : 0 < n) : (List.replicate n Blk.zero).getD 0 Blk.zero = Blk.zero := by
 rw [List.getD_eq_getElem?_getD, List.getElem?_eq_getElem (by rw [List.length_replicate]; exact h)]; simp
theorem Blk.set_kind (b : Blk) (k : Int) : b.cells.setIfInBounds 0 (.int .i64 k) = (⟨k, b.body, b.len⟩ : Blk).cells := by
 rw [Blk.cells_def, Blk.cells_def]; simp
theorem KRow.setKind {w : World} {B g n cap : Nat} {bs : List Blk} (h : KRow w B (.slice (some ⟨g, 0, none⟩) n cap) bs) (h0 : 0 < bs.length) (k : Int) :
 KRow (w.setCell ⟨g, 0, none⟩ (.int .i64 k)) B (.slice (some ⟨g, 0, none⟩) n cap) (bs.set 0 ⟨k, (bs.getD 0 Blk.zero).body, (bs.getD 0 Blk.zero).len⟩) := by
 obtain rfl := h.len
 have := (World.ownsRow.stored h 0 (.int .i64 k)).1
 unfold KRow
 rw [List.length_set]
 have e : (flat bs).set 0 (.int .i64 k) = flat (bs.set 0 ⟨k, (bs.getD 0 Blk.zero).body, (bs.getD 0 Blk.zero).len⟩) := by
  obtain ⟨b, cs, rfl⟩ : ∃ b cs, bs = b :: cs := by
   cases bs with
   | nil => simp at h0
   | cons b cs => exact ⟨b, cs, rfl⟩
  show (b.cells.toList ++ flat cs).set 0 _ = _
  rw [List.set_append_left _ _ (by rw [Blk.len_cells]; decide), ← Array.toList_setIfInBounds, Blk.set_kind]
  rfl
 rw [← e]; exact this

set_option maxRecDepth 100000 in
set_option maxHeartbeats 4000000 in
theorem sNew_any (place : Int) (n : Nat) (w : World) (h0 : 0 < n) (h1 : n ≤ 1000) :
 Calls Tryz.prog 32 #[.int .i64 place, .int .i64 n] w fun e w' => ∃ p g, e = .returned (.pointer (some ⟨p, 0, none⟩)) ∧ StoreAt w' p place g n (newBlks n) ∧ Below w.heap.size w w' ∧ w.heap.size ≤ p ∧ w.heap.size ≤ g := by
 obtain ⟨hmk, hrow⟩ := mk_blks n w h1
 generalize madeCells Blk.zero.cells (n * 57) = zs at *
 have hB := ((Below.refl w.heap.size w).alloc (Nat.le_refl _) (.cells zs 37)).alloc (by rw [size_alloc]; omega) (.cells #[.int .i64 place, .slice (some ⟨w.heap.size, 0, none⟩) n n] 58)
 have hrow2 := hrow.alloc (.cells #[.int .i64 place, .slice (some ⟨w.heap.size, 0, none⟩) n n] 58)
 have hbox : objAt ((w.alloc (.cells zs 37)).alloc (.cells #[.int .i64 place, .slice (some ⟨w.heap.size, 0, none⟩) n n] 58)) (w.heap.size + 1) = some (.cells #[.int .i64 place, .slice (some ⟨w.heap.size, 0, none⟩) n n] 58 (0, 0)) := by
  rw [objAt_alloc, size_alloc, if_pos rfl]
 have k0 : (0 : Int) < (n : Int) := by omega
 obtain ⟨A, hA⟩ : ∃ A, A = w.heap.size := ⟨_, rfl⟩
 go_enter Tryz.func32, Tryz.ntmps32
 go_wp2_with fail
 generalize hw1 : (w.alloc (.cells zs 37)).alloc (.cells #[.int .i64 place, .slice (some ⟨w.heap.size, 0, none⟩) n n] 58) = w1 at *
 rw [← hA] at hrow2 hbox ⊢
 have HA := Lib.hid (And.intro hA (And.intro hB (And.intro hbox hrow2)))
 clear hmk hrow hw1 hA
 have c1 : w1.cell? ⟨A + 1, 1, none⟩ = some (.slice (some ⟨A, 0, none⟩) n n) := by rw [cell_of_row w1 (A + 1) 1 _ _ _ hbox]; rfl
 have a0 := hrow2.kind 0 (by rw [List.length_replicate]; exact h0)
 have f0 := hrow2.free 0
 have a4 := hrow2.byte 0 3 (by rw [List.length_replicate]; exact h0) (by decide)
 have f4 := hrow2.free 4
 rw [getD_replicate0 n h0] at a0 a4
 rw [Nat.zero_mul] at a0
 rw [show 0 * 57 + 1 + 3 = 4 from rfl] at a4
 generalize Blk.zero.kind = kz at a0
 generalize ((Blk.zero.body.getD 3 0).toNat : Int) = bz at a4
 have a0' : w1.drew.cell? ⟨A, 0, none⟩ = some (.int .i64 kz) := a0
 have f0' : w1.drew.frozen? ⟨A, 0, none⟩ = false := f0
 have a4' : (w1.setCell ⟨A, 0, none⟩ (.int .i64 7)).drew.cell? ⟨A, 4, none⟩ = some (.int .u8 bz) := (World.cell?_setCell_other w1.drew ⟨A, 0, none⟩ _ _ (by simp)).trans a4
 have hK1 := KRow.setKind (show KRow w1.drew A (.slice (some ⟨A, 0, none⟩) n n) (List.replicate n Blk.zero) from hrow2) (by rw [List.length_replicate]; exact h0) 7
 have f4' : (w1.setCell ⟨A, 0, none⟩ (.int .i64 7)).drew.frozen? ⟨A, 4, none⟩ = false := hK1.free 4
 have hK2 := hK1.setByte 0 3 (by rw [List.length_set, List.length_replicate]; exact h0) (by decide) 1
 rw [show (0 * 57 + 1 + 3 : Nat) = 4 from rfl] at hK2
 have hHK := Lib.hid hK2
 clear hB hbox hrow2 a4 f4 hK1 hK2 a0 f0
 refine wp_region_held_drew (S := fun w' => w'.cell? ⟨A + 1, 1, none⟩ = some (.slice (some ⟨A, 0, none⟩) n n) ∧ True) (by kernel_rfl) (And.intro c1 trivial) (fun hHeld => ?_)
 show wpAnyH _ _ _ _ _ 15 #[false, false, false, false, false, false, false, false, false, false, false, false, false, false, false] _ _
 refine gT (i := 0) (v := ?kv11) rfl ?ky11 ?kr11
 case ky11 => (intro w hSw; (try dsimp only at hSw); go_split_ands; (try simp only [qA, qB]); go_simp; (try with_reducible rfl))
 try simp only [Act.put, qA, qB, qD, qE, qF]
 refine gT (i := 1) (v := ?kv12) rfl ?ky12 ?kr12
 case ky12 => (intro w hSw; (try dsimp only at hSw); go_split_ands; (try simp only [qA, qB, qC]); go_simp; (try with_reducible rfl))
 try simp only [Act.put, qA, qB, qC, qD, qE, qF]
 refine gT (i := 2) (v := ?kv13) rfl ?ky13 ?kr13
 case ky13 => (intro w hSw; (try dsimp only at hSw); go_split_ands; (try simp only [qA, qB, qC]); go_simp; (try with_reducible rfl))
 try simp only [Act.put, qA, qB, qC, qD, qE, qF]
 refine gT (i := 3) (v := ?kv14) rfl ?ky14 ?kr14
 case ky14 => (intro w hSw; (try dsimp only at hSw); go_split_ands; (try simp only [qA, qB, qC]); go_simp; (try with_reducible rfl))
 try simp only [Act.put, qA, qB, qC, qD, qE, qF]
 refine gT (i := 4) (v := ?kv15) rfl ?ky15 ?kr15
 case ky15 => (intro w hSw; (try dsimp only at hSw); go_split_ands; (try simp only [qA, qB, qC]); go_simp; (try with_reducible rfl))
 try simp only [Act.put, qA, qB, qC, qD, qE, qF]
 refine gT (i := 5) (v := ?kv16) rfl ?ky16 ?kr16
 case ky16 => (intro w hSw; (try dsimp only at hSw); go_split_ands; (try simp only [qA, qB, qC]); go_simp; (try with_reducible rfl))
 try simp only [Act.put, qA, qB, qC, qD, qE, qF]
 refine gT (i := 6) (v := ?kv17) rfl ?ky17 ?kr17
 case ky17 => (intro w hSw; (try dsimp only at hSw); go_split_ands; (try simp only [qA, qB, qC]); go_simp; (try with_reducible rfl))
 try simp only [Act.put, qA, qB, qC, qD, qE, qF]
 refine gT (i := 7) (v := ?kv18) rfl ?ky18 ?kr18
 case ky18 => (intro w hSw; (try dsimp only at hSw); go_split_ands; (try simp only [qA, qB, qC]); go_simp; (try with_reducible rfl))
 try simp only [Act.put, qA, qB, qC, qD, qE, qF]
 refine gT (i := 8) (v := ?kv19) rfl ?ky19 ?kr19
 case ky19 => (intro w hSw; (try dsimp only at hSw); go_split_ands; (try simp only [qA, qB, qC]); go_simp; (try with_reducible rfl))
 try simp only [Act.put, qA, qB, qC, qD, qE, qF]
 refine gT (i := 9) (v := ?kv20) rfl ?ky20 ?kr20
 case ky20 => (intro w hSw; (try dsimp only at hSw); go_split_ands; (try simp only [qA, qB, qC]); go_simp; (try with_reducible rfl))
 try simp only [Act.put, qA, qB, qC, qD, qE, qF]
 refine gT (i := 11) (v := ?kv21) rfl ?ky21 ?kr21
 case ky21 => (intro w hSw; (try dsimp only at hSw); go_split_ands; (try simp only [qA, qB, qC]); go_simp; (try with_reducible rfl))
 try simp only [Act.put, qA, qB, qC, qD, qE, qF]
 refine gT (i := 12) (v := ?kv22) rfl ?ky22 ?kr22
 case ky22 => (intro w hSw; (try dsimp only at hSw); go_split_ands; (try simp only [qA, qB, qC]); go_simp; (try with_reducible rfl))
 try simp only [Act.put, qA, qB, qC, qD, qE, qF]
 refine wpAnyH_ready (rs := [10]) (by kernel_rfl) (by simp) ?_
 refine (AllReadyH.cons rfl (fun K hK => ?_) AllReadyH.nil)
 try simp only [qA, qB, qC]
 go_simp
 refine hK.out _ _ (by exact ⟨(World.cell?_setCell_far _ _ _ _ (by simp)).trans hHeld.1, trivial⟩) (fun hHeldn => ?_)
 clear hHeld hK K
 have hHeld := hHeldn
 clear hHeldn
 try simp only [qD, qE, qF]
 refine gT (i := 13) (v := ?kv24) rfl ?ky24 ?kr24
 case ky24 => (intro w hSw; (try dsimp only at hSw); go_split_ands; (try simp only [qA, qB, qC]); go_simp; (try with_reducible rfl))
 try simp only [Act.put, qA, qB, qC, qD, qE, qF]
 refine wpAnyH_ready (rs := [14]) (by kernel_rfl) (by simp) ?_
 refine (AllReadyH.cons rfl (fun K hK => ?_) AllReadyH.nil)
 try simp only [qA, qB, qC]
 go_simp
 refine hK.out _ _ (by exact ⟨(World.cell?_setCell_far _ _ _ _ (by simp)).trans hHeld.1, trivial⟩) (fun hHeldn => ?_)
 clear hHeld hK K
 have hHeld := hHeldn
 clear hHeldn
 try simp only [qD, qE, qF]
 refine wpAnyH_done (by kernel_rfl) ?_ _
 go_wp2_with fail
 go_ret
 refine ⟨A + 1, A, rfl, ⟨?_, ?_, by omega⟩, ?_, by have := HA.out.1; omega, by have := HA.out.1; omega⟩
 · have e : objAt ((w1.setCell ⟨A, 0, none⟩ (.int .i64 7)).setCell ⟨A, 4, none⟩ (.int .u8 1)).drew (A + 1) = objAt w1 (A + 1) := by
    rw [objAt_drew]
    unfold objAt
    rw [heap_setCell_ne (by show A + 1 ≠ A; omega), heap_setCell_ne (by show A + 1 ≠ A; omega)]
   refine Eq.trans e (HA.out.2.2.1.trans ?_)
   simp [newBlks]
 · have e : newBlks n = ((List.replicate n Blk.zero).set 0 ⟨7, ((List.replicate n Blk.zero).getD 0 Blk.zero).body, ((List.replicate n Blk.zero).getD 0 Blk.zero).len⟩).set 0 ((((List.replicate n Blk.zero).set 0 ⟨7, ((List.replicate n Blk.zero).getD 0 Blk.zero).body, ((List.replicate n Blk.zero).getD 0 Blk.zero).len⟩).getD 0 Blk.zero).setB 3 1) := by
    obtain ⟨m, rfl⟩ : ∃ m, n = m + 1 := ⟨n - 1, by omega⟩
    rfl
   rw [show (newBlks n).length = n by simp [newBlks], e]; exact KRow.mono hHK.out (Nat.zero_le _)
 · exact (HA.out.2.1.drew.setCell (p := ⟨A, 0, none⟩) (by show w.heap.size ≤ A; rw [HA.out.1]; exact Nat.le_refl _) _).setCell (p := ⟨A, 4, none⟩) (by show w.heap.size ≤ A; rw [HA.out.1]; exact Nat.le_refl _) _
end Go.Proofs.YtbbnejehglonjaaGreat

/- DERIVED. Plain: the names of clathrilaw17.ShardLists; which of them are there. No program in sight. -/
namespace Go.Proofs.YtbbnejehglonjaaGreat
open Go.RowKit

def nameK (k : Nat) : ByteArray := ⟨#[UInt8.ofNat (97 + k / 16), UInt8.ofNat (97 + k % 16)]⟩
def nmK (k : Nat) : Nm := ⟨Id.root, nameK k, 3, 1⟩
theorem nameK_list (k : Nat) : (nameK k).toList = [UInt8.ofNat (97 + k / 16), UInt8.ofNat (97 + k % 16)] := by rw [ByteArray.toList_eq]; rfl
theorem nameK_inj {j k : Nat} (hj : j < 256) (hk : k < 256) (h : nameK j = nameK k) : j = k := by
 have h1 := congrArg ByteArray.toList h
 rw [nameK_list, nameK_list] at h1
 simp only [List.cons.injEq, and_true] at h1
 have a := congrArg UInt8.toNat h1.1
 have b := congrArg UInt8.toNat h1.2
 simp only [UInt8.toNat_ofNat'] at a b
 omega
theorem nmK_may (k : Nat) (hk : k < 256) : mayEntry (nmK k) = true := by
 have : ∀ j : Fin 256, mayEntry (nmK j.val) = true := by decide +kernel
 exact this ⟨k, hk⟩
theorem nmK_wf (k : Nat) : (nmK k).wf := ⟨⟨by show (0 : Int) ≤ 0; omega, by show (0 : Int) ≤ 4294967295; omega⟩, by show (0 : Int) ≤ 1; omega, by show (1 : Int) ≤ 4294967295; omega, by show 2 ≤ 1000000; decide⟩
/-- Which names are there, in a change. -/
structure SL (bs : List Blk) (L : PL) (T : ML) (there : Nat → Bool) (m : Nat) : Prop where
 ok : NamesOk (txV L bs)
 mem : ∀ p ∈ ents (txV L bs), ∃ k, k < 256 ∧ p.1 = nmK k ∧ there k = true
 has : ∀ k, k < 256 → there k = true → ∃ i, (nmK k, i) ∈ ents (txV L bs)
 cntT : T.length ≤ m
 cntE : (ents (txV L bs)).length ≤ m
def setB (f : Nat → Bool) (k : Nat) (b : Bool) : Nat → Bool := fun j => if j = k then b else f j
theorem up_len (T : ML) (k : Int) (v : Value) : (up T k v).length ≤ T.length + 1 := (up_length v).1
theorem nodup_sub_len : ∀ (l : List Nat), l.Nodup → ∀ (r : List Nat), (∀ x ∈ l, x ∈ r) → l.length ≤ r.length
 | [], _, _, _ => Nat.zero_le _
 | x :: l, h, r, hs => by
   have hx := hs x (by simp)
   rw [List.nodup_cons] at h
   have := nodup_sub_len l h.2 (r.erase x) (fun y hy => (List.mem_erase_of_ne (fun e => h.1 (by rw [← e]; exact hy))).2 (hs y (by simp [hy])))
   rw [List.length_erase_of_mem hx] at this
   have := List.length_pos_of_mem hx
   simp only [List.length_cons]; omega
theorem frBlks_eq' {n : Nat} (_ : 0 < n) : frBlks n = newBlks n := by
 apply List.ext_getElem
 · simp [frBlks, newBlks]
 · intro a h1 h2
   simp only [frBlks, newBlks, List.getElem_map, List.getElem_range, List.getElem_set, List.getElem_replicate]
   unfold newBlk
   by_cases e : a = 0
   · subst e
     rw [if_pos rfl, if_pos rfl]
     exact Blk.ext' rfl rfl
   · rw [if_neg e, if_neg (fun h => e h.symm)]
theorem frBlk_kinds (a : Nat) : (newBlk a).kind = 7 ∨ (newBlk a).kind = 0 := by
 unfold newBlk
 split
 · exact .inl superBlk_kind
 · right; unfold Blk.zero; exact Blk.of_kind 0 []
section
variable {bs : List Blk} {L L' : PL} {T T' : ML} {there : Nat → Bool} {m : Nat}
theorem SL.find (h : SL bs L T there m) {k : Nat} (hk : k < 256) : (∃ p, findE (txV L bs) Id.root (nameK k) = some p) ↔ there k = true := by
 constructor
 · rintro ⟨p, hp⟩
   obtain ⟨h1, h2, h3⟩ := findE_some hp
   obtain ⟨j, hj, e, ht⟩ := h.mem p h1
   rw [e] at h3
   have := nameK_inj hj hk h3
   rwa [this] at ht
 · intro ht
   obtain ⟨i, hi⟩ := h.has k hk ht
   cases hf : findE (txV L bs) Id.root (nameK k) with
   | some p => exact ⟨p, rfl⟩
   | none => exact absurd ⟨rfl, rfl⟩ (findE_none hf _ hi)
theorem SL.add (h : SL bs L T there m) (hN : bs.length = 60) (hm : m ≤ 11) {k : Nat} (hk : k < 256) {r : Int} (hr : AddR bs L T (nmK k) r L' T') :
 (there k = true ∧ r = 4 ∧ SL bs L' T' (setB there k true) m) ∨ (there k = false ∧ r = 0 ∧ SL bs L' T' (setB there k true) (m + 1)) := by
 have hmay := nmK_may k hk
 rcases hr with ⟨h1, _⟩ | ⟨_, h1, rfl, rfl, rfl⟩ | ⟨_, hno, hc⟩
 · rw [hmay] at h1; cases h1
 · have ht := (h.find hk).1 h1
   have e : setB there k true = there := by
    funext j; unfold setB; by_cases hj : j = k
    · rw [if_pos hj, hj, ht]
    · rw [if_neg hj]
   exact .inl ⟨ht, rfl, by rw [e]; exact h⟩
 · have ht : there k = false := by
    cases hh : there k with
    | false => rfl
    | true =>
      obtain ⟨p, hp⟩ := (h.find hk).2 hh
      have hp' : findE (txV L bs) (nmK k).dir (nmK k).name = some p := hp
      rw [hno] at hp'; cases hp'
   have hl : (txV L bs).length = 60 := by rw [txV_length, hN]
   rcases hc with ⟨hall, _⟩ | ⟨i, hi, hfree, hlow, rfl, rfl, rfl⟩
   · obtain ⟨j, hj, hnu⟩ := h.ok.room (T := T) (by have := h.cntT; have := h.cntE; omega)
     exact absurd (hall j (by omega)) hnu
   · refine .inr ⟨ht, rfl, ?_⟩
     have hi' : i < (txV L bs).length := by rw [txV_length]; exact hi
     have hnone : ∀ q, (q, i) ∉ ents (txV L bs) := fun q hq => hfree ((h.ok.use hi').2 (.inr (.inr ⟨q, hq⟩)))
     have hno' : findE (txV L bs) (nmK k).dir (nmK k).name = none := hno
     have htk := take_putEntry hmay (nmK_wf k)
     refine ⟨by rw [txV_up]; exact h.ok.add hmay (nmK_wf k) hi' hnone hno', fun p hp => ?_, fun j hj hjt => ?_, ?_, ?_⟩
     · obtain ⟨q, a⟩ := p
       rw [txV_up] at hp
       rcases (ents_mem_set hi').1 hp with ⟨_, h1⟩ | ⟨_, h1⟩
       · rw [htk] at h1
         obtain rfl := Option.some.inj h1
         exact ⟨k, hk, rfl, by unfold setB; rw [if_pos rfl]⟩
       · obtain ⟨j, hj, e, hjt⟩ := h.mem _ h1
         refine ⟨j, hj, e, ?_⟩
         unfold setB
         by_cases hjk : j = k
         · rw [if_pos hjk]
         · rw [if_neg hjk]; exact hjt
     · rw [txV_up]
       by_cases hjk : j = k
       · subst hjk
         exact ⟨i, (ents_mem_set hi').2 (.inl ⟨rfl, htk⟩)⟩
       · unfold setB at hjt
         rw [if_neg hjk] at hjt
         obtain ⟨a, ha⟩ := h.has j hj hjt
         exact ⟨a, (ents_mem_set hi').2 (.inr ⟨fun e => hnone _ (e ▸ ha), ha⟩)⟩
     · have := up_len T (i : Int) (.bool true); have := h.cntT; omega
     · rw [txV_up]; have := ents_set_length (x := (putEntry (nmK k)).1) hi'; have := h.cntE; omega
theorem SL.out (h : SL bs L T there m) {k : Nat} (hk : k < 256) {p : Nm × Nat} (hp : findE (txV L bs) Id.root (nameK k) = some p) : SL bs (upB L (p.2 : Int) Blk.zero) T (setB there k false) m := by
 obtain ⟨h1, h2, h3⟩ := findE_some hp
 obtain ⟨j, hj, e, ht⟩ := h.mem p h1
 rw [e] at h3
 have hjk := nameK_inj hj hk h3
 subst hjk
 obtain ⟨q, a⟩ := p
 dsimp only at e
 subst e
 have ha := (mem_ents.1 h1).1
 refine ⟨by rw [txV_up]; exact h.ok.out ha, fun p hp2 => ?_, fun i hi hit => ?_, h.cntT, ?_⟩
 · obtain ⟨q, b⟩ := p
   rw [txV_up] at hp2
   rcases (ents_mem_set ha).1 hp2 with ⟨_, h4⟩ | ⟨hne, h4⟩
   · rw [take_zero] at h4; cases h4
   · obtain ⟨i, hi, e, hit⟩ := h.mem _ h4
     refine ⟨i, hi, e, ?_⟩
     unfold setB
     by_cases hij : i = j
     · subst hij
       have := h.ok.once _ h4 _ h1 (by rw [e]) (by rw [e])
       exact absurd (congrArg Prod.snd this) hne
     · rw [if_neg hij]; exact hit
 · rw [txV_up]
   unfold setB at hit
   by_cases hij : i = j
   · rw [if_pos hij] at hit; cases hit
   · rw [if_neg hij] at hit
     obtain ⟨b, hb⟩ := h.has i hi hit
     refine ⟨b, (ents_mem_set ha).2 (.inr ⟨fun e => ?_, hb⟩)⟩
     subst e
     have h5 := (mem_ents.1 hb).2
     have h6 := (mem_ents.1 h1).2
     rw [h5] at h6
     exact hij (nameK_inj hi hj (congrArg Nm.name (Option.some.inj h6)))
 · rw [txV_up]
   have hs : (ents ((txV L bs).set a Blk.zero)).length ≤ (ents (txV L bs)).length := by
    refine Nat.le_trans (m := ((ents (txV L bs)).filter fun p => decide (p.2 ≠ a)).length) ?_ (List.length_filter_le _ _)
    have hnd : ((ents ((txV L bs).set a Blk.zero)).map (·.2)).Nodup := by
     rw [List.nodup_iff_pairwise_ne, List.pairwise_map]
     exact (ents_pairwise _).imp fun h => by omega
    have hsub : ∀ x ∈ (ents ((txV L bs).set a Blk.zero)).map (·.2), x ∈ ((ents (txV L bs)).filter fun p => decide (p.2 ≠ a)).map (·.2) := fun x hx => by
     obtain ⟨⟨q, b⟩, hq, rfl⟩ := List.mem_map.1 hx
     rcases (ents_mem_set ha).1 hq with ⟨_, h4⟩ | ⟨hne, h4⟩
     · rw [take_zero] at h4; cases h4
     · exact List.mem_map.2 ⟨(q, b), List.mem_filter.2 ⟨h4, by simpa using hne⟩, rfl⟩
    have := nodup_sub_len _ hnd _ hsub
    simpa using this
   have hm := h.cntE
   exact Nat.le_trans hs hm
end
/-- A new store has no names. -/
theorem newBlks_ents (n : Nat) (h0 : 0 < n) : ents (newBlks n) = [] := by
 rw [List.eq_nil_iff_forall_not_mem]
 rintro ⟨q, i⟩ hq
 obtain ⟨h1, h2⟩ := mem_ents.1 hq
 have hk := takeEntry_kind h2
 rw [← frBlks_eq' h0] at hk h1
 rw [frBlks_length] at h1
 rw [List.getD_eq_getElem?_getD, List.getElem?_eq_getElem (by rw [frBlks_length]; exact h1)] at hk
 have := frBlk_kinds i
 simp only [frBlks, List.getElem_map, List.getElem_range, Option.getD_some] at hk
 omega
theorem SL.start {n : Nat} (h0 : 0 < n) : SL (newBlks n) [] [] (fun _ => false) 0 := by
 have e : txV [] (newBlks n) = newBlks n := txV_nil _
 have he := newBlks_ents n h0
 refine ⟨?_, ?_, ?_, by simp, by rw [e, he]; simp⟩
 · rw [e]
   refine ⟨fun i hi => ?_, fun i hi h6 => ?_, fun p hp => by rw [he] at hp; simp at hp⟩
   all_goals rw [← frBlks_eq' h0] at *
   all_goals have := frBlk_kinds i
   all_goals rw [List.getD_eq_getElem?_getD, List.getElem?_eq_getElem hi] at *
   all_goals simp only [frBlks, List.getElem_map, List.getElem_range, Option.getD_some] at *
   · omega
   · omega
 · rw [e, he]; simp
 · intro k hk ht; cases ht
end Go.Proofs.YtbbnejehglonjaaGreat

/- DERIVED. Contracts of cmp.Compare on texts, of shard.List's closures. -/
namespace Go.Proofs.YtbbnejehglonjaaGreat
open Go.RowKit
attribute [local irreducible] Calls
set_option maxRecDepth 100000

theorem isNaN_any (x : ByteArray) (w : World) : Calls Tryz.prog 159 #[.string x] w fun e w' => e = .returned (.bool false) ∧ w' = w := by
 have h : (x.toList == x.toList) = true := by simp
 go_enter Tryz.func159, Tryz.ntmps159
 go_wp2_with fail
 go_ret
 exact ⟨by simp, rfl⟩
theorem compare_any (x y : ByteArray) (w : World) : Calls Tryz.prog 104 #[.string x, .string y] w fun e w' => ∃ r : Int, e = .returned (.int .i64 r) ∧ (r < 0 ↔ Op.bytesLess x.toList y.toList = true) ∧ w' = w := by
 cases h1 : Op.bytesLess x.toList y.toList with
 | true =>
   go_enter Tryz.func104, Tryz.ntmps104
   go_wp2_with (go_at_call 159; refine (isNaN_any _ _).mono ?_; rintro e w1 ⟨rfl, hw1⟩; obtain rfl := hw1.symm)
   go_ret
   exact ⟨-1, rfl, by simp, rfl⟩
 | false =>
   cases h2 : Op.bytesLess y.toList x.toList with
   | true =>
     have h3 : (x.toList == y.toList) = false := by
      cases h : (x.toList == y.toList) with
      | false => rfl
      | true =>
        have := eq_of_beq h
        rw [this] at h1 h2
        rw [h1] at h2; cases h2
     go_enter Tryz.func104, Tryz.ntmps104
     go_wp2_with (go_at_call 159; refine (isNaN_any _ _).mono ?_; rintro e w1 ⟨rfl, hw1⟩; obtain rfl := hw1.symm)
     go_ret
     exact ⟨1, rfl, by simp, rfl⟩
   | false =>
     have h3 : (x.toList == y.toList) = true := by rw [blt_total h2 h1]; simp
     go_enter Tryz.func104, Tryz.ntmps104
     go_wp2_with (go_at_call 159; refine (isNaN_any _ _).mono ?_; rintro e w1 ⟨rfl, hw1⟩; obtain rfl := hw1.symm)
     go_ret
     exact ⟨0, rfl, by simp, rfl⟩
theorem list2_any (a b : Nm) (w : World) : Calls Tryz.prog 103 #[.agg #[.int .i64 a.dir.label, .int .i64 a.dir.at_, .int .u32 a.dir.gen, .string a.name, .int .i64 a.at_, .int .u32 a.gen], .agg #[.int .i64 b.dir.label, .int .i64 b.dir.at_, .int .u32 b.dir.gen, .string b.name, .int .i64 b.at_, .int .u32 b.gen]] w fun e w' => ∃ r : Int, e = .returned (.int .i64 r) ∧ (r < 0 ↔ nlt a b = true) ∧ Below w.heap.size w w' := by
 have HC := Lib.hid (fun w => compare_any a.name b.name w)
 go_enter Tryz.func103, Tryz.ntmps103
 go_wp2_with (go_at_call 104; refine (HC.out _).mono ?_; rintro e w1 ⟨r, rfl, hr, hw1⟩; obtain rfl := hw1.symm; have Hr := Lib.hid hr; clear hr)
 go_ret
 exact ⟨r, rfl, Hr.out, grow_alloc (grow_alloc (Below.refl _ _) _) _⟩
theorem list1_any {J : Nat} {i : Id} (a : Nm) (w : World) (hJ : objAt w J = some (.cells i.cells 66 (0, 0))) : Calls Tryz.prog 101 #[.agg #[.int .i64 a.dir.label, .int .i64 a.dir.at_, .int .u32 a.dir.gen, .string a.name, .int .i64 a.at_, .int .u32 a.gen], .pointer (some ⟨J, 0, none⟩)] w fun e w' => e = .returned (.bool (!decide (a.dir = i))) ∧ Below w.heap.size w w' := by
 have hB : Below w.heap.size w (w.alloc (.cells #[.int .i64 a.dir.label, .int .i64 a.dir.at_, .int .u32 a.dir.gen, .string a.name, .int .i64 a.at_, .int .u32 a.gen] 100)) := grow_alloc (Below.refl _ _) _
 have ho := grow_obj hB hJ
 have hl : (w.alloc (.cells #[.int .i64 a.dir.label, .int .i64 a.dir.at_, .int .u32 a.dir.gen, .string a.name, .int .i64 a.at_, .int .u32 a.gen] 100)).cell? ⟨J, 0, none⟩ = some (.int .i64 i.label) := cell_obj ho 0
 have hl1 : (w.alloc (.cells #[.int .i64 a.dir.label, .int .i64 a.dir.at_, .int .u32 a.dir.gen, .string a.name, .int .i64 a.at_, .int .u32 a.gen] 100)).cell? ⟨J, 1, none⟩ = some (.int .i64 i.at_) := cell_obj ho 1
 have hl2 : (w.alloc (.cells #[.int .i64 a.dir.label, .int .i64 a.dir.at_, .int .u32 a.dir.gen, .string a.name, .int .i64 a.at_, .int .u32 a.gen] 100)).cell? ⟨J, 2, none⟩ = some (.int .u32 i.gen) := cell_obj ho 2
 have hq : decide (a.dir = i) = sameID a.dir.label a.dir.at_ a.dir.gen i.label i.at_ i.gen := rfl
 rw [hq]
 have HB := Lib.hid hB
 clear hB ho hJ hq
 go_enter Tryz.func101, Tryz.ntmps101
 go_wp2_with fail
 go_ret
 exact ⟨rfl, HB.out⟩
end Go.Proofs.YtbbnejehglonjaaGreat

/- DERIVED. Contract of slices.insertionSortCmpFunc over names. -/
namespace Go.Proofs.YtbbnejehglonjaaGreat
open Go.RowKit
attribute [local irreducible] Calls
set_option maxRecDepth 100000

theorem aggNmE : AggOf Tryz.prog 100 6 := aggNm
/-- A row of names, put in another order. -/
structure SoAt (w w' : World) (S : Nat → Prop) (V : Value) (l l' : List Nm) : Prop where
 row : NmRow w' S V l'
 perm : l'.Perm l
 keeps : Keeps (fun q => V.ownBlock = some q) w w'
theorem SoAt.grow {w w' w2 : World} {S : Nat → Prop} {V : Value} {l l' : List Nm} (h : SoAt w w' S V l l') (hb : Below w'.heap.size w' w2) : SoAt w w2 S V l l' :=
 ⟨h.row.grow hb (fun _ _ h => h), h.perm, h.keeps.trans (Keeps.of_below hb)⟩
theorem sortedTo_one (l : List Nm) : sortedTo l 1 := fun p q h1 h2 => by omega
set_option maxHeartbeats 8000000 in
theorem insSort_any {w : World} {S : Nat → Prop} {l : List Nm} {a : Option Addr} {cap : Nat} (h : NmRow w S (.slice a l.length cap) l) (hl : l.length ≤ 1000) :
 Calls Tryz.prog 195 #[.slice a l.length cap, .int .i64 0, .int .i64 l.length, .func (.func 103) #[] #[]] w fun e w' => e = .returned (.tuple #[]) ∧ ∃ l', inOrder l' ∧ SoAt w w' S (.slice a l.length cap) l l' := by
 have H := Lib.hid h
 clear h
 go_enter Tryz.func195, Tryz.ntmps195
 go_wp2_with fail
 go_loopw [8] (fun i wr => ∃ (k : Nat) (l' : List Nm), 1 ≤ k ∧ (k ≤ l.length ∨ k = 1) ∧ i = .int .i64 k ∧ sortedTo l' k ∧ SoAt w wr S (.slice a l.length cap) l l') (fun i _ => l.length - (Go.RowKit.intOf i).toNat)
 case atStart => exact ⟨1, l, Nat.le_refl _, .inr rfl, rfl, sortedTo_one l, ⟨H.out, List.Perm.refl _, Keeps.refl _ _⟩⟩
 case round =>
  obtain ⟨k, l', hk1, hk, rfl, hs, hso⟩ := hrel
  by_cases hlt : k < l.length
  · have hlti : (k : Int) < (l.length : Int) := by omega
    have hk1000 : (k : Int) ≤ 1000 := by omega
    have HS := Lib.hid (And.intro hs hso)
    clear hs hso
    go_upto_region 3 with fail
    go_wp2_with fail
    go_loopw [9] (fun j wr => ∃ (m : Nat) (l2 : List Nm), m ≤ k ∧ j = .int .i64 m ∧ sinking l2 k m ∧ SoAt w wr S (.slice a l.length cap) l l2) (fun j _ => (Go.RowKit.intOf j).toNat)
    case atStart => exact ⟨k, l', Nat.le_refl _, rfl, sinking_start HS.out.1, HS.out.2⟩
    case round =>
     obtain ⟨m, l2, hm, rfl, hsi, hso⟩ := hrel
     cases m with
     | zero =>
       have HS2 := Lib.hid (And.intro hsi hso)
       clear hsi hso
       simp only [Int.natCast_zero]
       go_upto_region 4 with fail
       refine wp_region_held_drew (S := fun w' => Below wr.heap.size wr w' ∧ True) (by kernel_rfl) (And.intro (Below.refl _ _).drew trivial) (fun hHeld => ?_)
       show wpAnyH _ _ _ _ _ 17 #[false, false, false, false, false, false, false, false, false, false, false, false, false, false, false, false, false] _ _
       refine gT (i := 0) (v := ?kv1) rfl ?ky1 ?kr1
       case ky1 => (intro w hSw; (try dsimp only at hSw); go_split_ands; (try simp only [qA, qB]); go_simp; (try with_reducible rfl))
       try simp only [Act.put, qA, qB, qD, qE, qF]
       refine gT (i := 1) (v := ?kv2) rfl ?ky2 ?kr2
       case ky2 => (intro w hSw; (try dsimp only at hSw); go_split_ands; (try simp only [qA, qB, qC]); go_simp; (try with_reducible rfl))
       try simp only [Act.put, qA, qB, qC, qD, qE, qF]
       refine gT (i := 2) (v := ?kv3) rfl ?ky3 ?kr3
       case ky3 => (intro w hSw; (try dsimp only at hSw); go_split_ands; (try simp only [qA, qB, qC]); go_simp; (try with_reducible rfl))
       try simp only [Act.put, qA, qB, qC, qD, qE, qF]
       refine gT (i := 3) (v := ?kv4) rfl ?ky4 ?kr4
       case ky4 => (intro w hSw; (try dsimp only at hSw); go_split_ands; (try simp only [qA, qB, qC]); go_simp; (try with_reducible rfl))
       try simp only [Act.put, qA, qB, qC, qD, qE, qF]
       refine gU (i := 4) rfl ?kr5
       try simp only [Act.put, qA, qB, qC, qD, qE, qF]
       refine gU (i := 5) rfl ?kr6
       try simp only [Act.put, qA, qB, qC, qD, qE, qF]
       refine gU (i := 6) rfl ?kr7
       try simp only [Act.put, qA, qB, qC, qD, qE, qF]
       refine gU (i := 7) rfl ?kr8
       try simp only [Act.put, qA, qB, qC, qD, qE, qF]
       refine gU (i := 8) rfl ?kr9
       try simp only [Act.put, qA, qB, qC, qD, qE, qF]
       refine gU (i := 9) rfl ?kr10
       try simp only [Act.put, qA, qB, qC, qD, qE, qF]
       refine gU (i := 10) rfl ?kr11
       try simp only [Act.put, qA, qB, qC, qD, qE, qF]
       refine gU (i := 11) rfl ?kr12
       try simp only [Act.put, qA, qB, qC, qD, qE, qF]
       refine gU (i := 12) rfl ?kr13
       try simp only [Act.put, qA, qB, qC, qD, qE, qF]
       refine gU (i := 13) rfl ?kr14
       try simp only [Act.put, qA, qB, qC, qD, qE, qF]
       refine gU (i := 14) rfl ?kr15
       try simp only [Act.put, qA, qB, qC, qD, qE, qF]
       refine gU (i := 15) rfl ?kr16
       try simp only [Act.put, qA, qB, qC, qD, qE, qF]
       refine gT (i := 16) (v := ?kv17) rfl ?ky17 ?kr17
       case ky17 => (intro w hSw; (try dsimp only at hSw); go_split_ands; (try simp only [qA, qB, qC]); go_simp; (try with_reducible rfl))
       try simp only [Act.put, qA, qB, qC, qD, qE, qF]
       refine wpAnyH_done (by kernel_rfl) ?_ _
       go_wp2_with fail
       exact ⟨⟨k + 1, l2, by omega, .inl (by omega), rfl, sinking_zero HS2.out.1, HS2.out.2.grow hHeld.1⟩, by simp [Go.RowKit.intOf]; omega⟩
     | succ m =>
       have hl2 : l2.length = l.length := hso.perm.length_eq
       obtain ⟨g, cap', hf⟩ := hso.row.form (by omega)
       simp only [Value.slice.injEq] at hf
       obtain ⟨rfl, hleq, rfl⟩ := hf
       clear hleq
       obtain ⟨x, hx⟩ : ∃ x, l2[m + 1]? = some x := ⟨_, List.getElem?_eq_getElem (by omega)⟩
       obtain ⟨y, hy⟩ : ∃ y, l2[m]? = some y := ⟨_, List.getElem?_eq_getElem (by omega)⟩
       obtain ⟨x0, x1, x2, x3, x4, x5⟩ := NmRow.at_ hso.row hx
       obtain ⟨y0, y1, y2, y3, y4, y5⟩ := NmRow.at_ hso.row hy
       have hgx : l2.getD (m + 1) Nm.zero = x := by rw [List.getD_eq_getElem?_getD, hx]; rfl
       have hgy : l2.getD m Nm.zero = y := by rw [List.getD_eq_getElem?_getD, hy]; rfl
       have HS2 := Lib.hid (And.intro hsi (And.intro hso (And.intro hl2 (And.intro hgx hgy))))
       have hml : (m : Int) + 1 < (l.length : Int) := by omega
       have hml' : (m : Int) < (l.length : Int) := by omega
       have hm0 : (0 : Int) ≤ (m : Int) + 1 := by omega
       have hm1 : (m : Int) ≤ 1000 := by omega
       have hmw : IntKind.i64.wrap (m : Int) = m := IntWalk.i64_in _ (by omega)
       have hmw1 : IntKind.i64.wrap ((m : Int) + 1) = (m : Int) + 1 := IntWalk.i64_in _ (by omega)
       have hm2 : (0 : Int) < (m : Int) + 1 := by omega
       have hS : ∀ w', Below wr.heap.size wr w' → w'.cell? ⟨g, (m + 1) * 6, none⟩ = some (.int .i64 x.dir.label) ∧ w'.cell? ⟨g, (m + 1) * 6 + 1, none⟩ = some (.int .i64 x.dir.at_) ∧ w'.cell? ⟨g, (m + 1) * 6 + 2, none⟩ = some (.int .u32 x.dir.gen) ∧ w'.cell? ⟨g, (m + 1) * 6 + 3, none⟩ = some (.string x.name) ∧ w'.cell? ⟨g, (m + 1) * 6 + 4, none⟩ = some (.int .i64 x.at_) ∧ w'.cell? ⟨g, (m + 1) * 6 + 5, none⟩ = some (.int .u32 x.gen) ∧ w'.cell? ⟨g, m * 6, none⟩ = some (.int .i64 y.dir.label) ∧ w'.cell? ⟨g, m * 6 + 1, none⟩ = some (.int .i64 y.dir.at_) ∧ w'.cell? ⟨g, m * 6 + 2, none⟩ = some (.int .u32 y.dir.gen) ∧ w'.cell? ⟨g, m * 6 + 3, none⟩ = some (.string y.name) ∧ w'.cell? ⟨g, m * 6 + 4, none⟩ = some (.int .i64 y.at_) ∧ w'.cell? ⟨g, m * 6 + 5, none⟩ = some (.int .u32 y.gen) ∧ Below wr.heap.size wr w' := fun w' hb => ⟨grow_cell hb x0, grow_cell hb x1, grow_cell hb x2, grow_cell hb x3, grow_cell hb x4, grow_cell hb x5, grow_cell hb y0, grow_cell hb y1, grow_cell hb y2, grow_cell hb y3, grow_cell hb y4, grow_cell hb y5, hb⟩
       clear hsi hso hl2 hgx hgy hx hy
       cases hn : nlt x y with
       | false =>
         have Hn := Lib.hid hn
         clear hn
         go_upto_region 4 with fail
         refine wp_region_held_drew (S := fun w' => w'.cell? ⟨g, (m + 1) * 6, none⟩ = some (.int .i64 x.dir.label) ∧ w'.cell? ⟨g, (m + 1) * 6 + 1, none⟩ = some (.int .i64 x.dir.at_) ∧ w'.cell? ⟨g, (m + 1) * 6 + 2, none⟩ = some (.int .u32 x.dir.gen) ∧ w'.cell? ⟨g, (m + 1) * 6 + 3, none⟩ = some (.string x.name) ∧ w'.cell? ⟨g, (m + 1) * 6 + 4, none⟩ = some (.int .i64 x.at_) ∧ w'.cell? ⟨g, (m + 1) * 6 + 5, none⟩ = some (.int .u32 x.gen) ∧ w'.cell? ⟨g, m * 6, none⟩ = some (.int .i64 y.dir.label) ∧ w'.cell? ⟨g, m * 6 + 1, none⟩ = some (.int .i64 y.dir.at_) ∧ w'.cell? ⟨g, m * 6 + 2, none⟩ = some (.int .u32 y.dir.gen) ∧ w'.cell? ⟨g, m * 6 + 3, none⟩ = some (.string y.name) ∧ w'.cell? ⟨g, m * 6 + 4, none⟩ = some (.int .i64 y.at_) ∧ w'.cell? ⟨g, m * 6 + 5, none⟩ = some (.int .u32 y.gen) ∧ Below wr.heap.size wr w') (by kernel_rfl) (hS _ (Below.refl _ _).drew) (fun hHeld => ?_)
         show wpAnyH _ _ _ _ _ 17 #[false, false, false, false, false, false, false, false, false, false, false, false, false, false, false, false, false] _ _
         refine gT (i := 0) (v := ?kv18) rfl ?ky18 ?kr18
         case ky18 => (intro w hSw; (try dsimp only at hSw); go_split_ands; (try simp only [qA, qB]); go_simp; (try with_reducible rfl))
         try simp only [Act.put, qA, qB, qD, qE, qF]
         refine gT (i := 1) (v := ?kv19) rfl ?ky19 ?kr19
         case ky19 => (intro w hSw; (try dsimp only at hSw); go_split_ands; (try simp only [qA, qB, qC]); go_simp; (try with_reducible rfl))
         try simp only [Act.put, qA, qB, qC, qD, qE, qF]
         refine gT (i := 2) (v := ?kv20) rfl ?ky20 ?kr20
         case ky20 => (intro w hSw; (try dsimp only at hSw); go_split_ands; (try simp only [qA, qB, qC]); go_simp; (try with_reducible rfl))
         try simp only [Act.put, qA, qB, qC, qD, qE, qF]
         refine gT (i := 3) (v := ?kv21) rfl ?ky21 ?kr21
         case ky21 => (intro w hSw; (try dsimp only at hSw); go_split_ands; (try simp only [qA, qB, qC]); go_simp; (try with_reducible rfl))
         try simp only [Act.put, qA, qB, qC, qD, qE, qF]
         refine gT (i := 4) (v := ?kv22) rfl ?ky22 ?kr22
         case ky22 => (intro w hSw; (try dsimp only at hSw); go_split_ands; (try simp only [qA, qB, qC]); go_simp; (try with_reducible rfl))
         try simp only [Act.put, qA, qB, qC, qD, qE, qF]
         refine gT (i := 5) (v := ?kv23) rfl ?ky23 ?kr23
         case ky23 => (intro w hSw; (try dsimp only at hSw); go_split_ands; (try simp only [qA, qB, qC]); go_simp; (try with_reducible rfl))
         try simp only [Act.put, qA, qB, qC, qD, qE, qF]
         refine gT (i := 6) (v := ?kv24) rfl ?ky24 ?kr24
         case ky24 => (intro w hSw; (try dsimp only at hSw); go_split_ands; (try simp only [qA, qB, qC]); go_simp; (try with_reducible rfl))
         try simp only [Act.put, qA, qB, qC, qD, qE, qF]
         refine gT (i := 7) (v := ?kv25) rfl ?ky25 ?kr25
         case ky25 => (intro w hSw; (try dsimp only at hSw); go_split_ands; (try simp only [qA, qB, qC]); go_simp; (try with_reducible rfl))
         try simp only [Act.put, qA, qB, qC, qD, qE, qF]
         refine gT (i := 8) (v := ?kv26) rfl ?ky26 ?kr26
         case ky26 => (intro w hSw; (try dsimp only at hSw); go_split_ands; (try simp only [qA, qB, qC]); go_simp; (try with_reducible rfl))
         try simp only [Act.put, qA, qB, qC, qD, qE, qF]
         refine gT (i := 9) (v := ?kv27) rfl ?ky27 ?kr27
         case ky27 => (intro w hSw; (try dsimp only at hSw); go_split_ands; (try simp only [qA, qB, qC]); go_simp; (try with_reducible rfl))
         try simp only [Act.put, qA, qB, qC, qD, qE, qF]
         refine gT (i := 10) (v := ?kv28) rfl ?ky28 ?kr28
         case ky28 => (intro w hSw; (try dsimp only at hSw); go_split_ands; (try simp only [qA, qB, qC]); go_simp; (try with_reducible rfl))
         try simp only [Act.put, qA, qB, qC, qD, qE, qF]
         refine gT (i := 11) (v := ?kv29) rfl ?ky29 ?kr29
         case ky29 => (intro w hSw; (try dsimp only at hSw); go_split_ands; (try simp only [qA, qB, qC]); go_simp; (try with_reducible rfl))
         try simp only [Act.put, qA, qB, qC, qD, qE, qF]
         refine gT (i := 12) (v := ?kv30) rfl ?ky30 ?kr30
         case ky30 => (intro w hSw; (try dsimp only at hSw); go_split_ands; (try simp only [qA, qB, qC]); go_simp; (try with_reducible rfl))
         try simp only [Act.put, qA, qB, qC, qD, qE, qF]
         refine gT (i := 13) (v := ?kv31) rfl ?ky31 ?kr31
         case ky31 => (intro w hSw; (try dsimp only at hSw); go_split_ands; (try simp only [qA, qB, qC]); go_simp; (try with_reducible rfl))
         try simp only [Act.put, qA, qB, qC, qD, qE, qF]
         refine wpAnyH_ready (rs := [14]) (by kernel_rfl) (by simp) ?_
         refine (AllReadyH.cons rfl (fun K hK => ?_) AllReadyH.nil)
         try simp only [qA, qB, qC]
         go_simp
         go_at_call 103; refine (list2_any x y _).mono ?_; rintro e z1 ⟨r, rfl, hr, b1⟩; have hr' : (0 : Int) ≤ r := Int.not_lt.1 (fun e => by have h2 := hr.1 e; rw [Hn.out] at h2; cases h2); have hd : decide (r < 0) = false := decide_eq_false (Int.not_lt.2 hr')
         refine hK.out _ _ (by exact hS _ (grow_trans hHeld.2.2.2.2.2.2.2.2.2.2.2.2 b1)) (fun hHeldn => ?_)
         clear hHeld hK K
         have hHeld := hHeldn
         clear hHeldn
         try simp only [qD, qE, qF]
         refine gT (i := 15) (v := ?kv33) rfl ?ky33 ?kr33
         case ky33 => (intro w hSw; (try dsimp only at hSw); go_split_ands; (try simp only [qA, qB, qC]); go_simp; (try with_reducible rfl))
         try simp only [Act.put, qA, qB, qC, qD, qE, qF]
         refine gT (i := 16) (v := ?kv34) rfl ?ky34 ?kr34
         case ky34 => (intro w hSw; (try dsimp only at hSw); go_split_ands; (try simp only [qA, qB, qC]); go_simp; (try with_reducible rfl))
         try simp only [Act.put, qA, qB, qC, qD, qE, qF]
         refine wpAnyH_done (by kernel_rfl) ?_ _
         rw [Hn.out]
         go_wp2_with fail
         exact ⟨⟨k + 1, l2, by omega, .inl (by omega), rfl, sinking_stop (l := l2) (i := k) (j := m + 1) (Nat.succ_pos m) HS2.out.1 (by rw [HS2.out.2.2.2.1, Nat.add_sub_cancel, HS2.out.2.2.2.2]; exact Hn.out) hm, HS2.out.2.1.grow hHeld.2.2.2.2.2.2.2.2.2.2.2.2⟩, by simp [Go.RowKit.intOf]; omega⟩
       | true =>
         have Hn := Lib.hid hn
         clear hn
         go_upto_region 4 with fail
         refine wp_region_held_drew (S := fun w' => w'.cell? ⟨g, (m + 1) * 6, none⟩ = some (.int .i64 x.dir.label) ∧ w'.cell? ⟨g, (m + 1) * 6 + 1, none⟩ = some (.int .i64 x.dir.at_) ∧ w'.cell? ⟨g, (m + 1) * 6 + 2, none⟩ = some (.int .u32 x.dir.gen) ∧ w'.cell? ⟨g, (m + 1) * 6 + 3, none⟩ = some (.string x.name) ∧ w'.cell? ⟨g, (m + 1) * 6 + 4, none⟩ = some (.int .i64 x.at_) ∧ w'.cell? ⟨g, (m + 1) * 6 + 5, none⟩ = some (.int .u32 x.gen) ∧ w'.cell? ⟨g, m * 6, none⟩ = some (.int .i64 y.dir.label) ∧ w'.cell? ⟨g, m * 6 + 1, none⟩ = some (.int .i64 y.dir.at_) ∧ w'.cell? ⟨g, m * 6 + 2, none⟩ = some (.int .u32 y.dir.gen) ∧ w'.cell? ⟨g, m * 6 + 3, none⟩ = some (.string y.name) ∧ w'.cell? ⟨g, m * 6 + 4, none⟩ = some (.int .i64 y.at_) ∧ w'.cell? ⟨g, m * 6 + 5, none⟩ = some (.int .u32 y.gen) ∧ Below wr.heap.size wr w') (by kernel_rfl) (hS _ (Below.refl _ _).drew) (fun hHeld => ?_)
         show wpAnyH _ _ _ _ _ 17 #[false, false, false, false, false, false, false, false, false, false, false, false, false, false, false, false, false] _ _
         refine gT (i := 0) (v := ?kv35) rfl ?ky35 ?kr35
         case ky35 => (intro w hSw; (try dsimp only at hSw); go_split_ands; (try simp only [qA, qB]); go_simp; (try with_reducible rfl))
         try simp only [Act.put, qA, qB, qD, qE, qF]
         refine gT (i := 1) (v := ?kv36) rfl ?ky36 ?kr36
         case ky36 => (intro w hSw; (try dsimp only at hSw); go_split_ands; (try simp only [qA, qB, qC]); go_simp; (try with_reducible rfl))
         try simp only [Act.put, qA, qB, qC, qD, qE, qF]
         refine gT (i := 2) (v := ?kv37) rfl ?ky37 ?kr37
         case ky37 => (intro w hSw; (try dsimp only at hSw); go_split_ands; (try simp only [qA, qB, qC]); go_simp; (try with_reducible rfl))
         try simp only [Act.put, qA, qB, qC, qD, qE, qF]
         refine gT (i := 3) (v := ?kv38) rfl ?ky38 ?kr38
         case ky38 => (intro w hSw; (try dsimp only at hSw); go_split_ands; (try simp only [qA, qB, qC]); go_simp; (try with_reducible rfl))
         try simp only [Act.put, qA, qB, qC, qD, qE, qF]
         refine gT (i := 4) (v := ?kv39) rfl ?ky39 ?kr39
         case ky39 => (intro w hSw; (try dsimp only at hSw); go_split_ands; (try simp only [qA, qB, qC]); go_simp; (try with_reducible rfl))
         try simp only [Act.put, qA, qB, qC, qD, qE, qF]
         refine gT (i := 5) (v := ?kv40) rfl ?ky40 ?kr40
         case ky40 => (intro w hSw; (try dsimp only at hSw); go_split_ands; (try simp only [qA, qB, qC]); go_simp; (try with_reducible rfl))
         try simp only [Act.put, qA, qB, qC, qD, qE, qF]
         refine gT (i := 6) (v := ?kv41) rfl ?ky41 ?kr41
         case ky41 => (intro w hSw; (try dsimp only at hSw); go_split_ands; (try simp only [qA, qB, qC]); go_simp; (try with_reducible rfl))
         try simp only [Act.put, qA, qB, qC, qD, qE, qF]
         refine gT (i := 7) (v := ?kv42) rfl ?ky42 ?kr42
         case ky42 => (intro w hSw; (try dsimp only at hSw); go_split_ands; (try simp only [qA, qB, qC]); go_simp; (try with_reducible rfl))
         try simp only [Act.put, qA, qB, qC, qD, qE, qF]
         refine gT (i := 8) (v := ?kv43) rfl ?ky43 ?kr43
         case ky43 => (intro w hSw; (try dsimp only at hSw); go_split_ands; (try simp only [qA, qB, qC]); go_simp; (try with_reducible rfl))
         try simp only [Act.put, qA, qB, qC, qD, qE, qF]
         refine gT (i := 9) (v := ?kv44) rfl ?ky44 ?kr44
         case ky44 => (intro w hSw; (try dsimp only at hSw); go_split_ands; (try simp only [qA, qB, qC]); go_simp; (try with_reducible rfl))
         try simp only [Act.put, qA, qB, qC, qD, qE, qF]
         refine gT (i := 10) (v := ?kv45) rfl ?ky45 ?kr45
         case ky45 => (intro w hSw; (try dsimp only at hSw); go_split_ands; (try simp only [qA, qB, qC]); go_simp; (try with_reducible rfl))
         try simp only [Act.put, qA, qB, qC, qD, qE, qF]
         refine gT (i := 11) (v := ?kv46) rfl ?ky46 ?kr46
         case ky46 => (intro w hSw; (try dsimp only at hSw); go_split_ands; (try simp only [qA, qB, qC]); go_simp; (try with_reducible rfl))
         try simp only [Act.put, qA, qB, qC, qD, qE, qF]
         refine gT (i := 12) (v := ?kv47) rfl ?ky47 ?kr47
         case ky47 => (intro w hSw; (try dsimp only at hSw); go_split_ands; (try simp only [qA, qB, qC]); go_simp; (try with_reducible rfl))
         try simp only [Act.put, qA, qB, qC, qD, qE, qF]
         refine gT (i := 13) (v := ?kv48) rfl ?ky48 ?kr48
         case ky48 => (intro w hSw; (try dsimp only at hSw); go_split_ands; (try simp only [qA, qB, qC]); go_simp; (try with_reducible rfl))
         try simp only [Act.put, qA, qB, qC, qD, qE, qF]
         refine wpAnyH_ready (rs := [14]) (by kernel_rfl) (by simp) ?_
         refine (AllReadyH.cons rfl (fun K hK => ?_) AllReadyH.nil)
         try simp only [qA, qB, qC]
         go_simp
         go_at_call 103; refine (list2_any x y _).mono ?_; rintro e z1 ⟨r, rfl, hr, b1⟩; have hr' : r < 0 := hr.2 Hn.out; have hd : decide (r < 0) = true := decide_eq_true hr'
         refine hK.out _ _ (by exact hS _ (grow_trans hHeld.2.2.2.2.2.2.2.2.2.2.2.2 b1)) (fun hHeldn => ?_)
         clear hHeld hK K
         have hHeld := hHeldn
         clear hHeldn
         try simp only [qD, qE, qF]
         refine gT (i := 15) (v := ?kv50) rfl ?ky50 ?kr50
         case ky50 => (intro w hSw; (try dsimp only at hSw); go_split_ands; (try simp only [qA, qB, qC]); go_simp; (try with_reducible rfl))
         try simp only [Act.put, qA, qB, qC, qD, qE, qF]
         refine gT (i := 16) (v := ?kv51) rfl ?ky51 ?kr51
         case ky51 => (intro w hSw; (try dsimp only at hSw); go_split_ands; (try simp only [qA, qB, qC]); go_simp; (try with_reducible rfl))
         try simp only [Act.put, qA, qB, qC, qD, qE, qF]
         refine wpAnyH_done (by kernel_rfl) ?_ _
         rw [Hn.out]
         go_upto_region 6 with fail
         have hzz := hHeld.2.2.2.2.2.2.2.2.2.2.2.2
         have hzz' := hzz
         have hso6 := HS2.out.2.1.grow hzz
         obtain ⟨cur, hcur, hcs⟩ := hso6.row.objF
         have hq : ∀ j u, z1.cell? ⟨g, j, none⟩ = some u → z1.cell? ⟨g, j, none⟩ = some u := fun _ _ h => h
         have hH12 : z1.cell? ⟨g, (m + 1) * 6, none⟩ = some (.int .i64 x.dir.label) ∧ z1.cell? ⟨g, (m + 1) * 6 + 1, none⟩ = some (.int .i64 x.dir.at_) ∧ z1.cell? ⟨g, (m + 1) * 6 + 2, none⟩ = some (.int .u32 x.dir.gen) ∧ z1.cell? ⟨g, (m + 1) * 6 + 3, none⟩ = some (.string x.name) ∧ z1.cell? ⟨g, (m + 1) * 6 + 4, none⟩ = some (.int .i64 x.at_) ∧ z1.cell? ⟨g, (m + 1) * 6 + 5, none⟩ = some (.int .u32 x.gen) ∧ z1.cell? ⟨g, m * 6, none⟩ = some (.int .i64 y.dir.label) ∧ z1.cell? ⟨g, m * 6 + 1, none⟩ = some (.int .i64 y.dir.at_) ∧ z1.cell? ⟨g, m * 6 + 2, none⟩ = some (.int .u32 y.dir.gen) ∧ z1.cell? ⟨g, m * 6 + 3, none⟩ = some (.string y.name) ∧ z1.cell? ⟨g, m * 6 + 4, none⟩ = some (.int .i64 y.at_) ∧ z1.cell? ⟨g, m * 6 + 5, none⟩ = some (.int .u32 y.gen) := by
          obtain ⟨a0, a1, a2, a3, a4, a5, a6, a7, a8, a9, a10, a11, _⟩ := hHeld
          exact ⟨a0, a1, a2, a3, a4, a5, a6, a7, a8, a9, a10, a11⟩
         have H6 := Lib.hid (And.intro hso6 (And.intro hcur hcs))
         obtain ⟨q0, q1, q2, q3, q4, q5, q6, q7, q8, q9, q10, q11⟩ := hH12
         clear hzz hso6 hcur hcs hHeld hq hS x0 x1 x2 x3 x4 x5 y0 y1 y2 y3 y4 y5
         have hl2l := HS2.out.2.2.1
         have bnd : l2.length * 6 ≤ cur.size := H6.out.2.2
         refine wp_region_F [15, 17] (S := fun w' => w'.cell? ⟨g, (m + 1) * 6, none⟩ = some (.int .i64 x.dir.label) ∧ w'.cell? ⟨g, (m + 1) * 6 + 1, none⟩ = some (.int .i64 x.dir.at_) ∧ w'.cell? ⟨g, (m + 1) * 6 + 2, none⟩ = some (.int .u32 x.dir.gen) ∧ w'.cell? ⟨g, (m + 1) * 6 + 3, none⟩ = some (.string x.name) ∧ w'.cell? ⟨g, (m + 1) * 6 + 4, none⟩ = some (.int .i64 x.at_) ∧ w'.cell? ⟨g, (m + 1) * 6 + 5, none⟩ = some (.int .u32 x.gen) ∧ w'.cell? ⟨g, m * 6, none⟩ = some (.int .i64 y.dir.label) ∧ w'.cell? ⟨g, m * 6 + 1, none⟩ = some (.int .i64 y.dir.at_) ∧ w'.cell? ⟨g, m * 6 + 2, none⟩ = some (.int .u32 y.dir.gen) ∧ w'.cell? ⟨g, m * 6 + 3, none⟩ = some (.string y.name) ∧ w'.cell? ⟨g, m * 6 + 4, none⟩ = some (.int .i64 y.at_) ∧ w'.cell? ⟨g, m * 6 + 5, none⟩ = some (.int .u32 y.gen) ∧ True) (by kernel_rfl) (⟨q0, q1, q2, q3, q4, q5, q6, q7, q8, q9, q10, q11, trivial⟩) (fun hHeld => ?_)
         show wpAnyF _ _ _ _ _ _ 18 #[false, false, false, false, false, false, false, false, false, false, false, false, false, false, false, false, false, false] _ _
         refine gF [0, 14, 15, 16, 17] (i := 0) (v := ?kv52) rfl ?ky52 ?kr52
         case ky52 => (intro w hSw; (try dsimp only at hSw); go_split_ands; (try simp only [qA, qB]); go_simp; (try with_reducible rfl))
         try simp only [Act.put, qA, qB, qD, qE, qF]
         refine gF [1, 14, 15, 16, 17] (i := 1) (v := ?kv53) rfl ?ky53 ?kr53
         case ky53 => (intro w hSw; (try dsimp only at hSw); go_split_ands; (try simp only [qA, qB, qC]); go_simp; (try with_reducible rfl))
         try simp only [Act.put, qA, qB, qC, qD, qE, qF]
         refine gP (i := 2) (v := ?kv54) rfl ?ky54 ?kr54
         case ky54 => (intro w hSw; clear hSw; (try simp only [qA, qB, qC]); go_simp; (try with_reducible rfl))
         try simp only [Act.put, qA, qB, qC, qD, qE, qF]
         refine gP (i := 3) (v := ?kv55) rfl ?ky55 ?kr55
         case ky55 => (intro w hSw; clear hSw; (try simp only [qA, qB, qC]); go_simp; (try with_reducible rfl))
         try simp only [Act.put, qA, qB, qC, qD, qE, qF]
         refine gP (i := 4) (v := ?kv56) rfl ?ky56 ?kr56
         case ky56 => (intro w hSw; clear hSw; (try simp only [qA, qB, qC]); go_simp; (try with_reducible rfl))
         try simp only [Act.put, qA, qB, qC, qD, qE, qF]
         refine gF [5, 8, 9, 14, 15, 16, 17] (i := 5) (v := ?kv57) rfl ?ky57 ?kr57
         case ky57 => (intro w hSw; (try dsimp only at hSw); go_split_ands; (try simp only [qA, qB, qC]); go_simp; (try with_reducible rfl))
         try simp only [Act.put, qA, qB, qC, qD, qE, qF]
         refine gF [6, 7, 8, 9, 14, 15, 16, 17] (i := 6) (v := ?kv58) rfl ?ky58 ?kr58
         case ky58 => (intro w hSw; (try dsimp only at hSw); go_split_ands; (try simp only [qA, qB, qC]); go_simp; (try with_reducible rfl))
         try simp only [Act.put, qA, qB, qC, qD, qE, qF]
         refine gF [7, 8, 9, 14, 15, 16, 17] (i := 7) (v := ?kv59) rfl ?ky59 ?kr59
         case ky59 => (intro w hSw; (try dsimp only at hSw); go_split_ands; (try simp only [qA, qB, qC]); go_simp; (try with_reducible rfl))
         try simp only [Act.put, qA, qB, qC, qD, qE, qF]
         refine gF [8, 9, 14, 15, 16, 17] (i := 8) (v := ?kv60) rfl ?ky60 ?kr60
         case ky60 => (intro w hSw; (try dsimp only at hSw); go_split_ands; (try simp only [qA, qB, qC]); go_simp; (try with_reducible rfl))
         try simp only [Act.put, qA, qB, qC, qD, qE, qF]
         refine gF [9, 14, 15, 16, 17] (i := 9) (v := ?kv61) rfl ?ky61 ?kr61
         case ky61 => (intro w hSw; (try dsimp only at hSw); go_split_ands; (try simp only [qA, qB, qC]); go_simp; (try with_reducible rfl))
         try simp only [Act.put, qA, qB, qC, qD, qE, qF]
         refine gF [10, 12, 13, 14, 15, 16, 17] (i := 10) (v := ?kv62) rfl ?ky62 ?kr62
         case ky62 => (intro w hSw; (try dsimp only at hSw); go_split_ands; (try simp only [qA, qB, qC]); go_simp; (try with_reducible rfl))
         try simp only [Act.put, qA, qB, qC, qD, qE, qF]
         refine gF [11, 12, 13, 14, 15, 16, 17] (i := 11) (v := ?kv63) rfl ?ky63 ?kr63
         case ky63 => (intro w hSw; (try dsimp only at hSw); go_split_ands; (try simp only [qA, qB, qC]); go_simp; (try with_reducible rfl))
         try simp only [Act.put, qA, qB, qC, qD, qE, qF]
         refine gF [12, 13, 14, 15, 16, 17] (i := 12) (v := ?kv64) rfl ?ky64 ?kr64
         case ky64 => (intro w hSw; (try dsimp only at hSw); go_split_ands; (try simp only [qA, qB, qC]); go_simp; (try with_reducible rfl))
         try simp only [Act.put, qA, qB, qC, qD, qE, qF]
         refine gF [13, 14, 15, 16, 17] (i := 13) (v := ?kv65) rfl ?ky65 ?kr65
         case ky65 => (intro w hSw; (try dsimp only at hSw); go_split_ands; (try simp only [qA, qB, qC]); go_simp; (try with_reducible rfl))
         try simp only [Act.put, qA, qB, qC, qD, qE, qF]
         refine gF [14, 15, 16, 17] (i := 14) (v := ?kv66) rfl ?ky66 ?kr66
         case ky66 => (intro w hSw; (try dsimp only at hSw); go_split_ands; (try simp only [qA, qB, qC]); go_simp; (try with_reducible rfl))
         try simp only [Act.put, qA, qB, qC, qD, qE, qF]
         refine wpAnyF_ready (rs := [15]) (by kernel_rfl) (by simp) ?_
         refine (AllReadyF.last rfl (by kernel_rfl) (fun K hK => ?_) AllReadyF.nil)
         refine step_storeOff aggNmE (by rfl) _ _ (by rfl) (by rfl) (by rfl) (show objAt z1.drew g = _ from H6.out.2.1) (by rfl) (by omega) (Nm.one_cells y) ?_; intro w5 hw5
         refine hK.out _ _ (trivial) (fun hHeldn => ?_)
         clear hHeld hK K
         have hHeld := hHeldn
         clear hHeldn
         try simp only [Act.put, qA, qB, qC, qD, qE, qF]
         refine gP (i := 16) (v := ?kv68) rfl ?ky68 ?kr68
         case ky68 => (intro w hSw; clear hSw; (try simp only [qA, qB, qC]); go_simp; (try with_reducible rfl))
         try simp only [Act.put, qA, qB, qC, qD, qE, qF]
         refine wpAnyF_ready (rs := [17]) (by kernel_rfl) (by simp) ?_
         refine (AllReadyF.last rfl (by kernel_rfl) (fun K hK => ?_) AllReadyF.nil)
         refine step_storeOff aggNmE (by rfl) _ _ (by rfl) (by rfl) (by rfl) (by rw [hw5]; exact objAt_setRow (w := z1.drew) H6.out.2.1 _) (by rfl) (by simp only [List.size_toArray, List.length_append, List.length_take, List.length_drop, Array.length_toList]; omega) (Nm.one_cells x) ?_; intro w6 hw6
         refine hK.out _ _ (trivial) (fun hHeldn => ?_)
         clear hHeld hK K
         have hHeld := hHeldn
         clear hHeldn
         try simp only [Act.put, qA, qB, qC, qD, qE, qF]
         refine wpAnyF_done (by kernel_rfl) ?_ _
         have r5 : NmRow w5 S (.slice (some ⟨g, 0, none⟩) l.length cap) (l2.set (m + 1) y) := RowG.putK (H6.out.1.row.grow (Below.refl _ _).drew (fun _ _ h => h)) (by omega) (show objAt z1.drew g = _ from H6.out.2.1) rfl (c := y.cells) hw5 rfl (fun _ _ h => h)
         have o5 := objAt_setRow (w := z1.drew) H6.out.2.1 (cur.toList.take ((m + 1) * 6) ++ y.cells.toList ++ cur.toList.drop ((m + 1) * 6 + 6)).toArray
         rw [← hw5] at o5
         have r6 : NmRow w6 S (.slice (some ⟨g, 0, none⟩) l.length cap) ((l2.set (m + 1) y).set m x) := RowG.putK r5 (by rw [List.length_set]; omega) o5 (c := x.cells) rfl hw6 rfl (fun _ _ h => h)
         have hsw : (l2.set (m + 1) y).set m x = swapD l2 (m + 1) := by
          unfold swapD
          rw [Nat.add_sub_cancel, HS2.out.2.2.2.1, HS2.out.2.2.2.2]
         rw [hsw] at r6
         have k5 : Keeps (fun q => q = g) z1.drew w5 := by rw [hw5]; exact setRow_keeps' _ _ _
         have k6 : Keeps (fun q => q = g) w5 w6 := by rw [hw6]; exact setRow_keeps' _ _ _
         have hfin : SoAt w w6 S (.slice (some ⟨g, 0, none⟩) l.length cap) l (swapD l2 (m + 1)) := ⟨r6, (swapD_perm l2 (Nat.succ_pos m) (by omega)).trans HS2.out.2.1.perm, ((HS2.out.2.1.keeps.trans (Keeps.of_below hzz')).trans (Keeps.of_below (Below.refl _ _).drew)).trans ((k5.trans k6).mono fun _ _ e => by rw [e]; rfl)⟩
         have hsk := sinking_step (l := l2) (i := k) (j := m + 1) (Nat.succ_pos m) hm (by omega) HS2.out.1 (by rw [HS2.out.2.2.2.1, Nat.add_sub_cancel, HS2.out.2.2.2.2]; exact Hn.out)
         rw [Nat.add_sub_cancel] at hsk
         have H9 := Lib.hid (And.intro hfin hsk)
         clear hw5 hw6 r5 o5 r6 hsw k5 k6 hfin hsk q0 q1 q2 q3 q4 q5 q6 q7 q8 q9 q10 q11
         go_wp2_with fail
         go_roundw
         case rel => exact ⟨m, swapD l2 (m + 1), by omega, by go_num, H9.out.2, H9.out.1⟩
         case measure => simp [Go.RowKit.intOf]
  · have hk' : k = l.length ∨ l.length ≤ 1 := by omega
    have HS := Lib.hid (And.intro hs hso)
    clear hs hso
    have hlti : ¬ ((k : Int) < (l.length : Int)) := by omega
    go_wp2_with fail
    first | go_end0 | refine bodyPost_end (results_none rfl _ _ _) rfl ?_
    refine ⟨rfl, l', inOrder_of ?_, HS.out.2⟩
    have hle := HS.out.2.perm.length_eq
    intro p q h1 h2
    exact HS.out.1 p q h1 (by omega)
end Go.Proofs.YtbbnejehglonjaaGreat
