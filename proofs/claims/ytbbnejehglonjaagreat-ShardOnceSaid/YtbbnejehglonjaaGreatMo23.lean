/- DERIVED. Contracts and laws that the proofs of this seat share, part 23 of 36: Rf15C Rf15D PvH Bt. -/
import Derived.Test.YtbbnejehglonjaaGreatMo00
import Derived.Test.YtbbnejehglonjaaGreatMo15
import Derived.Test.YtbbnejehglonjaaGreatMo21
import Derived.Test.YtbbnejehglonjaaGreatMo22
/- DERIVED. Contracts of clathriref15.Left, First, holes. -/
namespace Go.Proofs.YtbbnejehglonjaaGreat
open Go.RowKit
attribute [local irreducible] Calls
theorem ORow.lt {w : World} {B g n cap : Nat} {l : List Bool} (h : ORow w B (.slice (some ⟨g, 0, none⟩) n cap) l) : g < w.heap.size := by
 rcases h.2 with ⟨h', _⟩ | ⟨g', cap', cur, h', _, hg, _⟩
 · simp at h'
 · simp only [Value.slice.injEq, Option.some.injEq, Addr.mk.injEq, and_true] at h'
   obtain ⟨rfl, _⟩ := h'; exact block_lt hg

end Go.Proofs.YtbbnejehglonjaaGreat

/- DERIVED. Contracts of clathriref15.fileAt, where, holes, next. -/
namespace Go.Proofs.YtbbnejehglonjaaGreat
open Go.RowKit
attribute [local irreducible] Calls
theorem blkD_nat (bs : List Blk) (j : Nat) : blkD bs (j : Int) = bs.getD j Blk.zero := by unfold blkD; simp
theorem inB_nat {bs : List Blk} {j : Nat} (h : j < bs.length) : inB bs (j : Int) = true := by simp [inB, h]
theorem inB_cases (bs : List Blk) (a : Int) : (a < 0 ∧ inB bs a = false) ∨ ((bs.length : Int) ≤ a ∧ 0 ≤ a ∧ inB bs a = false) ∨ ∃ j : Nat, a = (j : Int) ∧ j < bs.length ∧ inB bs a = true := by
 by_cases h : a < 0
 · left; exact ⟨h, by simp [inB]; omega⟩
 · by_cases h2 : (bs.length : Int) ≤ a
   · right; left; exact ⟨h2, by omega, by simp [inB]; omega⟩
   · right; right
     obtain ⟨j, rfl⟩ := Int.eq_ofNat_of_zero_le (show 0 ≤ a by omega)
     exact ⟨j, rfl, by omega, inB_nat (by omega)⟩
/-! Which block is block k of a file. -/
end Go.Proofs.YtbbnejehglonjaaGreat

/- DERIVED. Contracts of vol's Get, Blocks, Room, Sync, Tidy. -/
namespace Go.Proofs.YtbbnejehglonjaaGreat
open Go.RowKit
attribute [local irreducible] Calls
set_option maxRecDepth 100000

/-- A block of a row, or none. -/
def getB (bs : List Blk) (a : Int) : Blk := if inB bs a = true then blkD bs a else Blk.zero
section
variable {w : World} {Sd : Nat → Prop} {v d reg : Nat} {s : Sh} {epoch seq : Nat} {used : Int} {gb cap m : Nat} {bs : List Blk} {Dm : ML} {D : Dv} {c : Nat}
set_option maxHeartbeats 2000000 in
theorem VolP.get (h : VolP w Sd v d reg s epoch seq used gb cap m bs Dm D c) (a : Int) :
 Calls Tryz.prog 23 #[.pointer (some ⟨v, 0, none⟩), .int .i64 a] w fun e w' => e = .returned (.tuple #[.agg (getB bs a).cells, .bool (inB bs a)]) ∧ Below w.heap.size w w' := by
 have hlen : bs.length ≤ 200 := by rw [← h.slen]; exact h.sok.blocks
 have hB0 : Below w.heap.size w (w.alloc (.cells Blk.zero.cells 37)) := grow_alloc (Below.refl _ _) _
 have hX : BlkAt (w.alloc (.cells Blk.zero.cells 37)) w.heap.size Blk.zero := BlkAt.alloc_new w _
 have c11 := VolO.c11 h.o
 have c11' := VolO.c11 (grow_obj hB0 h.o)
 have HR := Lib.hid (And.intro (h.row.below hB0) (And.intro hB0 hX))
 clear h hX hB0
 unfold getB
 rcases inB_cases bs a with ⟨h1, h2⟩ | ⟨h0, h1, h2⟩ | ⟨j, rfl, hj, h2⟩
 · rw [h2]
   simp only [Bool.false_eq_true, if_false]
   have hbk := HR.out.2.2.has
   have hrk := HR.out.2.2.row
   go_enter Tryz.func23, Tryz.ntmps23
   go_wp2_with fail
   refine bodyPost_ret (results_two rfl (resOne_blk rfl (BlkAt.alloc_new w Blk.zero).row) (resOne_tmp _ _ _)) rfl ?_
   exact ⟨rfl, grow_alloc (Below.refl _ _) _⟩
 · rw [h2]
   simp only [Bool.false_eq_true, if_false]
   have hbk := HR.out.2.2.has
   have hrk := HR.out.2.2.row
   have hn : ¬ (a < (bs.length : Int)) := by omega
   go_enter Tryz.func23, Tryz.ntmps23
   go_wp2_with fail
   refine bodyPost_ret (results_two rfl (resOne_blk rfl (BlkAt.alloc_new w Blk.zero).row) (resOne_tmp _ _ _)) rfl ?_
   exact ⟨rfl, grow_alloc (Below.refl _ _) _⟩
 · rw [h2, if_pos rfl, blkD_nat]
   have hbk := HR.out.2.2.has
   have hrk := HR.out.2.2.row
   have hk1 := HR.out.1.has j hj
   have hk2 := HR.out.1.row j hj
   have i0 : (0 : Int) ≤ (j : Int) := Int.natCast_nonneg _
   have i1 : (j : Int) < (bs.length : Int) := by omega
   generalize bs.getD j Blk.zero = b at *
   go_enter Tryz.func23, Tryz.ntmps23
   go_wp2_with fail
   refine bodyPost_ret (results_two rfl (resOne_blk rfl (BlkAt.alloc_new w b).row) (resOne_tmp _ _ _)) rfl ?_
   exact ⟨rfl, grow_alloc (Below.refl _ _) _⟩
theorem VolP.blocks (h : VolP w Sd v d reg s epoch seq used gb cap m bs Dm D c) :
 Calls Tryz.prog 61 #[.pointer (some ⟨v, 0, none⟩)] w fun e w' => e = .returned (.int .i64 bs.length) ∧ w' = w := by
 have c4 := VolO.c4 h.o
 rw [h.slen] at c4
 clear h
 go_enter Tryz.func61, Tryz.ntmps61
 go_wp2_with fail
 go_ret
 exact ⟨rfl, rfl⟩
theorem VolP.room (h : VolP w Sd v d reg s epoch seq used gb cap m bs Dm D c) :
 Calls Tryz.prog 120 #[.pointer (some ⟨v, 0, none⟩)] w fun e w' => e = .returned (.int .i64 ((s.log : Int) - used)) ∧ w' = w.drew := by
 have c5 := VolO.c5 h.o
 have c10 := VolO.c10 h.o
 have hu := h.ub
 have hl := h.sok.log
 have hw : IntKind.i64.wrap ((s.log : Int) - used) = (s.log : Int) - used := IntWalk.i64_in _ (by omega)
 clear h
 go_enter Tryz.func120, Tryz.ntmps120
 go_upto_region 3 with fail
 refine wp_region_held_drew (S := fun w' => w'.cell? ⟨v, 5, none⟩ = some (.int .i64 s.log) ∧ w'.cell? ⟨v, 10, none⟩ = some (.int .i64 used) ∧ True) (by kernel_rfl) (⟨c5, c10, trivial⟩) (fun hHeld => ?_)
 show wpAnyH _ _ _ _ _ 11 #[false, false, false, false, false, false, false, false, false, false, false] _ _
 refine gT (i := 0) (v := ?kv1) rfl ?ky1 ?kr1
 case ky1 => (intro w hSw; (try dsimp only at hSw); go_split_ands; (try simp only [qA, qB]); go_simp; (try with_reducible rfl))
 try simp only [Act.put, qA, qB, qD, qE, qF]
 refine gT (i := 1) (v := ?kv2) rfl ?ky2 ?kr2
 case ky2 => (intro w hSw; (try dsimp only at hSw); go_split_ands; (try simp only [qA, qB, qC]); go_simp; (try with_reducible rfl))
 try simp only [Act.put, qA, qB, qC, qD, qE, qF]
 refine gT (i := 2) (v := ?kv3) rfl ?ky3 ?kr3
 case ky3 => (intro w hSw; (try dsimp only at hSw); go_split_ands; (try simp only [qA, qB, qC]); go_simp; (try with_reducible rfl))
 try simp only [Act.put, qA, qB, qC, qD, qE, qF]
 refine gT (i := 3) (v := ?kv4) rfl ?ky4 ?kr4
 case ky4 => (intro w hSw; (try dsimp only at hSw); go_split_ands; (try simp only [qA, qB, qC]); go_simp; (try with_reducible rfl))
 try simp only [Act.put, qA, qB, qC, qD, qE, qF]
 refine gT (i := 4) (v := ?kv5) rfl ?ky5 ?kr5
 case ky5 => (intro w hSw; (try dsimp only at hSw); go_split_ands; (try simp only [qA, qB, qC]); go_simp; (try with_reducible rfl))
 try simp only [Act.put, qA, qB, qC, qD, qE, qF]
 refine gT (i := 5) (v := ?kv6) rfl ?ky6 ?kr6
 case ky6 => (intro w hSw; (try dsimp only at hSw); go_split_ands; (try simp only [qA, qB, qC]); go_simp; (try with_reducible rfl))
 try simp only [Act.put, qA, qB, qC, qD, qE, qF]
 refine gT (i := 6) (v := ?kv7) rfl ?ky7 ?kr7
 case ky7 => (intro w hSw; (try dsimp only at hSw); go_split_ands; (try simp only [qA, qB, qC]); go_simp; (try with_reducible rfl))
 try simp only [Act.put, qA, qB, qC, qD, qE, qF]
 refine gT (i := 7) (v := ?kv8) rfl ?ky8 ?kr8
 case ky8 => (intro w hSw; (try dsimp only at hSw); go_split_ands; (try simp only [qA, qB, qC]); go_simp; (try with_reducible rfl))
 try simp only [Act.put, qA, qB, qC, qD, qE, qF]
 refine gT (i := 8) (v := ?kv9) rfl ?ky9 ?kr9
 case ky9 => (intro w hSw; (try dsimp only at hSw); go_split_ands; (try simp only [qA, qB, qC]); go_simp; (try with_reducible rfl))
 try simp only [Act.put, qA, qB, qC, qD, qE, qF]
 refine gT (i := 9) (v := ?kv10) rfl ?ky10 ?kr10
 case ky10 => (intro w hSw; (try dsimp only at hSw); go_split_ands; (try simp only [qA, qB, qC]); go_simp; (try with_reducible rfl))
 try simp only [Act.put, qA, qB, qC, qD, qE, qF]
 refine gT (i := 10) (v := ?kv11) rfl ?ky11 ?kr11
 case ky11 => (intro w hSw; (try dsimp only at hSw); go_split_ands; (try simp only [qA, qB, qC]); go_simp; (try with_reducible rfl))
 try simp only [Act.put, qA, qB, qC, qD, qE, qF]
 refine wpAnyH_done (by kernel_rfl) ?_ _
 go_wp2_with fail
 go_ret
 exact ⟨by first | rfl | rw [hw], rfl⟩
theorem VolP.sync (h : VolP w Sd v d reg s epoch seq used gb cap m bs Dm D c) (hc : c < 800000) :
 Calls Tryz.prog 179 #[.pointer (some ⟨v, 0, none⟩)] w fun e w' => e = .returned (.tuple #[]) ∧ Keeps Sd w w' ∧ VolP w' (grownS Sd w w') v d reg s epoch seq used gb cap m bs Dm (D.barrier reg) (c + 1) := by
 have c0 := VolO.c0 h.o
 have c1 := VolO.c1 h.o
 have H := Lib.hid h
 clear h
 go_enter Tryz.func179, Tryz.ntmps179
 go_upto_region 1 with fail
 refine wp_region_F [8] (S := fun w' => w'.cell? ⟨v, 0, none⟩ = some (.pointer (some ⟨d, 0, none⟩)) ∧ w'.cell? ⟨v, 1, none⟩ = some (.int .i64 reg) ∧ True) (by kernel_rfl) (⟨c0, c1, trivial⟩) (fun hHeld => ?_)
 show wpAnyF _ _ _ _ _ _ 9 #[false, false, false, false, false, false, false, false, false] _ _
 refine gF [0, 1, 2, 3, 8] (i := 0) (v := ?kv12) rfl ?ky12 ?kr12
 case ky12 => (intro w hSw; (try dsimp only at hSw); go_split_ands; (try simp only [qA, qB]); go_simp; (try with_reducible rfl))
 try simp only [Act.put, qA, qB, qD, qE, qF]
 refine gF [1, 2, 3, 8] (i := 1) (v := ?kv13) rfl ?ky13 ?kr13
 case ky13 => (intro w hSw; (try dsimp only at hSw); go_split_ands; (try simp only [qA, qB, qC]); go_simp; (try with_reducible rfl))
 try simp only [Act.put, qA, qB, qC, qD, qE, qF]
 refine gF [2, 3, 8] (i := 2) (v := ?kv14) rfl ?ky14 ?kr14
 case ky14 => (intro w hSw; (try dsimp only at hSw); go_split_ands; (try simp only [qA, qB, qC]); go_simp; (try with_reducible rfl))
 try simp only [Act.put, qA, qB, qC, qD, qE, qF]
 refine gF [3, 8] (i := 3) (v := ?kv15) rfl ?ky15 ?kr15
 case ky15 => (intro w hSw; (try dsimp only at hSw); go_split_ands; (try simp only [qA, qB, qC]); go_simp; (try with_reducible rfl))
 try simp only [Act.put, qA, qB, qC, qD, qE, qF]
 refine gF [4, 5, 6, 7, 8] (i := 4) (v := ?kv16) rfl ?ky16 ?kr16
 case ky16 => (intro w hSw; (try dsimp only at hSw); go_split_ands; (try simp only [qA, qB, qC]); go_simp; (try with_reducible rfl))
 try simp only [Act.put, qA, qB, qC, qD, qE, qF]
 refine gF [5, 6, 7, 8] (i := 5) (v := ?kv17) rfl ?ky17 ?kr17
 case ky17 => (intro w hSw; (try dsimp only at hSw); go_split_ands; (try simp only [qA, qB, qC]); go_simp; (try with_reducible rfl))
 try simp only [Act.put, qA, qB, qC, qD, qE, qF]
 refine gF [6, 7, 8] (i := 6) (v := ?kv18) rfl ?ky18 ?kr18
 case ky18 => (intro w hSw; (try dsimp only at hSw); go_split_ands; (try simp only [qA, qB, qC]); go_simp; (try with_reducible rfl))
 try simp only [Act.put, qA, qB, qC, qD, qE, qF]
 refine gF [7, 8] (i := 7) (v := ?kv19) rfl ?ky19 ?kr19
 case ky19 => (intro w hSw; (try dsimp only at hSw); go_split_ands; (try simp only [qA, qB, qC]); go_simp; (try with_reducible rfl))
 try simp only [Act.put, qA, qB, qC, qD, qE, qF]
 refine wpAnyF_ready (rs := [8]) (by kernel_rfl) (by simp) ?_
 refine (AllReadyF.last rfl (by kernel_rfl) (fun K hK => ?_) AllReadyF.nil)
 try simp only [qA, qB, qC]
 go_simp
 go_at_call 110; refine (Barrier_in (H.out.dev.below (Below.refl _ _).drew) (by omega) (Dv.has_lt H.out.has)).mono ?_; rintro e w4 ⟨rfl, hk4, hd4⟩
 refine hK.out _ _ (trivial) (fun hHeldn => ?_)
 clear hHeld hK K
 have hHeld := hHeldn
 clear hHeldn
 try simp only [qD, qE, qF]
 refine wpAnyF_done (by kernel_rfl) ?_ _
 go_wp2_with fail
 go_end0
 have hst := DevStep.pre (Below.refl w.heap.size w).drew ⟨hk4, hd4⟩
 exact ⟨rfl, hst.keeps, H.out.step hst (Dv.has_barrier H.out.has)⟩
theorem VolP.tidy (h : VolP w Sd v d reg s epoch seq used gb cap m bs Dm D c) (hc : c < 600000) :
 Calls Tryz.prog 121 #[.pointer (some ⟨v, 0, none⟩)] w fun e w' => e = .returned (.tuple #[]) ∧ Keeps (fun k => Sd k ∨ k = v ∨ k = m) w w' ∧
  VolP w' (grownS Sd w w') v d reg s ((epoch + 1) % 4294967296) 0 0 gb cap m bs [] (tidiesD (D.barrier reg) reg s bs (sortedKeys Dm) ((epoch + 1) % 4294967296)) (c + bs.length + 5) := by
 have hs := h.sync (by omega)
 have H := Lib.hid h
 have HS := Lib.hid hs
 clear h hs
 go_enter Tryz.func121, Tryz.ntmps121
 go_wp2_with (first | (go_at_call 179; refine HS.out.mono ?_; rintro e w1 ⟨rfl, k1, hV1⟩; have Ht := Lib.hid (tidies_any hV1 (by omega)); have H1 := Lib.hid (And.intro k1 hV1); clear k1 hV1) | (go_at_call 116; refine Ht.out.mono ?_; rintro e w2 ⟨rfl, k2, hV2⟩))
 go_end0
 have hk := H1.out.1.size
 have hk3 : Keeps (fun k => Sd k ∨ k = v ∨ k = m) w w2 := (H1.out.1.mono (fun q _ e => .inl e)).chain k2 (fun q hq e => e.imp (fun e => e.2.resolve_right (by omega)) id)
 have hlv := H.out.lt_v
 have hlm := H.out.lt_m
 have hlb := H.out.lt_b
 refine ⟨rfl, hk3, hV2.refoot (S' := grownS Sd w w2) (fun q hq => ⟨hq.1, hq.2.elim (fun e => e.2) (fun e => .inr (Nat.le_trans hk e))⟩) (fun q hq => hq.1) (fun e => e.2.elim H.out.nv (by omega)) (fun e => e.2.elim H.out.nm (by omega)) (fun e => e.2.elim H.out.nb (by omega)) (by omega)⟩
end
end Go.Proofs.YtbbnejehglonjaaGreat

/- DERIVED. Contracts of package bits: New, there, Set, Clear, Is, First, Left. -/
namespace Go.Proofs.YtbbnejehglonjaaGreat
open Go.RowKit

/-- A Bits at block b: its slice's row is block q. -/
structure BitsAt (w : World) (b q : Nat) (l : List Bool) : Prop where
 head : w.heap[b]? = some (.cells #[.slice (some ⟨q, 0, none⟩) l.length l.length] 224 (0, 0))
 row : w.heap[q]? = some (.cells (l.map Value.bool).toArray 4 (0, 0))
 le : l.length ≤ 200

theorem BitsAt.cell0 {w : World} {b q : Nat} {l : List Bool} (h : BitsAt w b q l) : w.cell? ⟨b, 0, none⟩ = some (.slice (some ⟨q, 0, none⟩) l.length l.length) := by
 simp [World.cell?, h.head]
theorem BitsAt.cell {w : World} {b q : Nat} {l : List Bool} (h : BitsAt w b q l) (i : Nat) (hi : i < l.length) : w.cell? ⟨q, i, none⟩ = some (.bool l[i]) := by
 simp [World.cell?, h.row, hi]
theorem BitsAt.free {w : World} {b q : Nat} {l : List Bool} (h : BitsAt w b q l) (i : Nat) : w.frozen? ⟨q, i, none⟩ = false := by
 simp [World.frozen?, h.row]
theorem BitsAt.ne {w : World} {b q : Nat} {l : List Bool} (h : BitsAt w b q l) : b ≠ q := by
 rintro rfl
 have h2 := h.row
 rw [h.head] at h2
 simp at h2
theorem BitsAt.keeps {S : Nat → Prop} {w w' : World} {b q : Nat} {l : List Bool} (h : BitsAt w b q l) (k : Keeps S w w') (hb : ¬ S b) (hq : ¬ S q) : BitsAt w' b q l :=
 ⟨by rw [k.block b (block_lt h.head) hb]; exact h.head, by rw [k.block q (block_lt h.row) hq]; exact h.row, h.le⟩

section
theorem mk_boolsP (n : Int) (w : World) (h0 : 0 ≤ n) (h1 : n ≤ 1000000) :
 (Instr.makeSlice 135 (.int .i64 n) (.int .i64 n)).run Tryz.prog w = .ok (.slice (some ⟨w.heap.size, 0, none⟩) n.toNat n.toNat) (w.alloc (.cells (List.replicate n.toNat (.bool false)).toArray 4)) :=
 run_make1 _ _ _ (.bool false) (by kernel_rfl) (Option.some_get (by kernel_rfl)).symm (by kernel_rfl) rfl (by kernel_rfl) (by decide +kernel) n w h0 h1

set_option maxHeartbeats 400000 in
theorem bNew_any (n : Int) (w : World) :
 Calls Tryz.prog 125 #[.int .i64 n] w fun e w' => e = .returned (.pointer (some ⟨w.heap.size + 1, 0, none⟩)) ∧
  BitsAt w' (w.heap.size + 1) w.heap.size (List.replicate (min (max n 0) 200).toNat false) ∧ Below w.heap.size w w' := by
 have hmk := mk_boolsP (min (max n 0) 200) w (by omega) (by omega)
 go_enter Tryz.func125, Tryz.ntmps125
 go_wp2
 go_ret
 refine ⟨rfl, ⟨?_, ?_, ?_⟩, ?_⟩
 · rw [heap_alloc_if, if_pos (by simp)]; simp
 · rw [heap_alloc_if, if_neg (by simp), heap_alloc_if, if_pos rfl]; simp
 · simp; omega
 · exact ((Below.refl _ _).alloc (Nat.le_refl _) _).alloc (by simp) _
end

def isIn (l : List Bool) (i : Int) : Bool := decide (0 ≤ i) && decide (i < l.length)

theorem bthere_any {b q : Nat} {l : List Bool} (i : Int) (w : World) (h : BitsAt w b q l) :
 Calls Tryz.prog 128 #[.pointer (some ⟨b, 0, none⟩), .int .i64 i] w fun e w' => e = .returned (.bool (isIn l i)) ∧ w = w' := by
 have h0 := h.cell0
 have hl := h.le
 clear h
 by_cases h1 : 0 ≤ i
 · have d1 : decide (0 ≤ i) = true := by simpa using h1
   go_enter Tryz.func128, Tryz.ntmps128
   go_wp2
   go_ret
   exact ⟨by simp [isIn, h1], rfl⟩
 · have d1 : decide (0 ≤ i) = false := by simpa using h1
   go_enter Tryz.func128, Tryz.ntmps128
   go_wp2
   go_ret
   exact ⟨by simp [isIn, d1], rfl⟩

/-- What place i holds. -/
def bitAt (l : List Bool) (i : Int) : Option Bool := if 0 ≤ i then l[i.toNat]? else none

theorem bitAt_in {l : List Bool} {i : Int} (h0 : 0 ≤ i) (h1 : i < l.length) : bitAt l i = some (l[i.toNat]'(by omega)) := by
 simp [bitAt, h0, show i.toNat < l.length by omega]
theorem bitAt_out {l : List Bool} {i : Int} (h : ¬ (0 ≤ i ∧ i < l.length)) : bitAt l i = none := by
 unfold bitAt
 split
 · rw [List.getElem?_eq_none]; omega
 · rfl

theorem bIs_any {b q : Nat} {l : List Bool} (i : Int) (w : World) (h : BitsAt w b q l) :
 Calls Tryz.prog 129 #[.pointer (some ⟨b, 0, none⟩), .int .i64 i] w fun e w' => e = .returned (.bool (bitAt l i == some true)) ∧ w = w' := by
 have h0 := h.cell0
 have hl := h.le
 by_cases h1 : 0 ≤ i ∧ i < l.length
 · obtain ⟨h1, h2⟩ := h1
   have d1 : isIn l i = true := by simp [isIn, h1, h2]
   have hc := h.cell i.toNat (by omega)
   have hb := bitAt_in h1 h2
   have Hb := Lib.hid hb
   clear hb
   go_enter Tryz.func129, Tryz.ntmps129
   go_wp2_with (go_at_call 128; refine (bthere_any _ _ h).mono ?_; rintro e w' ⟨rfl, rfl⟩)
   go_ret
   exact ⟨by rw [Hb.out]; cases l[i.toNat] <;> rfl, rfl⟩
 · have d1 : isIn l i = false := by simpa [isIn] using h1
   have Hb := Lib.hid (bitAt_out h1)
   go_enter Tryz.func129, Tryz.ntmps129
   go_wp2_with (go_at_call 128; refine (bthere_any _ _ h).mono ?_; rintro e w' ⟨rfl, rfl⟩)
   go_ret
   exact ⟨by rw [Hb.out]; rfl, rfl⟩

theorem BitsAt.set {w : World} {b q : Nat} {l : List Bool} (h : BitsAt w b q l) (i : Nat) (v : Bool) : BitsAt (w.setCell ⟨q, i, none⟩ (.bool v)) b q (l.set i v) := by
 refine ⟨?_, ?_, by simpa using h.le⟩
 · rw [heap_setCell_ne (show b ≠ (⟨q, i, none⟩ : Addr).block from h.ne), h.head]; simp
 · rw [heap_setCell_same h.row]; simp [List.map_set]

def bitSet (l : List Bool) (i : Int) (v : Bool) : List Bool := if bitAt l i = some !v then l.set i.toNat v else l

theorem bSet_any {b q : Nat} {l : List Bool} (i : Int) (w : World) (h : BitsAt w b q l) :
 Calls Tryz.prog 126 #[.pointer (some ⟨b, 0, none⟩), .int .i64 i] w fun e w' =>
  e = .returned (.bool (bitAt l i == some false)) ∧ BitsAt w' b q (bitSet l i true) ∧ Keeps (· = q) w w' := by
 have h0 := h.cell0
 have hl := h.le
 by_cases h1 : 0 ≤ i ∧ i < l.length
 · obtain ⟨h1, h2⟩ := h1
   have d1 : isIn l i = true := by simp [isIn, h1, h2]
   have hc := h.cell i.toNat (by omega)
   have hf := h.free i.toNat
   have hb := bitAt_in h1 h2
   have hs := h.set i.toNat true
   rcases hv : l[i.toNat] with _ | _ <;> rw [hv] at hc hb <;> have Hb := Lib.hid hb <;> clear hb hv
   · go_enter Tryz.func126, Tryz.ntmps126
     go_wp2_with (go_at_call 128; refine (bthere_any _ _ h).mono ?_; rintro e w' ⟨rfl, rfl⟩)
     go_ret
     refine ⟨by rw [Hb.out]; rfl, ?_, Keeps.setCell _ _ _ rfl⟩
     rw [bitSet, Hb.out, if_pos (by simp)]
     exact hs
   · go_enter Tryz.func126, Tryz.ntmps126
     go_wp2_with (go_at_call 128; refine (bthere_any _ _ h).mono ?_; rintro e w' ⟨rfl, rfl⟩)
     go_ret
     refine ⟨by rw [Hb.out]; rfl, ?_, Keeps.refl _ _⟩
     rw [bitSet, Hb.out, if_neg (by simp)]
     exact h
 · have d1 : isIn l i = false := by simpa [isIn] using h1
   have Hb := Lib.hid (bitAt_out h1)
   go_enter Tryz.func126, Tryz.ntmps126
   go_wp2_with (go_at_call 128; refine (bthere_any _ _ h).mono ?_; rintro e w' ⟨rfl, rfl⟩)
   go_ret
   refine ⟨by rw [Hb.out]; rfl, ?_, Keeps.refl _ _⟩
   rw [bitSet, Hb.out, if_neg (by simp)]
   exact h

/-- The least place from k on that is not set. -/
def firstFrom (l : List Bool) (k : Nat) : Option Nat := if h : k < l.length then (if l[k] then firstFrom l (k + 1) else some k) else none
 termination_by l.length - k

theorem firstFrom_none {l : List Bool} {k : Nat} (h : ¬ k < l.length) : firstFrom l k = none := by rw [firstFrom, dif_neg h]
theorem firstFrom_yes {l : List Bool} {k : Nat} (h : k < l.length) (hs : l[k] = true) : firstFrom l k = firstFrom l (k + 1) := by
 rw [firstFrom, dif_pos h, if_pos hs]
theorem firstFrom_no {l : List Bool} {k : Nat} (h : k < l.length) (hs : l[k] = false) : firstFrom l k = some k := by
 rw [firstFrom, dif_pos h, if_neg (by simp [hs])]

def firstVal (o : Option Nat) : Value := match o with | some k => .tuple #[.int .i64 k, .bool true] | none => .tuple #[.int .i64 0, .bool false]

def FirstJ (w : World) (b : Nat) (l : List Bool) (a' : Act) (w' : World) : Prop :=
 w' = w ∧ ∃ k : Nat, k ≤ l.length ∧ firstFrom l 0 = firstFrom l k ∧ ∃ u1 u5 u6 u7 u8 u9 u10 u11 u12 u13 u14 : Value, a' = { tmps := #[.pointer (some ⟨b, 0, none⟩), u1, .int .i64 0, .bool false, .int .i64 k, u5, u6, u7, u8, u9, u10, u11, u12, u13, u14], defers := [] }

theorem bFirst_any {b q : Nat} {l : List Bool} (w : World) (h : BitsAt w b q l) :
 Calls Tryz.prog 60 #[.pointer (some ⟨b, 0, none⟩)] w fun e w' => e = .returned (firstVal (firstFrom l 0)) ∧ w = w' := by
 have hl := h.le
 go_enter Tryz.func60, Tryz.ntmps60
 go_wp2
 refine wp_scope_label 0 (FirstJ w b l) (fun a' _ => l.length - (intOf (a'.tmps.getD 4 undef)).toNat) rfl ?_ ?_
 · go_wp2
   exact ⟨rfl, 0, Nat.zero_le _, rfl, _, _, _, _, _, _, _, _, _, _, _, rfl⟩
 · rintro _ _ ⟨rfl, k, hk, hf, u1, u5, u6, u7, u8, u9, u10, u11, u12, u13, u14, rfl⟩
   have Hf := Lib.hid hf
   clear hf
   by_cases hlt : k < l.length
   · have d1 : isIn l k = true := by simp [isIn, hlt]
     have hb := bitAt_in (l := l) (i := k) (by omega) (by omega)
     rcases hv : l[k] with _ | _ <;> simp only [Int.toNat_natCast, hv] at hb
     · have d2 : (bitAt l k == some true) = false := by rw [hb]; rfl
       clear hb
       go_wp2_with (first | go_step3 | (go_at_call 128; refine (bthere_any _ _ h).mono ?_; rintro e w' ⟨rfl, rfl⟩) | (go_at_call 129; refine (bIs_any _ _ h).mono ?_; rintro e w' ⟨rfl, rfl⟩))
       simp only [Exit.jump]
       go_ret2
       exact ⟨by rw [Hf.out, firstFrom_no hlt hv]; rfl, rfl⟩
     · have d2 : (bitAt l k == some true) = true := by rw [hb]; rfl
       clear hb
       go_wp2_with (first | go_step3 | (go_at_call 128; refine (bthere_any _ _ h).mono ?_; rintro e w' ⟨rfl, rfl⟩) | (go_at_call 129; refine (bIs_any _ _ h).mono ?_; rintro e w' ⟨rfl, rfl⟩))
       refine ⟨rfl, ⟨rfl, k + 1, by omega, by rw [Hf.out, firstFrom_yes hlt hv], _, _, _, _, _, _, _, _, _, _, _, rfl⟩, ?_⟩
       simp [intOf]
       omega
   · have d1 : isIn l k = false := by simp [isIn]; omega
     go_wp2_with (first | go_step3 | (go_at_call 128; refine (bthere_any _ _ h).mono ?_; rintro e w' ⟨rfl, rfl⟩))
     simp only [Exit.jump]
     go_ret2
     exact ⟨by rw [Hf.out, firstFrom_none hlt]; rfl, rfl⟩

end Go.Proofs.YtbbnejehglonjaaGreat
