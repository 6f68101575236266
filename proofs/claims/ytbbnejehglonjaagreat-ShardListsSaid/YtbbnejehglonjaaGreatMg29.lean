/- DERIVED. Contracts and laws that the proofs of this seat share, part 29 of 40: Rf15C Rf15D PvH. -/
import Derived.Test.YtbbnejehglonjaaGreatMg00
import Derived.Test.YtbbnejehglonjaaGreatMg27
import Derived.Test.YtbbnejehglonjaaGreatMg28
/- DERIVED. Contracts of clathriref15.Left, First, holes. -/
namespace Go.Proofs.YtbbnejehglonjaaGreat
open Go.RowKit
attribute [local irreducible] Calls
theorem ORow.lt {w : World} {B g n cap : Nat} {l : List Bool} (h : ORow w B (.slice (some ⟨g, 0, none⟩) n cap) l) : g < w.heap.size := by
  rcases h.2 with ⟨h', _⟩ | ⟨g', cap', cur, h', _, hg, _⟩
  · simp at h'
  · simp only [Value.slice.injEq, Option.some.injEq, Addr.mk.injEq, and_true] at h'
    obtain ⟨rfl, _⟩ := h'; exact block_lt hg

end Go.Proofs.YtbbnejehglonjaaGreat

/- DERIVED. Contracts of clathriref15.fileAt, where, holes, next. -/
namespace Go.Proofs.YtbbnejehglonjaaGreat
open Go.RowKit
attribute [local irreducible] Calls
theorem blkD_nat (bs : List Blk) (j : Nat) : blkD bs (j : Int) = bs.getD j Blk.zero := by unfold blkD; simp
theorem inB_nat {bs : List Blk} {j : Nat} (h : j < bs.length) : inB bs (j : Int) = true := by simp [inB, h]
theorem inB_cases (bs : List Blk) (a : Int) : (a < 0 ∧ inB bs a = false) ∨ ((bs.length : Int) ≤ a ∧ 0 ≤ a ∧ inB bs a = false) ∨ ∃ j : Nat, a = (j : Int) ∧ j < bs.length ∧ inB bs a = true := by
  by_cases h : a < 0
  · left; exact ⟨h, by simp [inB]; omega⟩
  · by_cases h2 : (bs.length : Int) ≤ a
    · right; left; exact ⟨h2, by omega, by simp [inB]; omega⟩
    · right; right
      obtain ⟨j, rfl⟩ := Int.eq_ofNat_of_zero_le (show 0 ≤ a by omega)
      exact ⟨j, rfl, by omega, inB_nat (by omega)⟩
/-! Which block is block k of a file. -/
end Go.Proofs.YtbbnejehglonjaaGreat

/- DERIVED. Contracts of vol's Get, Blocks, Room, Sync, Tidy. -/
namespace Go.Proofs.YtbbnejehglonjaaGreat
open Go.RowKit
attribute [local irreducible] Calls
set_option maxRecDepth 100000

/-- A block of a row, or none. -/
def getB (bs : List Blk) (a : Int) : Blk := if inB bs a = true then blkD bs a else Blk.zero
section
variable {w : World} {Sd : Nat → Prop} {v d reg : Nat} {s : Sh} {epoch seq : Nat} {used : Int} {gb cap m : Nat} {bs : List Blk} {Dm : ML} {D : Dv} {c : Nat}
set_option maxHeartbeats 2000000 in
theorem VolP.get (h : VolP w Sd v d reg s epoch seq used gb cap m bs Dm D c) (a : Int) :
    Calls Tryz.prog 23 #[.pointer (some ⟨v, 0, none⟩), .int .i64 a] w fun e w' => e = .returned (.tuple #[.agg (getB bs a).cells, .bool (inB bs a)]) ∧ Below w.heap.size w w' := by
  have hlen : bs.length ≤ 200 := by rw [← h.slen]; exact h.sok.blocks
  have hB0 : Below w.heap.size w (w.alloc (.cells Blk.zero.cells 37)) := grow_alloc (Below.refl _ _) _
  have hX : BlkAt (w.alloc (.cells Blk.zero.cells 37)) w.heap.size Blk.zero := BlkAt.alloc_new w _
  have c11 := VolO.c11 h.o
  have c11' := VolO.c11 (grow_obj hB0 h.o)
  have HR := Lib.hid (And.intro (h.row.below hB0) (And.intro hB0 hX))
  clear h hX hB0
  unfold getB
  rcases inB_cases bs a with ⟨h1, h2⟩ | ⟨h0, h1, h2⟩ | ⟨j, rfl, hj, h2⟩
  · rw [h2]
    simp only [Bool.false_eq_true, if_false]
    have hbk := HR.out.2.2.has
    have hrk := HR.out.2.2.row
    go_enter Tryz.func23, Tryz.ntmps23
    go_wp2_with fail
    refine bodyPost_ret (results_two rfl (resOne_blk rfl (BlkAt.alloc_new w Blk.zero).row) (resOne_tmp _ _ _)) rfl ?_
    exact ⟨rfl, grow_alloc (Below.refl _ _) _⟩
  · rw [h2]
    simp only [Bool.false_eq_true, if_false]
    have hbk := HR.out.2.2.has
    have hrk := HR.out.2.2.row
    have hn : ¬ (a < (bs.length : Int)) := by omega
    go_enter Tryz.func23, Tryz.ntmps23
    go_wp2_with fail
    refine bodyPost_ret (results_two rfl (resOne_blk rfl (BlkAt.alloc_new w Blk.zero).row) (resOne_tmp _ _ _)) rfl ?_
    exact ⟨rfl, grow_alloc (Below.refl _ _) _⟩
  · rw [h2, if_pos rfl, blkD_nat]
    have hbk := HR.out.2.2.has
    have hrk := HR.out.2.2.row
    have hk1 := HR.out.1.has j hj
    have hk2 := HR.out.1.row j hj
    have i0 : (0 : Int) ≤ (j : Int) := Int.natCast_nonneg _
    have i1 : (j : Int) < (bs.length : Int) := by omega
    generalize bs.getD j Blk.zero = b at *
    go_enter Tryz.func23, Tryz.ntmps23
    go_wp2_with fail
    refine bodyPost_ret (results_two rfl (resOne_blk rfl (BlkAt.alloc_new w b).row) (resOne_tmp _ _ _)) rfl ?_
    exact ⟨rfl, grow_alloc (Below.refl _ _) _⟩
theorem VolP.blocks (h : VolP w Sd v d reg s epoch seq used gb cap m bs Dm D c) :
    Calls Tryz.prog 61 #[.pointer (some ⟨v, 0, none⟩)] w fun e w' => e = .returned (.int .i64 bs.length) ∧ w' = w := by
  have c4 := VolO.c4 h.o
  rw [h.slen] at c4
  clear h
  go_enter Tryz.func61, Tryz.ntmps61
  go_wp2_with fail
  go_ret
  exact ⟨rfl, rfl⟩
theorem VolP.room (h : VolP w Sd v d reg s epoch seq used gb cap m bs Dm D c) :
    Calls Tryz.prog 120 #[.pointer (some ⟨v, 0, none⟩)] w fun e w' => e = .returned (.int .i64 ((s.log : Int) - used)) ∧ w' = w.drew := by
  have c5 := VolO.c5 h.o
  have c10 := VolO.c10 h.o
  have hu := h.ub
  have hl := h.sok.log
  have hw : IntKind.i64.wrap ((s.log : Int) - used) = (s.log : Int) - used := IntWalk.i64_in _ (by omega)
  clear h
  go_enter Tryz.func120, Tryz.ntmps120
  go_upto_region 3 with fail
  refine wp_region_held_drew (S := fun w' => w'.cell? ⟨v, 5, none⟩ = some (.int .i64 s.log) ∧ w'.cell? ⟨v, 10, none⟩ = some (.int .i64 used) ∧ True) (by kernel_rfl) (⟨c5, c10, trivial⟩) (fun hHeld => ?_)
  show wpAnyH _ _ _ _ _ 11 #[false, false, false, false, false, false, false, false, false, false, false] _ _
  refine wpAnyH_take (i := 0) (v := ?kv1) rfl (by kernel_rfl) (by kernel_rfl) (by kernel_rfl) (fun _ _ _ h => h) (Or.inl ⟨by rfl, ?ky1⟩) (by assumption) ?kr1
  case ky1 => (intro w hSw; (try dsimp only at hSw); go_split_ands; (try simp only [qA, qB]); go_simp; (try with_reducible rfl))
  try simp only [Act.put, qA, qB, qD, qE, qF]
  refine wpAnyH_take (i := 1) (v := ?kv2) rfl (by kernel_rfl) (by kernel_rfl) (by kernel_rfl) (fun _ _ _ h => h) (Or.inl ⟨by rfl, ?ky2⟩) (by assumption) ?kr2
  case ky2 => (intro w hSw; (try dsimp only at hSw); go_split_ands; (try simp only [qA, qB, qC]); go_simp; (try with_reducible rfl))
  try simp only [Act.put, qA, qB, qC, qD, qE, qF]
  refine wpAnyH_take (i := 2) (v := ?kv3) rfl (by kernel_rfl) (by kernel_rfl) (by kernel_rfl) (fun _ _ _ h => h) (Or.inl ⟨by rfl, ?ky3⟩) (by assumption) ?kr3
  case ky3 => (intro w hSw; (try dsimp only at hSw); go_split_ands; (try simp only [qA, qB, qC]); go_simp; (try with_reducible rfl))
  try simp only [Act.put, qA, qB, qC, qD, qE, qF]
  refine wpAnyH_take (i := 3) (v := ?kv4) rfl (by kernel_rfl) (by kernel_rfl) (by kernel_rfl) (fun _ _ _ h => h) (Or.inl ⟨by rfl, ?ky4⟩) (by assumption) ?kr4
  case ky4 => (intro w hSw; (try dsimp only at hSw); go_split_ands; (try simp only [qA, qB, qC]); go_simp; (try with_reducible rfl))
  try simp only [Act.put, qA, qB, qC, qD, qE, qF]
  refine wpAnyH_take (i := 4) (v := ?kv5) rfl (by kernel_rfl) (by kernel_rfl) (by kernel_rfl) (fun _ _ _ h => h) (Or.inl ⟨by rfl, ?ky5⟩) (by assumption) ?kr5
  case ky5 => (intro w hSw; (try dsimp only at hSw); go_split_ands; (try simp only [qA, qB, qC]); go_simp; (try with_reducible rfl))
  try simp only [Act.put, qA, qB, qC, qD, qE, qF]
  refine wpAnyH_take (i := 5) (v := ?kv6) rfl (by kernel_rfl) (by kernel_rfl) (by kernel_rfl) (fun _ _ _ h => h) (Or.inl ⟨by rfl, ?ky6⟩) (by assumption) ?kr6
  case ky6 => (intro w hSw; (try dsimp only at hSw); go_split_ands; (try simp only [qA, qB, qC]); go_simp; (try with_reducible rfl))
  try simp only [Act.put, qA, qB, qC, qD, qE, qF]
  refine wpAnyH_take (i := 6) (v := ?kv7) rfl (by kernel_rfl) (by kernel_rfl) (by kernel_rfl) (fun _ _ _ h => h) (Or.inl ⟨by rfl, ?ky7⟩) (by assumption) ?kr7
  case ky7 => (intro w hSw; (try dsimp only at hSw); go_split_ands; (try simp only [qA, qB, qC]); go_simp; (try with_reducible rfl))
  try simp only [Act.put, qA, qB, qC, qD, qE, qF]
  refine wpAnyH_take (i := 7) (v := ?kv8) rfl (by kernel_rfl) (by kernel_rfl) (by kernel_rfl) (fun _ _ _ h => h) (Or.inl ⟨by rfl, ?ky8⟩) (by assumption) ?kr8
  case ky8 => (intro w hSw; (try dsimp only at hSw); go_split_ands; (try simp only [qA, qB, qC]); go_simp; (try with_reducible rfl))
  try simp only [Act.put, qA, qB, qC, qD, qE, qF]
  refine wpAnyH_take (i := 8) (v := ?kv9) rfl (by kernel_rfl) (by kernel_rfl) (by kernel_rfl) (fun _ _ _ h => h) (Or.inl ⟨by rfl, ?ky9⟩) (by assumption) ?kr9
  case ky9 => (intro w hSw; (try dsimp only at hSw); go_split_ands; (try simp only [qA, qB, qC]); go_simp; (try with_reducible rfl))
  try simp only [Act.put, qA, qB, qC, qD, qE, qF]
  refine wpAnyH_take (i := 9) (v := ?kv10) rfl (by kernel_rfl) (by kernel_rfl) (by kernel_rfl) (fun _ _ _ h => h) (Or.inl ⟨by rfl, ?ky10⟩) (by assumption) ?kr10
  case ky10 => (intro w hSw; (try dsimp only at hSw); go_split_ands; (try simp only [qA, qB, qC]); go_simp; (try with_reducible rfl))
  try simp only [Act.put, qA, qB, qC, qD, qE, qF]
  refine wpAnyH_take (i := 10) (v := ?kv11) rfl (by kernel_rfl) (by kernel_rfl) (by kernel_rfl) (fun _ _ _ h => h) (Or.inl ⟨by rfl, ?ky11⟩) (by assumption) ?kr11
  case ky11 => (intro w hSw; (try dsimp only at hSw); go_split_ands; (try simp only [qA, qB, qC]); go_simp; (try with_reducible rfl))
  try simp only [Act.put, qA, qB, qC, qD, qE, qF]
  refine wpAnyH_done (by kernel_rfl) ?_ _
  go_wp2_with fail
  go_ret
  exact ⟨by first | rfl | rw [hw], rfl⟩
end
end Go.Proofs.YtbbnejehglonjaaGreat
