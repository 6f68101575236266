/- DERIVED. Contracts and laws that the proofs of this seat share, part 26 of 32: PzF PzG PzH NoA NoB. -/
import Derived.Maps.RangeRun
import Derived.ArgAppend
import Derived.Test.YtanmihhlkelgeaaGreatMg01
import Derived.Test.YtanmihhlkelgeaaGreatMg02
import Derived.Test.YtanmihhlkelgeaaGreatMg04
import Derived.Test.YtanmihhlkelgeaaGreatMg12
import Derived.Test.YtanmihhlkelgeaaGreatMg13
import Derived.Test.YtanmihhlkelgeaaGreatMg25
/- DERIVED. Contract of check.Whole at the blocks of a new store. -/
namespace Go.Proofs.YtanmihhlkelgeaaGreat
open Go.RowKit
attribute [local irreducible] Calls
set_option maxRecDepth 100000

def blks0 : List Blk := [superBlk, Blk.zero, Blk.zero, Blk.zero, Blk.zero, Blk.zero, Blk.zero, Blk.zero]
def ckCells (gb cap next m1 m2 : Nat) : Array Value := #[.int .i64 0, .slice (some ⟨gb, 0, none⟩) 8 cap, .int .u32 next, .map (some m1), .slice none 0 0, .map (some m2)]
theorem run_rangeE {w : World} {m clock : Nat} (t k e : TypeId) (ht : Tryz.prog.underlying t = some (.map k e)) (h : objAt w m = some (.map #[] clock)) :
    (Instr.range t (.map (some m))).run Tryz.prog w = .ok (.pointer (some ⟨w.heap.size, 0, none⟩)) (w.alloc (.mapIter (some m) clock #[] clock)) := run_range_map w t k e m #[] clock ht h
theorem run_nextE {w : World} {m r clock : Nat} (ty : TypeId) (hr : objAt w r = some (.mapIter (some m) clock #[] clock)) (h : objAt w m = some (.map #[] clock)) :
    (Instr.next (.pointer (some ⟨r, 0, none⟩)) false ty).run Tryz.prog w = .ok (.tuple #[.bool false]) w := by
  rcases run_next_at (P := Tryz.prog) w ty r m clock clock #[] #[] clock hr h (fun x hx => by simp at hx) (Nat.le_refl _) with ⟨_, h⟩ | ⟨e, he, _⟩
  · exact h
  · simp [leftOf] at he
structure CkAt (w : World) (C gb cap next m1 m2 : Nat) : Prop where
  obj : objAt w C = some (.cells (ckCells gb cap next m1 m2) 184 (0, 0))
  row : KRow w 0 (.slice (some ⟨gb, 0, none⟩) 8 cap) blks0
  ones : MapI w m1 []
  named : MapI w m2 []
theorem CkAt.below {w w' : World} {C gb cap next m1 m2 : Nat} (h : CkAt w C gb cap next m1 m2) (hb : Below w.heap.size w w') : CkAt w' C gb cap next m1 m2 := ⟨grow_obj hb h.obj, h.row.below hb, h.ones.below hb, h.named.below hb⟩
theorem MapI.empty {w : World} {m : Nat} (h : MapI w m []) : ∃ clock, objAt w m = some (.map #[] clock) := by
  obtain ⟨es, clock, h1, h2, _⟩ := h.ex
  have : es = #[] := by
    apply Array.eq_empty_of_size_eq_zero
    have := congrArg List.length h2
    simpa using this
  rw [this] at h1
  exact ⟨clock, h1⟩
set_option maxHeartbeats 1000000 in
theorem ckEnds_ok {w : World} {C gb cap next m1 m2 : Nat} (h : CkAt w C gb cap next m1 m2) : Calls Tryz.prog 130 #[.pointer (some ⟨C, 0, none⟩)] w fun e w' => e = .returned (.map (some w.heap.size)) ∧ w' = w.alloc (.map #[] 0) := by
  have hmm : ∀ w, (Instr.makeMap 249 none).run Tryz.prog w = .ok (.map (some w.heap.size)) (w.alloc (.map #[] 0)) := fun w => run_makeMap _ w
  have o1 := grow_obj (grow_alloc (Below.refl w.heap.size w) (.map #[] 0)) h.obj
  unfold ckCells at o1
  have c4 := cell_obj o1 4
  clear o1 h
  go_enter Tryz.func130, Tryz.ntmps130
  go_wp2_with fail
  refine wp_loop_rounds 1 ?_
  rw [rounds_succ]
  go_wp2_with fail
  go_ret
  exact ⟨rfl, rfl⟩
set_option maxHeartbeats 1000000 in
theorem ckEnds {w : World} {C gb cap next m1 m2 : Nat} (h : CkAt w C gb cap next m1 m2) : Calls Tryz.prog 89 #[.pointer (some ⟨C, 0, none⟩)] w fun e w' => e = .returned (.bool true) ∧ Below w.heap.size w w' := by
  have ho : objAt (w.alloc (.map #[] 0)) w.heap.size = some (.map #[] 0) := by rw [objAt_alloc, if_pos rfl]
  have hrg := run_rangeE 249 _ _ Tryz.underlying249 ho
  have hnx := fun ty => run_nextE (w := (w.alloc (.map #[] 0)).alloc (.mapIter (some w.heap.size) 0 #[] 0)) (r := (w.alloc (.map #[] 0)).heap.size) ty (by rw [objAt_alloc, if_pos rfl]) (grow_obj (grow_alloc (Below.refl _ _) _) ho)
  simp only [size_alloc] at hrg hnx
  have HU := Lib.hid (ckEnds_ok h)
  clear h ho
  go_enter Tryz.func89, Tryz.ntmps89
  go_wp2_with (go_at_call 130; refine HU.out.mono ?_; rintro e w1 ⟨rfl, rfl⟩)
  refine wp_loop_rounds 1 ?_
  rw [rounds_succ]
  go_wp2_with fail
  go_ret
  exact ⟨rfl, grow_alloc (grow_alloc (Below.refl _ _) _) _⟩
set_option maxHeartbeats 1000000 in
theorem ckEntries {w : World} {C gb cap next m1 m2 : Nat} (h : CkAt w C gb cap next m1 m2) : Calls Tryz.prog 87 #[.pointer (some ⟨C, 0, none⟩)] w fun e w' => e = .returned (.bool true) ∧ Below w.heap.size w w' := by
  have hmm : ∀ w, (Instr.makeMap 243 none).run Tryz.prog w = .ok (.map (some w.heap.size)) (w.alloc (.map #[] 0)) := fun w => run_makeMap _ w
  have hmm2 : ∀ w, (Instr.makeMap 244 none).run Tryz.prog w = .ok (.map (some w.heap.size)) (w.alloc (.map #[] 0)) := fun w => run_makeMap _ w
  have hB : Below w.heap.size w ((w.alloc (.map #[] 0)).alloc (.map #[] 0)) := grow_alloc (grow_alloc (Below.refl w.heap.size w) _) _
  have h2 := h.below hB
  obtain ⟨clock, ho⟩ := h2.ones.empty
  have hrg := run_rangeE 181 _ _ Tryz.underlying181 ho
  have hnx := fun ty => run_nextE (w := ((w.alloc (.map #[] 0)).alloc (.map #[] 0)).alloc (.mapIter (some m1) clock #[] clock)) (r := ((w.alloc (.map #[] 0)).alloc (.map #[] 0)).heap.size) ty (by rw [objAt_alloc, if_pos rfl]) (grow_obj (grow_alloc (Below.refl _ _) _) ho)
  simp only [size_alloc] at hrg hnx
  have o1 := h2.obj
  unfold ckCells at o1
  have c3 := cell_obj o1 3
  have c4 := cell_obj o1 4
  have HB := Lib.hid hB
  clear h h2 ho o1 hB
  go_enter Tryz.func87, Tryz.ntmps87
  go_wp2_with fail
  refine wp_loop_rounds 1 ?_
  rw [rounds_succ]
  go_wp2_with fail
  refine wp_loop_rounds 1 ?_
  rw [rounds_succ]
  go_wp2_with fail
  go_ret
  exact ⟨rfl, grow_alloc HB.out _⟩
end Go.Proofs.YtanmihhlkelgeaaGreat

/- DERIVED. Contract of check.Whole at the blocks of a new store: its super, reads, files. -/
namespace Go.Proofs.YtanmihhlkelgeaaGreat
open Go.RowKit
attribute [local irreducible] Calls
set_option maxRecDepth 100000

theorem aggOne : AggOf Tryz.prog 238 10 := ⟨⟨_, Tryz.underlying238, rfl⟩, by kernel_rfl⟩
noncomputable def oneStore (x y : Value) (w : World) : Result Unit := Sem.run Tryz.prog (Instr.storeAt 238 x y) w
def hasOne (w : World) (g : Nat) : Bool := (rowAt w g).any (·.size == 10)
theorem hasOne_some {w : World} {g : Nat} (h : hasOne w g = true) : ∃ c, rowAt w g = some c ∧ c.size = 10 := by
  unfold hasOne at h
  cases hr : rowAt w g with
  | none => rw [hr] at h; cases h
  | some c => rw [hr] at h; exact ⟨c, rfl, by simpa using h⟩
theorem hasOne_obj {w : World} {g : Nat} {c : Array Value} {t : TypeId} (h : objAt w g = some (.cells c t (0, 0))) (hc : c.size = 10) : hasOne w g = true := by
  unfold hasOne; rw [rowAt_heap h]; simp [hc]
@[go_sem] theorem hasOne_new (w : World) (c : Array Value) (t : TypeId) (n : Nat) (hn : n = w.heap.size) (hc : c.size = 10) : hasOne (w.alloc (.cells c t)) n = true := by
  unfold hasOne; rw [rowAt_alloc_at w c t n hn]; simp [hc]
@[go_sem] theorem hasOne_drew (w : World) (n : Nat) : hasOne w.drew n = hasOne w n := rfl
@[go_sem] theorem store_one (w : World) (gB : Nat) (k g l s a0 a1 a2 a3 i : Int) (t : ByteArray) (hB : hasOne w gB = true) :
    oneStore (.pointer (some ⟨gB, 0, none⟩)) (.agg #[.int .i64 k, .int .u32 g, .int .i64 l, .int .i64 s, .int .i64 a0, .int .i64 a1, .int .i64 a2, .int .i64 a3, .int .i64 i, .string t]) w = .ok () (w.setRow gB #[.int .i64 k, .int .u32 g, .int .i64 l, .int .i64 s, .int .i64 a0, .int .i64 a1, .int .i64 a2, .int .i64 a3, .int .i64 i, .string t]) := by
  obtain ⟨c, hc, hs⟩ := hasOne_some hB
  refine run_store_agg aggOne w gB _ hc hs rfl ?_
  simp [Value.oneCell']
@[go_sem ↓] theorem exec_store_one (ρ : Operand → Value) (w : World) (dst : Option Tmp) (x y : Operand) (ty : TypeId) (pos : String) (after : Array Edge) (gd : Option (Nat × Bool)) :
    (execOp ρ ⟨dst, .store 238 x y, ty, pos, after, gd⟩).run Tryz.prog w = (oneStore (ρ x) (ρ y) w).andThen fun _ w => .ok .skip w := by
  simp only [execOp, oneStore, Sem.run_bind]; rfl
attribute [irreducible] oneStore
theorem zero_one (w : World) : (zeroValue 238).run Tryz.prog w = .ok (.agg #[.int .i64 0, .int .u32 0, .int .i64 0, .int .i64 0, .int .i64 0, .int .i64 0, .int .i64 0, .int .i64 0, .int .i64 0, .string ⟨#[]⟩]) w := by kernel_rfl
set_option maxHeartbeats 2000000 in
theorem ckFiles {w : World} {C gb cap next m1 m2 : Nat} (h : CkAt w C gb cap next m1 m2) : Calls Tryz.prog 88 #[.pointer (some ⟨C, 0, none⟩)] w fun e w' => e = .returned (.bool true) ∧ Below w.heap.size w w' := by
  have o1 := h.obj
  unfold ckCells at o1
  have c1 := cell_obj o1 1
  have H := Lib.hid h
  clear h o1
  go_enter Tryz.func88, Tryz.ntmps88
  go_wp2_with fail
  clear c1
  go_loopw [10] (fun i wr => ∃ k : Nat, k ≤ 8 ∧ i = .int .i64 k ∧ Below w.heap.size w wr) (fun i _ => 8 - (Go.RowKit.intOf i).toNat)
  case atStart => exact ⟨0, Nat.zero_le _, rfl, Below.refl _ _⟩
  case round =>
    obtain ⟨k, hk, rfl, hb⟩ := hrel
    by_cases hlt : k < 8
    · have hlt' : (k : Int) < 8 := by omega
      have h' := H.out.below hb
      have o1 := h'.obj
      unfold ckCells at o1
      have c3 := cell_obj o1 3
      have hlk := run_lookupI (P := Tryz.prog) h'.ones Tryz.underlying181 Tryz.underlying3 (zero_one wr) k false
      rw [show lk [] (k : Int) = none from rfl] at hlk
      simp only [Bool.false_eq_true, if_false, Option.getD_none] at hlk
      have HB := Lib.hid hb
      clear h' o1 hb
      go_wp2_with fail
      go_roundw
      case rel => exact ⟨k + 1, by omega, by go_num, grow_alloc HB.out _⟩
      case measure => simp [Go.RowKit.intOf]; omega
    · obtain rfl : k = 8 := by omega
      have HB := Lib.hid hb
      clear hb
      go_wp2_with fail
      go_ret
      exact ⟨rfl, HB.out⟩
theorem zero_kind : Blk.zero.kind = 0 := by rw [zero_of, Blk.of_kind]
theorem blks0_zero : ∀ k, k < 7 → blks0.getD (k + 1) Blk.zero = Blk.zero := by
  intro k hk
  match k, hk with
  | 0, _ => rfl
  | 1, _ => rfl
  | 2, _ => rfl
  | 3, _ => rfl
  | 4, _ => rfl
  | 5, _ => rfl
  | 6, _ => rfl
  | k + 7, h => omega
set_option maxHeartbeats 4000000 in
theorem ckReads {w : World} {C gb cap next m1 m2 : Nat} (h : CkAt w C gb cap next m1 m2) (hcap : 8 ≤ cap) : Calls Tryz.prog 86 #[.pointer (some ⟨C, 0, none⟩)] w fun e w' => e = .returned (.bool true) ∧ Below w.heap.size w w' := by
  have o1 := h.obj
  unfold ckCells at o1
  have c1 := cell_obj o1 1
  have H := Lib.hid h
  clear h o1
  go_enter Tryz.func86, Tryz.ntmps86
  go_wp2_with fail
  clear c1
  go_loopw [15] (fun i wr => ∃ k : Nat, k ≤ 7 ∧ i = .int .i64 k ∧ Below w.heap.size w wr) (fun i _ => 7 - (Go.RowKit.intOf i).toNat)
  case atStart => exact ⟨0, Nat.zero_le _, rfl, Below.refl _ _⟩
  case round =>
    obtain ⟨k, hk, rfl, hb⟩ := hrel
    by_cases hlt : k < 7
    · have hlt' : (k : Int) < 7 := by omega
      have h' := H.out.below hb
      have hb2 : Below wr.heap.size wr (wr.alloc (.cells Blk.zero.cells 139)) := grow_alloc (Below.refl _ _) _
      have hs1 := h'.row.has (k + 1) (by show k + 1 < 8; omega)
      have hr1 := h'.row.row (k + 1) (by show k + 1 < 8; omega)
      have hs2 := (h'.row.below hb2).has (k + 1) (by show k + 1 < 8; omega)
      have hr2 := (h'.row.below hb2).row (k + 1) (by show k + 1 < 8; omega)
      rw [blks0_zero k hlt] at hr1 hr2
      rw [show (k + 1) * 57 = 57 + k * 57 by omega] at hs1 hr1 hs2 hr2
      have HB := Lib.hid hb
      have hX : BlkAt (wr.alloc (.cells Blk.zero.cells 139)) wr.heap.size Blk.zero := BlkAt.alloc_new wr _
      have hbx := hX.has
      have hrx := hX.row
      have k0 := cell_obj hX 0
      rw [Blk.cell0, zero_kind] at k0
      have HH := Lib.hid h'
      clear h' hb hb2 hX
      go_upto_region 5 with fail
      obtain ⟨w4, hw4⟩ : ∃ w4, w4 = wr.alloc (.cells Blk.zero.cells 139) := ⟨_, rfl⟩
      rw [← hw4] at k0 hbx hrx
      rw [← hw4]
      have HW := Lib.hid hw4
      clear hs1 hr1 hs2 hr2 hw4
      go_wp2_with fail
      go_roundw
      case rel => exact ⟨k + 1, by omega, by go_num, by rw [HW.out]; exact grow_alloc HB.out _⟩
      case measure => simp [Go.RowKit.intOf]; omega
    · obtain rfl : k = 7 := by omega
      have HB := Lib.hid hb
      clear hb
      go_wp2_with fail
      go_ret
      exact ⟨rfl, HB.out⟩
end Go.Proofs.YtanmihhlkelgeaaGreat

/- DERIVED. Contract of check.Whole at the blocks of a new store. -/
namespace Go.Proofs.YtanmihhlkelgeaaGreat
open Go.RowKit
attribute [local irreducible] Calls
set_option maxRecDepth 100000

theorem step_copy4 {ops : Array Oper} {o : Oper} {a b0 : Act} {w : World} {K : Act → World → Prop} {Q : Exit → Act → World → Prop} {F : Prop} (hgd : o.guard = none) (d s : Operand) (ho : o.op = .call { callee := .builtin .copy, args := #[d, s], argTypes := #[22, 22] })
    {g g2 : Nat} (hd : a.eval d = .slice (some ⟨g, 1, none⟩) 4 56) (hs : a.eval s = .slice (some ⟨g2, 1, none⟩) 4 56) {b b' : Blk} (cs : List Value) (hb : BlkAt w g b) (hl : cs.length = 4) (hc : ∀ j u, cs[j]? = some u → w.cell? ⟨g2, 1 + j, none⟩ = some u) (h1 : ∀ u ∈ cs, u.oneCell' = true)
    (he : (b.cells.toList.take 1 ++ cs ++ b.cells.toList.drop 5).toArray = b'.cells)
    (h : ∀ v w', w' = w.setRow g b'.cells → K (a.put o.dst v) w') : if Region.wanted o (yielded ops b0.tmps) = true then Oper.wp Tryz.prog o a w K Q else F := by
  have hw : Region.wanted o (yielded ops b0.tmps) = true := by simp [Region.wanted, hgd]
  rw [if_pos hw]
  have hr := run_copy_row (P := Tryz.prog) w 22 22 o.type 5 g 1 4 56 ⟨g2, 1, none⟩ 4 56 b.cells 139 cs Tryz.underlying22 (by kernel_rfl) hb (by rw [hl]; rfl) (fun j v hj => by
    unfold Addr.add; split
    · rename_i e; subst e; exact hc 0 v hj
    · exact hc j v hj) (by rw [hl, b.size_cells]; decide) h1
  rw [hl, he] at hr
  unfold Oper.wp execOp
  simp only [ho, resolve, invoke, builtin, Sem.run_bind, Sem.run_pure, Result.andThen_ok, List.map_toArray, List.map_cons, List.map_nil, hd, hs]
  rw [hr]
  exact h _ _ rfl
set_option maxHeartbeats 8000000 in
theorem ckSuper {w : World} {C gb cap m1 m2 : Nat} (h : CkAt w C gb cap 0 m1 m2) : Calls Tryz.prog 85 #[.pointer (some ⟨C, 0, none⟩)] w fun e w' => e = .returned (.bool true) ∧ Keeps (fun q => q = C) w w' ∧ CkAt w' C gb cap 1 m1 m2 := by
  have hB : Below w.heap.size w (w.alloc (.cells Blk.zero.cells 139)) := grow_alloc (Below.refl _ _) _
  have hX0 : BlkAt (w.alloc (.cells Blk.zero.cells 139)) w.heap.size Blk.zero := BlkAt.alloc_new w _
  have hb0 := hX0.has
  have hr0 := hX0.row
  have h' := h.below hB
  have o1 := h.obj
  unfold ckCells at o1
  have c1 := cell_obj o1 1
  have hs1 : hasOff w gb 0 = true := h.row.has 0 (by show 0 < 8; omega)
  have hr1 : rowOff w gb 0 = some superBlk.cells := h.row.row 0 (by show 0 < 8; omega)
  have hs2 : hasOff (w.alloc (.cells Blk.zero.cells 139)) gb 0 = true := h'.row.has 0 (by show 0 < 8; omega)
  have hr2 : rowOff (w.alloc (.cells Blk.zero.cells 139)) gb 0 = some superBlk.cells := h'.row.row 0 (by show 0 < 8; omega)
  have H := Lib.hid h
  clear h h' o1 hB hX0
  go_enter Tryz.func85, Tryz.ntmps85
  go_upto_region 2 with fail
  have hX1 : BlkAt (w.alloc (.cells superBlk.cells 139)) w.heap.size superBlk := BlkAt.alloc_new w _
  have hB1 : Below w.heap.size w (w.alloc (.cells superBlk.cells 139)) := grow_alloc (Below.refl _ _) _
  have h1 := H.out.below hB1
  obtain ⟨w1, hw1⟩ : ∃ w1, w1 = w.alloc (.cells superBlk.cells 139) := ⟨_, rfl⟩
  obtain ⟨N, hN⟩ : ∃ N, N = w.heap.size := ⟨_, rfl⟩
  rw [← hw1] at hX1 hB1 h1
  rw [← hN] at hX1
  rw [← hw1, ← hN]
  have o1 := h1.obj
  unfold ckCells at o1
  have d2 : w1.cell? ⟨C, 2, none⟩ = some (.int .u32 0) := cell_obj o1 2
  have f2 := free_obj o1 2
  have k0 : w1.cell? ⟨N, 1, none⟩ = some (.int .u8 0) := (hX1.cell 0 (by decide)).trans (by kernel_rfl)
  have k1 : w1.cell? ⟨N, 2, none⟩ = some (.int .u8 0) := (hX1.cell 1 (by decide)).trans (by kernel_rfl)
  have k2 : w1.cell? ⟨N, 3, none⟩ = some (.int .u8 0) := (hX1.cell 2 (by decide)).trans (by kernel_rfl)
  have k3 : w1.cell? ⟨N, 4, none⟩ = some (.int .u8 1) := (hX1.cell 3 (by decide)).trans (by kernel_rfl)
  have hNC : ¬ N = C := fun e => ne_of_obj h1.obj hX1 (by decide) e.symm
  have HK := Lib.hid (And.intro k0 (And.intro k1 (And.intro k2 (And.intro k3 hNC))))
  have H1 := Lib.hid (And.intro h1 (And.intro hX1 (And.intro hB1 hN)))
  have z0 : bits BinOp.or IntKind.u32 0 0 = 0 := by decide
  have z1 : bits BinOp.or IntKind.u32 0 1 = 1 := by decide
  clear h1 hX1 hB1 hN hw1 o1 hb0 hr0 c1 hs1 hr1 hs2 hr2 k0 k1 k2 k3 hNC d2 f2
  go_wp2_with fail
  go_loopw [16] (fun i wr => ∃ k : Nat, k ≤ 4 ∧ i = .int .i64 k ∧ Keeps (fun q => q = C) w1 wr ∧ objAt wr C = some (.cells (ckCells gb cap (if k < 4 then 0 else 1) m1 m2) 184 (0, 0))) (fun i _ => 4 - (Go.RowKit.intOf i).toNat)
  case atStart => exact ⟨0, Nat.zero_le _, rfl, Keeps.refl _ _, H1.out.1.obj⟩
  case round =>
    obtain ⟨k, hk, rfl, hK, ho⟩ := hrel
    have hby : ∀ j v, w1.cell? ⟨N, j, none⟩ = some v → wr.cell? ⟨N, j, none⟩ = some v := fun j v hv => (World.cell?_of_block (hK.block N (World.block_lt_of_cell? _ _ hv) HK.out.2.2.2.2)).trans hv
    by_cases hlt : k < 4
    · rw [if_pos hlt] at ho
      unfold ckCells at ho
      have d2 : wr.cell? ⟨C, 2, none⟩ = some (.int .u32 0) := cell_obj ho 2
      have f2 := free_obj ho 2
      have hset := fun x => objAt_setCell ho 2 x
      by_cases h3 : k = 3
      · subst h3
        have kk := hby _ _ HK.out.2.2.2.1
        have HR := Lib.hid (And.intro hK hset)
        clear hK ho hset hby
        go_wp2_with fail
        go_roundw
        case rel => exact ⟨4, by omega, by go_num, HR.out.1.trans (Keeps.setCell _ _ _ rfl), by rw [if_neg (by decide)]; exact HR.out.2 _⟩
        case measure => simp [Go.RowKit.intOf]
      · have kk : wr.cell? ⟨N, 1 + k, none⟩ = some (.int .u8 0) := by
          have : k = 0 ∨ k = 1 ∨ k = 2 := by omega
          rcases this with rfl | rfl | rfl
          · exact hby _ _ HK.out.1
          · exact hby _ _ HK.out.2.1
          · exact hby _ _ HK.out.2.2.1
        have hlt' : (k : Int) < 4 := by omega
        have HR := Lib.hid (And.intro hK (And.intro hset h3))
        clear hK ho hset hby h3
        go_wp2_with fail
        go_roundw
        case rel => exact ⟨k + 1, by omega, by go_num, HR.out.1.trans (Keeps.setCell _ _ _ rfl), by have := HR.out.2.2; rw [if_pos (by omega)]; exact HR.out.2.1 _⟩
        case measure => simp [Go.RowKit.intOf]; omega
    · obtain rfl : k = 4 := by omega
      rw [if_neg (by decide)] at ho
      have hX : BlkAt wr N superBlk := H1.out.2.1.keeps hK HK.out.2.2.2.2
      have k0 := hby _ _ HK.out.1
      have k1 := hby _ _ HK.out.2.1
      have k2 := hby _ _ HK.out.2.2.1
      have k3 := hby _ _ HK.out.2.2.2.1
      have HR := Lib.hid (And.intro hK (And.intro ho (And.intro hX (And.intro k0 (And.intro k1 (And.intro k2 k3))))))
      clear hK ho hby hX k0 k1 k2 k3
      go_upto_region 8 with fail
      have hB2 : Below wr.heap.size wr (wr.alloc (.cells (Blk.of 7 []).cells 139)) := grow_alloc (Below.refl _ _) _
      have hX2 : BlkAt (wr.alloc (.cells (Blk.of 7 []).cells 139)) wr.heap.size (Blk.of 7 []) := BlkAt.alloc_new wr _
      obtain ⟨w2, hw2⟩ : ∃ w2, w2 = wr.alloc (.cells (Blk.of 7 []).cells 139) := ⟨_, rfl⟩
      obtain ⟨M, hM⟩ : ∃ M, M = wr.heap.size := ⟨_, rfl⟩
      rw [← hw2] at hB2 hX2
      rw [← hM] at hX2
      rw [← hw2, ← hM]
      have H2 := Lib.hid (And.intro hB2 (And.intro hX2 (And.intro hM (block_lt HR.out.2.2.1))))
      clear hB2 hX2 hM hw2
      refine wp_region_held_drew (S := fun _ => True) (by kernel_rfl) (trivial) (fun hHeld => ?_)
      show wpAnyH _ _ _ _ _ 5 #[false, false, false, false, false] _ _
      refine wpAnyH_take (i := 0) (v := ?kv1) rfl (by kernel_rfl) (by kernel_rfl) (by kernel_rfl) (fun _ _ _ h => h) (Or.inl ⟨by rfl, ?ky1⟩) (by assumption) ?kr1
      case ky1 => (intro w hSw; (try dsimp only at hSw); go_split_ands; (try simp only [List.getElem_toArray, List.getElem_cons_zero]); go_simp; (try with_reducible rfl))
      try simp only [Act.put, List.getElem_toArray, List.getElem_cons_zero, List.setIfInBounds_toArray, List.set_cons_zero, List.set_cons_succ]
      refine wpAnyH_take (i := 1) (v := ?kv2) rfl (by kernel_rfl) (by kernel_rfl) (by kernel_rfl) (fun _ _ _ h => h) (Or.inl ⟨by rfl, ?ky2⟩) (by assumption) ?kr2
      case ky2 => (intro w hSw; (try dsimp only at hSw); go_split_ands; (try simp only [List.getElem_toArray, List.getElem_cons_zero, List.getElem_cons_succ]); go_simp; (try with_reducible rfl))
      try simp only [Act.put, List.getElem_toArray, List.getElem_cons_zero, List.getElem_cons_succ, List.setIfInBounds_toArray, List.set_cons_zero, List.set_cons_succ]
      refine wpAnyH_take (i := 2) (v := ?kv3) rfl (by kernel_rfl) (by kernel_rfl) (by kernel_rfl) (fun _ _ _ h => h) (Or.inl ⟨by rfl, ?ky3⟩) (by assumption) ?kr3
      case ky3 => (intro w hSw; (try dsimp only at hSw); go_split_ands; (try simp only [List.getElem_toArray, List.getElem_cons_zero, List.getElem_cons_succ]); go_simp; (try with_reducible rfl))
      try simp only [Act.put, List.getElem_toArray, List.getElem_cons_zero, List.getElem_cons_succ, List.setIfInBounds_toArray, List.set_cons_zero, List.set_cons_succ]
      refine wpAnyH_take (i := 3) (v := ?kv4) rfl (by kernel_rfl) (by kernel_rfl) (by kernel_rfl) (fun _ _ _ h => h) (Or.inl ⟨by rfl, ?ky4⟩) (by assumption) ?kr4
      case ky4 => (intro w hSw; (try dsimp only at hSw); go_split_ands; (try simp only [List.getElem_toArray, List.getElem_cons_zero, List.getElem_cons_succ]); go_simp; (try with_reducible rfl))
      try simp only [Act.put, List.getElem_toArray, List.getElem_cons_zero, List.getElem_cons_succ, List.setIfInBounds_toArray, List.set_cons_zero, List.set_cons_succ]
      refine wpAnyH_ready (rs := [4]) (by kernel_rfl) (by simp) ?_
      refine (AllReadyH.cons rfl (fun K hK => ?_) AllReadyH.nil)
      refine step_copy4 rfl (.tmp 34) (.tmp 36) rfl rfl rfl (b' := superBlk) [.int .u8 0, .int .u8 0, .int .u8 0, .int .u8 1] (show BlkAt w2.drew M _ from H2.out.2.1) rfl (fun j u hj => by match j, hj with | 0, hj => (obtain rfl := Option.some.inj hj; exact grow_cell H2.out.1 HR.out.2.2.2.1) | 1, hj => (obtain rfl := Option.some.inj hj; exact grow_cell H2.out.1 HR.out.2.2.2.2.1) | 2, hj => (obtain rfl := Option.some.inj hj; exact grow_cell H2.out.1 HR.out.2.2.2.2.2.1) | 3, hj => (obtain rfl := Option.some.inj hj; exact grow_cell H2.out.1 HR.out.2.2.2.2.2.2) | j + 4, hj => simp at hj) (by simp [Value.oneCell']) (by kernel_rfl) ?_; intro v3 w3 hw3
      refine hK.out _ _ (by trivial) (fun hHeldn => ?_)
      clear hHeld hK K
      have hHeld := hHeldn
      clear hHeldn
      try simp only [Act.put, List.getElem_toArray, List.getElem_cons_zero, List.getElem_cons_succ, List.setIfInBounds_toArray, List.set_cons_zero, List.set_cons_succ]
      refine wpAnyH_done (by kernel_rfl) ?_ _
      have hNM : ¬ N = M := by have := H2.out.2.2.1; have := H2.out.2.2.2; omega
      have hCM : ¬ C = M := by have := block_lt HR.out.2.1; have := H2.out.2.2.1; omega
      have hk3 : Keeps (fun q => q = M) w2 w3 := by rw [hw3]; exact (Keeps.of_below (Below.refl _ _).drew).trans (setRow_keeps _ _ _)
      have hXM : BlkAt w3 M superBlk := by rw [hw3]; exact BlkAt.setRow (show BlkAt w2.drew M _ from H2.out.2.1) superBlk
      have hXN : BlkAt w3 N superBlk := (HR.out.2.2.1.below H2.out.1 H2.out.2.2.2).keeps hk3 hNM
      have oC : objAt w3 C = some (.cells (ckCells gb cap 1 m1 m2) 184 (0, 0)) := hk3.obj (grow_obj H2.out.1 HR.out.2.1) hCM
      have hKw : Keeps (fun q => q = C) w w3 := (((Keeps.of_below H1.out.2.2.1).trans HR.out.1).trans (Keeps.of_below H2.out.1)).chain hk3 (fun q hq e => by
        have := H1.out.2.2.1.size; have := HR.out.1.size; have := H2.out.2.2.1; omega)
      have hgM : ∀ g, (Value.slice (some ⟨gb, 0, none⟩) 8 cap).ownBlock = some g → ¬ g = C := fun g hg => by
        obtain ⟨_, q, hq⟩ := H.out.row.ownObj hg
        exact ne_of_obj hq H.out.obj (by decide)
      have hCk : CkAt w3 C gb cap 1 m1 m2 := ⟨oC, H.out.row.keeps hKw hgM, H.out.ones.keeps hKw (fun e => H.out.ones.neCells H.out.obj e.symm), H.out.named.keeps hKw (fun e => H.out.named.neCells H.out.obj e.symm)⟩
      have e1 := hXM.has
      have e2 := hXM.row
      have e3 := hXN.has
      have e4 := hXN.row
      have oC' := oC
      unfold ckCells at oC'
      have e5 := cell_obj oC' 2
      have HF := Lib.hid (And.intro hKw hCk)
      clear hNM hCM hk3 hXM hXN oC oC' hKw hgM hCk hw3 hHeld
      go_wp2_with fail
      go_ret
      exact ⟨rfl, HF.out.1, HF.out.2⟩
set_option maxHeartbeats 4000000 in
theorem Whole_ok {w : World} {gb cap : Nat} (h : KRow w 0 (.slice (some ⟨gb, 0, none⟩) 8 cap) blks0) (hcap : 8 ≤ cap) : Calls Tryz.prog 55 #[.int .i64 0, .slice (some ⟨gb, 0, none⟩) 8 cap] w fun e w' => e = .returned (.bool true) ∧ Below w.heap.size w w' := by
  have hmm : ∀ w, (Instr.makeMap 181 none).run Tryz.prog w = .ok (.map (some w.heap.size)) (w.alloc (.map #[] 0)) := fun w => run_makeMap _ w
  have hmm2 : ∀ w, (Instr.makeMap 176 none).run Tryz.prog w = .ok (.map (some w.heap.size)) (w.alloc (.map #[] 0)) := fun w => run_makeMap _ w
  have hB2 : Below w.heap.size w ((w.alloc (.map #[] 0)).alloc (.map #[] 0)) := grow_alloc (grow_alloc (Below.refl _ _) _) _
  have hB3 : Below w.heap.size w (((w.alloc (.map #[] 0)).alloc (.map #[] 0)).alloc (.cells (ckCells gb cap 0 w.heap.size (w.heap.size + 1)) 184)) := grow_alloc hB2 _
  have hck : CkAt (((w.alloc (.map #[] 0)).alloc (.map #[] 0)).alloc (.cells (ckCells gb cap 0 w.heap.size (w.heap.size + 1)) 184)) (w.heap.size + 2) gb cap 0 w.heap.size (w.heap.size + 1) :=
    ⟨by rw [objAt_alloc, size_alloc, size_alloc, if_pos rfl], h.below hB3, (MapI.made w).below (grow_alloc (grow_alloc (Below.refl _ _) _) _), by have := (MapI.made (w.alloc (.map #[] 0))).below (grow_alloc (Below.refl _ _) (.cells (ckCells gb cap 0 w.heap.size (w.heap.size + 1)) 184)); rw [size_alloc] at this; exact this⟩
  have HS := Lib.hid (ckSuper hck)
  have HB := Lib.hid hB3
  clear h hB2 hB3 hck
  unfold ckCells at HS HB
  go_enter Tryz.func55, Tryz.ntmps55
  go_wp2_with (first
    | (go_at_call 85; refine HS.out.mono ?_; rintro e w1 ⟨rfl, k1, h1⟩; have H1 := Lib.hid (And.intro k1 h1); clear k1 h1)
    | (go_at_call 86; refine (ckReads H1.out.2 hcap).mono ?_; rintro e w2 ⟨rfl, b2⟩)
    | (go_at_call 87; refine (ckEntries (H1.out.2.below b2)).mono ?_; rintro e w3 ⟨rfl, b3⟩)
    | (go_at_call 88; refine (ckFiles ((H1.out.2.below b2).below b3)).mono ?_; rintro e w4 ⟨rfl, b4⟩)
    | (go_at_call 89; refine (ckEnds (((H1.out.2.below b2).below b3).below b4)).mono ?_; rintro e w5 ⟨rfl, b5⟩))
  go_ret
  exact ⟨rfl, (HB.out.trans (H1.out.1.below HB.out.size (fun q e => by omega))).trans ((grow_trans (grow_trans (grow_trans b2 b3) b4) b5).mono (Nat.le_trans HB.out.size H1.out.1.size))⟩
end Go.Proofs.YtanmihhlkelgeaaGreat

/- DERIVED. Contracts of node's places, bare, sign. -/
namespace Go.Proofs.YtanmihhlkelgeaaGreat
open Go.RowKit
attribute [local irreducible] Calls
set_option maxRecDepth 100000

theorem IRow.at_ {w : World} {B g n cap : Nat} {l : List Int} (h : IRow w B (.slice (some ⟨g, 0, none⟩) n cap) l) {i : Nat} {x : Int} (hi : l[i]? = some x) : w.cell? ⟨g, i, none⟩ = some (.int .i64 x) := by
  have := World.ownsRow.cells h (g := g) rfl i (.int .i64 x) (by rw [List.getElem?_map, hi]; rfl)
  rwa [add_off', Nat.zero_add] at this
/-- A whole number appended to a slice that has no room. -/
theorem step_fullI {ops : Array Oper} {o : Oper} {a b0 : Act} {w : World} {K : Act → World → Prop} {Q : Exit → Act → World → Prop} {F : Prop} (hgd : o.guard = none) (s x : Operand) (ho : o.op = .call { callee := .builtin .append, args := #[s, x], argTypes := #[93, 93] })
    {g off n : Nat} {xs : List Int} (hs : a.eval s = .slice (some ⟨g, off, none⟩) n n) (hn : xs.length = n) (hxs : ∀ j x, xs[j]? = some x → w.cell? ⟨g, off + j, none⟩ = some (.int .i64 x)) {g2 : Nat} {y : Int} (hx : a.eval x = .slice (some ⟨g2, 0, none⟩) 1 1) (hy : w.cell? ⟨g2, 0, none⟩ = some (.int .i64 y)) (hlt : n < 1000000)
    (h : ∀ v w', IRow w' w.heap.size v (xs ++ [y]) → Below w.heap.size w w' → K (a.put o.dst v) w') :
    if Region.wanted o (yielded ops b0.tmps) = true then Oper.wp Tryz.prog o a w K Q else F := by
  have hw : Region.wanted o (yielded ops b0.tmps) = true := by simp [Region.wanted, hgd]
  rw [if_pos hw]
  obtain ⟨i, z, hi, hz, hsz, hby, hzs⟩ := elemInt.info
  obtain ⟨v', w', hr, h2, h3⟩ := run_append_arg_grows (P := Tryz.prog) (w := w) 93 o.type 3 i z 1 8 Tryz.underlying93 hi hz hsz hby hzs (by decide) ⟨g, off, none⟩ n n (xs.map fun x => .int .i64 x) (by simp [hn]) (fun j u hj => by
    rw [List.getElem?_map, Option.map_eq_some_iff] at hj
    obtain ⟨x, hx, rfl⟩ := hj
    rw [show (⟨g, off, none⟩ : Addr).add j = ⟨g, off + j, none⟩ by unfold Addr.add; split <;> simp_all]; exact hxs j x hx) ⟨g2, 0, none⟩ 1 1 [.int .i64 y] rfl (fun j u hj => by
    cases j with
    | zero =>
      obtain rfl := Option.some.inj hj
      exact hy
    | succ j => simp at hj) (by omega) (by unfold maxLen; omega) (by omega)
  unfold Oper.wp execOp
  simp only [ho, resolve, invoke, builtin, Sem.run_bind, Sem.run_pure, Result.andThen_ok, List.map_toArray, List.map_cons, List.map_nil, hs, hx]
  rw [hr]
  refine h _ _ ?_ ((Below.refl w.heap.size w).grown h3 (Nat.le_refl _) (fun k hk => by cases hk))
  unfold IRow
  rw [List.length_append, List.map_append, hn]
  exact h2

theorem Nd.c (n : Nd) {w : World} {g : Nat} (h : objAt w g = some (.cells n.cells 142 (0, 0))) (i : Nat) : w.cell? ⟨g, i, none⟩ = n.cells[i]? := cell_obj h i
set_option maxHeartbeats 1000000 in
theorem places_any (n : Nd) (w : World) : Calls Tryz.prog 133 #[.agg n.cells] w fun e w' => ∃ g cap, e = .returned (.slice (some ⟨g, 0, none⟩) 5 cap) ∧ IRow w' w.heap.size (.slice (some ⟨g, 0, none⟩) 5 cap) n.places ∧ Below w.heap.size w w' := by
  have hB0 : Below w.heap.size w (w.alloc (.cells n.cells 142)) := grow_alloc (Below.refl _ _) _
  have ho : objAt (w.alloc (.cells n.cells 142)) w.heap.size = some (.cells n.cells 142 (0, 0)) := by rw [objAt_alloc, if_pos rfl]
  obtain ⟨G, hG⟩ : ∃ G, G = w.heap.size := ⟨_, rfl⟩
  obtain ⟨w1, hw1⟩ : ∃ w1, w1 = w.alloc (.cells n.cells 142) := ⟨_, rfl⟩
  rw [← hw1] at hB0 ho
  rw [← hG] at ho
  have c7 := Nd.c n ho 7
  have H := Lib.hid (And.intro hB0 (And.intro ho (And.intro hG hw1)))
  clear hB0 ho hG hw1
  go_enter Tryz.func133, Tryz.ntmps133
  go_upto_region 1 with fail
  rw [← H.out.2.2.2, ← H.out.2.2.1]
  have e7 : w1.cell? ⟨G, 7, none⟩ = some (.int .i64 n.index) := c7
  clear c7
  have hB2 : Below w1.heap.size w1 (w1.alloc (.cells #[.int .i64 n.index] 3)).drew := (grow_alloc (Below.refl _ _) _).drew
  have hcs : ∀ j x, [n.d0, n.d1, n.d2, n.d3][j]? = some x → (w1.alloc (.cells #[.int .i64 n.index] 3)).drew.cell? ⟨G, 3 + j, none⟩ = some (.int .i64 x) := fun j x hj => by
    rw [cell_obj (grow_obj hB2 H.out.2.1)]
    match j, hj with
    | 0, hj => obtain rfl := Option.some.inj hj; rfl
    | 1, hj => obtain rfl := Option.some.inj hj; rfl
    | 2, hj => obtain rfl := Option.some.inj hj; rfl
    | 3, hj => obtain rfl := Option.some.inj hj; rfl
    | j + 4, hj => simp at hj
  have hnew : (w1.alloc (.cells #[.int .i64 n.index] 3)).drew.cell? ⟨w1.heap.size, 0, none⟩ = some (.int .i64 n.index) := by
    have : objAt (w1.alloc (.cells #[.int .i64 n.index] 3)).drew w1.heap.size = some (.cells #[.int .i64 n.index] 3 (0, 0)) := by show objAt (w1.alloc _) _ = _; rw [objAt_alloc, if_pos rfl]
    exact cell_obj this 0
  refine wp_region_F [5] (S := fun w' => w'.cell? ⟨G, 7, none⟩ = some (.int .i64 n.index) ∧ True) (by kernel_rfl) (⟨e7, trivial⟩) (fun hHeld => ?_)
  show wpAnyF _ _ _ _ _ _ 7 #[false, false, false, false, false, false, false] _ _
  refine wpAnyF_take [0, 1, 5, 6] (i := 0) (v := ?kv1) rfl (by kernel_rfl) (by kernel_rfl) (by kernel_rfl) (by kernel_rfl) (fun _ _ _ h => h) (Or.inl ⟨by rfl, ?ky1⟩) (by assumption) ?kr1
  case ky1 => (intro w hSw; (try dsimp only at hSw); go_split_ands; (try simp only [List.getElem_toArray, List.getElem_cons_zero]); go_simp; (try with_reducible rfl))
  try simp only [Act.put, List.getElem_toArray, List.getElem_cons_zero, List.setIfInBounds_toArray, List.set_cons_zero, List.set_cons_succ]
  refine wpAnyF_take [1, 5, 6] (i := 1) (v := ?kv2) rfl (by kernel_rfl) (by kernel_rfl) (by kernel_rfl) (by kernel_rfl) (fun _ _ _ h => h) (Or.inl ⟨by rfl, ?ky2⟩) (by assumption) ?kr2
  case ky2 => (intro w hSw; (try dsimp only at hSw); go_split_ands; (try simp only [List.getElem_toArray, List.getElem_cons_zero, List.getElem_cons_succ]); go_simp; (try with_reducible rfl))
  try simp only [Act.put, List.getElem_toArray, List.getElem_cons_zero, List.getElem_cons_succ, List.setIfInBounds_toArray, List.set_cons_zero, List.set_cons_succ]
  refine wpAnyF_take [2, 3, 4, 5, 6] (i := 2) (v := ?kv3) rfl (by kernel_rfl) (by kernel_rfl) (by kernel_rfl) (by kernel_rfl) (fun _ _ _ h => h) (Or.inl ⟨by rfl, ?ky3⟩) (by assumption) ?kr3
  case ky3 => (intro w hSw; (try dsimp only at hSw); go_split_ands; (try simp only [List.getElem_toArray, List.getElem_cons_zero, List.getElem_cons_succ]); go_simp; (try with_reducible rfl))
  try simp only [Act.put, List.getElem_toArray, List.getElem_cons_zero, List.getElem_cons_succ, List.setIfInBounds_toArray, List.set_cons_zero, List.set_cons_succ]
  refine wpAnyF_take [3, 4, 5, 6] (i := 3) (v := ?kv4) rfl (by kernel_rfl) (by kernel_rfl) (by kernel_rfl) (by kernel_rfl) (fun _ _ _ h => h) (Or.inl ⟨by rfl, ?ky4⟩) (by assumption) ?kr4
  case ky4 => (intro w hSw; (try dsimp only at hSw); go_split_ands; (try simp only [List.getElem_toArray, List.getElem_cons_zero, List.getElem_cons_succ]); go_simp; (try with_reducible rfl))
  try simp only [Act.put, List.getElem_toArray, List.getElem_cons_zero, List.getElem_cons_succ, List.setIfInBounds_toArray, List.set_cons_zero, List.set_cons_succ]
  refine wpAnyF_ready (rs := [4]) (by kernel_rfl) (by simp) ?_
  refine (AllReadyF.cons rfl (fun K hK => ?_) AllReadyF.nil)
  try simp only [List.getElem_toArray, List.getElem_cons_zero, List.getElem_cons_succ]
  go_simp
  refine hK.out _ _ (by exact ⟨grow_cell (grow_alloc (Below.refl _ _).drew _) e7, trivial⟩) (fun hHeldn => ?_)
  clear hHeld hK K
  have hHeld := hHeldn
  clear hHeldn
  try simp only [List.setIfInBounds_toArray, List.set_cons_zero, List.set_cons_succ]
  refine wpAnyF_ready (rs := [5]) (by kernel_rfl) (by simp) ?_
  refine (AllReadyF.last rfl (by kernel_rfl) (fun K hK => ?_) AllReadyF.nil)
  refine step_fullI rfl _ _ rfl (xs := [n.d0, n.d1, n.d2, n.d3]) (y := n.index) rfl rfl (fun j x hj => ?_) rfl ?_ (by decide) ?_; exact hcs j x hj; exact hnew; intro v4 w4 hr4 b4
  refine hK.out _ _ (trivial) (fun hHeldn => ?_)
  clear hHeld hK K
  have hHeld := hHeldn
  clear hHeldn
  try simp only [Act.put, List.getElem_toArray, List.getElem_cons_zero, List.getElem_cons_succ, List.setIfInBounds_toArray, List.set_cons_zero, List.set_cons_succ]
  refine wpAnyF_pure (i := 6) (v := ?kv7) rfl (by kernel_rfl) (by kernel_rfl) (by kernel_rfl) (by kernel_rfl) (fun _ _ _ h => h) (Or.inl ⟨by rfl, ?ky7⟩) (by first | (intro _; assumption) | (intro h; exact absurd h (by decide))) ?kr7
  case ky7 => (intro w hSw; clear hSw; (try simp only [List.getElem_toArray, List.getElem_cons_zero, List.getElem_cons_succ]); go_simp; (try with_reducible rfl))
  try simp only [Act.put, List.getElem_toArray, List.getElem_cons_zero, List.getElem_cons_succ, List.setIfInBounds_toArray, List.set_cons_zero, List.set_cons_succ]
  refine wpAnyF_done (by kernel_rfl) ?_ _
  go_wp2_with fail
  go_ret
  have hs : w.heap.size ≤ (w1.alloc (.cells #[.int .i64 n.index] 3)).drew.heap.size := Nat.le_trans H.out.1.size hB2.size
  obtain ⟨g, cap, rfl, _⟩ := World.ownsRow.form hr4 (by simp)
  exact ⟨g, cap, rfl, IRow.mono hr4 hs, (H.out.1.trans (hB2.mono H.out.1.size)).trans (b4.mono hs)⟩
set_option maxHeartbeats 1000000 in
theorem bare_any (n : Nd) (w : World) : Calls Tryz.prog 178 #[.agg n.cells] w fun e w' => e = .returned (.bool (none5 n.places)) ∧ Below w.heap.size w w' := by
  have hB0 : Below w.heap.size w (w.alloc (.cells n.cells 142)) := grow_alloc (Below.refl _ _) _
  have ho : objAt (w.alloc (.cells n.cells 142)) w.heap.size = some (.cells n.cells 142 (0, 0)) := by rw [objAt_alloc, if_pos rfl]
  have hN := hasNd_obj ho
  have hrow := rowAt_heap ho
  have HP := Lib.hid (places_any n)
  have H := Lib.hid (And.intro hB0 ho)
  clear hB0
  go_enter Tryz.func178, Tryz.ntmps178
  go_wp2_with (go_at_call 133; refine (HP.out _).mono ?_; rintro e w2 ⟨g, cap, rfl, hr, b2⟩)
  have H2 := Lib.hid (And.intro hr (H.out.1.trans (b2.mono H.out.1.size)))
  clear hr b2 hN hrow ho
  go_loopw [8] (fun i wr => ∃ k : Nat, k ≤ 5 ∧ i = .int .i64 k ∧ wr = w2 ∧ none5 (n.places.take k) = true) (fun i _ => 5 - (Go.RowKit.intOf i).toNat)
  case atStart => exact ⟨0, by decide, rfl, rfl, rfl⟩
  case round =>
    obtain ⟨k, hk, rfl, rfl, hnn⟩ := hrel
    by_cases hlt : k < 5
    · have hlti : (k : Int) < 5 := by omega
      have hsucc := none5_succ (l := n.places) (k := k) hlt
      obtain ⟨x, hx⟩ : ∃ x, n.places[k]? = some x := ⟨_, List.getElem?_eq_getElem hlt⟩
      have hcx := IRow.at_ H2.out.1 hx
      have hgd : n.places.getD k 0 = x := by rw [List.getD_eq_getElem?_getD, hx]; rfl
      rw [hgd, hnn] at hsucc
      have HX := Lib.hid hsucc
      have hme : x ∈ n.places := List.mem_of_getElem? hx
      have HM := Lib.hid hme
      clear hsucc hnn hx hgd hme
      by_cases hm : x = -1
      · subst hm
        go_wp2_with fail
        go_roundw
        case rel => exact ⟨k + 1, by omega, by go_num, by first | rfl | simp, by rw [HX.out]; rfl⟩
        case measure => simp [Go.RowKit.intOf]; omega
      · have hr : none5 n.places = false := by
          cases h : none5 n.places with
          | false => rfl
          | true => exact absurd (by simpa using List.all_eq_true.1 h x HM.out) hm
        have Hr := Lib.hid hr
        have hm' : (x == -1) = false := by simpa using hm
        clear hm hr
        go_wp2_with fail
        go_ret
        exact ⟨by rw [Hr.out]; rfl, H2.out.2⟩
    · obtain rfl : k = 5 := by omega
      have Hr := Lib.hid (show none5 n.places = true from hnn)
      clear hnn
      go_wp2_with fail
      go_ret
      exact ⟨by rw [Hr.out]; rfl, H2.out.2⟩
end Go.Proofs.YtanmihhlkelgeaaGreat

/- DERIVED. Contract of node's file. -/
namespace Go.Proofs.YtanmihhlkelgeaaGreat
open Go.RowKit
attribute [local irreducible] Calls
set_option maxRecDepth 100000

theorem keys_lk {L : ML} (k : Int) : (lk L k).isSome = (keysL L).contains k := by
  cases h : lk L k with
  | none =>
    have : k ∉ keysL L := fun hk => by
      unfold lk at h
      rw [Option.map_eq_none_iff, List.find?_eq_none] at h
      unfold keysL at hk
      obtain ⟨p, hp, rfl⟩ := List.mem_map.1 hk
      exact h p hp (by simp)
    simpa using this
  | some v =>
    unfold lk at h
    rw [Option.map_eq_some_iff] at h
    obtain ⟨p, hp, rfl⟩ := h
    have h1 := List.find?_some hp
    have h2 := List.mem_of_find?_eq_some hp
    have : k ∈ keysL L := by
      unfold keysL
      exact List.mem_map.2 ⟨p, h2, by simpa using h1⟩
    simpa using this
def fileOk (n : Nd) : Bool := placesOk n.places && (decide (0 ≤ n.size) && decide (n.size ≤ 1120) && n.target.data.toList.isEmpty)
set_option maxHeartbeats 4000000 in
theorem file_any (n : Nd) (w : World) : Calls Tryz.prog 177 #[.agg n.cells] w fun e w' => e = .returned (.bool (fileOk n)) ∧ Below w.heap.size w w' := by
  have hB0 : Below w.heap.size w (w.alloc (.cells n.cells 142)) := grow_alloc (Below.refl _ _) _
  have ho : objAt (w.alloc (.cells n.cells 142)) w.heap.size = some (.cells n.cells 142 (0, 0)) := by rw [objAt_alloc, if_pos rfl]
  have hmm : ∀ w, (Instr.makeMap 176 none).run Tryz.prog w = .ok (.map (some w.heap.size)) (w.alloc (.map #[] 0)) := fun w => run_makeMap _ w
  obtain ⟨G, hG⟩ : ∃ G, G = w.heap.size := ⟨_, rfl⟩
  obtain ⟨w1, hw1⟩ : ∃ w1, w1 = w.alloc (.cells n.cells 142) := ⟨_, rfl⟩
  rw [← hw1] at hB0 ho
  rw [← hG] at ho
  have hM0 := MapI.made w1
  have hB1 : Below w1.heap.size w1 (w1.alloc (.map #[] 0)) := grow_alloc (Below.refl _ _) _
  obtain ⟨m, hm⟩ : ∃ m, m = w1.heap.size := ⟨_, rfl⟩
  obtain ⟨w2, hw2⟩ : ∃ w2, w2 = w1.alloc (.map #[] 0) := ⟨_, rfl⟩
  rw [← hw2] at hB1
  rw [← hm, ← hw2] at hM0
  have HP := Lib.hid (places_any n)
  have HG := Lib.hid (And.intro hG hw1)
  have HM := Lib.hid (And.intro hm hw2)
  clear hm hw2
  have H1 := Lib.hid (And.intro hB0 (And.intro ho (And.intro hM0 hB1)))
  clear hB0 hG hw1 hM0 hB1 ho
  go_enter Tryz.func177, Tryz.ntmps177
  go_upto_region 1 with fail
  rw [← HG.out.2, ← HG.out.1]
  go_upto_region 2 with fail
  clear hmm
  rw [← HM.out.2, ← HM.out.1]
  have ho2 := grow_obj H1.out.2.2.2 H1.out.2.1
  have hN := hasNd_obj ho2
  have hrow := rowAt_heap ho2
  clear ho2
  go_wp2_with (go_at_call 133; refine (HP.out _).mono ?_; rintro e w3 ⟨g, cap, rfl, hr, b3⟩)
  have H3 := Lib.hid (And.intro hr (And.intro b3 (And.intro (H1.out.2.2.1.below b3) (grow_obj (grow_trans H1.out.2.2.2 b3) H1.out.2.1))))
  have hbw : Below w.heap.size w w3 := H1.out.1.trans ((grow_trans H1.out.2.2.2 b3).mono H1.out.1.size)
  have hgm : g ≠ m := fun e => by
    obtain ⟨g', cap', e', hb, _⟩ := World.ownsRow.form hr (show 0 < n.places.length from Nat.zero_lt_succ 4)
    rw [Value.slice.injEq, Option.some.injEq, Addr.mk.injEq] at e'
    have := H1.out.2.2.1.lt
    omega
  have HW := Lib.hid (And.intro hbw hgm)
  clear hr b3 hN hrow hbw hgm
  go_loopw [10] (fun i wr => ∃ (k : Nat) (L : ML), k ≤ 5 ∧ i = .int .i64 k ∧ MapI wr m L ∧ (∀ y, y ∈ keysL L ↔ y ∈ n.places.take k ∧ y ≠ -1) ∧ allTrue L ∧ L.length ≤ k ∧ (∀ j, j < k → okNew (n.places.take j) (n.places.getD j 0) = true) ∧ Keeps (fun q => q = m) w3 wr) (fun i _ => 5 - (Go.RowKit.intOf i).toNat)
  case atStart => exact ⟨0, [], by decide, rfl, H3.out.2.2.1, fun y => by simp [keysL], fun p hp => by simp at hp, Nat.le_refl _, fun j hj => by omega, Keeps.refl _ _⟩
  case round =>
    obtain ⟨k, L, hk, rfl, hM, hL, hT, hLl, hok, hK⟩ := hrel
    by_cases hlt : k < 5
    · have hlti : (k : Int) < 5 := by omega
      obtain ⟨x, hx⟩ : ∃ x, n.places[k]? = some x := ⟨_, List.getElem?_eq_getElem hlt⟩
      have hgd : n.places.getD k 0 = x := by rw [List.getD_eq_getElem?_getD, hx]; rfl
      have hrr : IRow wr 0 (.slice (some ⟨g, 0, none⟩) 5 cap) n.places := IRow.mono (owns_keeps H3.out.1 hK (fun q hq e => by obtain rfl := Option.some.inj hq; exact HW.out.2 e)) (Nat.zero_le _)
      have hcx := IRow.at_ hrr hx
      have hlk := run_lookupI (P := Tryz.prog) hM Tryz.underlying176 Tryz.underlying3 (zero_bool wr) x false
      simp only [Bool.false_eq_true, if_false] at hlk
      rw [allTrue_lk hT] at hlk
      have hbad : okNew (n.places.take k) x = false → fileOk n = false := fun h => by
        unfold fileOk
        rw [placesOk_not (l := n.places) k hlt (by rw [hgd]; exact h), Bool.false_and]
      have hbw : Below w.heap.size w wr := HW.out.1.trans (hK.below HW.out.1.size (fun q e => by rw [e, HM.out.1]; exact H1.out.1.size))
      have HX := Lib.hid (And.intro hM (And.intro hL (And.intro hT (And.intro hLl (And.intro hok (And.intro hK (And.intro hx (And.intro hgd (And.intro hbad hbw)))))))))
      clear hM hL hT hLl hok hK hx hgd hbad hrr hbw
      by_cases hm1 : x = -1
      · subst hm1
        go_wp2_with fail
        go_roundw
        case rel =>
          refine ⟨k + 1, L, by omega, by go_num, HX.out.1, fun y => ?_, HX.out.2.2.1, by have := HX.out.2.2.2.1; omega, fun j hj => ?_, HX.out.2.2.2.2.2.1⟩
          · rw [HX.out.2.1]
            obtain ⟨hk', he⟩ := List.getElem?_eq_some_iff.1 HX.out.2.2.2.2.2.2.1
            rw [List.take_succ_eq_append_getElem hk', List.mem_append, List.mem_singleton, he]
            constructor
            · exact fun h => ⟨.inl h.1, h.2⟩
            · rintro ⟨h | h, h2⟩
              · exact ⟨h, h2⟩
              · exact absurd h h2
          · by_cases e : j = k
            · subst e; rw [HX.out.2.2.2.2.2.2.2.1]; rfl
            · exact HX.out.2.2.2.2.1 j (by omega)
        case measure => simp [Go.RowKit.intOf]; omega
      · have hm1' : (x == -1) = false := by simpa using hm1
        by_cases c1 : x < 1
        · have hf := HX.out.2.2.2.2.2.2.2.2.1 (by unfold okNew okAt; rw [hm1']; simp; omega)
          have Hf := Lib.hid hf
          clear hf hlk
          go_wp2_with fail
          go_ret
          exact ⟨by rw [Hf.out]; rfl, HX.out.2.2.2.2.2.2.2.2.2⟩
        · by_cases c2 : 200 ≤ x
          · have hf := HX.out.2.2.2.2.2.2.2.2.1 (by unfold okNew okAt; rw [hm1']; simp; omega)
            have Hf := Lib.hid hf
            clear hf hlk
            go_wp2_with fail
            go_ret
            exact ⟨by rw [Hf.out]; rfl, HX.out.2.2.2.2.2.2.2.2.2⟩
          · have hcon : (lk L x).isSome = (n.places.take k).contains x := by
              rw [keys_lk]
              have h1 := HX.out.2.1 x
              have : x ∈ keysL L ↔ x ∈ n.places.take k := by rw [h1]; exact ⟨fun h => h.1, fun h => ⟨h, hm1⟩⟩
              cases h : (n.places.take k).contains x with
              | true => simpa using this.2 (by simpa using h)
              | false => simpa using fun h' => absurd (this.1 h') (by simpa using h)
            have hokx : okNew (n.places.take k) x = !((n.places.take k).contains x) := by
              unfold okNew okAt; rw [hm1']; simp; omega
            rw [hcon] at hlk
            obtain ⟨cb, hcb⟩ : ∃ cb, cb = (n.places.take k).contains x := ⟨_, rfl⟩
            rw [← hcb] at hlk hokx
            have Ho := Lib.hid hokx
            clear hcon hokx hcb
            cases cb with
            | true =>
              have Hf := Lib.hid (HX.out.2.2.2.2.2.2.2.2.1 Ho.out)
              go_wp2_with fail
              go_ret
              exact ⟨by rw [Hf.out]; rfl, HX.out.2.2.2.2.2.2.2.2.2⟩
            | false =>
              go_wp2_with (refine list_updateI rfl 176 3 4 _ _ _ rfl HX.out.1 Tryz.underlying176 Tryz.underlying3 rfl rfl (by omega) (by omega) rfl (by have := HX.out.2.2.2.1; omega) ?_; intro w4 hM4 hk4; replace hM4 : MapI w4 m (up L x (.bool true)) := hM4)
              go_roundw
              case rel =>
                refine ⟨k + 1, _, by omega, by go_num, hM4, fun y => ?_, allTrue_up HX.out.2.2.1 _, by have := (up_length (L := L) (k := x) (.bool true)).1; have := HX.out.2.2.2.1; omega, fun j hj => ?_, HX.out.2.2.2.2.2.1.trans hk4⟩
                · rw [keys_up, HX.out.2.1]
                  obtain ⟨hk', he⟩ := List.getElem?_eq_some_iff.1 HX.out.2.2.2.2.2.2.1
                  rw [List.take_succ_eq_append_getElem hk', List.mem_append, List.mem_singleton, he]
                  constructor
                  · rintro (h | h)
                    · exact ⟨.inr h, by rw [h]; exact hm1⟩
                    · exact ⟨.inl h.1, h.2⟩
                  · rintro ⟨h | h, h2⟩
                    · exact .inr ⟨h, h2⟩
                    · exact .inl h
                · by_cases e : j = k
                  · subst e; rw [HX.out.2.2.2.2.2.2.2.1]; exact Ho.out
                  · exact HX.out.2.2.2.2.1 j (by omega)
              case measure => simp [Go.RowKit.intOf]; omega
    · obtain rfl : k = 5 := by omega
      have hpl : placesOk n.places = true := placesOk_iff.2 fun j hj => hok j hj
      have hbw : Below w.heap.size w wr := HW.out.1.trans (hK.below HW.out.1.size (fun q e => by rw [e, HM.out.1]; exact H1.out.1.size))
      have hoG := hK.obj H3.out.2.2.2 (fun e => by have := HG.out.1; have := HM.out.1; have := H1.out.1.size; have := HG.out.2; have := block_lt H1.out.2.1; omega)
      have c2 : wr.cell? ⟨G, 2, none⟩ = some (.int .i64 n.size) := Nd.c n hoG 2
      have c8 : wr.cell? ⟨G, 8, none⟩ = some (.string n.target) := Nd.c n hoG 8
      have hres : fileOk n = (decide (0 ≤ n.size) && decide (n.size ≤ 1120) && n.target.data.toList.isEmpty) := by unfold fileOk; rw [hpl, Bool.true_and]
      have Hr := Lib.hid (And.intro hres hbw)
      clear hM hL hT hLl hok hK hpl hbw hoG hres
      obtain ⟨sz, hsz⟩ : ∃ sz, sz = n.size := ⟨_, rfl⟩
      rw [← hsz] at c2 Hr
      by_cases d1 : 0 ≤ sz
      · by_cases d2 : sz ≤ 1120
        · go_wp2_with fail
          go_ret
          exact ⟨by rw [Hr.out.1, decide_eq_true d1, decide_eq_true d2, ← ByteArray.toList_eq]; rfl, Hr.out.2⟩
        · go_wp2_with fail
          go_ret
          exact ⟨by rw [Hr.out.1, decide_eq_true d1, decide_eq_false (show ¬ sz ≤ 1120 by omega)]; rfl, Hr.out.2⟩
      · go_wp2_with fail
        go_ret
        exact ⟨by rw [Hr.out.1, decide_eq_false (show ¬ 0 ≤ sz by omega)]; rfl, Hr.out.2⟩
end Go.Proofs.YtanmihhlkelgeaaGreat
