/- DERIVED. Contracts and laws that the proofs of this seat share, part 1 of 40: Ref1A Blk Ref1B LibC Ref1C BlkEq. -/
import Derived.Test.YtbbnejehglonjaaGreatProg
import Derived.Deep.DeepCutAuto
import Derived.Deep.QuietTactic
import Derived.BigQuiet
import Derived.Lib.AppendStr
import Derived.Stop.BytesEq
import Derived.Test.YtbbnejehglonjaaGreatMg00
/- DERIVED. Contracts of clathriref1.High, Num, body. -/
namespace Go.Proofs.YtbbnejehglonjaaGreat
open Go.RowKit

theorem elemByte : Elem1 Tryz.prog 22 5 1 := .mk' Tryz.underlying22 (z := .int .u8 0) (by kernel_rfl) rfl (by decide)

/-- A []byte of the call's own. -/
def BRow (w : World) (B : Nat) (v : Value) (l : List UInt8) : Prop := w.ownsRow B 5 1 v l.length (l.map fun c => Value.int .u8 c.toNat)

/-- Bytes from a slice's address on. -/
def BytesAt (w : World) (a : Option Addr) (l : List UInt8) : Prop :=
  ∃ b off, (0 < l.length → a = some ⟨b, off, none⟩) ∧ ∀ i (h : i < l.length), w.cell? ⟨b, off + i, none⟩ = some (.int .u8 (l[i].toNat : Int))

theorem BytesAt.below {w w' : World} {a : Option Addr} {l : List UInt8} (h : BytesAt w a l) (hb : Below w.heap.size w w') : BytesAt w' a l := by
  obtain ⟨b, off, h1, h2⟩ := h
  exact ⟨b, off, h1, fun i hi => (hb.cell (p := ⟨b, off + i, none⟩) (World.block_lt_of_cell? w _ (h2 i hi))).trans (h2 i hi)⟩

theorem BRow.bytes {w : World} {B : Nat} {v : Value} {l : List UInt8} (h : BRow w B v l) : ∃ a cap, v = .slice a l.length cap ∧ BytesAt w a l := by
  rcases h.2 with ⟨rfl, h0⟩ | ⟨g, cap, cur, rfl, _⟩
  · exact ⟨none, 0, by rw [h0], 0, 0, fun h => by omega, fun i hi => by omega⟩
  · refine ⟨_, _, rfl, g, 0, fun _ => rfl, fun i hi => ?_⟩
    have := World.ownsRow.cells h (g := g) rfl i (.int .u8 (l[i].toNat : Int)) (by simp [hi])
    rwa [add_off'] at this

theorem BRow.below {w w' : World} {B : Nat} {v : Value} {l : List UInt8} (h : BRow w B v l) (hb : Below w.heap.size w w') : BRow w' B v l := by
  refine World.ownsRow.kept h ⟨hb.os, hb.tape, hb.output, hb.size, fun k hk _ => hb.block k hk⟩ (row := none) ?_
  cases v.ownBlock <;> simp

theorem num_take_succ (l : List UInt8) (k : Nat) (h : k < l.length) : num (l.take (k + 1)) = num (l.take k) * 256 + (l[k]).toNat := by
  rw [List.take_succ_eq_append_getElem h, num_snoc]

end Go.Proofs.YtbbnejehglonjaaGreat

/- DERIVED. Blocks of a store in memory: loads, stores, comparisons of whole blocks. Contract of clathriref1.body. -/
namespace Go.Proofs.YtbbnejehglonjaaGreat
open Go.RowKit

/-- A block of a label's store. -/
structure Blk where
  kind : Int
  body : List UInt8
  len : body.length = 56
  deriving DecidableEq

def Blk.cells (b : Blk) : Array Value := (Value.int .i64 b.kind :: b.body.map fun c => Value.int .u8 (c.toNat : Int)).toArray
theorem Blk.size_cells (b : Blk) : b.cells.size = 57 := by simp [Blk.cells, b.len]
theorem Blk.one_cells (b : Blk) : ∀ v ∈ b.cells.toList, v.oneCell' = true := by
  intro v hv
  simp only [Blk.cells, List.mem_cons, List.mem_map] at hv
  rcases hv with rfl | ⟨c, _, rfl⟩ <;> rfl
theorem Blk.cell0 (b : Blk) : b.cells[0]? = some (.int .i64 b.kind) := by simp [Blk.cells]
theorem Blk.cellS (b : Blk) (i : Nat) (h : i < 56) : b.cells[i + 1]? = some (.int .u8 ((b.body[i]'(by rw [b.len]; exact h)).toNat : Int)) := by
  simp [Blk.cells, b.len, h]
def fill56 (l : List UInt8) : List UInt8 := (l ++ List.replicate 56 0).take 56
theorem fill56_len (l : List UInt8) : (fill56 l).length = 56 := by simp [fill56]
/-- Bytes as a block's, of a kind. -/
def Blk.of (kind : Int) (l : List UInt8) : Blk := ⟨kind, fill56 l, fill56_len l⟩
def Blk.zero : Blk := Blk.of 0 []
def Blk.setB (b : Blk) (i : Nat) (c : UInt8) : Blk := ⟨b.kind, b.body.set i c, by simp [b.len]⟩
theorem Blk.set_cells (b : Blk) (i : Nat) (c : UInt8) : b.cells.setIfInBounds (i + 1) (.int .u8 (c.toNat : Int)) = (b.setB i c).cells := by
  simp [Blk.cells, Blk.setB, List.map_set]

/-- A block's cells lie at g. -/
def BlkAt (w : World) (g : Nat) (b : Blk) : Prop := w.heap[g]? = some (.cells b.cells 37 (0, 0))
theorem BlkAt.row {w : World} {g : Nat} {b : Blk} (h : BlkAt w g b) : rowAt w g = some b.cells := rowAt_heap h

theorem aggBlk : AggOf Tryz.prog 37 57 := ⟨⟨_, Tryz.underlying37, rfl⟩, by kernel_rfl⟩

theorem build_kind' (k : Int) (w : World) : (Instr.build 37 #[(0, .int .i64 k)]).run Tryz.prog w = .ok (.agg (Blk.of k []).cells) w := by kernel_rfl
theorem build_zero' (w : World) : (Instr.build 37 #[]).run Tryz.prog w = .ok (.agg Blk.zero.cells) w := by kernel_rfl
theorem alloc_blk' (w : World) : (Instr.alloc 37 true (.tuple #[])).run Tryz.prog w = .ok (.pointer (some ⟨w.heap.size, 0, none⟩)) (w.alloc (.cells Blk.zero.cells 37)) := by kernel_rfl

attribute [irreducible] Blk.cells Blk.of Blk.zero
noncomputable def blkBuild (parts : Array (Nat × Value)) (w : World) : Result Value := Sem.run Tryz.prog (Instr.build 37 parts) w
noncomputable def blkAlloc (w : World) : Result Value := Sem.run Tryz.prog (Instr.alloc 37 true (.tuple #[])) w
noncomputable def blkLoad (x : Value) (w : World) : Result Value := Sem.run Tryz.prog (Instr.loadAt 37 x) w
noncomputable def blkStore (x y : Value) (w : World) : Result Unit := Sem.run Tryz.prog (Instr.storeAt 37 x y) w
@[go_sem] theorem build_kind (k : Int) (w : World) : blkBuild #[(0, .int .i64 k)] w = .ok (.agg (Blk.of k []).cells) w := build_kind' k w
@[go_sem] theorem build_zero (w : World) : blkBuild #[] w = .ok (.agg Blk.zero.cells) w := build_zero' w
@[go_sem] theorem alloc_blk (w : World) : blkAlloc w = .ok (.pointer (some ⟨w.heap.size, 0, none⟩)) (w.alloc (.cells Blk.zero.cells 37)) := alloc_blk' w
/-- A row of 57 cells lies at g. -/
def hasBlk (w : World) (g : Nat) : Bool := (rowAt w g).any (·.size == 57)
theorem hasBlk_some {w : World} {g : Nat} (h : hasBlk w g = true) : ∃ c, rowAt w g = some c ∧ c.size = 57 := by
  unfold hasBlk at h
  cases hr : rowAt w g with
  | none => rw [hr] at h; cases h
  | some c => rw [hr] at h; exact ⟨c, rfl, by simpa using h⟩
@[go_sem] theorem hasBlk_cells (b : Blk) : (b.cells.size == 57) = true := by rw [b.size_cells]; rfl
@[go_sem] theorem load_blk (w : World) (g : Nat) (h : hasBlk w g = true) : blkLoad (.pointer (some ⟨g, 0, none⟩)) w = .ok (.agg ((rowAt w g).getD #[])) w := by
  obtain ⟨c, hc, hs⟩ := hasBlk_some h
  rw [hc]; exact run_load_agg aggBlk w g hc hs
@[go_sem] theorem store_blk (w : World) (g : Nat) (b' : Blk) (h : hasBlk w g = true) : blkStore (.pointer (some ⟨g, 0, none⟩)) (.agg b'.cells) w = .ok () (w.setRow g b'.cells) := by
  obtain ⟨c, hc, hs⟩ := hasBlk_some h
  exact run_store_agg aggBlk w g b'.cells hc hs b'.size_cells b'.one_cells
attribute [local go_sem] hasBlk
@[go_sem ↓] theorem exec_build_blk (ρ : Operand → Value) (w : World) (dst : Option Tmp) (parts : Array (Nat × Operand)) (ty : TypeId) (pos : String) (after : Array Edge) (gd : Option (Nat × Bool)) :
    (execOp ρ ⟨dst, .build 37 parts, ty, pos, after, gd⟩).run Tryz.prog w = (blkBuild (parts.map fun (i, x) => (i, ρ x)) w).andThen fun v w => .ok (.value v) w := by
  simp only [execOp, blkBuild, Sem.run_bind]; rfl
@[go_sem ↓] theorem exec_alloc_blk (ρ : Operand → Value) (w : World) (dst : Option Tmp) (ty : TypeId) (pos : String) (after : Array Edge) (gd : Option (Nat × Bool)) :
    (execOp ρ ⟨dst, .alloc 37, ty, pos, after, gd⟩).run Tryz.prog w = (blkAlloc w).andThen fun v w => .ok (.value v) w := by
  simp only [execOp, blkAlloc, Sem.run_bind]; rfl
@[go_sem ↓] theorem exec_load_blk (ρ : Operand → Value) (w : World) (dst : Option Tmp) (x : Operand) (ty : TypeId) (pos : String) (after : Array Edge) (gd : Option (Nat × Bool)) :
    (execOp ρ ⟨dst, .load 37 x, ty, pos, after, gd⟩).run Tryz.prog w = (blkLoad (ρ x) w).andThen fun v w => .ok (.value v) w := by
  simp only [execOp, blkLoad, Sem.run_bind]; rfl
@[go_sem ↓] theorem exec_store_blk (ρ : Operand → Value) (w : World) (dst : Option Tmp) (x y : Operand) (ty : TypeId) (pos : String) (after : Array Edge) (gd : Option (Nat × Bool)) :
    (execOp ρ ⟨dst, .store 37 x y, ty, pos, after, gd⟩).run Tryz.prog w = (blkStore (ρ x) (ρ y) w).andThen fun _ w => .ok .skip w := by
  simp only [execOp, blkStore, Sem.run_bind]; rfl
attribute [irreducible] blkBuild blkAlloc blkLoad blkStore
theorem Blk.ext' {a b : Blk} (h : a.kind = b.kind) (h2 : a.body = b.body) : a = b := by
  cases a; cases b; simp_all
theorem Blk.of_kind (kind : Int) (l : List UInt8) : (Blk.of kind l).kind = kind := by unfold Blk.of; rfl
theorem Blk.of_body (kind : Int) (l : List UInt8) : (Blk.of kind l).body = fill56 l := by unfold Blk.of; rfl
theorem fill56_step (l : List UInt8) (k : Nat) (h : k < l.length) (hk : k < 56) : (fill56 (l.take k)).set k l[k] = fill56 (l.take (k + 1)) := by
  apply List.ext_getElem
  · simp [fill56]
  · intro i h1 h2
    simp only [List.length_set, fill56_len] at h1
    simp only [fill56, List.getElem_set, List.getElem_take, List.getElem_append, List.length_take, List.getElem_replicate]
    by_cases hi : i < k
    · rw [if_neg (by omega), dif_pos (by omega), dif_pos (by omega)]
    · by_cases hi2 : i = k
      · subst hi2; rw [if_pos rfl, dif_pos (by omega)]
      · rw [if_neg (by omega), dif_neg (by omega), dif_neg (by omega)]
theorem Blk.of_step (kind : Int) (l : List UInt8) (k : Nat) (h : k < l.length) (hk : k < 56) : (Blk.of kind (l.take k)).setB k l[k] = Blk.of kind (l.take (k + 1)) := by
  apply Blk.ext'
  · simp [Blk.setB, Blk.of_kind]
  · simp only [Blk.setB, Blk.of_body]; exact fill56_step l k h hk
theorem BlkAt.alloc_new (w : World) (b : Blk) : BlkAt (w.alloc (.cells b.cells 37)) w.heap.size b := by unfold BlkAt; rw [heap_alloc_if, if_pos rfl]
theorem BlkAt.alloc {w : World} {g : Nat} {b : Blk} (h : BlkAt w g b) (o : Obj) : BlkAt (w.alloc o) g b := by
  have := block_lt h
  unfold BlkAt; rw [heap_alloc_if, if_neg (by omega)]; exact h
theorem BlkAt.setCell_ne {w : World} {g : Nat} {b : Blk} (h : BlkAt w g b) (a : Addr) (v : Value) (hn : g ≠ a.block) : BlkAt (w.setCell a v) g b := by
  unfold BlkAt; rw [heap_setCell_ne hn]; exact h
theorem BlkAt.setCell {w : World} {g : Nat} {b : Blk} (h : BlkAt w g b) (i : Nat) (c : UInt8) : BlkAt (w.setCell ⟨g, 1 + i, none⟩ (.int .u8 (c.toNat : Int))) g (b.setB i c) := by
  rw [Nat.add_comm 1 i]; unfold BlkAt; rw [heap_setCell_same h, Blk.set_cells]
theorem BlkAt.cell {w : World} {g : Nat} {b : Blk} (h : BlkAt w g b) (i : Nat) (hi : i < 56) : w.cell? ⟨g, 1 + i, none⟩ = some (.int .u8 ((b.body[i]'(by rw [b.len]; exact hi)).toNat : Int)) := by
  rw [Nat.add_comm 1 i]; unfold BlkAt at h
  simp only [World.cell?, h]; exact b.cellS i hi
theorem BlkAt.free {w : World} {g : Nat} {b : Blk} (h : BlkAt w g b) (i : Nat) : w.frozen? ⟨g, i, none⟩ = false := by
  unfold BlkAt at h
  simp [World.frozen?, h]
theorem BlkAt.keeps {S : Nat → Prop} {w w' : World} {g : Nat} {b : Blk} (h : BlkAt w g b) (hk : Keeps S w w') (hn : ¬ S g) : BlkAt w' g b := by
  unfold BlkAt; rw [hk.block g (block_lt h) hn]; exact h
theorem BlkAt.below {B : Nat} {w w' : World} {g : Nat} {b : Blk} (h : BlkAt w g b) (hk : Below B w w') (hn : g < B) : BlkAt w' g b := by
  unfold BlkAt; rw [hk.block g hn]; exact h
theorem BlkAt.setRow {w : World} {g : Nat} {b : Blk} (h : BlkAt w g b) (b' : Blk) : BlkAt (w.setRow g b'.cells) g b' := setRow_heap w g b.cells b'.cells 37 (0, 0) h
theorem resOne_blk {p : Tmp} {tmps : Array Value} {w : World} {g : Nat} {b : Blk} (hp : tmps.getD p undef = .pointer (some ⟨g, 0, none⟩)) (h : rowAt w g = some b.cells) :
    (resultOne (.cell p 37) tmps).run Tryz.prog w = .ok (.agg b.cells) w := resOne_agg aggBlk hp h b.size_cells
theorem _root_.Go.RowKit.Below.setRow {B : Nat} {w w' : World} (h : Below B w w') {g : Nat} (hg : B ≤ g) (c : Array Value) : Below B w (w'.setRow g c) :=
  ⟨h.os, h.tape, h.output, by simp [World.setRow]; exact h.size, fun k hk => by
    rw [← h.block k hk]; simp only [World.setRow, Array.getElem?_modify]; rw [if_neg (by omega)]⟩
theorem BytesAt.get {w : World} {a : Option Addr} {l : List UInt8} (h : BytesAt w a l) (i : Nat) (hi : i < l.length) : ∃ b off, a = some ⟨b, off, none⟩ ∧ w.cell? ⟨b, off + i, none⟩ = some (.int .u8 (l[i].toNat : Int)) := by
  obtain ⟨b, off, h1, h2⟩ := h
  exact ⟨b, off, h1 (by omega), h2 i hi⟩

end Go.Proofs.YtbbnejehglonjaaGreat

/- DERIVED. Contracts of clathriref1.mayAt, MayTarget, MayNode. -/
namespace Go.Proofs.YtbbnejehglonjaaGreat
open Go.RowKit
attribute [local go_sem] hasBlk
def Nd.cells (n : Nd) : Array Value := #[.int .u32 n.gen, .int .i64 n.links, .int .i64 n.size, .int .i64 n.d0, .int .i64 n.d1, .int .i64 n.d2, .int .i64 n.d3, .int .i64 n.index, .string n.target]
/-- A node that Go can hold. -/
structure Nd.wf (n : Nd) : Prop where
  gen0 : 0 ≤ n.gen
  gen1 : n.gen ≤ 4294967295
  long : n.target.size ≤ 1000000

theorem elemInt : Elem1 Tryz.prog 33 3 8 := .mk' Tryz.underlying33 (z := .int .i64 0) (by kernel_rfl) rfl (by decide)
def Nd.box (n : Nd) : Obj := .cells n.cells 165 (0, 0)
def okPre (l : List Int) (k : Nat) : Prop := ∀ j, j < k → okNew (l.take j) (l.getD j 0) = true
theorem okPre_succ {l : List Int} {k : Nat} (h : okPre l k) (h2 : okNew (l.take k) (l.getD k 0) = true) : okPre l (k + 1) := fun j hj => by
  rcases Nat.lt_succ_iff_lt_or_eq.1 hj with h' | rfl
  · exact h j h'
  · exact h2
theorem none5_succ {l : List Int} {k : Nat} (h : k < l.length) : none5 (l.take (k + 1)) = (none5 (l.take k) && (l.getD k 0 == -1)) := by
  rw [List.take_succ_eq_append_getElem h]
  simp only [none5, List.all_append, List.all_cons, List.all_nil, Bool.and_true, List.getD_eq_getElem?_getD, List.getElem?_eq_getElem h, Option.getD_some]
theorem placesOk_all {l : List Int} (h : okPre l l.length) : placesOk l = true := placesOk_iff.2 fun k hk => h k hk
theorem okNew_none (pre : List Int) : okNew pre (-1) = true := by simp [okNew]
/-- The places of a node, in a row of the call's own. -/
structure PlaceRow (w wr : World) (G g : Nat) (n : Nd) : Prop where
  grow : Below w.heap.size w wr
  box : objAt wr G = some n.box
  at_ : ∀ j, (h : j < 5) → wr.cell? ⟨g, j, none⟩ = some (.int .i64 (n.places.getD j 0))
theorem PlaceRow.on {w wr wx : World} {G g : Nat} {n : Nd} (h : PlaceRow w wr G g n) (hb : Below wr.heap.size wr wx) : PlaceRow w wx G g n :=
  ⟨grow_trans h.grow hb, grow_obj hb h.box, fun j hj => grow_cell hb (h.at_ j hj)⟩
theorem PlaceRow.cell {w wr : World} {G g : Nat} {n : Nd} (h : PlaceRow w wr G g n) (i : Nat) : wr.cell? ⟨G, i, none⟩ = n.cells[i]? := cell_of_row wr G i _ _ _ h.box

end Go.Proofs.YtbbnejehglonjaaGreat

/- DERIVED. Laws on append of bytes to a row of the call's own: at the run, at a plain list of operations, at a step of a region that draws. -/
namespace Go.Proofs.YtbbnejehglonjaaGreat
open Go.RowKit

theorem BRow.mono {w : World} {B B' : Nat} {v : Value} {l : List UInt8} (h : BRow w B v l) (hb : B' ≤ B) : BRow w B' v l := by
  refine ⟨h.1, ?_⟩
  rcases h.2 with h' | ⟨g, cap, cur, h1, h2, h3⟩
  · exact .inl h'
  · exact .inr ⟨g, cap, cur, h1, Nat.le_trans hb h2, h3⟩
theorem BRow.drew {w : World} {B : Nat} {v : Value} {l : List UInt8} (h : BRow w B v l) : BRow w.drew B v l := h
theorem BRow.alloc {w : World} {B : Nat} {v : Value} {l : List UInt8} (h : BRow w B v l) (o : Obj) : BRow (w.alloc o) B v l := World.ownsRow.alloc h o
theorem BRow.form {w : World} {B : Nat} {v : Value} {l : List UInt8} (h : BRow w B v l) (hn : 0 < l.length) : ∃ g cap, v = .slice (some ⟨g, 0, none⟩) l.length cap ∧ B ≤ g ∧ g < w.heap.size := World.ownsRow.form h hn
theorem BRow.nil (w : World) (B : Nat) : BRow w B (.slice none 0 0) [] := World.ownsRow_nil w B 5 1
/-- One byte that was written out. -/
theorem BRow.lit {w : World} {B g : Nat} {x : Int} (c : UInt8) (hx : x = (c.toNat : Int)) (h : objAt w g = some (.cells #[.int .u8 x] 5 (0, 0))) (hb : B ≤ g) : BRow w B (.slice (some ⟨g, 0, none⟩) 1 1) [c] := by
  subst hx
  exact ⟨rfl, .inr ⟨g, 1, #[.int .u8 c.toNat], rfl, hb, h, Nat.le_refl _, by decide, rfl, rfl⟩⟩
theorem BRow.bytesAt {w : World} {B : Nat} {a : Option Addr} {n cap : Nat} {l : List UInt8} (h : BRow w B (.slice a n cap) l) : BytesAt w a l ∧ n = l.length := by
  obtain ⟨a', cap', he, hb⟩ := h.bytes
  simp only [Value.slice.injEq] at he
  obtain ⟨rfl, rfl, rfl⟩ := he
  exact ⟨hb, rfl⟩

theorem infoByte : ∃ i z, Tryz.prog.info? 5 = some i ∧ i.zero = some z ∧ i.size = 1 ∧ i.bytes = 1 ∧ z.cells.size = 1 := elemByte.info

theorem run_appB {w : World} {base : Nat} {v : Value} {xs : List UInt8} (hown : BRow w base v xs) {b2 : Nat} {u : Value} {ys : List UInt8} (hu : BRow w b2 u ys) (hys : 0 < ys.length) (hsz : xs.length + ys.length < 2000000000)
    (hbase : base ≤ w.heap.size) (ty : TypeId) :
    ∃ g cap w', (Builtin.append_ #[22, 22] ty #[v, u]).run Tryz.prog w = .ok (.slice (some ⟨g, 0, none⟩) (xs.length + ys.length) cap) w' ∧ BRow w' base (.slice (some ⟨g, 0, none⟩) (xs.length + ys.length) cap) (xs ++ ys) ∧
      w.grownBy w' v.ownBlock ∧ Below base w w' := by
  obtain ⟨g2, cap2, rfl, _, _⟩ := hu.form hys
  obtain ⟨i, z, hi, hz, hs, hby, hzs⟩ := infoByte
  obtain ⟨g, cap, w', h1, h2, h3, _, _⟩ := run_append_lies (P := Tryz.prog) w 22 ty base 5 i z 1 1 Tryz.underlying22 hi hz hs hby hzs (by decide) v xs.length _ hown ⟨g2, 0, none⟩ ys.length cap2 (ys.map fun c => Value.int .u8 c.toNat)
    (by simp) (World.ownsRow.cells hu (g := g2) rfl) (by intro x hx; simp only [List.mem_map] at hx; obtain ⟨c, _, rfl⟩ := hx; rfl) hys (by unfold maxLen; omega) (by omega) hbase w.heap.size rfl
  refine ⟨g, cap, w', h1, ?_, h3, (Below.refl base w).grown h3 hbase (fun k hk => (World.ownsRow.lt hown k hk).1)⟩
  unfold BRow
  rw [List.length_append, List.map_append]; exact h2

theorem run_appS {w : World} {base : Nat} {v : Value} {xs : List UInt8} (hown : BRow w base v xs) (s : ByteArray) (hxs : 0 < xs.length) (hsz : xs.length + s.size < 2000000000)
    (hbase : base ≤ w.heap.size) (ty : TypeId) :
    ∃ g cap w', (Builtin.append_ #[22, 9] ty #[v, .string s]).run Tryz.prog w = .ok (.slice (some ⟨g, 0, none⟩) (xs.length + s.size) cap) w' ∧ BRow w' base (.slice (some ⟨g, 0, none⟩) (xs.length + s.size) cap) (xs ++ s.data.toList) ∧
      w.grownBy w' v.ownBlock ∧ Below base w w' := by
  obtain ⟨i, z, hi, hz, hs, hby, hzs⟩ := infoByte
  have hz' : i.zero = some (.int .u8 0) := by
    have : (Tryz.prog.info? 5).map (·.zero) = some (some (.int .u8 0)) := by kernel_rfl
    rw [hi] at this; simpa using this
  obtain ⟨v', w', h1, h2, h3, _⟩ := Lib.run_append_own_string (P := Tryz.prog) w base 22 9 ty 5 i Tryz.underlying22 Tryz.underlying9 hi hz' hs hby v xs.length _ hown s (by unfold maxLen; omega) (by omega) hbase
  have hcells : Lib.strCells s = s.data.toList.map fun c => Value.int .u8 c.toNat := by
    unfold Lib.strCells; rfl
  have hB : BRow w' base v' (xs ++ s.data.toList) := by
    unfold BRow
    rw [List.length_append, List.map_append, ← hcells, show s.data.toList.length = s.size by simp]; exact h2
  obtain ⟨g, cap, rfl, _, _⟩ := hB.form (by rw [List.length_append]; omega)
  rw [List.length_append, show s.data.toList.length = s.size by simp] at h1 hB
  exact ⟨g, cap, w', h1, hB, h3, (Below.refl base w).grown h3 hbase (fun k hk => (World.ownsRow.lt hown k hk).1)⟩

section
variable {ops : Array Oper} {o : Oper} {a : Act} {w : World} {K : Act → World → Prop} {Q : Exit → Act → World → Prop} {F : Prop} {rest : List Oper}
theorem wp_appB (s x : Operand) (ho : o.op = .call { callee := .builtin .append, args := #[s, x], argTypes := #[22, 22] })
    {base : Nat} {v : Value} {xs : List UInt8} (hs : a.eval s = v) (hown : BRow w base v xs) {b2 : Nat} {u : Value} {ys : List UInt8} (hx : a.eval x = u) (hu : BRow w b2 u ys) (hys : 0 < ys.length) (m : Nat) (hm : xs.length + ys.length = m) (hsz : m < 2000000000) (hbase : base ≤ w.heap.size)
    (h : ∀ g cap w', BRow w' base (.slice (some ⟨g, 0, none⟩) m cap) (xs ++ ys) → w.grownBy w' v.ownBlock → Below base w w' → K (a.put o.dst (.slice (some ⟨g, 0, none⟩) m cap)) w') :
    o.wp Tryz.prog a w K Q := by
  subst hm
  obtain ⟨g, cap, w', hr, h2, h3, h4⟩ := run_appB hown hu hys hsz hbase o.type
  unfold Oper.wp execOp
  simp only [ho, resolve, invoke, builtin, Sem.run_bind, Sem.run_pure, Result.andThen_ok, List.map_toArray, List.map_cons, List.map_nil, hs, hx, hr]
  exact h g cap w' h2 h3 h4
theorem wp_appS (s x : Operand) (ho : o.op = .call { callee := .builtin .append, args := #[s, x], argTypes := #[22, 9] })
    {base : Nat} {v : Value} {xs : List UInt8} (hs : a.eval s = v) (hown : BRow w base v xs) (t : ByteArray) (hx : a.eval x = .string t) (hxs : 0 < xs.length) (m : Nat) (hm : xs.length + t.size = m) (hsz : m < 2000000000) (hbase : base ≤ w.heap.size)
    (h : ∀ g cap w', BRow w' base (.slice (some ⟨g, 0, none⟩) m cap) (xs ++ t.data.toList) → w.grownBy w' v.ownBlock → Below base w w' → K (a.put o.dst (.slice (some ⟨g, 0, none⟩) m cap)) w') :
    o.wp Tryz.prog a w K Q := by
  subst hm
  obtain ⟨g, cap, w', hr, h2, h3, h4⟩ := run_appS hown t hxs hsz hbase o.type
  unfold Oper.wp execOp
  simp only [ho, resolve, invoke, builtin, Sem.run_bind, Sem.run_pure, Result.andThen_ok, List.map_toArray, List.map_cons, List.map_nil, hs, hx, hr]
  exact h g cap w' h2 h3 h4
theorem step_appS (hgd : o.guard = none) (s x : Operand) (ho : o.op = .call { callee := .builtin .append, args := #[s, x], argTypes := #[22, 9] })
    {base : Nat} {v : Value} {xs : List UInt8} (hs : a.eval s = v) (hown : BRow w base v xs) (t : ByteArray) (hx : a.eval x = .string t) (hxs : 0 < xs.length) (m : Nat) (hm : xs.length + t.size = m) (hsz : m < 2000000000) (hbase : base ≤ w.heap.size)
    (h : ∀ g cap w', BRow w' base (.slice (some ⟨g, 0, none⟩) m cap) (xs ++ t.data.toList) → w.grownBy w' v.ownBlock → Below base w w' → K (a.put o.dst (.slice (some ⟨g, 0, none⟩) m cap)) w') :
    if Region.wanted o (yielded ops a.tmps) = true then Oper.wp Tryz.prog o a w K Q else F := by
  have hw : Region.wanted o (yielded ops a.tmps) = true := by simp [Region.wanted, hgd]
  rw [if_pos hw]
  exact wp_appS s x ho hs hown t hx hxs m hm hsz hbase h
theorem list_appB (hgd : o.guard = none) (s x : Operand) (ho : o.op = .call { callee := .builtin .append, args := #[s, x], argTypes := #[22, 22] })
    {base : Nat} {v : Value} {xs : List UInt8} (hs : a.eval s = v) (hown : BRow w base v xs) {b2 : Nat} {u : Value} {ys : List UInt8} (hx : a.eval x = u) (hu : BRow w b2 u ys) (hys : 0 < ys.length) (m : Nat) (hm : xs.length + ys.length = m) (hsz : m < 2000000000) (hbase : base ≤ w.heap.size)
    (h : ∀ g cap w', BRow w' base (.slice (some ⟨g, 0, none⟩) m cap) (xs ++ ys) → w.grownBy w' v.ownBlock → Below base w w' → wpList Tryz.prog ops Q rest (a.put o.dst (.slice (some ⟨g, 0, none⟩) m cap)) w') :
    wpList Tryz.prog ops Q (o :: rest) a w :=
  wpList_plain hgd fun _ hK => wp_appB s x ho hs hown hx hu hys m hm hsz hbase fun g cap w' h1 h2 h3 => hK _ _ (h g cap w' h1 h2 h3)
end

end Go.Proofs.YtbbnejehglonjaaGreat

/- DERIVED. Contract of clathriref1.PutNode. -/
namespace Go.Proofs.YtbbnejehglonjaaGreat
open Go.RowKit
attribute [local irreducible] Calls
def ats (l : List Int) : List UInt8 := l.flatMap fun a => high (a + 1).toNat 2
def nodeHead (n : Nd) : List UInt8 := high n.gen.toNat 4 ++ high n.links.toNat 2 ++ high n.size.toNat 4
def nodeBytes (n : Nd) : List UInt8 := nodeHead n ++ ats n.direct ++ high (n.index + 1).toNat 2 ++ [UInt8.ofNat n.target.size] ++ n.target.data.toList
def putNode (kind : Int) (n : Nd) : Blk × Bool := if mayNode kind n = true then (Blk.of kind (nodeBytes n), true) else (Blk.zero, false)

theorem ats_length (l : List Int) : (ats l).length = 2 * l.length := by
  induction l with
  | nil => rfl
  | cons a l ih => simp only [ats, List.flatMap_cons, List.length_append, high_length, List.length_cons] at ih ⊢; omega
theorem ats_succ {l : List Int} {k : Nat} (h : k < l.length) : ats (l.take (k + 1)) = ats (l.take k) ++ high (l.getD k 0 + 1).toNat 2 := by
  rw [List.take_succ_eq_append_getElem h]
  simp only [ats, List.flatMap_append, List.flatMap_cons, List.flatMap_nil, List.append_nil, List.getD_eq_getElem?_getD, List.getElem?_eq_getElem h, Option.getD_some]

theorem okNew_bounds {pre : List Int} {a : Int} (h : okNew pre a = true) : -1 ≤ a ∧ a < 200 := by
  simp only [okNew, okAt, Bool.or_eq_true, Bool.and_eq_true, decide_eq_true_eq, beq_iff_eq] at h
  omega
theorem placesOk_bounds {l : List Int} (h : placesOk l = true) (k : Nat) (hk : k < l.length) : -1 ≤ l.getD k 0 ∧ l.getD k 0 < 200 := okNew_bounds (placesOk_iff.1 h k hk)
theorem mayTarget_le {t : ByteArray} (h : mayTarget t.data.toList = true) : t.size ≤ 32 := by
  simp only [mayTarget, Bool.and_eq_true, decide_eq_true_eq] at h
  have := h.2
  simpa using this
structure Nd.small (n : Nd) : Prop where
  gen : 1 ≤ n.gen
  links0 : 0 ≤ n.links
  links1 : n.links ≤ 1000
  size0 : 0 ≤ n.size
  size1 : n.size ≤ 1120
  target : n.target.size ≤ 32
  place : ∀ k, k < 5 → -1 ≤ n.places.getD k 0 ∧ n.places.getD k 0 < 200
theorem mayNode_small {kind : Int} {n : Nd} (h : mayNode kind n = true) : n.small := by
  simp only [mayNode, Bool.and_eq_true, decide_eq_true_eq] at h
  obtain ⟨⟨⟨⟨h1, h2⟩, h3⟩, h4⟩, h5⟩ := h
  have hp : ∀ k, k < 5 → -1 ≤ n.places.getD k 0 ∧ n.places.getD k 0 < 200 := fun k hk => placesOk_bounds h4 k hk
  have hempty : n.target.data.toList.isEmpty = true → n.target.size ≤ 32 := fun h => by
    have h' : n.target.data.toList.length = 0 := by rw [List.isEmpty_iff.1 h]; rfl
    have h'' : n.target.data.toList.length = n.target.size := by simp
    omega
  unfold kindOk at h5
  split at h5
  · simp only [Bool.and_eq_true, decide_eq_true_eq] at h5
    exact ⟨h1, h2, h3, h5.1.1, h5.1.2, hempty h5.2, hp⟩
  · split at h5
    · simp only [Bool.and_eq_true, decide_eq_true_eq] at h5
      exact ⟨h1, h2, h3, by omega, by omega, hempty h5.1.2, hp⟩
    · split at h5
      · simp only [Bool.and_eq_true, decide_eq_true_eq] at h5
        have := mayTarget_le h5.1.2
        exact ⟨h1, h2, h3, by omega, by omega, this, hp⟩
      · cases h5

theorem BlkAt.has {w : World} {g : Nat} {b : Blk} (h : BlkAt w g b) : hasBlk w g = true := by
  unfold hasBlk; rw [h.row]; simp [b.size_cells]

end Go.Proofs.YtbbnejehglonjaaGreat

/- DERIVED. Whole blocks compared. -/
namespace Go.Proofs.YtbbnejehglonjaaGreat
open Go.RowKit
attribute [local go_sem] hasBlk
theorem blk_fields : ((Tryz.prog.fieldsOf 37).toList.map fun f => (f.name, f.type, f.offset)) = [("Kind", 3, 0), ("Body", 35, 1)] := by kernel_rfl
theorem size_byte (w : World) : (sizeOf 5).run Tryz.prog w = .ok 1 w := by
  obtain ⟨i, z, hi, _, hs, _, _⟩ := elemByte.info
  simp [sizeOf, typeInfo, hi, hs]
theorem size_body (w : World) : (sizeOf 35).run Tryz.prog w = .ok 56 w := by
  have h : (Tryz.prog.info? 35).map (·.size) = some 56 := by kernel_rfl
  cases hi : Tryz.prog.info? 35 with
  | none => rw [hi] at h; cases h
  | some i =>
    rw [hi] at h
    have : i.size = 56 := by simpa using h
    simp [sizeOf, typeInfo, hi, this]
theorem Blk.cells_def (b : Blk) : b.cells = (Value.int .i64 b.kind :: b.body.map fun c => Value.int .u8 (c.toNat : Int)).toArray := by unfold Blk.cells; rfl
theorem part_kind (b : Blk) (w : World) : (part 3 b.cells 0).run Tryz.prog w = .ok (.int .i64 b.kind) w := by
  simp [part, isAgg, run_underlying Tryz.underlying3, Blk.cells_def]
theorem part_body (b : Blk) (w : World) : (part 35 b.cells 1).run Tryz.prog w = .ok (.agg (b.body.map Extern.Stop.cell).toArray) w := by
  have h : b.cells.extract 1 (1 + 56) = (b.body.map Extern.Stop.cell).toArray := by
    rw [Blk.cells_def]
    apply Array.ext'
    simp only [Array.toList_extract, List.extract_eq_take_drop, Nat.reduceAdd, Nat.reduceSub, List.drop_succ_cons, List.drop_zero]
    rw [List.take_of_length_le (by rw [List.length_map, b.len]; exact Nat.le_refl _)]
    rfl
  simp only [part, isAgg, Sem.run_bind, run_underlying Tryz.underlying35, Result.andThen_ok, Sem.run_pure, Sem.run_ite, if_true, size_body, h]

theorem run_eq_blk (w : World) (b c : Blk) : (Op.equalIn 10000 37 (.agg b.cells) (.agg c.cells)).run Tryz.prog w = .ok (decide (b = c)) w := by
  have ht : Tryz.prog.underlying 37 = some (.struct (Tryz.prog.fieldsOf 37)) := by
    unfold Program.fieldsOf; rw [Tryz.underlying37]
  rw [run_equalIn_struct w 9999 _ _ _ ht (by kernel_rfl)]
  have hf := blk_fields
  generalize (Tryz.prog.fieldsOf 37).toList = fs at hf
  obtain ⟨f, g, rfl⟩ : ∃ f g, fs = [f, g] := by
    have hl : fs.length = 2 := by have := congrArg List.length hf; simpa using this
    match fs, hl with
    | [f, g], _ => exact ⟨f, g, rfl⟩
  · simp only [List.map_cons, List.map_nil, List.cons.injEq, Prod.mk.injEq, and_true] at hf
    obtain ⟨⟨f1, f2, f3⟩, g1, g2, g3⟩ := hf
    simp only [Op.eqFields, f1, f2, f3, g1, g2, g3, Sem.run_ite, Sem.run_bind, part_kind, part_body, Result.andThen_ok]
    rw [run_equalIn_int w 9998 3 .i64 .i64 _ _ Tryz.underlying3]
    simp only [Result.andThen_ok]
    rw [run_equalIn_bytes w 9997 35 5 56 Tryz.underlying35 Tryz.underlying5 size_byte b.body c.body b.len c.len]
    by_cases hk : b.kind = c.kind
    · by_cases hb : b.body = c.body
      · have : b = c := Blk.ext' hk hb
        subst this
        simp
      · have : ¬ b = c := fun e => hb (by rw [e])
        simp [hk, hb, this]
    · have : ¬ b = c := fun e => hk (by rw [e])
      simp [hk, this]

theorem neq_blk (w : World) (b c : Blk) : (binOp .neq 37 (.agg b.cells) (.agg c.cells)).run Tryz.prog w = .ok (.bool (!decide (b = c))) w := by
  rw [run_neq_struct, run_eq_blk]; rfl
theorem eql_blk (w : World) (b c : Blk) : (binOp .eql 37 (.agg b.cells) (.agg c.cells)).run Tryz.prog w = .ok (.bool (decide (b = c))) w := by
  rw [run_eql_struct, run_eq_blk]; rfl
noncomputable def blkCmp (op : BinOp) (x y : Operand) (u v : Value) (w : World) : Result Value := Sem.run Tryz.prog (do eqGuard op 37 x y u v; binOp op 37 u v) w
@[go_sem] theorem cmp_neq (x y : Operand) (b c : Blk) (w : World) : blkCmp .neq x y (.agg b.cells) (.agg c.cells) w = .ok (.bool (!decide (b = c))) w := by
  unfold blkCmp
  rw [Sem.run_bind, run_eqGuard_agg w .neq _ x y _ _ (by kernel_rfl), Result.andThen_ok, neq_blk]
@[go_sem] theorem cmp_eql (x y : Operand) (b c : Blk) (w : World) : blkCmp .eql x y (.agg b.cells) (.agg c.cells) w = .ok (.bool (decide (b = c))) w := by
  unfold blkCmp
  rw [Sem.run_bind, run_eqGuard_agg w .eql _ x y _ _ (by kernel_rfl), Result.andThen_ok, eql_blk]
@[go_sem ↓] theorem exec_cmp_blk (ρ : Operand → Value) (w : World) (dst : Option Tmp) (op : BinOp) (x y : Operand) (z : TypeId) (ty : TypeId) (pos : String) (after : Array Edge) (gd : Option (Nat × Bool)) :
    (execOp ρ ⟨dst, .binOp op 37 x y z, ty, pos, after, gd⟩).run Tryz.prog w = (blkCmp op x y (ρ x) (ρ y) w).andThen fun v w => .ok (.value v) w := by
  simp only [execOp, blkCmp, Sem.run_bind]; rfl
attribute [irreducible] blkCmp
theorem num_sub_lt (b : Blk) (off n k : Nat) (h : n ≤ k) : num ((b.body.drop off).take n) < 256 ^ k := num_le _ _ (by rw [List.length_take]; omega)
end Go.Proofs.YtbbnejehglonjaaGreat
