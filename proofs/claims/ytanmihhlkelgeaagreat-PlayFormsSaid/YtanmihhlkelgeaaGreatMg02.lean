/- DERIVED. Contracts and laws that the proofs of this seat share, part 2 of 32: Ref1D Ref1E Ref1F Spec14 Spec15 LibK Ref1G Ref1H Ref1I Ref1J Ref1K. -/
import Derived.Deep.Onto
import Derived.Test.YtanmihhlkelgeaaGreatMg01
/- DERIVED. Contract of clathriref1.TakeNode. -/
namespace Go.Proofs.YtanmihhlkelgeaaGreat
open Go.RowKit
attribute [local irreducible] Calls

def Nd.zero : Nd := ⟨0, 0, 0, 0, 0, 0, 0, 0, ⟨#[]⟩⟩
/-- The number of n bytes of a block, from a place on. -/
def Blk.sub (b : Blk) (off n : Nat) : Nat := num ((b.body.drop off).take n)
def Blk.long (b : Blk) : Nat := (b.body.getD 20 0).toNat
def nodeOf (b : Blk) : Nd := ⟨b.sub 0 4, b.sub 4 2, b.sub 6 4, (b.sub 10 2 : Int) - 1, (b.sub 12 2 : Int) - 1, (b.sub 14 2 : Int) - 1, (b.sub 16 2 : Int) - 1, (b.sub 18 2 : Int) - 1, ⟨((b.body.drop 21).take b.long).toArray⟩⟩
def takeNode (b : Blk) : Nd × Bool := if 35 < b.long then (Nd.zero, false) else if putNode b.kind (nodeOf b) = (b, true) then (nodeOf b, true) else (Nd.zero, false)
theorem Blk.sub_lt (b : Blk) (off n : Nat) : b.sub off n < 256 ^ n := num_sub_lt b off n n (Nat.le_refl _)
/-- The node that is being read: k of its four blocks are there. -/
def nodeUpto (b : Blk) (k : Nat) : Nd := ⟨b.sub 0 4, b.sub 4 2, b.sub 6 4, if 0 < k then (b.sub 10 2 : Int) - 1 else 0, if 1 < k then (b.sub 12 2 : Int) - 1 else 0, if 2 < k then (b.sub 14 2 : Int) - 1 else 0, if 3 < k then (b.sub 16 2 : Int) - 1 else 0, 0, ⟨#[]⟩⟩
theorem free_of_row {w : World} {g : Nat} {c : Array Value} {t : TypeId} (h : objAt w g = some (.cells c t (0, 0))) (i : Nat) : w.frozen? ⟨g, i, none⟩ = false := by
  unfold objAt at h; simp [World.frozen?, h]
theorem nodeOf_wf (b : Blk) : (nodeOf b).wf := by
  have := b.sub_lt 0 4
  refine ⟨by simp [nodeOf], by simp only [nodeOf]; omega, ?_⟩
  show ByteArray.size ⟨((b.body.drop 21).take b.long).toArray⟩ ≤ 1000000
  show ((b.body.drop 21).take b.long).toArray.size ≤ 1000000
  simp [b.len]; omega

/-! Whole nodes loaded and stored. -/
theorem aggNd : AggOf Tryz.prog 142 9 := ⟨⟨_, Tryz.underlying142, rfl⟩, by kernel_rfl⟩
noncomputable def ndLoad (x : Value) (w : World) : Result Value := Sem.run Tryz.prog (Instr.loadAt 142 x) w
noncomputable def ndStore (x y : Value) (w : World) : Result Unit := Sem.run Tryz.prog (Instr.storeAt 142 x y) w
def hasNd (w : World) (g : Nat) : Bool := (rowAt w g).any (·.size == 9)
theorem hasNd_some {w : World} {g : Nat} (h : hasNd w g = true) : ∃ c, rowAt w g = some c ∧ c.size = 9 := by
  unfold hasNd at h
  cases hr : rowAt w g with
  | none => rw [hr] at h; cases h
  | some c => rw [hr] at h; exact ⟨c, rfl, by simpa using h⟩
theorem hasNd_obj {w : World} {g : Nat} {n : Nd} {t : TypeId} (h : objAt w g = some (.cells n.cells t (0, 0))) : hasNd w g = true := by
  unfold hasNd; rw [rowAt_heap h]; rfl
@[go_sem] theorem hasNd_new (w : World) (c : Array Value) (t : TypeId) (n : Nat) (hn : n = w.heap.size) (hc : c.size = 9) : hasNd (w.alloc (.cells c t)) n = true := by
  unfold hasNd; rw [rowAt_alloc_at w c t n hn]; simp [hc]
@[go_sem] theorem hasNd_drew (w : World) (n : Nat) : hasNd w.drew n = hasNd w n := rfl
@[go_sem] theorem load_nd (w : World) (g : Nat) (h : hasNd w g = true) : ndLoad (.pointer (some ⟨g, 0, none⟩)) w = .ok (.agg ((rowAt w g).getD #[])) w := by
  obtain ⟨c, hc, hs⟩ := hasNd_some h
  rw [hc]; exact run_load_agg aggNd w g hc hs
theorem Nd.size_cells (n : Nd) : n.cells.size = 9 := rfl
theorem Nd.one_cells (n : Nd) : ∀ v ∈ n.cells.toList, v.oneCell' = true := by
  intro v hv
  simp only [Nd.cells, List.mem_cons, List.not_mem_nil, or_false] at hv
  rcases hv with rfl | rfl | rfl | rfl | rfl | rfl | rfl | rfl | rfl <;> rfl
@[go_sem] theorem store_ndv (w : World) (g : Nat) (n : Nd) (h : hasNd w g = true) : ndStore (.pointer (some ⟨g, 0, none⟩)) (.agg n.cells) w = .ok () (w.setRow g n.cells) := by
  obtain ⟨c, hc, hs⟩ := hasNd_some h
  exact run_store_agg aggNd w g n.cells hc hs n.size_cells n.one_cells
@[go_sem] theorem store_nd (w : World) (g : Nat) (a l s d0 d1 d2 d3 ix : Int) (t : ByteArray) (h : hasNd w g = true) :
    ndStore (.pointer (some ⟨g, 0, none⟩)) (.agg #[.int .u32 a, .int .i64 l, .int .i64 s, .int .i64 d0, .int .i64 d1, .int .i64 d2, .int .i64 d3, .int .i64 ix, .string t]) w =
      .ok () (w.setRow g #[.int .u32 a, .int .i64 l, .int .i64 s, .int .i64 d0, .int .i64 d1, .int .i64 d2, .int .i64 d3, .int .i64 ix, .string t]) := store_ndv w g ⟨a, l, s, d0, d1, d2, d3, ix, t⟩ h
@[go_sem ↓] theorem exec_load_nd (ρ : Operand → Value) (w : World) (dst : Option Tmp) (x : Operand) (ty : TypeId) (pos : String) (after : Array Edge) (gd : Option (Nat × Bool)) :
    (execOp ρ ⟨dst, .load 142 x, ty, pos, after, gd⟩).run Tryz.prog w = (ndLoad (ρ x) w).andThen fun v w => .ok (.value v) w := by
  simp only [execOp, ndLoad, Sem.run_bind]; rfl
@[go_sem ↓] theorem exec_store_nd (ρ : Operand → Value) (w : World) (dst : Option Tmp) (x y : Operand) (ty : TypeId) (pos : String) (after : Array Edge) (gd : Option (Nat × Bool)) :
    (execOp ρ ⟨dst, .store 142 x y, ty, pos, after, gd⟩).run Tryz.prog w = (ndStore (ρ x) (ρ y) w).andThen fun _ w => .ok .skip w := by
  simp only [execOp, ndStore, Sem.run_bind]; rfl
attribute [irreducible] ndLoad ndStore
@[go_sem] theorem hasBlk_new (w : World) (b : Blk) (t : TypeId) (n : Nat) (hn : n = w.heap.size) : hasBlk (w.alloc (.cells b.cells t)) n = true := by
  unfold hasBlk; rw [rowAt_alloc_at w _ t n hn]; simp [b.size_cells]
theorem resOne_nd {p : Tmp} {tmps : Array Value} {w : World} {g : Nat} {n : Nd} (hp : tmps.getD p undef = .pointer (some ⟨g, 0, none⟩)) (h : rowAt w g = some n.cells) :
    (resultOne (.cell p 142) tmps).run Tryz.prog w = .ok (.agg n.cells) w := resOne_agg aggNd hp h n.size_cells
theorem objAt_setRow {w : World} {g : Nat} {c : Array Value} {t : TypeId} (h : objAt w g = some (.cells c t (0, 0))) (c' : Array Value) : objAt (w.setRow g c') g = some (.cells c' t (0, 0)) := setRow_heap w g c c' t (0, 0) h

end Go.Proofs.YtanmihhlkelgeaaGreat

/- DERIVED. Contract of clathriref1.PutIndex. -/
namespace Go.Proofs.YtanmihhlkelgeaaGreat
open Go.RowKit
attribute [local irreducible] Calls

def putIndex (l : List Int) : Blk × Bool := if l.length = 16 ∧ placesOk l = true then (Blk.of 5 (ats l), true) else (Blk.zero, false)
/-- Ints from a slice's address on. -/
def IntsAt (w : World) (a : Option Addr) (l : List Int) : Prop :=
  ∃ b off, (0 < l.length → a = some ⟨b, off, none⟩) ∧ ∀ i, i < l.length → w.cell? ⟨b, off + i, none⟩ = some (.int .i64 (l.getD i 0))
theorem IntsAt.below {w w' : World} {a : Option Addr} {l : List Int} (h : IntsAt w a l) (hb : Below w.heap.size w w') : IntsAt w' a l := by
  obtain ⟨b, off, h1, h2⟩ := h
  exact ⟨b, off, h1, fun i hi => grow_cell hb (h2 i hi)⟩
theorem at_none {x : Int} (h : (x == -1) = true) : -1 ≤ x ∧ x < 200 := by
  have : x = -1 := by simpa using h
  omega
theorem at_good {x : Int} (h : okAt x = true) : -1 ≤ x ∧ x < 200 := by
  simp only [okAt, Bool.and_eq_true, decide_eq_true_eq] at h; omega
theorem below_drawn {B : Nat} {w0 w : World} (h : Below B w0 w) (k : Nat) : Below B w0 { w with drawn := k } := ⟨h.os, h.tape, h.output, h.size, h.block⟩

end Go.Proofs.YtanmihhlkelgeaaGreat

/- DERIVED. Contract of clathriref1.TakeIndex. -/
namespace Go.Proofs.YtanmihhlkelgeaaGreat
open Go.RowKit
attribute [local irreducible] Calls

def indexOf (b : Blk) : List Int := (List.range 16).map fun i => (b.sub (2 * i) 2 : Int) - 1
def takeIndex (b : Blk) : Option (List Int) := if putIndex (indexOf b) = (b, true) then some (indexOf b) else none
def IRow (w : World) (B : Nat) (v : Value) (l : List Int) : Prop := w.ownsRow B 3 1 v l.length (l.map fun x => Value.int .i64 x)

end Go.Proofs.YtanmihhlkelgeaaGreat

/- DERIVED. Plain Lean functions: who is who, names, entries. No program in sight. -/
namespace Go.Proofs.YtanmihhlkelgeaaGreat
open Go.RowKit
attribute [local go_sem] hasBlk

/-- Who is who. -/
structure Id where
  label : Int
  at_ : Int
  gen : Int
  deriving DecidableEq
def Id.root : Id := ⟨-1, 0, 0⟩
def Id.zero : Id := ⟨0, 0, 0⟩
def mayID (i : Id) : Bool := decide (i = Id.root) || (decide (0 ≤ i.label) && decide (i.label < 8) && decide (1 ≤ i.at_) && decide (i.at_ < 200) && decide (1 ≤ i.gen))
def idBytes (i : Id) : List UInt8 := [UInt8.ofNat (i.label % 256).toNat] ++ high i.at_.toNat 2 ++ high i.gen.toNat 4
def putID (i : Id) : List UInt8 := if mayID i = true then idBytes i else []
def idOf (b : Blk) : Id := ⟨if b.body.getD 0 0 = 255 then -1 else ((b.body.getD 0 0).toNat : Int), b.sub 1 2, b.sub 3 4⟩
/-- The one of a block's first seven bytes. -/
def takeID (b : Blk) : Option Id := if putID (idOf b) = b.body.take 7 then some (idOf b) else none

/-- A byte that no name bears. -/
def badName (r : Nat) : Bool := decide (r < 33) || decide (126 < r) || decide (r = 47)
/-- May a name be: P14.1. -/
def mayName (l : List UInt8) : Bool := decide (1 ≤ l.length) && decide (l.length ≤ 14) && !(l.any fun c => badName c.toNat) && !(l == [46]) && !(l == [46, 46])

/-- A name of a folder. -/
structure Nm where
  dir : Id
  name : ByteArray
  at_ : Int
  gen : Int
  deriving DecidableEq
def Nm.zero : Nm := ⟨Id.zero, ⟨#[]⟩, 0, 0⟩
def mayEntry (n : Nm) : Bool := mayID n.dir && mayName n.name.data.toList && okAt n.at_ && decide (1 ≤ n.gen)
def entryBytes (n : Nm) : List UInt8 := idBytes n.dir ++ high n.at_.toNat 2 ++ high n.gen.toNat 4 ++ [UInt8.ofNat n.name.size] ++ n.name.data.toList
def putEntry (n : Nm) : Blk × Bool := if mayEntry n = true then (Blk.of 6 (entryBytes n), true) else (Blk.zero, false)
def nameOf (b : Blk) (i : Id) : Nm := ⟨i, ⟨((b.body.drop 14).take (b.body.getD 13 0).toNat).toArray⟩, b.sub 7 2, b.sub 9 4⟩
def takeEntry (b : Blk) : Option Nm :=
  match takeID b with
  | none => none
  | some i => if 14 < (b.body.getD 13 0).toNat then none else if putEntry (nameOf b i) = (b, true) then some (nameOf b i) else none
end Go.Proofs.YtanmihhlkelgeaaGreat

/- DERIVED. Plain Lean functions: the document's answer to tx, file, shard, store: blocks in a row. No program in sight. -/
namespace Go.Proofs.YtanmihhlkelgeaaGreat
open Go.RowKit
attribute [local go_sem] hasBlk

def isNode (k : Int) : Bool := k == 1 || k == 2 || k == 3
def real (l : List Int) : List Int := l.filter (· != -1)
def blkD (bs : List Blk) (i : Int) : Blk := bs.getD i.toNat Blk.zero
def inB (bs : List Blk) (i : Int) : Bool := decide (0 ≤ i) && decide (i < bs.length)
/-- The blocks that a File's node names. -/
def namesOf (bs : List Blk) (n : Nd) : List Int :=
  (if n.index == -1 then [] else n.index :: (if inB bs n.index then real ((takeIndex (blkD bs n.index)).getD []) else [])) ++ real n.direct
def named (bs : List Blk) (i : Nat) : List Int :=
  if (bs.getD i Blk.zero).kind = 1 then (match takeNode (bs.getD i Blk.zero) with | (n, true) => namesOf bs n | (_, false) => []) else []
/-- In use, as far as the blocks below k tell. -/
def usedUpto (bs : List Blk) (k j : Nat) : Bool :=
  (decide (j < k) && (j == 0 || isNode (bs.getD j Blk.zero).kind || (bs.getD j Blk.zero).kind == 6)) || (List.range k).any fun i => (named bs i).contains (j : Int)
def used (bs : List Blk) : List Bool := (List.range bs.length).map (usedUpto bs bs.length)
def firstOf (u : List Bool) : Int := match u.findIdx? (! ·) with | some j => j | none => -1
def markAll (u : List Bool) (l : List Int) : List Bool := l.foldl (fun u a => u.set a.toNat true) u
def first (bs : List Blk) (but : List Int) : Int := firstOf (markAll (used bs) but)
def left (bs : List Blk) : Nat := (used bs).countP (! ·)
def fileAt (bs : List Blk) (a : Int) : Nd × Bool := if inB bs a && (blkD bs a).kind == 1 then takeNode (blkD bs a) else (Nd.zero, false)
/-- Which block is block k of a file. -/
def whereIs (bs : List Blk) (n : Nd) (k : Nat) : Int :=
  if k < 4 then n.direct.getD k 0 else if inB bs n.index then (match takeIndex (blkD bs n.index) with | some l => l.getD (k - 4) 0 | none => -1) else -1
def Nd.setDirect (n : Nd) (k : Nat) (x : Int) : Nd :=
  match k with | 0 => { n with d0 := x } | 1 => { n with d1 := x } | 2 => { n with d2 := x } | _ => { n with d3 := x }
def putAt (bs : List Blk) (a k : Nat) (x : Int) : List Blk :=
  let n := (fileAt bs a).1
  if k < 4 then bs.set a (putNode 1 (n.setDirect k x)).1
  else
    let bs1 := bs.set n.index.toNat (putIndex (((takeIndex (blkD bs n.index)).getD []).set (k - 4) x)).1
    bs1.set a (putNode 1 n).1
def holes : List Int := List.replicate 16 (-1)
end Go.Proofs.YtanmihhlkelgeaaGreat

/- DERIVED. Rows of blocks: a slice whose elements are blocks. -/
namespace Go.Proofs.YtanmihhlkelgeaaGreat
open Go.RowKit
attribute [local go_sem] hasBlk

theorem elemBlk : ∃ i z, Tryz.prog.info? 139 = some i ∧ i.zero = some z ∧ i.size = 57 ∧ i.bytes = 64 ∧ z.cells = Blk.zero.cells := by
  have h : (Tryz.prog.info? 139).map (fun i => (i.size, i.bytes)) = some (57, 64) := by kernel_rfl
  have hz : (Tryz.prog.info? 139).map (fun i => i.zero.map (·.cells)) = some (some Blk.zero.cells) := by kernel_rfl
  cases hi : Tryz.prog.info? 139 with
  | none => rw [hi] at h; cases h
  | some i =>
    rw [hi] at h hz
    simp only [Option.map_some, Option.some.injEq, Prod.mk.injEq] at h hz
    cases hzz : i.zero with
    | none => rw [hzz] at hz; cases hz
    | some z => rw [hzz] at hz; exact ⟨i, z, rfl, hzz, h.1, h.2, by simpa using hz⟩

def flat (bs : List Blk) : List Value := bs.flatMap fun b => b.cells.toList
theorem Blk.len_cells (b : Blk) : b.cells.toList.length = 57 := by rw [Array.length_toList, b.size_cells]
theorem flat_length (bs : List Blk) : (flat bs).length = bs.length * 57 := by
  induction bs with
  | nil => rfl
  | cons b bs ih => simp only [flat, List.flatMap_cons, List.length_append, List.length_cons] at ih ⊢; rw [ih, b.len_cells]; omega
theorem flat_append (xs bs : List Blk) : flat (xs ++ bs) = flat xs ++ flat bs := by simp [flat]
theorem flat_drop (bs : List Blk) : ∀ i, (flat bs).drop (i * 57) = flat (bs.drop i) := by
  induction bs with
  | nil => intro i; simp [flat]
  | cons b bs ih =>
    intro i
    cases i with
    | zero => simp
    | succ i =>
      rw [List.drop_succ_cons, ← ih i]
      show (b.cells.toList ++ flat bs).drop ((i + 1) * 57) = _
      rw [List.drop_append, List.drop_of_length_le (by rw [b.len_cells]; omega), b.len_cells, List.nil_append]
      congr 1; omega
theorem flat_take (bs : List Blk) : ∀ i, (flat bs).take (i * 57) = flat (bs.take i) := by
  induction bs with
  | nil => intro i; simp [flat]
  | cons b bs ih =>
    intro i
    cases i with
    | zero => simp [flat]
    | succ i =>
      rw [List.take_succ_cons]
      show (b.cells.toList ++ flat bs).take ((i + 1) * 57) = b.cells.toList ++ flat (bs.take i)
      rw [List.take_append, List.take_of_length_le (by rw [b.len_cells]; omega), b.len_cells, ← ih i]
      congr 2; omega
theorem flat_at (bs : List Blk) (i : Nat) (h : i < bs.length) : ((flat bs).drop (i * 57)).take 57 = bs[i].cells.toList := by
  rw [flat_drop, List.drop_eq_getElem_cons h]
  show (bs[i].cells.toList ++ flat _).take 57 = _
  rw [List.take_append_of_le_length (by rw [Blk.len_cells]; exact Nat.le_refl _), List.take_of_length_le (by rw [Blk.len_cells]; exact Nat.le_refl _)]
theorem flat_get (bs : List Blk) (i j : Nat) (h : i < bs.length) (hj : j < 57) : (flat bs)[i * 57 + j]? = bs[i].cells[j]? := by
  have := congrArg (fun l => l[j]?) (flat_at bs i h)
  simp only [List.getElem?_take, if_pos hj, List.getElem?_drop] at this
  rw [this]; simp
theorem flat_set (bs : List Blk) (i : Nat) (h : i < bs.length) (b : Blk) : flat (bs.set i b) = (flat bs).take (i * 57) ++ b.cells.toList ++ (flat bs).drop (i * 57 + 57) := by
  rw [List.set_eq_take_append_cons_drop, if_pos h, flat_append, flat_take]
  show _ ++ (b.cells.toList ++ flat _) = _
  rw [← flat_drop, List.append_assoc]
  congr 4; omega
theorem flat_setByte (bs : List Blk) (i j : Nat) (h : i < bs.length) (hj : j < 56) (c : UInt8) : (flat bs).set (i * 57 + (j + 1)) (.int .u8 (c.toNat : Int)) = flat (bs.set i (bs[i].setB j c)) := by
  rw [flat_set bs i h, ← Blk.set_cells]
  apply List.ext_getElem?
  intro k
  have hl := flat_length bs
  rw [List.getElem?_set]
  by_cases hk1 : k < i * 57
  · rw [if_neg (by omega), List.append_assoc, List.getElem?_append_left (by rw [List.length_take]; omega), List.getElem?_take, if_pos hk1]
  · by_cases hk2 : k < i * 57 + 57
    · obtain ⟨m, rfl⟩ : ∃ m, k = i * 57 + m := ⟨k - i * 57, by omega⟩
      have e : List.length ((flat bs).take (i * 57)) = i * 57 := by rw [List.length_take]; omega
      rw [List.append_assoc, List.getElem?_append_right (by omega), e, List.getElem?_append_left (by simp [Blk.size_cells]; omega)]
      have hm : i * 57 + m - i * 57 = m := by omega
      rw [hm, Array.toList_setIfInBounds, List.getElem?_set, flat_get bs i m h (by omega)]
      by_cases hjm : j + 1 = m
      · subst hjm
        rw [if_pos rfl, if_pos rfl, if_pos (by omega), if_pos (by rw [Blk.len_cells]; omega)]
      · rw [if_neg (by omega), if_neg hjm]; simp
    · have ht : ((flat bs).take (i * 57)).length = i * 57 := by rw [List.length_take]; omega
      have hc : (bs[i].cells.setIfInBounds (j + 1) (.int .u8 (c.toNat : Int))).toList.length = 57 := by simp [Blk.size_cells]
      rw [if_neg (by omega), List.getElem?_append_right (by rw [List.length_append, ht, hc]; omega), List.length_append, ht, hc, List.getElem?_drop]
      congr 1
      omega

/-- A []api.Block: it lies from the front of a block that may be written. -/
def KRow (w : World) (B : Nat) (v : Value) (bs : List Blk) : Prop := w.ownsRow B 139 57 v bs.length (flat bs)

/-- 57 cells from a place on. -/
def rowOff (w : World) (g off : Nat) : Option (Array Value) := (rowAt w g).bind fun c => if off + 57 ≤ c.size then some (c.extract off (off + 57)) else none
def hasOff (w : World) (g off : Nat) : Bool := (rowOff w g off).isSome
theorem rowOff_some {w : World} {g off : Nat} {r : Array Value} (h : rowOff w g off = some r) : ∃ c t, w.heap[g]? = some (.cells c t (0, 0)) ∧ off + 57 ≤ c.size ∧ r = c.extract off (off + 57) := by
  unfold rowOff at h
  cases hr : rowAt w g with
  | none => rw [hr] at h; cases h
  | some c =>
    rw [hr] at h
    obtain ⟨t, ht⟩ := heap_rowAt hr
    simp only [Option.bind_some] at h
    split at h
    · rename_i hle
      exact ⟨c, t, ht, hle, by simpa using h.symm⟩
    · cases h
theorem load_off' (w : World) (g off : Nat) {r : Array Value} (h : rowOff w g off = some r) : (Instr.loadAt 139 (.pointer (some ⟨g, off, none⟩))).run Tryz.prog w = .ok (.agg r) w := by
  obtain ⟨c, t, hg, hle, rfl⟩ := rowOff_some h
  obtain ⟨d, hd, hd2⟩ := aggBlk.desc
  have hs : (sizeOf 139).run Tryz.prog w = .ok 57 w := by
    obtain ⟨i, z, hi, _, hs, _⟩ := elemBlk
    simp [sizeOf, typeInfo, hi, hs]
  have hag : (isAgg 139).run Tryz.prog w = .ok true w := by
    simp only [isAgg, Sem.run_bind, run_underlying hd, Result.andThen_ok]
    cases d <;> simp_all
  have hl := run_loadCells_list (P := Tryz.prog) w ⟨g, off, none⟩ (c.extract off (off + 57)).toList (fun j v hv => by
    have hadd : (⟨g, off, none⟩ : Addr).add j = ⟨g, off + j, none⟩ := by unfold Addr.add; split <;> simp_all
    rw [hadd, cell_of_row w g (off + j) c t (0, 0) hg]
    simp only [Array.toList_extract, List.extract_eq_take_drop, List.getElem?_take, List.getElem?_drop] at hv
    split at hv
    · simpa using hv
    · cases hv)
  have hlen : (c.extract off (off + 57)).toList.length = 57 := by simp; omega
  rw [hlen] at hl
  simp only [Instr.loadAt, Instr.sureAddr, Sem.run_bind, Sem.run_pure, Result.andThen_ok, loadVar, hag, if_true, hs, hl]
@[go_sem] theorem load_off (w : World) (g off : Nat) (h : hasOff w g off = true) : blkLoad (.pointer (some ⟨g, off, none⟩)) w = .ok (.agg ((rowOff w g off).getD #[])) w := by
  unfold hasOff at h
  cases hr : rowOff w g off with
  | none => rw [hr] at h; cases h
  | some r =>
    unfold blkLoad
    exact load_off' w g off hr
/-- A block laid over 57 cells. -/
def putOff (w : World) (g off : Nat) (c : Array Value) : World := w.setRow g (((rowAt w g).getD #[]).toList.take off ++ c.toList ++ ((rowAt w g).getD #[]).toList.drop (off + 57)).toArray
@[go_sem] theorem store_off (w : World) (g off : Nat) (b : Blk) (h : hasOff w g off = true) : blkStore (.pointer (some ⟨g, off, none⟩)) (.agg b.cells) w = .ok () (putOff w g off b.cells) := by
  unfold hasOff at h
  cases hr : rowOff w g off with
  | none => rw [hr] at h; cases h
  | some r =>
    obtain ⟨c, t, hg, hle, rfl⟩ := rowOff_some hr
    have hs : (sizeOf 139).run Tryz.prog w = .ok 57 w := by
      obtain ⟨i, z, hi, _, hs, _⟩ := elemBlk
      simp [sizeOf, typeInfo, hi, hs]
    have hst := run_storeCells_at Tryz.prog g off t b.cells.toList 0 c w hg (by rw [b.len_cells]; omega) b.one_cells
    unfold blkStore
    show (Instr.storeAt 139 _ _).run Tryz.prog w = _
    simp only [Instr.storeAt, Instr.sureAddr, Sem.run_bind, Sem.run_pure, Result.andThen_ok, storeVar, hs, Value.cells, b.size_cells, ne_eq, not_true_eq_false, if_false]
    rw [hst]
    unfold putOff
    rw [rowAt_heap hg, b.len_cells]
    simp

section
variable {w : World} {B g n cap : Nat} {v : Value} {bs : List Blk}
theorem KRow.form (h : KRow w B v bs) (hn : 0 < bs.length) : ∃ g cap, v = .slice (some ⟨g, 0, none⟩) bs.length cap ∧ B ≤ g ∧ g < w.heap.size := World.ownsRow.form h hn
theorem KRow.len (h : KRow w B (.slice (some ⟨g, 0, none⟩) n cap) bs) : n = bs.length := by
  rcases h.2 with ⟨h', _⟩ | ⟨g', cap', cur, h', _⟩
  · simp at h'
  · simp only [Value.slice.injEq] at h'; exact h'.2.1
theorem KRow.obj (h : KRow w B (.slice (some ⟨g, 0, none⟩) n cap) bs) : ∃ cur, w.heap[g]? = some (.cells cur 139 (0, 0)) ∧ bs.length ≤ cap ∧ cap ≤ maxLen ∧ cur.size = cap * 57 ∧ cur.toList.take (bs.length * 57) = flat bs ∧ B ≤ g := by
  rcases h.2 with ⟨h', _⟩ | ⟨g', cap', cur, h', hb, hg, hnc, hcm, hcs, htake⟩
  · simp at h'
  · simp only [Value.slice.injEq, Option.some.injEq, Addr.mk.injEq, and_true] at h'
    obtain ⟨rfl, rfl, rfl⟩ := h'
    exact ⟨cur, hg, hnc, hcm, hcs, htake, hb⟩
theorem KRow.below {w' : World} (h : KRow w B v bs) (hb : Below w.heap.size w w') : KRow w' B v bs := by
  refine World.ownsRow.kept h ⟨hb.os, hb.tape, hb.output, hb.size, fun k hk _ => hb.block k hk⟩ (row := none) ?_
  cases v.ownBlock <;> simp
theorem KRow.keeps {S : Nat → Prop} {w' : World} (h : KRow w B v bs) (hk : Keeps S w w') (hn : ∀ g, v.ownBlock = some g → ¬ S g) : KRow w' B v bs := by
  rcases h.2 with ⟨h', h0⟩ | ⟨g', cap', cur, h', hb, hg, hnc, hcm, hcs, htake⟩
  · exact ⟨h.1, .inl ⟨h', h0⟩⟩
  · exact ⟨h.1, .inr ⟨g', cap', cur, h', hb, by rw [hk.block g' (block_lt hg) (hn g' (by rw [h']; rfl))]; exact hg, hnc, hcm, hcs, htake⟩⟩
theorem KRow.mono {B' : Nat} (h : KRow w B v bs) (hb : B' ≤ B) : KRow w B' v bs := by
  refine ⟨h.1, ?_⟩
  rcases h.2 with h' | ⟨g, cap, cur, h1, h2, h3⟩
  · exact .inl h'
  · exact .inr ⟨g, cap, cur, h1, Nat.le_trans hb h2, h3⟩
theorem KRow.cellAt (h : KRow w B (.slice (some ⟨g, 0, none⟩) n cap) bs) (i j : Nat) (hi : i < bs.length) (hj : j < 57) : w.cell? ⟨g, i * 57 + j, none⟩ = bs[i].cells[j]? := by
  obtain rfl := h.len
  rw [World.ownsRow.cellAt h _ (by omega), flat_get bs i j hi hj]
theorem KRow.kind (h : KRow w B (.slice (some ⟨g, 0, none⟩) n cap) bs) (i : Nat) (hi : i < bs.length) : w.cell? ⟨g, i * 57, none⟩ = some (.int .i64 (bs.getD i Blk.zero).kind) := by
  have := h.cellAt i 0 hi (by decide)
  rw [Nat.add_zero, Blk.cell0] at this
  rw [this, List.getD_eq_getElem?_getD, List.getElem?_eq_getElem hi]; rfl
theorem KRow.byte (h : KRow w B (.slice (some ⟨g, 0, none⟩) n cap) bs) (i j : Nat) (hi : i < bs.length) (hj : j < 56) : w.cell? ⟨g, i * 57 + 1 + j, none⟩ = some (.int .u8 (((bs.getD i Blk.zero).body.getD j 0).toNat : Int)) := by
  have := h.cellAt i (j + 1) hi (by omega)
  rw [Blk.cellS _ j hj] at this
  rw [show i * 57 + 1 + j = i * 57 + (j + 1) by omega, this]
  simp only [List.getD_eq_getElem?_getD, List.getElem?_eq_getElem hi, Option.getD_some]
  rw [List.getElem?_eq_getElem (by rw [Blk.len]; exact hj)]; rfl
theorem KRow.free (h : KRow w B (.slice (some ⟨g, 0, none⟩) n cap) bs) (i : Nat) : w.frozen? ⟨g, i, none⟩ = false := by
  obtain rfl := h.len
  exact World.ownsRow.frozenAt h i
theorem KRow.row (h : KRow w B (.slice (some ⟨g, 0, none⟩) n cap) bs) (i : Nat) (hi : i < bs.length) : rowOff w g (i * 57) = some (bs.getD i Blk.zero).cells := by
  obtain ⟨cur, hg, hnc, hcm, hcs, htake, hb⟩ := h.obj
  have hle : i * 57 + 57 ≤ cur.size := by rw [hcs]; omega
  unfold rowOff
  rw [rowAt_heap hg]
  simp only [Option.bind_some, if_pos hle, Option.some.injEq]
  apply Array.ext'
  rw [List.getD_eq_getElem?_getD, List.getElem?_eq_getElem hi, Option.getD_some, ← flat_at bs i hi, ← htake]
  simp only [Array.toList_extract, List.extract_eq_take_drop]
  rw [List.drop_take, List.take_take]
  congr 1; omega
theorem KRow.has (h : KRow w B (.slice (some ⟨g, 0, none⟩) n cap) bs) (i : Nat) (hi : i < bs.length) : hasOff w g (i * 57) = true := by
  unfold hasOff; rw [h.row i hi]; rfl
theorem KRow.put (h : KRow w B (.slice (some ⟨g, 0, none⟩) n cap) bs) (i : Nat) (hi : i < bs.length) (b : Blk) : KRow (putOff w g (i * 57) b.cells) B (.slice (some ⟨g, 0, none⟩) n cap) (bs.set i b) := by
  obtain rfl := h.len
  obtain ⟨cur, hg, hnc, hcm, hcs, htake, hb⟩ := h.obj
  unfold putOff
  rw [rowAt_heap hg, Option.getD_some]
  refine ⟨by rw [flat_length], .inr ⟨g, cap, _, by rw [List.length_set], hb, setRow_heap w g cur _ _ _ hg, by rw [List.length_set]; exact hnc, hcm, ?_, ?_⟩⟩
  · simp only [List.size_toArray, List.length_append, List.length_take, List.length_drop, Array.length_toList, b.size_cells]; omega
  · simp only [List.length_set]
    rw [flat_set bs i hi, ← htake]
    apply List.ext_getElem?
    intro k
    have hcl : cur.toList.length = cap * 57 := by rw [Array.length_toList, hcs]
    simp only [List.getElem?_take, List.append_assoc]
    by_cases hk : k < bs.length * 57
    · rw [if_pos hk]
      by_cases hk1 : k < i * 57
      · rw [List.getElem?_append_left (by rw [List.length_take]; omega), List.getElem?_append_left (by rw [List.length_take, List.length_take]; omega)]
        simp only [List.getElem?_take, if_pos hk1, if_pos hk]
      · have t1 : (cur.toList.take (i * 57)).length = i * 57 := by rw [List.length_take, hcl]; omega
        have t2 : ((cur.toList.take (bs.length * 57)).take (i * 57)).length = i * 57 := by rw [List.length_take, List.length_take, hcl]; omega
        rw [List.getElem?_append_right (l₁ := cur.toList.take (i * 57)) (by rw [t1]; omega), List.getElem?_append_right (l₁ := (cur.toList.take (bs.length * 57)).take (i * 57)) (by rw [t2]; omega), t1, t2]
        by_cases hk2 : k < i * 57 + 57
        · rw [List.getElem?_append_left (by rw [b.len_cells]; omega), List.getElem?_append_left (by rw [b.len_cells]; omega)]
        · rw [List.getElem?_append_right (by rw [b.len_cells]; omega), List.getElem?_append_right (by rw [b.len_cells]; omega)]
          simp only [List.getElem?_drop, List.getElem?_take, b.len_cells]
          rw [if_pos (by omega)]
    · rw [if_neg hk]
      symm
      rw [List.getElem?_eq_none]
      simp only [List.length_append, List.length_take, List.length_drop, hcl, b.len_cells]
      omega
theorem putOff_keeps (w : World) (g off : Nat) (c : Array Value) : Keeps (· = g) w (putOff w g off c) :=
  ⟨rfl, rfl, rfl, by simp [putOff, World.setRow], fun k _ hk => by
    unfold putOff; simp only [World.setRow, Array.getElem?_modify]; rw [if_neg (fun e => hk e.symm)]⟩
theorem putOff_below {B' : Nat} {x : World} (h : Below B' x w) (hg : B' ≤ g) (off : Nat) (c : Array Value) : Below B' x (putOff w g off c) := by
  unfold putOff; exact h.setRow hg _
theorem KRow.setByte (h : KRow w B (.slice (some ⟨g, 0, none⟩) n cap) bs) (i j : Nat) (hi : i < bs.length) (hj : j < 56) (c : UInt8) :
    KRow (w.setCell ⟨g, i * 57 + 1 + j, none⟩ (.int .u8 (c.toNat : Int))) B (.slice (some ⟨g, 0, none⟩) n cap) (bs.set i ((bs.getD i Blk.zero).setB j c)) := by
  obtain rfl := h.len
  have := (World.ownsRow.stored h (i * 57 + (j + 1)) (.int .u8 (c.toNat : Int))).1
  rw [flat_setByte bs i j hi hj c] at this
  rw [show i * 57 + 1 + j = i * 57 + (j + 1) by omega]
  unfold KRow
  rw [List.length_set, List.getD_eq_getElem?_getD, List.getElem?_eq_getElem hi]; exact this
end
theorem KRow.alloc {w : World} {B : Nat} {v : Value} {bs : List Blk} (h : KRow w B v bs) (o : Obj) : KRow (w.alloc o) B v bs := World.ownsRow.alloc h o
theorem KRow.drew {w : World} {B : Nat} {v : Value} {bs : List Blk} (h : KRow w B v bs) : KRow w.drew B v bs := h
end Go.Proofs.YtanmihhlkelgeaaGreat

/- DERIVED. Contracts of clathriref1.Root, MayID. -/
namespace Go.Proofs.YtanmihhlkelgeaaGreat
open Go.RowKit
attribute [local go_sem] hasBlk
attribute [local irreducible] Calls

def Id.cells (i : Id) : Array Value := #[.int .i64 i.label, .int .i64 i.at_, .int .u32 i.gen]
theorem aggId : AggOf Tryz.prog 51 3 := ⟨⟨_, Tryz.underlying51, rfl⟩, by kernel_rfl⟩
noncomputable def idStore (x y : Value) (w : World) : Result Unit := Sem.run Tryz.prog (Instr.storeAt 51 x y) w
def hasId (w : World) (g : Nat) : Bool := (rowAt w g).any (·.size == 3)
theorem hasId_some {w : World} {g : Nat} (h : hasId w g = true) : ∃ c, rowAt w g = some c ∧ c.size = 3 := by
  unfold hasId at h
  cases hr : rowAt w g with
  | none => rw [hr] at h; cases h
  | some c => rw [hr] at h; exact ⟨c, rfl, by simpa using h⟩
theorem hasId_obj {w : World} {g : Nat} {c : Array Value} {t : TypeId} (h : objAt w g = some (.cells c t (0, 0))) (hc : c.size = 3) : hasId w g = true := by
  unfold hasId; rw [rowAt_heap h]; simp [hc]
@[go_sem] theorem hasId_new (w : World) (c : Array Value) (t : TypeId) (n : Nat) (hn : n = w.heap.size) (hc : c.size = 3) : hasId (w.alloc (.cells c t)) n = true := by
  unfold hasId; rw [rowAt_alloc_at w c t n hn]; simp [hc]
@[go_sem] theorem hasId_drew (w : World) (n : Nat) : hasId w.drew n = hasId w n := rfl
@[go_sem] theorem store_id (w : World) (gB : Nat) (l a g : Int) (hB : hasId w gB = true) :
    idStore (.pointer (some ⟨gB, 0, none⟩)) (.agg #[.int .i64 l, .int .i64 a, .int .u32 g]) w = .ok () (w.setRow gB #[.int .i64 l, .int .i64 a, .int .u32 g]) := by
  obtain ⟨c, hc, hs⟩ := hasId_some hB
  refine run_store_agg aggId w gB _ hc hs rfl ?_
  simp [Value.oneCell']
@[go_sem ↓] theorem exec_store_id (ρ : Operand → Value) (w : World) (dst : Option Tmp) (x y : Operand) (ty : TypeId) (pos : String) (after : Array Edge) (gd : Option (Nat × Bool)) :
    (execOp ρ ⟨dst, .store 51 x y, ty, pos, after, gd⟩).run Tryz.prog w = (idStore (ρ x) (ρ y) w).andThen fun _ w => .ok .skip w := by
  simp only [execOp, idStore, Sem.run_bind]; rfl
attribute [irreducible] idStore

end Go.Proofs.YtanmihhlkelgeaaGreat

/- DERIVED. Contract of clathriref1.MayID. -/
namespace Go.Proofs.YtanmihhlkelgeaaGreat
open Go.RowKit
attribute [local go_sem] hasBlk
attribute [local irreducible] Calls

/-- All ways of MayID's tests. -/
theorem mayID_ways (l a g : Int) : ((l == -1) = true ∧ (a == 0) = true ∧ (g == 0) = true ∧ mayID ⟨l, a, g⟩ = true ∧ ¬ (0 ≤ l)) ∨
    ((l == -1) = true ∧ (a == 0) = false ∧ mayID ⟨l, a, g⟩ = false ∧ ¬ (0 ≤ l)) ∨ ((l == -1) = true ∧ (a == 0) = true ∧ (g == 0) = false ∧ mayID ⟨l, a, g⟩ = false ∧ ¬ (0 ≤ l)) ∨
    ((l == -1) = false ∧ mayID ⟨l, a, g⟩ = false ∧ ¬ (0 ≤ l)) ∨ ((l == -1) = false ∧ mayID ⟨l, a, g⟩ = false ∧ 0 ≤ l ∧ ¬ (l < 8)) ∨
    ((l == -1) = false ∧ mayID ⟨l, a, g⟩ = false ∧ 0 ≤ l ∧ l < 8 ∧ ¬ (1 ≤ a)) ∨ ((l == -1) = false ∧ mayID ⟨l, a, g⟩ = false ∧ 0 ≤ l ∧ l < 8 ∧ 1 ≤ a ∧ ¬ (a < 200)) ∨
    ((l == -1) = false ∧ mayID ⟨l, a, g⟩ = false ∧ 0 ≤ l ∧ l < 8 ∧ 1 ≤ a ∧ a < 200 ∧ ¬ (1 ≤ g)) ∨ ((l == -1) = false ∧ mayID ⟨l, a, g⟩ = true ∧ 0 ≤ l ∧ l < 8 ∧ 1 ≤ a ∧ a < 200 ∧ 1 ≤ g) := by
  have e : mayID ⟨l, a, g⟩ = ((decide (l = -1) && decide (a = 0) && decide (g = 0)) || (decide (0 ≤ l) && decide (l < 8) && decide (1 ≤ a) && decide (a < 200) && decide (1 ≤ g))) := by
    simp [mayID, Id.root, Bool.and_assoc]
  rw [e]
  by_cases h1 : l = -1
  · subst h1
    by_cases h2 : a = 0 <;> by_cases h3 : g = 0 <;> simp [h2, h3]
  · by_cases h2 : 0 ≤ l
    · by_cases h3 : l < 8 <;> by_cases h4 : 1 ≤ a <;> by_cases h5 : a < 200 <;> by_cases h6 : 1 ≤ g <;> simp [h1, h2, h3, h4, h5, h6]
    · simp [h1, h2]

end Go.Proofs.YtanmihhlkelgeaaGreat

/- DERIVED. Contract of clathriref1.PutID. -/
namespace Go.Proofs.YtanmihhlkelgeaaGreat
open Go.RowKit
attribute [local go_sem] hasBlk
attribute [local irreducible] Calls

structure Id.wf (i : Id) : Prop where
  gen0 : 0 ≤ i.gen
  gen1 : i.gen ≤ 4294967295
theorem lit_row (x : World) (B : Nat) (v : Int) (c : UInt8) (hv : v = (c.toNat : Int)) (hb : B ≤ x.heap.size) : BRow (x.alloc (.cells #[.int .u8 v] 5)) B (.slice (some ⟨x.heap.size, 0, none⟩) 1 1) [c] :=
  BRow.lit c hv (by rw [objAt_alloc, if_pos rfl]) hb
theorem mayID_small {i : Id} (h : mayID i = true) : -1 ≤ i.label ∧ i.label < 8 ∧ 0 ≤ i.at_ ∧ i.at_ < 200 ∧ 0 ≤ i.gen := by
  obtain ⟨l, a, g⟩ := i
  simp only [mayID, Id.root, Bool.or_eq_true, Bool.and_eq_true, decide_eq_true_eq, Id.mk.injEq] at h
  dsimp only
  omega
theorem label_byte (l : Int) (h0 : -1 ≤ l) (h1 : l < 8) : IntKind.u8.wrap l = ((UInt8.ofNat (l % 256).toNat).toNat : Int) := by
  obtain rfl | rfl | rfl | rfl | rfl | rfl | rfl | rfl | rfl : l = -1 ∨ l = 0 ∨ l = 1 ∨ l = 2 ∨ l = 3 ∨ l = 4 ∨ l = 5 ∨ l = 6 ∨ l = 7 := by omega
  all_goals decide

end Go.Proofs.YtanmihhlkelgeaaGreat

/- DERIVED. Contract of clathriref1.TakeID. -/
namespace Go.Proofs.YtanmihhlkelgeaaGreat
open Go.RowKit
@[go_sem] theorem drew_setRow (w : World) (n : Nat) (c : Array Value) : w.drew.setRow n c = (w.setRow n c).drew := rfl
attribute [local irreducible] Calls

theorem idOf_wf (b : Blk) : (idOf b).wf := by
  have := b.sub_lt 3 4
  exact ⟨Int.natCast_nonneg _, by simp only [idOf]; omega⟩

attribute [local irreducible] Go.convert
theorem conv_row {w : World} {B : Nat} {v : Value} {l : List UInt8} (h : BRow w B v l) : (Go.convert 22 9 v).run Tryz.prog w = .ok (.string ⟨l.toArray⟩) w := by
  rcases h.2 with ⟨rfl, h0⟩ | ⟨g, cap, cur, rfl, _⟩
  · obtain rfl : l = [] := List.length_eq_zero_iff.1 h0
    rw [show (ByteArray.mk ([] : List UInt8).toArray) = ByteArray.empty from rfl]
    rw [run_convert_bytes_string (P := Tryz.prog) w 22 9 5 none _ _ Tryz.underlying22 Tryz.underlying5 Tryz.underlying9]; rfl
  · exact run_convert_bytes_back (P := Tryz.prog) w 22 9 5 ⟨g, 0, none⟩ cap l Tryz.underlying22 Tryz.underlying5 Tryz.underlying9 (fun j hj => World.ownsRow.cells h (g := g) rfl j _ (by simp [hj]))
theorem conv_blk (w : World) (g at_ n cap off : Nat) (b : Blk) (h : BlkAt w g b) (ha : at_ = 1 + off) (hn : off + n ≤ 56) :
    (Go.convert 22 9 (.slice (some ⟨g, at_, none⟩) n cap)).run Tryz.prog w = .ok (.string ⟨((b.body.drop off).take n).toArray⟩) w := by
  subst ha
  have hl : ((b.body.drop off).take n).length = n := by rw [List.length_take, List.length_drop, b.len]; omega
  have := run_convert_bytes_back (P := Tryz.prog) w 22 9 5 ⟨g, 1 + off, none⟩ cap ((b.body.drop off).take n) Tryz.underlying22 Tryz.underlying5 Tryz.underlying9 (fun j hj => by
    rw [hl] at hj
    have hc := h.cell (off + j) (by omega)
    have hadd : (⟨g, 1 + off, none⟩ : Addr).add j = ⟨g, 1 + (off + j), none⟩ := by unfold Addr.add; split <;> simp_all [Nat.add_assoc]
    rw [hadd, hc]
    simp only [List.getElem_take, List.getElem_drop])
  rwa [hl] at this

end Go.Proofs.YtanmihhlkelgeaaGreat

/- DERIVED. Contracts of clathriref1.MayName, MayEntry, PutEntry. -/
namespace Go.Proofs.YtanmihhlkelgeaaGreat
open Go.RowKit
attribute [local irreducible] Calls

theorem eqs (s : ByteArray) (l : List UInt8) : (s.toList == l) = (s.data.toList == l) := by rw [ByteArray.toList_eq]

theorem mayName_parts (l : List UInt8) (h1 : (l == [46]) = false) (h2 : (l == [46, 46]) = false) (h3 : 1 ≤ l.length) (h4 : l.length ≤ 14) :
    mayName l = !(l.any fun c => badName c.toNat) := by
  unfold mayName; rw [h1, h2]; simp [h3, h4]

theorem mayName_long {l : List UInt8} (h : 14 < l.length) : mayName l = false := by
  unfold mayName
  have : decide (l.length ≤ 14) = false := by simp; omega
  rw [this]; simp
theorem mayName_nil {l : List UInt8} (h : l.length < 1) : mayName l = false := by
  obtain rfl : l = [] := List.length_eq_zero_iff.1 (by omega)
  rfl
theorem mayName_bad {l : List UInt8} (h : (l.any fun c => badName c.toNat) = true) : mayName l = false := by
  unfold mayName; rw [h]; simp
theorem any_bad_at {l : List UInt8} {k : Nat} (h : k < l.length) (hb : badName (l[k]).toNat = true) : (l.any fun c => badName c.toNat) = true :=
  List.any_eq_true.2 ⟨l[k], List.getElem_mem h, hb⟩
theorem badName_cases (r : Nat) : (badName r = true ∧ r < 33) ∨ (badName r = true ∧ 33 ≤ r ∧ 126 < r) ∨ (badName r = true ∧ 33 ≤ r ∧ r ≤ 126 ∧ r = 47) ∨ (badName r = false ∧ 33 ≤ r ∧ r ≤ 126 ∧ r ≠ 47) := by
  unfold badName
  by_cases h1 : r < 33
  · left; simp [h1]
  · by_cases h2 : 126 < r
    · right; left; simp [h2]; omega
    · by_cases h3 : r = 47
      · right; right; left; subst h3; simp
      · right; right; right; simp [h1, h2, h3]; omega

theorem any_bad_false {l : List UInt8} {k : Nat} : (l.take k).any (fun c => badName c.toNat) = false → ∀ h : k < l.length, badName (l[k]).toNat = false → (l.take (k + 1)).any (fun c => badName c.toNat) = false := by
  intro h1 h h2
  rw [List.take_succ_eq_append_getElem h, List.any_append, h1]
  simp [h2]

def Nm.cells (n : Nm) : Array Value := #[.int .i64 n.dir.label, .int .i64 n.dir.at_, .int .u32 n.dir.gen, .string n.name, .int .i64 n.at_, .int .u32 n.gen]
structure Nm.wf (n : Nm) : Prop where
  dir : n.dir.wf
  gen0 : 0 ≤ n.gen
  gen1 : n.gen ≤ 4294967295
  long : n.name.size ≤ 1000000
theorem mayEntry_parts (n : Nm) : mayEntry n = (((mayID n.dir && mayName n.name.data.toList) && okAt n.at_) && decide (1 ≤ n.gen)) := rfl

theorem mayEntry_small {n : Nm} (h : mayEntry n = true) : mayID n.dir = true ∧ 1 ≤ n.name.size ∧ n.name.size ≤ 14 ∧ 1 ≤ n.at_ ∧ n.at_ < 200 ∧ 1 ≤ n.gen := by
  have hl : n.name.data.toList.length = n.name.size := by simp
  simp only [mayEntry, mayName, okAt, Bool.and_eq_true, decide_eq_true_eq] at h
  obtain ⟨⟨⟨h1, ⟨⟨⟨h2, h3⟩, h4⟩, h5⟩, h6⟩, h7, h8⟩, h9⟩ := h
  exact ⟨h1, by omega, by omega, h7, h8, h9⟩

end Go.Proofs.YtanmihhlkelgeaaGreat
