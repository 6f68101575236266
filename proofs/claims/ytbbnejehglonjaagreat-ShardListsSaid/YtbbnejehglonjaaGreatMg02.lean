/- DERIVED. Contracts and laws that the proofs of this seat share, part 2 of 40: Ref1D Ref1E Ref1F Spec14 Spec15 LibK Ref1G Ref1I PaA. -/
import Derived.Deep.Onto
import Derived.Test.YtbbnejehglonjaaGreatMg00
import Derived.Test.YtbbnejehglonjaaGreatMg01
/- DERIVED. Contract of clathriref1.TakeNode. -/
namespace Go.Proofs.YtbbnejehglonjaaGreat
open Go.RowKit
attribute [local irreducible] Calls
def Nd.zero : Nd := ⟨0, 0, 0, 0, 0, 0, 0, 0, ⟨#[]⟩⟩
/-- The number of n bytes of a block, from a place on. -/
def Blk.sub (b : Blk) (off n : Nat) : Nat := num ((b.body.drop off).take n)
def Blk.long (b : Blk) : Nat := (b.body.getD 20 0).toNat
def nodeOf (b : Blk) : Nd := ⟨b.sub 0 4, b.sub 4 2, b.sub 6 4, (b.sub 10 2 : Int) - 1, (b.sub 12 2 : Int) - 1, (b.sub 14 2 : Int) - 1, (b.sub 16 2 : Int) - 1, (b.sub 18 2 : Int) - 1, ⟨((b.body.drop 21).take b.long).toArray⟩⟩
def takeNode (b : Blk) : Nd × Bool := if 35 < b.long then (Nd.zero, false) else if putNode b.kind (nodeOf b) = (b, true) then (nodeOf b, true) else (Nd.zero, false)
theorem Blk.sub_lt (b : Blk) (off n : Nat) : b.sub off n < 256 ^ n := num_sub_lt b off n n (Nat.le_refl _)
/-- The node that is being read: k of its four blocks are there. -/
def nodeUpto (b : Blk) (k : Nat) : Nd := ⟨b.sub 0 4, b.sub 4 2, b.sub 6 4, if 0 < k then (b.sub 10 2 : Int) - 1 else 0, if 1 < k then (b.sub 12 2 : Int) - 1 else 0, if 2 < k then (b.sub 14 2 : Int) - 1 else 0, if 3 < k then (b.sub 16 2 : Int) - 1 else 0, 0, ⟨#[]⟩⟩
theorem free_of_row {w : World} {g : Nat} {c : Array Value} {t : TypeId} (h : objAt w g = some (.cells c t (0, 0))) (i : Nat) : w.frozen? ⟨g, i, none⟩ = false := by
  unfold objAt at h; simp [World.frozen?, h]
/-! Whole nodes loaded and stored. -/
theorem aggNd : AggOf Tryz.prog 165 9 := ⟨⟨_, Tryz.underlying165, rfl⟩, by kernel_rfl⟩
noncomputable def ndLoad (x : Value) (w : World) : Result Value := Sem.run Tryz.prog (Instr.loadAt 165 x) w
noncomputable def ndStore (x y : Value) (w : World) : Result Unit := Sem.run Tryz.prog (Instr.storeAt 165 x y) w
def hasNd (w : World) (g : Nat) : Bool := (rowAt w g).any (·.size == 9)
theorem hasNd_some {w : World} {g : Nat} (h : hasNd w g = true) : ∃ c, rowAt w g = some c ∧ c.size = 9 := by
  unfold hasNd at h
  cases hr : rowAt w g with
  | none => rw [hr] at h; cases h
  | some c => rw [hr] at h; exact ⟨c, rfl, by simpa using h⟩
theorem hasNd_obj {w : World} {g : Nat} {n : Nd} {t : TypeId} (h : objAt w g = some (.cells n.cells t (0, 0))) : hasNd w g = true := by
  unfold hasNd; rw [rowAt_heap h]; rfl
@[go_sem] theorem hasNd_new (w : World) (c : Array Value) (t : TypeId) (n : Nat) (hn : n = w.heap.size) (hc : c.size = 9) : hasNd (w.alloc (.cells c t)) n = true := by
  unfold hasNd; rw [rowAt_alloc_at w c t n hn]; simp [hc]
@[go_sem] theorem hasNd_drew (w : World) (n : Nat) : hasNd w.drew n = hasNd w n := rfl
@[go_sem] theorem load_nd (w : World) (g : Nat) (h : hasNd w g = true) : ndLoad (.pointer (some ⟨g, 0, none⟩)) w = .ok (.agg ((rowAt w g).getD #[])) w := by
  obtain ⟨c, hc, hs⟩ := hasNd_some h
  rw [hc]; exact run_load_agg aggNd w g hc hs
theorem Nd.size_cells (n : Nd) : n.cells.size = 9 := rfl
theorem Nd.one_cells (n : Nd) : ∀ v ∈ n.cells.toList, v.oneCell' = true := by
  intro v hv
  simp only [Nd.cells, List.mem_cons, List.not_mem_nil, or_false] at hv
  rcases hv with rfl | rfl | rfl | rfl | rfl | rfl | rfl | rfl | rfl <;> rfl
@[go_sem] theorem store_ndv (w : World) (g : Nat) (n : Nd) (h : hasNd w g = true) : ndStore (.pointer (some ⟨g, 0, none⟩)) (.agg n.cells) w = .ok () (w.setRow g n.cells) := by
  obtain ⟨c, hc, hs⟩ := hasNd_some h
  exact run_store_agg aggNd w g n.cells hc hs n.size_cells n.one_cells
@[go_sem] theorem store_nd (w : World) (g : Nat) (a l s d0 d1 d2 d3 ix : Int) (t : ByteArray) (h : hasNd w g = true) :
    ndStore (.pointer (some ⟨g, 0, none⟩)) (.agg #[.int .u32 a, .int .i64 l, .int .i64 s, .int .i64 d0, .int .i64 d1, .int .i64 d2, .int .i64 d3, .int .i64 ix, .string t]) w =
      .ok () (w.setRow g #[.int .u32 a, .int .i64 l, .int .i64 s, .int .i64 d0, .int .i64 d1, .int .i64 d2, .int .i64 d3, .int .i64 ix, .string t]) := store_ndv w g ⟨a, l, s, d0, d1, d2, d3, ix, t⟩ h
@[go_sem ↓] theorem exec_load_nd (ρ : Operand → Value) (w : World) (dst : Option Tmp) (x : Operand) (ty : TypeId) (pos : String) (after : Array Edge) (gd : Option (Nat × Bool)) :
    (execOp ρ ⟨dst, .load 165 x, ty, pos, after, gd⟩).run Tryz.prog w = (ndLoad (ρ x) w).andThen fun v w => .ok (.value v) w := by
  simp only [execOp, ndLoad, Sem.run_bind]; rfl
@[go_sem ↓] theorem exec_store_nd (ρ : Operand → Value) (w : World) (dst : Option Tmp) (x y : Operand) (ty : TypeId) (pos : String) (after : Array Edge) (gd : Option (Nat × Bool)) :
    (execOp ρ ⟨dst, .store 165 x y, ty, pos, after, gd⟩).run Tryz.prog w = (ndStore (ρ x) (ρ y) w).andThen fun _ w => .ok .skip w := by
  simp only [execOp, ndStore, Sem.run_bind]; rfl
attribute [irreducible] ndLoad ndStore
@[go_sem] theorem hasBlk_new (w : World) (b : Blk) (t : TypeId) (n : Nat) (hn : n = w.heap.size) : hasBlk (w.alloc (.cells b.cells t)) n = true := by
  unfold hasBlk; rw [rowAt_alloc_at w _ t n hn]; simp [b.size_cells]
theorem resOne_nd {p : Tmp} {tmps : Array Value} {w : World} {g : Nat} {n : Nd} (hp : tmps.getD p undef = .pointer (some ⟨g, 0, none⟩)) (h : rowAt w g = some n.cells) :
    (resultOne (.cell p 165) tmps).run Tryz.prog w = .ok (.agg n.cells) w := resOne_agg aggNd hp h n.size_cells
theorem objAt_setRow {w : World} {g : Nat} {c : Array Value} {t : TypeId} (h : objAt w g = some (.cells c t (0, 0))) (c' : Array Value) : objAt (w.setRow g c') g = some (.cells c' t (0, 0)) := setRow_heap w g c c' t (0, 0) h

end Go.Proofs.YtbbnejehglonjaaGreat

/- DERIVED. Contract of clathriref1.PutIndex. -/
namespace Go.Proofs.YtbbnejehglonjaaGreat
open Go.RowKit
attribute [local irreducible] Calls
def putIndex (l : List Int) : Blk × Bool := if l.length = 16 ∧ placesOk l = true then (Blk.of 5 (ats l), true) else (Blk.zero, false)
/-- Ints from a slice's address on. -/
def IntsAt (w : World) (a : Option Addr) (l : List Int) : Prop :=
  ∃ b off, (0 < l.length → a = some ⟨b, off, none⟩) ∧ ∀ i, i < l.length → w.cell? ⟨b, off + i, none⟩ = some (.int .i64 (l.getD i 0))
theorem IntsAt.below {w w' : World} {a : Option Addr} {l : List Int} (h : IntsAt w a l) (hb : Below w.heap.size w w') : IntsAt w' a l := by
  obtain ⟨b, off, h1, h2⟩ := h
  exact ⟨b, off, h1, fun i hi => grow_cell hb (h2 i hi)⟩
end Go.Proofs.YtbbnejehglonjaaGreat

/- DERIVED. Contract of clathriref1.TakeIndex. -/
namespace Go.Proofs.YtbbnejehglonjaaGreat
open Go.RowKit
attribute [local irreducible] Calls
def indexOf (b : Blk) : List Int := (List.range 16).map fun i => (b.sub (2 * i) 2 : Int) - 1
def takeIndex (b : Blk) : Option (List Int) := if putIndex (indexOf b) = (b, true) then some (indexOf b) else none
def IRow (w : World) (B : Nat) (v : Value) (l : List Int) : Prop := w.ownsRow B 3 1 v l.length (l.map fun x => Value.int .i64 x)

end Go.Proofs.YtbbnejehglonjaaGreat

/- DERIVED. Plain Lean functions: who is who, names, entries. No program in sight. -/
namespace Go.Proofs.YtbbnejehglonjaaGreat
open Go.RowKit
attribute [local go_sem] hasBlk
/-- Who is who. -/
structure Id where
  label : Int
  at_ : Int
  gen : Int
  deriving DecidableEq
def Id.root : Id := ⟨-1, 0, 0⟩
def Id.zero : Id := ⟨0, 0, 0⟩
def mayID (i : Id) : Bool := decide (i = Id.root) || (decide (0 ≤ i.label) && decide (i.label < 8) && decide (1 ≤ i.at_) && decide (i.at_ < 200) && decide (1 ≤ i.gen))
def idBytes (i : Id) : List UInt8 := [UInt8.ofNat (i.label % 256).toNat] ++ high i.at_.toNat 2 ++ high i.gen.toNat 4
def putID (i : Id) : List UInt8 := if mayID i = true then idBytes i else []
def idOf (b : Blk) : Id := ⟨if b.body.getD 0 0 = 255 then -1 else ((b.body.getD 0 0).toNat : Int), b.sub 1 2, b.sub 3 4⟩
/-- The one of a block's first seven bytes. -/
def takeID (b : Blk) : Option Id := if putID (idOf b) = b.body.take 7 then some (idOf b) else none

/-- A byte that no name bears. -/
def badName (r : Nat) : Bool := decide (r < 33) || decide (126 < r) || decide (r = 47)
/-- May a name be: P14.1. -/
def mayName (l : List UInt8) : Bool := decide (1 ≤ l.length) && decide (l.length ≤ 14) && !(l.any fun c => badName c.toNat) && !(l == [46]) && !(l == [46, 46])

/-- A name of a folder. -/
structure Nm where
  dir : Id
  name : ByteArray
  at_ : Int
  gen : Int
  deriving DecidableEq
def Nm.zero : Nm := ⟨Id.zero, ⟨#[]⟩, 0, 0⟩
def mayEntry (n : Nm) : Bool := mayID n.dir && mayName n.name.data.toList && okAt n.at_ && decide (1 ≤ n.gen)
def entryBytes (n : Nm) : List UInt8 := idBytes n.dir ++ high n.at_.toNat 2 ++ high n.gen.toNat 4 ++ [UInt8.ofNat n.name.size] ++ n.name.data.toList
def putEntry (n : Nm) : Blk × Bool := if mayEntry n = true then (Blk.of 6 (entryBytes n), true) else (Blk.zero, false)
def nameOf (b : Blk) (i : Id) : Nm := ⟨i, ⟨((b.body.drop 14).take (b.body.getD 13 0).toNat).toArray⟩, b.sub 7 2, b.sub 9 4⟩
def takeEntry (b : Blk) : Option Nm :=
  match takeID b with
  | none => none
  | some i => if 14 < (b.body.getD 13 0).toNat then none else if putEntry (nameOf b i) = (b, true) then some (nameOf b i) else none
end Go.Proofs.YtbbnejehglonjaaGreat

/- DERIVED. Plain Lean functions: the document's answer to tx, file, shard, store: blocks in a row. No program in sight. -/
namespace Go.Proofs.YtbbnejehglonjaaGreat
open Go.RowKit
attribute [local go_sem] hasBlk
def isNode (k : Int) : Bool := k == 1 || k == 2 || k == 3
def real (l : List Int) : List Int := l.filter (· != -1)
def blkD (bs : List Blk) (i : Int) : Blk := bs.getD i.toNat Blk.zero
def inB (bs : List Blk) (i : Int) : Bool := decide (0 ≤ i) && decide (i < bs.length)
/-- The blocks that a File's node names. -/
def namesOf (bs : List Blk) (n : Nd) : List Int :=
  (if n.index == -1 then [] else n.index :: (if inB bs n.index then real ((takeIndex (blkD bs n.index)).getD []) else [])) ++ real n.direct
def named (bs : List Blk) (i : Nat) : List Int :=
  if (bs.getD i Blk.zero).kind = 1 then (match takeNode (bs.getD i Blk.zero) with | (n, true) => namesOf bs n | (_, false) => []) else []
/-- In use, as far as the blocks below k tell. -/
def usedUpto (bs : List Blk) (k j : Nat) : Bool :=
  (decide (j < k) && (j == 0 || isNode (bs.getD j Blk.zero).kind || (bs.getD j Blk.zero).kind == 6)) || (List.range k).any fun i => (named bs i).contains (j : Int)
def used (bs : List Blk) : List Bool := (List.range bs.length).map (usedUpto bs bs.length)
def firstOf (u : List Bool) : Int := match u.findIdx? (! ·) with | some j => j | none => -1
def markAll (u : List Bool) (l : List Int) : List Bool := l.foldl (fun u a => u.set a.toNat true) u
def first (bs : List Blk) (but : List Int) : Int := firstOf (markAll (used bs) but)
def left (bs : List Blk) : Nat := (used bs).countP (! ·)
end Go.Proofs.YtbbnejehglonjaaGreat

/- DERIVED. Rows of blocks: a slice whose elements are blocks. -/
namespace Go.Proofs.YtbbnejehglonjaaGreat
open Go.RowKit
attribute [local go_sem] hasBlk
theorem elemBlk : ∃ i z, Tryz.prog.info? 37 = some i ∧ i.zero = some z ∧ i.size = 57 ∧ i.bytes = 64 ∧ z.cells = Blk.zero.cells := by
  have h : (Tryz.prog.info? 37).map (fun i => (i.size, i.bytes)) = some (57, 64) := by kernel_rfl
  have hz : (Tryz.prog.info? 37).map (fun i => i.zero.map (·.cells)) = some (some Blk.zero.cells) := by kernel_rfl
  cases hi : Tryz.prog.info? 37 with
  | none => rw [hi] at h; cases h
  | some i =>
    rw [hi] at h hz
    simp only [Option.map_some, Option.some.injEq, Prod.mk.injEq] at h hz
    cases hzz : i.zero with
    | none => rw [hzz] at hz; cases hz
    | some z => rw [hzz] at hz; exact ⟨i, z, rfl, hzz, h.1, h.2, by simpa using hz⟩

def flat (bs : List Blk) : List Value := bs.flatMap fun b => b.cells.toList
theorem Blk.len_cells (b : Blk) : b.cells.toList.length = 57 := by rw [Array.length_toList, b.size_cells]
theorem flat_length (bs : List Blk) : (flat bs).length = bs.length * 57 := by
  induction bs with
  | nil => rfl
  | cons b bs ih => simp only [flat, List.flatMap_cons, List.length_append, List.length_cons] at ih ⊢; rw [ih, b.len_cells]; omega
theorem flat_append (xs bs : List Blk) : flat (xs ++ bs) = flat xs ++ flat bs := by simp [flat]
theorem flat_drop (bs : List Blk) : ∀ i, (flat bs).drop (i * 57) = flat (bs.drop i) := by
  induction bs with
  | nil => intro i; simp [flat]
  | cons b bs ih =>
    intro i
    cases i with
    | zero => simp
    | succ i =>
      rw [List.drop_succ_cons, ← ih i]
      show (b.cells.toList ++ flat bs).drop ((i + 1) * 57) = _
      rw [List.drop_append, List.drop_of_length_le (by rw [b.len_cells]; omega), b.len_cells, List.nil_append]
      congr 1; omega
theorem flat_take (bs : List Blk) : ∀ i, (flat bs).take (i * 57) = flat (bs.take i) := by
  induction bs with
  | nil => intro i; simp [flat]
  | cons b bs ih =>
    intro i
    cases i with
    | zero => simp [flat]
    | succ i =>
      rw [List.take_succ_cons]
      show (b.cells.toList ++ flat bs).take ((i + 1) * 57) = b.cells.toList ++ flat (bs.take i)
      rw [List.take_append, List.take_of_length_le (by rw [b.len_cells]; omega), b.len_cells, ← ih i]
      congr 2; omega
theorem flat_at (bs : List Blk) (i : Nat) (h : i < bs.length) : ((flat bs).drop (i * 57)).take 57 = bs[i].cells.toList := by
  rw [flat_drop, List.drop_eq_getElem_cons h]
  show (bs[i].cells.toList ++ flat _).take 57 = _
  rw [List.take_append_of_le_length (by rw [Blk.len_cells]; exact Nat.le_refl _), List.take_of_length_le (by rw [Blk.len_cells]; exact Nat.le_refl _)]
theorem flat_get (bs : List Blk) (i j : Nat) (h : i < bs.length) (hj : j < 57) : (flat bs)[i * 57 + j]? = bs[i].cells[j]? := by
  have := congrArg (fun l => l[j]?) (flat_at bs i h)
  simp only [List.getElem?_take, if_pos hj, List.getElem?_drop] at this
  rw [this]; simp
theorem flat_set (bs : List Blk) (i : Nat) (h : i < bs.length) (b : Blk) : flat (bs.set i b) = (flat bs).take (i * 57) ++ b.cells.toList ++ (flat bs).drop (i * 57 + 57) := by
  rw [List.set_eq_take_append_cons_drop, if_pos h, flat_append, flat_take]
  show _ ++ (b.cells.toList ++ flat _) = _
  rw [← flat_drop, List.append_assoc]
  congr 4; omega
theorem flat_setByte (bs : List Blk) (i j : Nat) (h : i < bs.length) (hj : j < 56) (c : UInt8) : (flat bs).set (i * 57 + (j + 1)) (.int .u8 (c.toNat : Int)) = flat (bs.set i (bs[i].setB j c)) := by
  rw [flat_set bs i h, ← Blk.set_cells]
  apply List.ext_getElem?
  intro k
  have hl := flat_length bs
  rw [List.getElem?_set]
  by_cases hk1 : k < i * 57
  · rw [if_neg (by omega), List.append_assoc, List.getElem?_append_left (by rw [List.length_take]; omega), List.getElem?_take, if_pos hk1]
  · by_cases hk2 : k < i * 57 + 57
    · obtain ⟨m, rfl⟩ : ∃ m, k = i * 57 + m := ⟨k - i * 57, by omega⟩
      have e : List.length ((flat bs).take (i * 57)) = i * 57 := by rw [List.length_take]; omega
      rw [List.append_assoc, List.getElem?_append_right (by omega), e, List.getElem?_append_left (by simp [Blk.size_cells]; omega)]
      have hm : i * 57 + m - i * 57 = m := by omega
      rw [hm, Array.toList_setIfInBounds, List.getElem?_set, flat_get bs i m h (by omega)]
      by_cases hjm : j + 1 = m
      · subst hjm
        rw [if_pos rfl, if_pos rfl, if_pos (by omega), if_pos (by rw [Blk.len_cells]; omega)]
      · rw [if_neg (by omega), if_neg hjm]; simp
    · have ht : ((flat bs).take (i * 57)).length = i * 57 := by rw [List.length_take]; omega
      have hc : (bs[i].cells.setIfInBounds (j + 1) (.int .u8 (c.toNat : Int))).toList.length = 57 := by simp [Blk.size_cells]
      rw [if_neg (by omega), List.getElem?_append_right (by rw [List.length_append, ht, hc]; omega), List.length_append, ht, hc, List.getElem?_drop]
      congr 1
      omega

/-- A []api.Block: it lies from the front of a block that may be written. -/
def KRow (w : World) (B : Nat) (v : Value) (bs : List Blk) : Prop := w.ownsRow B 37 57 v bs.length (flat bs)

/-- 57 cells from a place on. -/
def rowOff (w : World) (g off : Nat) : Option (Array Value) := (rowAt w g).bind fun c => if off + 57 ≤ c.size then some (c.extract off (off + 57)) else none
def hasOff (w : World) (g off : Nat) : Bool := (rowOff w g off).isSome
theorem rowOff_some {w : World} {g off : Nat} {r : Array Value} (h : rowOff w g off = some r) : ∃ c t, w.heap[g]? = some (.cells c t (0, 0)) ∧ off + 57 ≤ c.size ∧ r = c.extract off (off + 57) := by
  unfold rowOff at h
  cases hr : rowAt w g with
  | none => rw [hr] at h; cases h
  | some c =>
    rw [hr] at h
    obtain ⟨t, ht⟩ := heap_rowAt hr
    simp only [Option.bind_some] at h
    split at h
    · rename_i hle
      exact ⟨c, t, ht, hle, by simpa using h.symm⟩
    · cases h
theorem load_off' (w : World) (g off : Nat) {r : Array Value} (h : rowOff w g off = some r) : (Instr.loadAt 37 (.pointer (some ⟨g, off, none⟩))).run Tryz.prog w = .ok (.agg r) w := by
  obtain ⟨c, t, hg, hle, rfl⟩ := rowOff_some h
  obtain ⟨d, hd, hd2⟩ := aggBlk.desc
  have hs : (sizeOf 37).run Tryz.prog w = .ok 57 w := by
    obtain ⟨i, z, hi, _, hs, _⟩ := elemBlk
    simp [sizeOf, typeInfo, hi, hs]
  have hag : (isAgg 37).run Tryz.prog w = .ok true w := by
    simp only [isAgg, Sem.run_bind, run_underlying hd, Result.andThen_ok]
    cases d <;> simp_all
  have hl := run_loadCells_list (P := Tryz.prog) w ⟨g, off, none⟩ (c.extract off (off + 57)).toList (fun j v hv => by
    have hadd : (⟨g, off, none⟩ : Addr).add j = ⟨g, off + j, none⟩ := by unfold Addr.add; split <;> simp_all
    rw [hadd, cell_of_row w g (off + j) c t (0, 0) hg]
    simp only [Array.toList_extract, List.extract_eq_take_drop, List.getElem?_take, List.getElem?_drop] at hv
    split at hv
    · simpa using hv
    · cases hv)
  have hlen : (c.extract off (off + 57)).toList.length = 57 := by simp; omega
  rw [hlen] at hl
  simp only [Instr.loadAt, Instr.sureAddr, Sem.run_bind, Sem.run_pure, Result.andThen_ok, loadVar, hag, if_true, hs, hl]
@[go_sem] theorem load_off (w : World) (g off : Nat) (h : hasOff w g off = true) : blkLoad (.pointer (some ⟨g, off, none⟩)) w = .ok (.agg ((rowOff w g off).getD #[])) w := by
  unfold hasOff at h
  cases hr : rowOff w g off with
  | none => rw [hr] at h; cases h
  | some r =>
    unfold blkLoad
    exact load_off' w g off hr
/-- A block laid over 57 cells. -/
def putOff (w : World) (g off : Nat) (c : Array Value) : World := w.setRow g (((rowAt w g).getD #[]).toList.take off ++ c.toList ++ ((rowAt w g).getD #[]).toList.drop (off + 57)).toArray
@[go_sem] theorem store_off (w : World) (g off : Nat) (b : Blk) (h : hasOff w g off = true) : blkStore (.pointer (some ⟨g, off, none⟩)) (.agg b.cells) w = .ok () (putOff w g off b.cells) := by
  unfold hasOff at h
  cases hr : rowOff w g off with
  | none => rw [hr] at h; cases h
  | some r =>
    obtain ⟨c, t, hg, hle, rfl⟩ := rowOff_some hr
    have hs : (sizeOf 37).run Tryz.prog w = .ok 57 w := by
      obtain ⟨i, z, hi, _, hs, _⟩ := elemBlk
      simp [sizeOf, typeInfo, hi, hs]
    have hst := run_storeCells_at Tryz.prog g off t b.cells.toList 0 c w hg (by rw [b.len_cells]; omega) b.one_cells
    unfold blkStore
    show (Instr.storeAt 37 _ _).run Tryz.prog w = _
    simp only [Instr.storeAt, Instr.sureAddr, Sem.run_bind, Sem.run_pure, Result.andThen_ok, storeVar, hs, Value.cells, b.size_cells, ne_eq, not_true_eq_false, if_false]
    rw [hst]
    unfold putOff
    rw [rowAt_heap hg, b.len_cells]
    simp

section
variable {w : World} {B g n cap : Nat} {v : Value} {bs : List Blk}
theorem KRow.form (h : KRow w B v bs) (hn : 0 < bs.length) : ∃ g cap, v = .slice (some ⟨g, 0, none⟩) bs.length cap ∧ B ≤ g ∧ g < w.heap.size := World.ownsRow.form h hn
theorem KRow.len (h : KRow w B (.slice (some ⟨g, 0, none⟩) n cap) bs) : n = bs.length := by
  rcases h.2 with ⟨h', _⟩ | ⟨g', cap', cur, h', _⟩
  · simp at h'
  · simp only [Value.slice.injEq] at h'; exact h'.2.1
theorem KRow.obj (h : KRow w B (.slice (some ⟨g, 0, none⟩) n cap) bs) : ∃ cur, w.heap[g]? = some (.cells cur 37 (0, 0)) ∧ bs.length ≤ cap ∧ cap ≤ maxLen ∧ cur.size = cap * 57 ∧ cur.toList.take (bs.length * 57) = flat bs ∧ B ≤ g := by
  rcases h.2 with ⟨h', _⟩ | ⟨g', cap', cur, h', hb, hg, hnc, hcm, hcs, htake⟩
  · simp at h'
  · simp only [Value.slice.injEq, Option.some.injEq, Addr.mk.injEq, and_true] at h'
    obtain ⟨rfl, rfl, rfl⟩ := h'
    exact ⟨cur, hg, hnc, hcm, hcs, htake, hb⟩
theorem KRow.below {w' : World} (h : KRow w B v bs) (hb : Below w.heap.size w w') : KRow w' B v bs := by
  refine World.ownsRow.kept h ⟨hb.os, hb.tape, hb.output, hb.size, fun k hk _ => hb.block k hk⟩ (row := none) ?_
  cases v.ownBlock <;> simp
theorem KRow.keeps {S : Nat → Prop} {w' : World} (h : KRow w B v bs) (hk : Keeps S w w') (hn : ∀ g, v.ownBlock = some g → ¬ S g) : KRow w' B v bs := by
  rcases h.2 with ⟨h', h0⟩ | ⟨g', cap', cur, h', hb, hg, hnc, hcm, hcs, htake⟩
  · exact ⟨h.1, .inl ⟨h', h0⟩⟩
  · exact ⟨h.1, .inr ⟨g', cap', cur, h', hb, by rw [hk.block g' (block_lt hg) (hn g' (by rw [h']; rfl))]; exact hg, hnc, hcm, hcs, htake⟩⟩
theorem KRow.mono {B' : Nat} (h : KRow w B v bs) (hb : B' ≤ B) : KRow w B' v bs := by
  refine ⟨h.1, ?_⟩
  rcases h.2 with h' | ⟨g, cap, cur, h1, h2, h3⟩
  · exact .inl h'
  · exact .inr ⟨g, cap, cur, h1, Nat.le_trans hb h2, h3⟩
theorem KRow.cellAt (h : KRow w B (.slice (some ⟨g, 0, none⟩) n cap) bs) (i j : Nat) (hi : i < bs.length) (hj : j < 57) : w.cell? ⟨g, i * 57 + j, none⟩ = bs[i].cells[j]? := by
  obtain rfl := h.len
  rw [World.ownsRow.cellAt h _ (by omega), flat_get bs i j hi hj]
theorem KRow.kind (h : KRow w B (.slice (some ⟨g, 0, none⟩) n cap) bs) (i : Nat) (hi : i < bs.length) : w.cell? ⟨g, i * 57, none⟩ = some (.int .i64 (bs.getD i Blk.zero).kind) := by
  have := h.cellAt i 0 hi (by decide)
  rw [Nat.add_zero, Blk.cell0] at this
  rw [this, List.getD_eq_getElem?_getD, List.getElem?_eq_getElem hi]; rfl
theorem KRow.byte (h : KRow w B (.slice (some ⟨g, 0, none⟩) n cap) bs) (i j : Nat) (hi : i < bs.length) (hj : j < 56) : w.cell? ⟨g, i * 57 + 1 + j, none⟩ = some (.int .u8 (((bs.getD i Blk.zero).body.getD j 0).toNat : Int)) := by
  have := h.cellAt i (j + 1) hi (by omega)
  rw [Blk.cellS _ j hj] at this
  rw [show i * 57 + 1 + j = i * 57 + (j + 1) by omega, this]
  simp only [List.getD_eq_getElem?_getD, List.getElem?_eq_getElem hi, Option.getD_some]
  rw [List.getElem?_eq_getElem (by rw [Blk.len]; exact hj)]; rfl
theorem KRow.free (h : KRow w B (.slice (some ⟨g, 0, none⟩) n cap) bs) (i : Nat) : w.frozen? ⟨g, i, none⟩ = false := by
  obtain rfl := h.len
  exact World.ownsRow.frozenAt h i
theorem KRow.row (h : KRow w B (.slice (some ⟨g, 0, none⟩) n cap) bs) (i : Nat) (hi : i < bs.length) : rowOff w g (i * 57) = some (bs.getD i Blk.zero).cells := by
  obtain ⟨cur, hg, hnc, hcm, hcs, htake, hb⟩ := h.obj
  have hle : i * 57 + 57 ≤ cur.size := by rw [hcs]; omega
  unfold rowOff
  rw [rowAt_heap hg]
  simp only [Option.bind_some, if_pos hle, Option.some.injEq]
  apply Array.ext'
  rw [List.getD_eq_getElem?_getD, List.getElem?_eq_getElem hi, Option.getD_some, ← flat_at bs i hi, ← htake]
  simp only [Array.toList_extract, List.extract_eq_take_drop]
  rw [List.drop_take, List.take_take]
  congr 1; omega
theorem KRow.has (h : KRow w B (.slice (some ⟨g, 0, none⟩) n cap) bs) (i : Nat) (hi : i < bs.length) : hasOff w g (i * 57) = true := by
  unfold hasOff; rw [h.row i hi]; rfl
theorem KRow.put (h : KRow w B (.slice (some ⟨g, 0, none⟩) n cap) bs) (i : Nat) (hi : i < bs.length) (b : Blk) : KRow (putOff w g (i * 57) b.cells) B (.slice (some ⟨g, 0, none⟩) n cap) (bs.set i b) := by
  obtain rfl := h.len
  obtain ⟨cur, hg, hnc, hcm, hcs, htake, hb⟩ := h.obj
  unfold putOff
  rw [rowAt_heap hg, Option.getD_some]
  refine ⟨by rw [flat_length], .inr ⟨g, cap, _, by rw [List.length_set], hb, setRow_heap w g cur _ _ _ hg, by rw [List.length_set]; exact hnc, hcm, ?_, ?_⟩⟩
  · simp only [List.size_toArray, List.length_append, List.length_take, List.length_drop, Array.length_toList, b.size_cells]; omega
  · simp only [List.length_set]
    rw [flat_set bs i hi, ← htake]
    apply List.ext_getElem?
    intro k
    have hcl : cur.toList.length = cap * 57 := by rw [Array.length_toList, hcs]
    simp only [List.getElem?_take, List.append_assoc]
    by_cases hk : k < bs.length * 57
    · rw [if_pos hk]
      by_cases hk1 : k < i * 57
      · rw [List.getElem?_append_left (by rw [List.length_take]; omega), List.getElem?_append_left (by rw [List.length_take, List.length_take]; omega)]
        simp only [List.getElem?_take, if_pos hk1, if_pos hk]
      · have t1 : (cur.toList.take (i * 57)).length = i * 57 := by rw [List.length_take, hcl]; omega
        have t2 : ((cur.toList.take (bs.length * 57)).take (i * 57)).length = i * 57 := by rw [List.length_take, List.length_take, hcl]; omega
        rw [List.getElem?_append_right (l₁ := cur.toList.take (i * 57)) (by rw [t1]; omega), List.getElem?_append_right (l₁ := (cur.toList.take (bs.length * 57)).take (i * 57)) (by rw [t2]; omega), t1, t2]
        by_cases hk2 : k < i * 57 + 57
        · rw [List.getElem?_append_left (by rw [b.len_cells]; omega), List.getElem?_append_left (by rw [b.len_cells]; omega)]
        · rw [List.getElem?_append_right (by rw [b.len_cells]; omega), List.getElem?_append_right (by rw [b.len_cells]; omega)]
          simp only [List.getElem?_drop, List.getElem?_take, b.len_cells]
          rw [if_pos (by omega)]
    · rw [if_neg hk]
      symm
      rw [List.getElem?_eq_none]
      simp only [List.length_append, List.length_take, List.length_drop, hcl, b.len_cells]
      omega
theorem putOff_keeps (w : World) (g off : Nat) (c : Array Value) : Keeps (· = g) w (putOff w g off c) :=
  ⟨rfl, rfl, rfl, by simp [putOff, World.setRow], fun k _ hk => by
    unfold putOff; simp only [World.setRow, Array.getElem?_modify]; rw [if_neg (fun e => hk e.symm)]⟩
theorem KRow.setByte (h : KRow w B (.slice (some ⟨g, 0, none⟩) n cap) bs) (i j : Nat) (hi : i < bs.length) (hj : j < 56) (c : UInt8) :
    KRow (w.setCell ⟨g, i * 57 + 1 + j, none⟩ (.int .u8 (c.toNat : Int))) B (.slice (some ⟨g, 0, none⟩) n cap) (bs.set i ((bs.getD i Blk.zero).setB j c)) := by
  obtain rfl := h.len
  have := (World.ownsRow.stored h (i * 57 + (j + 1)) (.int .u8 (c.toNat : Int))).1
  rw [flat_setByte bs i j hi hj c] at this
  rw [show i * 57 + 1 + j = i * 57 + (j + 1) by omega]
  unfold KRow
  rw [List.length_set, List.getD_eq_getElem?_getD, List.getElem?_eq_getElem hi]; exact this
end
theorem KRow.alloc {w : World} {B : Nat} {v : Value} {bs : List Blk} (h : KRow w B v bs) (o : Obj) : KRow (w.alloc o) B v bs := World.ownsRow.alloc h o
theorem KRow.drew {w : World} {B : Nat} {v : Value} {bs : List Blk} (h : KRow w B v bs) : KRow w.drew B v bs := h
end Go.Proofs.YtbbnejehglonjaaGreat

/- DERIVED. Contracts of clathriref1.Root, MayID. -/
namespace Go.Proofs.YtbbnejehglonjaaGreat
open Go.RowKit
attribute [local go_sem] hasBlk
attribute [local irreducible] Calls
def Id.cells (i : Id) : Array Value := #[.int .i64 i.label, .int .i64 i.at_, .int .u32 i.gen]
theorem aggId : AggOf Tryz.prog 66 3 := ⟨⟨_, Tryz.underlying66, rfl⟩, by kernel_rfl⟩
noncomputable def idStore (x y : Value) (w : World) : Result Unit := Sem.run Tryz.prog (Instr.storeAt 66 x y) w
def hasId (w : World) (g : Nat) : Bool := (rowAt w g).any (·.size == 3)
theorem hasId_some {w : World} {g : Nat} (h : hasId w g = true) : ∃ c, rowAt w g = some c ∧ c.size = 3 := by
  unfold hasId at h
  cases hr : rowAt w g with
  | none => rw [hr] at h; cases h
  | some c => rw [hr] at h; exact ⟨c, rfl, by simpa using h⟩
theorem hasId_obj {w : World} {g : Nat} {c : Array Value} {t : TypeId} (h : objAt w g = some (.cells c t (0, 0))) (hc : c.size = 3) : hasId w g = true := by
  unfold hasId; rw [rowAt_heap h]; simp [hc]
@[go_sem] theorem hasId_new (w : World) (c : Array Value) (t : TypeId) (n : Nat) (hn : n = w.heap.size) (hc : c.size = 3) : hasId (w.alloc (.cells c t)) n = true := by
  unfold hasId; rw [rowAt_alloc_at w c t n hn]; simp [hc]
@[go_sem] theorem hasId_drew (w : World) (n : Nat) : hasId w.drew n = hasId w n := rfl
@[go_sem] theorem store_id (w : World) (gB : Nat) (l a g : Int) (hB : hasId w gB = true) :
    idStore (.pointer (some ⟨gB, 0, none⟩)) (.agg #[.int .i64 l, .int .i64 a, .int .u32 g]) w = .ok () (w.setRow gB #[.int .i64 l, .int .i64 a, .int .u32 g]) := by
  obtain ⟨c, hc, hs⟩ := hasId_some hB
  refine run_store_agg aggId w gB _ hc hs rfl ?_
  simp [Value.oneCell']
@[go_sem ↓] theorem exec_store_id (ρ : Operand → Value) (w : World) (dst : Option Tmp) (x y : Operand) (ty : TypeId) (pos : String) (after : Array Edge) (gd : Option (Nat × Bool)) :
    (execOp ρ ⟨dst, .store 66 x y, ty, pos, after, gd⟩).run Tryz.prog w = (idStore (ρ x) (ρ y) w).andThen fun _ w => .ok .skip w := by
  simp only [execOp, idStore, Sem.run_bind]; rfl
attribute [irreducible] idStore
theorem Root_any (w : World) : Calls Tryz.prog 34 #[] w fun e w' => e = .returned (.agg Id.root.cells) ∧ Below w.heap.size w w' := by
  go_enter Tryz.func34, Tryz.ntmps34
  go_wp2_with fail
  refine bodyPost_ret (results_one rfl (resOne_agg aggId rfl (rowAt_alloc_at w _ _ _ rfl) rfl)) rfl ?_
  exact ⟨rfl, (Below.refl _ _).alloc (Nat.le_refl _) _⟩
theorem Root_lit (w : World) : Calls Tryz.prog 34 #[] w fun e w' => e = .returned (.agg #[.int .i64 (-1), .int .i64 0, .int .u32 0]) ∧ Below w.heap.size w w' := Root_any w
end Go.Proofs.YtbbnejehglonjaaGreat

/- DERIVED. Contract of clathriref1.PutID. -/
namespace Go.Proofs.YtbbnejehglonjaaGreat
open Go.RowKit
attribute [local go_sem] hasBlk
attribute [local irreducible] Calls
structure Id.wf (i : Id) : Prop where
  gen0 : 0 ≤ i.gen
  gen1 : i.gen ≤ 4294967295
theorem lit_row (x : World) (B : Nat) (v : Int) (c : UInt8) (hv : v = (c.toNat : Int)) (hb : B ≤ x.heap.size) : BRow (x.alloc (.cells #[.int .u8 v] 5)) B (.slice (some ⟨x.heap.size, 0, none⟩) 1 1) [c] :=
  BRow.lit c hv (by rw [objAt_alloc, if_pos rfl]) hb
theorem mayID_small {i : Id} (h : mayID i = true) : -1 ≤ i.label ∧ i.label < 8 ∧ 0 ≤ i.at_ ∧ i.at_ < 200 ∧ 0 ≤ i.gen := by
  obtain ⟨l, a, g⟩ := i
  simp only [mayID, Id.root, Bool.or_eq_true, Bool.and_eq_true, decide_eq_true_eq, Id.mk.injEq] at h
  dsimp only
  omega
end Go.Proofs.YtbbnejehglonjaaGreat

/- DERIVED. Contracts of sum.on, sum.Sum, area's functions, label.May and Put. -/
namespace Go.Proofs.YtbbnejehglonjaaGreat
open Go.RowKit
attribute [local irreducible] Calls
/-- Two small whole numbers as a complex number. -/
def cz (a b : Int) : Value := .complex .f64 (floatOfInt .f64 a) (floatOfInt .f64 b)

def sumOn (p : Nat × Nat) (c : UInt8) : Nat × Nat := ((p.1 + c.toNat) % 65521, (p.2 + (p.1 + c.toNat) % 65521) % 65521)
def sumOf (l : List UInt8) : Nat × Nat := l.foldl sumOn (1, 0)
def sum32 (l : List UInt8) : Nat := (sumOf l).2 * 65536 + (sumOf l).1

theorem on_any (a b : Nat) (ha : a < 65521) (hb : b < 65521) (c : UInt8) (w : World) :
    Calls Tryz.prog 227 #[cz a b, .int .u8 (c.toNat : Int)] w fun e w' => e = .returned (cz (sumOn (a, b) c).1 (sumOn (a, b) c).2) ∧ w' = w := by
  have hA : ∀ w, (convert 240 3 (.float .f64 (floatOfInt .f64 (a : Int)))).run Tryz.prog w = .ok (.int .i64 (a : Int)) w := fun w => fz_i64 w _ _ _ (by rw [Tryz.underlying240]; rfl) Tryz.underlying3 (smallZ_of (by omega) (by omega))
  have hB : ∀ w, (convert 240 3 (.float .f64 (floatOfInt .f64 (b : Int)))).run Tryz.prog w = .ok (.int .i64 (b : Int)) w := fun w => fz_i64 w _ _ _ (by rw [Tryz.underlying240]; rfl) Tryz.underlying3 (smallZ_of (by omega) (by omega))
  have hc := c.toNat_lt
  unfold cz
  go_enter Tryz.func227, Tryz.ntmps227
  go_wp2_with fail
  go_ret
  have e1 : ((a : Int) + (c.toNat : Int)) % 65521 = ((sumOn (a, b) c).1 : Int) := by simp [sumOn]
  have e2 : ((b : Int) + ((a : Int) + (c.toNat : Int))) % 65521 = ((sumOn (a, b) c).2 : Int) := by
    simp only [sumOn]; omega
  rw [e1, e2]
  exact ⟨rfl, rfl⟩

theorem sumOn_lt (p : Nat × Nat) (c : UInt8) : (sumOn p c).1 < 65521 ∧ (sumOn p c).2 < 65521 := ⟨Nat.mod_lt _ (by decide), Nat.mod_lt _ (by decide)⟩
theorem foldl_lt (l : List UInt8) : ∀ p : Nat × Nat, p.1 < 65521 ∧ p.2 < 65521 → (l.foldl sumOn p).1 < 65521 ∧ (l.foldl sumOn p).2 < 65521 := by
  induction l with
  | nil => intro p h; exact h
  | cons c l ih => intro p _; exact ih _ (sumOn_lt p c)
theorem sumOf_lt (l : List UInt8) : (sumOf l).1 < 65521 ∧ (sumOf l).2 < 65521 := foldl_lt l _ ⟨by decide, by decide⟩
theorem sum32_lt (l : List UInt8) : sum32 l < 4294967296 := by have := sumOf_lt l; unfold sum32; omega
theorem sumOf_take {l : List UInt8} {k : Nat} (h : k < l.length) : sumOf (l.take (k + 1)) = sumOn (sumOf (l.take k)) l[k] := by
  unfold sumOf; rw [List.take_succ_eq_append_getElem h, List.foldl_append]; rfl

theorem Sum_any (a : Option Addr) (l : List UInt8) (cap : Nat) (w : World) (h : BytesAt w a l) (hl : l.length ≤ 100000) :
    Calls Tryz.prog 199 #[.slice a l.length cap] w fun e w' => e = .returned (.int .u32 (sum32 l)) ∧ w' = w := by
  have hone : (Value.complex .f64 4607182418800017408 0) = cz ((sumOf []).1 : Int) ((sumOf []).2 : Int) := by
    show _ = Value.complex .f64 (floatOfInt .f64 1) (floatOfInt .f64 0)
    rw [show floatOfInt .f64 1 = 4607182418800017408 by decide +kernel, show floatOfInt .f64 0 = 0 by decide +kernel]
  obtain ⟨b, off, h1, h2⟩ := h
  go_enter Tryz.func199, Tryz.ntmps199
  go_wp2_with fail
  go_loop [3, 8] (fun z i => ∃ k : Nat, k ≤ l.length ∧ i = .int .i64 k ∧ z = cz ((sumOf (l.take k)).1 : Int) ((sumOf (l.take k)).2 : Int)) (fun _ i => l.length - (intOf i).toNat)
  case atStart => exact ⟨0, Nat.zero_le _, rfl, hone⟩
  case round =>
    obtain ⟨k, hk, rfl, rfl⟩ := hrel
    obtain ⟨p, hp⟩ : ∃ p, p = sumOf (l.take k) := ⟨_, rfl⟩
    have hlp := sumOf_lt (l.take k)
    rw [← hp] at hlp ⊢
    have Hp := Lib.hid hp
    clear hp
    by_cases hlt : k < l.length
    · have hc := h2 k hlt
      obtain rfl := h1 (by omega)
      have Hs := Lib.hid (sumOf_take hlt)
      have hon := Lib.hid (on_any p.1 p.2 hlp.1 hlp.2 (l[k]))
      generalize l[k] = c at *
      clear h1 h2 hone
      go_wp2_with (go_at_call 227; refine (hon.out _).mono ?_; rintro e w1 ⟨rfl, rfl⟩)
      go_round
      case rel => exact ⟨k + 1, by omega, by go_num, by rw [Hs.out, ← Hp.out]⟩
      case measure => simp [intOf]; omega
    · have hpe : p = sumOf l := by rw [Hp.out, List.take_of_length_le (by omega : l.length ≤ k)]
      have hA : ∀ w, (convert 240 64 (.float .f64 (floatOfInt .f64 (p.1 : Int)))).run Tryz.prog w = .ok (.int .u32 (p.1 : Int)) w := fun w => fz_u32 w _ _ _ (by rw [Tryz.underlying240]; rfl) Tryz.underlying64 (by omega) (by omega)
      have hB : ∀ w, (convert 240 64 (.float .f64 (floatOfInt .f64 (p.2 : Int)))).run Tryz.prog w = .ok (.int .u32 (p.2 : Int)) w := fun w => fz_u32 w _ _ _ (by rw [Tryz.underlying240]; rfl) Tryz.underlying64 (by omega) (by omega)
      unfold cz
      have HE := Lib.hid hpe
      clear h1 h2 hone hpe Hp
      go_wp2_with fail
      go_ret
      refine ⟨?_, rfl⟩
      have e1 : sum32 l = p.2 * 65536 + p.1 := by rw [HE.out]; rfl
      rw [e1]
      go_num
end Go.Proofs.YtbbnejehglonjaaGreat
