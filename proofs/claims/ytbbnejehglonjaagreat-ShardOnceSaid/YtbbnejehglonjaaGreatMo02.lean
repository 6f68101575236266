/- DERIVED. Contracts and laws that the proofs of this seat share, part 2 of 36: LibK Ref1G Ref1I PaA InA InB. -/
import Derived.Test.YtbbnejehglonjaaGreatMo00
import Derived.Test.YtbbnejehglonjaaGreatMo01
/- DERIVED. Rows of blocks: a slice whose elements are blocks. -/
namespace Go.Proofs.YtbbnejehglonjaaGreat
open Go.RowKit
attribute [local go_sem] hasBlk
theorem elemBlk : ∃ i z, Tryz.prog.info? 37 = some i ∧ i.zero = some z ∧ i.size = 57 ∧ i.bytes = 64 ∧ z.cells = Blk.zero.cells := by
 have h : (Tryz.prog.info? 37).map (fun i => (i.size, i.bytes)) = some (57, 64) := by kernel_rfl
 have hz : (Tryz.prog.info? 37).map (fun i => i.zero.map (·.cells)) = some (some Blk.zero.cells) := by kernel_rfl
 cases hi : Tryz.prog.info? 37 with
 | none => rw [hi] at h; cases h
 | some i =>
   rw [hi] at h hz
   simp only [Option.map_some, Option.some.injEq, Prod.mk.injEq] at h hz
   cases hzz : i.zero with
   | none => rw [hzz] at hz; cases hz
   | some z => rw [hzz] at hz; exact ⟨i, z, rfl, hzz, h.1, h.2, by simpa using hz⟩

def flat (bs : List Blk) : List Value := bs.flatMap fun b => b.cells.toList
theorem Blk.len_cells (b : Blk) : b.cells.toList.length = 57 := by rw [Array.length_toList, b.size_cells]
theorem flat_length (bs : List Blk) : (flat bs).length = bs.length * 57 := by
 induction bs with
 | nil => rfl
 | cons b bs ih => simp only [flat, List.flatMap_cons, List.length_append, List.length_cons] at ih ⊢; rw [ih, b.len_cells]; omega
theorem flat_append (xs bs : List Blk) : flat (xs ++ bs) = flat xs ++ flat bs := by simp [flat]
theorem flat_drop (bs : List Blk) : ∀ i, (flat bs).drop (i * 57) = flat (bs.drop i) := by
 induction bs with
 | nil => intro i; simp [flat]
 | cons b bs ih =>
   intro i
   cases i with
   | zero => simp
   | succ i =>
     rw [List.drop_succ_cons, ← ih i]
     show (b.cells.toList ++ flat bs).drop ((i + 1) * 57) = _
     rw [List.drop_append, List.drop_of_length_le (by rw [b.len_cells]; omega), b.len_cells, List.nil_append]
     congr 1; omega
theorem flat_take (bs : List Blk) : ∀ i, (flat bs).take (i * 57) = flat (bs.take i) := by
 induction bs with
 | nil => intro i; simp [flat]
 | cons b bs ih =>
   intro i
   cases i with
   | zero => simp [flat]
   | succ i =>
     rw [List.take_succ_cons]
     show (b.cells.toList ++ flat bs).take ((i + 1) * 57) = b.cells.toList ++ flat (bs.take i)
     rw [List.take_append, List.take_of_length_le (by rw [b.len_cells]; omega), b.len_cells, ← ih i]
     congr 2; omega
theorem flat_at (bs : List Blk) (i : Nat) (h : i < bs.length) : ((flat bs).drop (i * 57)).take 57 = bs[i].cells.toList := by
 rw [flat_drop, List.drop_eq_getElem_cons h]
 show (bs[i].cells.toList ++ flat _).take 57 = _
 rw [List.take_append_of_le_length (by rw [Blk.len_cells]; exact Nat.le_refl _), List.take_of_length_le (by rw [Blk.len_cells]; exact Nat.le_refl _)]
theorem flat_get (bs : List Blk) (i j : Nat) (h : i < bs.length) (hj : j < 57) : (flat bs)[i * 57 + j]? = bs[i].cells[j]? := by
 have := congrArg (fun l => l[j]?) (flat_at bs i h)
 simp only [List.getElem?_take, if_pos hj, List.getElem?_drop] at this
 rw [this]; simp
theorem flat_set (bs : List Blk) (i : Nat) (h : i < bs.length) (b : Blk) : flat (bs.set i b) = (flat bs).take (i * 57) ++ b.cells.toList ++ (flat bs).drop (i * 57 + 57) := by
 rw [List.set_eq_take_append_cons_drop, if_pos h, flat_append, flat_take]
 show _ ++ (b.cells.toList ++ flat _) = _
 rw [← flat_drop, List.append_assoc]
 congr 4; omega
theorem flat_setByte (bs : List Blk) (i j : Nat) (h : i < bs.length) (hj : j < 56) (c : UInt8) : (flat bs).set (i * 57 + (j + 1)) (.int .u8 (c.toNat : Int)) = flat (bs.set i (bs[i].setB j c)) := by
 rw [flat_set bs i h, ← Blk.set_cells]
 apply List.ext_getElem?
 intro k
 have hl := flat_length bs
 rw [List.getElem?_set]
 by_cases hk1 : k < i * 57
 · rw [if_neg (by omega), List.append_assoc, List.getElem?_append_left (by rw [List.length_take]; omega), List.getElem?_take, if_pos hk1]
 · by_cases hk2 : k < i * 57 + 57
   · obtain ⟨m, rfl⟩ : ∃ m, k = i * 57 + m := ⟨k - i * 57, by omega⟩
     have e : List.length ((flat bs).take (i * 57)) = i * 57 := by rw [List.length_take]; omega
     rw [List.append_assoc, List.getElem?_append_right (by omega), e, List.getElem?_append_left (by simp [Blk.size_cells]; omega)]
     have hm : i * 57 + m - i * 57 = m := by omega
     rw [hm, Array.toList_setIfInBounds, List.getElem?_set, flat_get bs i m h (by omega)]
     by_cases hjm : j + 1 = m
     · subst hjm
       rw [if_pos rfl, if_pos rfl, if_pos (by omega), if_pos (by rw [Blk.len_cells]; omega)]
     · rw [if_neg (by omega), if_neg hjm]; simp
   · have ht : ((flat bs).take (i * 57)).length = i * 57 := by rw [List.length_take]; omega
     have hc : (bs[i].cells.setIfInBounds (j + 1) (.int .u8 (c.toNat : Int))).toList.length = 57 := by simp [Blk.size_cells]
     rw [if_neg (by omega), List.getElem?_append_right (by rw [List.length_append, ht, hc]; omega), List.length_append, ht, hc, List.getElem?_drop]
     congr 1
     omega

/-- A []api.Block: it lies from the front of a block that may be written. -/
def KRow (w : World) (B : Nat) (v : Value) (bs : List Blk) : Prop := w.ownsRow B 37 57 v bs.length (flat bs)

/-- 57 cells from a place on. -/
def rowOff (w : World) (g off : Nat) : Option (Array Value) := (rowAt w g).bind fun c => if off + 57 ≤ c.size then some (c.extract off (off + 57)) else none
def hasOff (w : World) (g off : Nat) : Bool := (rowOff w g off).isSome
theorem rowOff_some {w : World} {g off : Nat} {r : Array Value} (h : rowOff w g off = some r) : ∃ c t, w.heap[g]? = some (.cells c t (0, 0)) ∧ off + 57 ≤ c.size ∧ r = c.extract off (off + 57) := by
 unfold rowOff at h
 cases hr : rowAt w g with
 | none => rw [hr] at h; cases h
 | some c =>
   rw [hr] at h
   obtain ⟨t, ht⟩ := heap_rowAt hr
   simp only [Option.bind_some] at h
   split at h
   · rename_i hle
     exact ⟨c, t, ht, hle, by simpa using h.symm⟩
   · cases h
theorem load_off' (w : World) (g off : Nat) {r : Array Value} (h : rowOff w g off = some r) : (Instr.loadAt 37 (.pointer (some ⟨g, off, none⟩))).run Tryz.prog w = .ok (.agg r) w := by
 obtain ⟨c, t, hg, hle, rfl⟩ := rowOff_some h
 obtain ⟨d, hd, hd2⟩ := aggBlk.desc
 have hs : (sizeOf 37).run Tryz.prog w = .ok 57 w := by
  obtain ⟨i, z, hi, _, hs, _⟩ := elemBlk
  simp [sizeOf, typeInfo, hi, hs]
 have hag : (isAgg 37).run Tryz.prog w = .ok true w := by
  simp only [isAgg, Sem.run_bind, run_underlying hd, Result.andThen_ok]
  cases d <;> simp_all
 have hl := run_loadCells_list (P := Tryz.prog) w ⟨g, off, none⟩ (c.extract off (off + 57)).toList (fun j v hv => by
  have hadd : (⟨g, off, none⟩ : Addr).add j = ⟨g, off + j, none⟩ := by unfold Addr.add; split <;> simp_all
  rw [hadd, cell_of_row w g (off + j) c t (0, 0) hg]
  simp only [Array.toList_extract, List.extract_eq_take_drop, List.getElem?_take, List.getElem?_drop] at hv
  split at hv
  · simpa using hv
  · cases hv)
 have hlen : (c.extract off (off + 57)).toList.length = 57 := by simp; omega
 rw [hlen] at hl
 simp only [Instr.loadAt, Instr.sureAddr, Sem.run_bind, Sem.run_pure, Result.andThen_ok, loadVar, hag, if_true, hs, hl]
@[go_sem] theorem load_off (w : World) (g off : Nat) (h : hasOff w g off = true) : blkLoad (.pointer (some ⟨g, off, none⟩)) w = .ok (.agg ((rowOff w g off).getD #[])) w := by
 unfold hasOff at h
 cases hr : rowOff w g off with
 | none => rw [hr] at h; cases h
 | some r =>
   unfold blkLoad
   exact load_off' w g off hr
/-- A block laid over 57 cells. -/
def putOff (w : World) (g off : Nat) (c : Array Value) : World := w.setRow g (((rowAt w g).getD #[]).toList.take off ++ c.toList ++ ((rowAt w g).getD #[]).toList.drop (off + 57)).toArray
@[go_sem] theorem store_off (w : World) (g off : Nat) (b : Blk) (h : hasOff w g off = true) : blkStore (.pointer (some ⟨g, off, none⟩)) (.agg b.cells) w = .ok () (putOff w g off b.cells) := by
 unfold hasOff at h
 cases hr : rowOff w g off with
 | none => rw [hr] at h; cases h
 | some r =>
   obtain ⟨c, t, hg, hle, rfl⟩ := rowOff_some hr
   have hs : (sizeOf 37).run Tryz.prog w = .ok 57 w := by
    obtain ⟨i, z, hi, _, hs, _⟩ := elemBlk
    simp [sizeOf, typeInfo, hi, hs]
   have hst := run_storeCells_at Tryz.prog g off t b.cells.toList 0 c w hg (by rw [b.len_cells]; omega) b.one_cells
   unfold blkStore
   show (Instr.storeAt 37 _ _).run Tryz.prog w = _
   simp only [Instr.storeAt, Instr.sureAddr, Sem.run_bind, Sem.run_pure, Result.andThen_ok, storeVar, hs, Value.cells, b.size_cells, ne_eq, not_true_eq_false, if_false]
   rw [hst]
   unfold putOff
   rw [rowAt_heap hg, b.len_cells]
   simp

section
variable {w : World} {B g n cap : Nat} {v : Value} {bs : List Blk}
theorem KRow.form (h : KRow w B v bs) (hn : 0 < bs.length) : ∃ g cap, v = .slice (some ⟨g, 0, none⟩) bs.length cap ∧ B ≤ g ∧ g < w.heap.size := World.ownsRow.form h hn
theorem KRow.len (h : KRow w B (.slice (some ⟨g, 0, none⟩) n cap) bs) : n = bs.length := by
 rcases h.2 with ⟨h', _⟩ | ⟨g', cap', cur, h', _⟩
 · simp at h'
 · simp only [Value.slice.injEq] at h'; exact h'.2.1
theorem KRow.obj (h : KRow w B (.slice (some ⟨g, 0, none⟩) n cap) bs) : ∃ cur, w.heap[g]? = some (.cells cur 37 (0, 0)) ∧ bs.length ≤ cap ∧ cap ≤ maxLen ∧ cur.size = cap * 57 ∧ cur.toList.take (bs.length * 57) = flat bs ∧ B ≤ g := by
 rcases h.2 with ⟨h', _⟩ | ⟨g', cap', cur, h', hb, hg, hnc, hcm, hcs, htake⟩
 · simp at h'
 · simp only [Value.slice.injEq, Option.some.injEq, Addr.mk.injEq, and_true] at h'
   obtain ⟨rfl, rfl, rfl⟩ := h'
   exact ⟨cur, hg, hnc, hcm, hcs, htake, hb⟩
theorem KRow.below {w' : World} (h : KRow w B v bs) (hb : Below w.heap.size w w') : KRow w' B v bs := by
 refine World.ownsRow.kept h ⟨hb.os, hb.tape, hb.output, hb.size, fun k hk _ => hb.block k hk⟩ (row := none) ?_
 cases v.ownBlock <;> simp
theorem KRow.keeps {S : Nat → Prop} {w' : World} (h : KRow w B v bs) (hk : Keeps S w w') (hn : ∀ g, v.ownBlock = some g → ¬ S g) : KRow w' B v bs := by
 rcases h.2 with ⟨h', h0⟩ | ⟨g', cap', cur, h', hb, hg, hnc, hcm, hcs, htake⟩
 · exact ⟨h.1, .inl ⟨h', h0⟩⟩
 · exact ⟨h.1, .inr ⟨g', cap', cur, h', hb, by rw [hk.block g' (block_lt hg) (hn g' (by rw [h']; rfl))]; exact hg, hnc, hcm, hcs, htake⟩⟩
theorem KRow.mono {B' : Nat} (h : KRow w B v bs) (hb : B' ≤ B) : KRow w B' v bs := by
 refine ⟨h.1, ?_⟩
 rcases h.2 with h' | ⟨g, cap, cur, h1, h2, h3⟩
 · exact .inl h'
 · exact .inr ⟨g, cap, cur, h1, Nat.le_trans hb h2, h3⟩
theorem KRow.cellAt (h : KRow w B (.slice (some ⟨g, 0, none⟩) n cap) bs) (i j : Nat) (hi : i < bs.length) (hj : j < 57) : w.cell? ⟨g, i * 57 + j, none⟩ = bs[i].cells[j]? := by
 obtain rfl := h.len
 rw [World.ownsRow.cellAt h _ (by omega), flat_get bs i j hi hj]
theorem KRow.kind (h : KRow w B (.slice (some ⟨g, 0, none⟩) n cap) bs) (i : Nat) (hi : i < bs.length) : w.cell? ⟨g, i * 57, none⟩ = some (.int .i64 (bs.getD i Blk.zero).kind) := by
 have := h.cellAt i 0 hi (by decide)
 rw [Nat.add_zero, Blk.cell0] at this
 rw [this, List.getD_eq_getElem?_getD, List.getElem?_eq_getElem hi]; rfl
theorem KRow.byte (h : KRow w B (.slice (some ⟨g, 0, none⟩) n cap) bs) (i j : Nat) (hi : i < bs.length) (hj : j < 56) : w.cell? ⟨g, i * 57 + 1 + j, none⟩ = some (.int .u8 (((bs.getD i Blk.zero).body.getD j 0).toNat : Int)) := by
 have := h.cellAt i (j + 1) hi (by omega)
 rw [Blk.cellS _ j hj] at this
 rw [show i * 57 + 1 + j = i * 57 + (j + 1) by omega, this]
 simp only [List.getD_eq_getElem?_getD, List.getElem?_eq_getElem hi, Option.getD_some]
 rw [List.getElem?_eq_getElem (by rw [Blk.len]; exact hj)]; rfl
theorem KRow.free (h : KRow w B (.slice (some ⟨g, 0, none⟩) n cap) bs) (i : Nat) : w.frozen? ⟨g, i, none⟩ = false := by
 obtain rfl := h.len
 exact World.ownsRow.frozenAt h i
theorem KRow.row (h : KRow w B (.slice (some ⟨g, 0, none⟩) n cap) bs) (i : Nat) (hi : i < bs.length) : rowOff w g (i * 57) = some (bs.getD i Blk.zero).cells := by
 obtain ⟨cur, hg, hnc, hcm, hcs, htake, hb⟩ := h.obj
 have hle : i * 57 + 57 ≤ cur.size := by rw [hcs]; omega
 unfold rowOff
 rw [rowAt_heap hg]
 simp only [Option.bind_some, if_pos hle, Option.some.injEq]
 apply Array.ext'
 rw [List.getD_eq_getElem?_getD, List.getElem?_eq_getElem hi, Option.getD_some, ← flat_at bs i hi, ← htake]
 simp only [Array.toList_extract, List.extract_eq_take_drop]
 rw [List.drop_take, List.take_take]
 congr 1; omega
theorem KRow.has (h : KRow w B (.slice (some ⟨g, 0, none⟩) n cap) bs) (i : Nat) (hi : i < bs.length) : hasOff w g (i * 57) = true := by
 unfold hasOff; rw [h.row i hi]; rfl
theorem KRow.put (h : KRow w B (.slice (some ⟨g, 0, none⟩) n cap) bs) (i : Nat) (hi : i < bs.length) (b : Blk) : KRow (putOff w g (i * 57) b.cells) B (.slice (some ⟨g, 0, none⟩) n cap) (bs.set i b) := by
 obtain rfl := h.len
 obtain ⟨cur, hg, hnc, hcm, hcs, htake, hb⟩ := h.obj
 unfold putOff
 rw [rowAt_heap hg, Option.getD_some]
 refine ⟨by rw [flat_length], .inr ⟨g, cap, _, by rw [List.length_set], hb, setRow_heap w g cur _ _ _ hg, by rw [List.length_set]; exact hnc, hcm, ?_, ?_⟩⟩
 · simp only [List.size_toArray, List.length_append, List.length_take, List.length_drop, Array.length_toList, b.size_cells]; omega
 · simp only [List.length_set]
   rw [flat_set bs i hi, ← htake]
   apply List.ext_getElem?
   intro k
   have hcl : cur.toList.length = cap * 57 := by rw [Array.length_toList, hcs]
   simp only [List.getElem?_take, List.append_assoc]
   by_cases hk : k < bs.length * 57
   · rw [if_pos hk]
     by_cases hk1 : k < i * 57
     · rw [List.getElem?_append_left (by rw [List.length_take]; omega), List.getElem?_append_left (by rw [List.length_take, List.length_take]; omega)]
       simp only [List.getElem?_take, if_pos hk1, if_pos hk]
     · have t1 : (cur.toList.take (i * 57)).length = i * 57 := by rw [List.length_take, hcl]; omega
       have t2 : ((cur.toList.take (bs.length * 57)).take (i * 57)).length = i * 57 := by rw [List.length_take, List.length_take, hcl]; omega
       rw [List.getElem?_append_right (l₁ := cur.toList.take (i * 57)) (by rw [t1]; omega), List.getElem?_append_right (l₁ := (cur.toList.take (bs.length * 57)).take (i * 57)) (by rw [t2]; omega), t1, t2]
       by_cases hk2 : k < i * 57 + 57
       · rw [List.getElem?_append_left (by rw [b.len_cells]; omega), List.getElem?_append_left (by rw [b.len_cells]; omega)]
       · rw [List.getElem?_append_right (by rw [b.len_cells]; omega), List.getElem?_append_right (by rw [b.len_cells]; omega)]
         simp only [List.getElem?_drop, List.getElem?_take, b.len_cells]
         rw [if_pos (by omega)]
   · rw [if_neg hk]
     symm
     rw [List.getElem?_eq_none]
     simp only [List.length_append, List.length_take, List.length_drop, hcl, b.len_cells]
     omega
theorem putOff_keeps (w : World) (g off : Nat) (c : Array Value) : Keeps (· = g) w (putOff w g off c) :=
 ⟨rfl, rfl, rfl, by simp [putOff, World.setRow], fun k _ hk => by
  unfold putOff; simp only [World.setRow, Array.getElem?_modify]; rw [if_neg (fun e => hk e.symm)]⟩
theorem KRow.setByte (h : KRow w B (.slice (some ⟨g, 0, none⟩) n cap) bs) (i j : Nat) (hi : i < bs.length) (hj : j < 56) (c : UInt8) :
 KRow (w.setCell ⟨g, i * 57 + 1 + j, none⟩ (.int .u8 (c.toNat : Int))) B (.slice (some ⟨g, 0, none⟩) n cap) (bs.set i ((bs.getD i Blk.zero).setB j c)) := by
 obtain rfl := h.len
 have := (World.ownsRow.stored h (i * 57 + (j + 1)) (.int .u8 (c.toNat : Int))).1
 rw [flat_setByte bs i j hi hj c] at this
 rw [show i * 57 + 1 + j = i * 57 + (j + 1) by omega]
 unfold KRow
 rw [List.length_set, List.getD_eq_getElem?_getD, List.getElem?_eq_getElem hi]; exact this
end
theorem KRow.alloc {w : World} {B : Nat} {v : Value} {bs : List Blk} (h : KRow w B v bs) (o : Obj) : KRow (w.alloc o) B v bs := World.ownsRow.alloc h o
theorem KRow.drew {w : World} {B : Nat} {v : Value} {bs : List Blk} (h : KRow w B v bs) : KRow w.drew B v bs := h
end Go.Proofs.YtbbnejehglonjaaGreat

/- DERIVED. Contracts of clathriref1.Root, MayID. -/
namespace Go.Proofs.YtbbnejehglonjaaGreat
open Go.RowKit
attribute [local go_sem] hasBlk
attribute [local irreducible] Calls
def Id.cells (i : Id) : Array Value := #[.int .i64 i.label, .int .i64 i.at_, .int .u32 i.gen]
theorem aggId : AggOf Tryz.prog 66 3 := ⟨⟨_, Tryz.underlying66, rfl⟩, by kernel_rfl⟩
noncomputable def idStore (x y : Value) (w : World) : Result Unit := Sem.run Tryz.prog (Instr.storeAt 66 x y) w
def hasId (w : World) (g : Nat) : Bool := (rowAt w g).any (·.size == 3)
theorem hasId_some {w : World} {g : Nat} (h : hasId w g = true) : ∃ c, rowAt w g = some c ∧ c.size = 3 := by
 unfold hasId at h
 cases hr : rowAt w g with
 | none => rw [hr] at h; cases h
 | some c => rw [hr] at h; exact ⟨c, rfl, by simpa using h⟩
theorem hasId_obj {w : World} {g : Nat} {c : Array Value} {t : TypeId} (h : objAt w g = some (.cells c t (0, 0))) (hc : c.size = 3) : hasId w g = true := by
 unfold hasId; rw [rowAt_heap h]; simp [hc]
@[go_sem] theorem hasId_new (w : World) (c : Array Value) (t : TypeId) (n : Nat) (hn : n = w.heap.size) (hc : c.size = 3) : hasId (w.alloc (.cells c t)) n = true := by
 unfold hasId; rw [rowAt_alloc_at w c t n hn]; simp [hc]
@[go_sem] theorem hasId_drew (w : World) (n : Nat) : hasId w.drew n = hasId w n := rfl
@[go_sem] theorem store_id (w : World) (gB : Nat) (l a g : Int) (hB : hasId w gB = true) :
 idStore (.pointer (some ⟨gB, 0, none⟩)) (.agg #[.int .i64 l, .int .i64 a, .int .u32 g]) w = .ok () (w.setRow gB #[.int .i64 l, .int .i64 a, .int .u32 g]) := by
 obtain ⟨c, hc, hs⟩ := hasId_some hB
 refine run_store_agg aggId w gB _ hc hs rfl ?_
 simp [Value.oneCell']
@[go_sem ↓] theorem exec_store_id (ρ : Operand → Value) (w : World) (dst : Option Tmp) (x y : Operand) (ty : TypeId) (pos : String) (after : Array Edge) (gd : Option (Nat × Bool)) :
 (execOp ρ ⟨dst, .store 66 x y, ty, pos, after, gd⟩).run Tryz.prog w = (idStore (ρ x) (ρ y) w).andThen fun _ w => .ok .skip w := by
 simp only [execOp, idStore, Sem.run_bind]; rfl
attribute [irreducible] idStore
theorem Root_any (w : World) : Calls Tryz.prog 34 #[] w fun e w' => e = .returned (.agg Id.root.cells) ∧ Below w.heap.size w w' := by
 go_enter Tryz.func34, Tryz.ntmps34
 go_wp2_with fail
 refine bodyPost_ret (results_one rfl (resOne_agg aggId rfl (rowAt_alloc_at w _ _ _ rfl) rfl)) rfl ?_
 exact ⟨rfl, (Below.refl _ _).alloc (Nat.le_refl _) _⟩
theorem Root_lit (w : World) : Calls Tryz.prog 34 #[] w fun e w' => e = .returned (.agg #[.int .i64 (-1), .int .i64 0, .int .u32 0]) ∧ Below w.heap.size w w' := Root_any w
end Go.Proofs.YtbbnejehglonjaaGreat

/- DERIVED. Contract of clathriref1.PutID. -/
namespace Go.Proofs.YtbbnejehglonjaaGreat
open Go.RowKit
attribute [local go_sem] hasBlk
attribute [local irreducible] Calls
structure Id.wf (i : Id) : Prop where
 gen0 : 0 ≤ i.gen
 gen1 : i.gen ≤ 4294967295
theorem lit_row (x : World) (B : Nat) (v : Int) (c : UInt8) (hv : v = (c.toNat : Int)) (hb : B ≤ x.heap.size) : BRow (x.alloc (.cells #[.int .u8 v] 5)) B (.slice (some ⟨x.heap.size, 0, none⟩) 1 1) [c] :=
 BRow.lit c hv (by rw [objAt_alloc, if_pos rfl]) hb
theorem mayID_small {i : Id} (h : mayID i = true) : -1 ≤ i.label ∧ i.label < 8 ∧ 0 ≤ i.at_ ∧ i.at_ < 200 ∧ 0 ≤ i.gen := by
 obtain ⟨l, a, g⟩ := i
 simp only [mayID, Id.root, Bool.or_eq_true, Bool.and_eq_true, decide_eq_true_eq, Id.mk.injEq] at h
 dsimp only
 omega
end Go.Proofs.YtbbnejehglonjaaGreat

/- DERIVED. Contracts of sum.on, sum.Sum, area's functions, label.May and Put. -/
namespace Go.Proofs.YtbbnejehglonjaaGreat
open Go.RowKit
attribute [local irreducible] Calls
/-- Two small whole numbers as a complex number. -/
def cz (a b : Int) : Value := .complex .f64 (floatOfInt .f64 a) (floatOfInt .f64 b)

def sumOn (p : Nat × Nat) (c : UInt8) : Nat × Nat := ((p.1 + c.toNat) % 65521, (p.2 + (p.1 + c.toNat) % 65521) % 65521)
def sumOf (l : List UInt8) : Nat × Nat := l.foldl sumOn (1, 0)
def sum32 (l : List UInt8) : Nat := (sumOf l).2 * 65536 + (sumOf l).1

theorem on_any (a b : Nat) (ha : a < 65521) (hb : b < 65521) (c : UInt8) (w : World) :
 Calls Tryz.prog 227 #[cz a b, .int .u8 (c.toNat : Int)] w fun e w' => e = .returned (cz (sumOn (a, b) c).1 (sumOn (a, b) c).2) ∧ w' = w := by
 have hA : ∀ w, (convert 240 3 (.float .f64 (floatOfInt .f64 (a : Int)))).run Tryz.prog w = .ok (.int .i64 (a : Int)) w := fun w => fz_i64 w _ _ _ (by rw [Tryz.underlying240]; rfl) Tryz.underlying3 (smallZ_of (by omega) (by omega))
 have hB : ∀ w, (convert 240 3 (.float .f64 (floatOfInt .f64 (b : Int)))).run Tryz.prog w = .ok (.int .i64 (b : Int)) w := fun w => fz_i64 w _ _ _ (by rw [Tryz.underlying240]; rfl) Tryz.underlying3 (smallZ_of (by omega) (by omega))
 have hc := c.toNat_lt
 unfold cz
 go_enter Tryz.func227, Tryz.ntmps227
 go_wp2_with fail
 go_ret
 have e1 : ((a : Int) + (c.toNat : Int)) % 65521 = ((sumOn (a, b) c).1 : Int) := by simp [sumOn]
 have e2 : ((b : Int) + ((a : Int) + (c.toNat : Int))) % 65521 = ((sumOn (a, b) c).2 : Int) := by
  simp only [sumOn]; omega
 rw [e1, e2]
 exact ⟨rfl, rfl⟩

theorem sumOn_lt (p : Nat × Nat) (c : UInt8) : (sumOn p c).1 < 65521 ∧ (sumOn p c).2 < 65521 := ⟨Nat.mod_lt _ (by decide), Nat.mod_lt _ (by decide)⟩
theorem foldl_lt (l : List UInt8) : ∀ p : Nat × Nat, p.1 < 65521 ∧ p.2 < 65521 → (l.foldl sumOn p).1 < 65521 ∧ (l.foldl sumOn p).2 < 65521 := by
 induction l with
 | nil => intro p h; exact h
 | cons c l ih => intro p _; exact ih _ (sumOn_lt p c)
theorem sumOf_lt (l : List UInt8) : (sumOf l).1 < 65521 ∧ (sumOf l).2 < 65521 := foldl_lt l _ ⟨by decide, by decide⟩
theorem sum32_lt (l : List UInt8) : sum32 l < 4294967296 := by have := sumOf_lt l; unfold sum32; omega
theorem sumOf_take {l : List UInt8} {k : Nat} (h : k < l.length) : sumOf (l.take (k + 1)) = sumOn (sumOf (l.take k)) l[k] := by
 unfold sumOf; rw [List.take_succ_eq_append_getElem h, List.foldl_append]; rfl

theorem Sum_any (a : Option Addr) (l : List UInt8) (cap : Nat) (w : World) (h : BytesAt w a l) (hl : l.length ≤ 100000) :
 Calls Tryz.prog 199 #[.slice a l.length cap] w fun e w' => e = .returned (.int .u32 (sum32 l)) ∧ w' = w := by
 have hone : (Value.complex .f64 4607182418800017408 0) = cz ((sumOf []).1 : Int) ((sumOf []).2 : Int) := by
  show _ = Value.complex .f64 (floatOfInt .f64 1) (floatOfInt .f64 0)
  rw [show floatOfInt .f64 1 = 4607182418800017408 by decide +kernel, show floatOfInt .f64 0 = 0 by decide +kernel]
 obtain ⟨b, off, h1, h2⟩ := h
 go_enter Tryz.func199, Tryz.ntmps199
 go_wp2_with fail
 go_loop [3, 8] (fun z i => ∃ k : Nat, k ≤ l.length ∧ i = .int .i64 k ∧ z = cz ((sumOf (l.take k)).1 : Int) ((sumOf (l.take k)).2 : Int)) (fun _ i => l.length - (intOf i).toNat)
 case atStart => exact ⟨0, Nat.zero_le _, rfl, hone⟩
 case round =>
  obtain ⟨k, hk, rfl, rfl⟩ := hrel
  obtain ⟨p, hp⟩ : ∃ p, p = sumOf (l.take k) := ⟨_, rfl⟩
  have hlp := sumOf_lt (l.take k)
  rw [← hp] at hlp ⊢
  have Hp := Lib.hid hp
  clear hp
  by_cases hlt : k < l.length
  · have hc := h2 k hlt
    obtain rfl := h1 (by omega)
    have Hs := Lib.hid (sumOf_take hlt)
    have hon := Lib.hid (on_any p.1 p.2 hlp.1 hlp.2 (l[k]))
    generalize l[k] = c at *
    clear h1 h2 hone
    go_wp2_with (go_at_call 227; refine (hon.out _).mono ?_; rintro e w1 ⟨rfl, rfl⟩)
    go_round
    case rel => exact ⟨k + 1, by omega, by go_num, by rw [Hs.out, ← Hp.out]⟩
    case measure => simp [intOf]; omega
  · have hpe : p = sumOf l := by rw [Hp.out, List.take_of_length_le (by omega : l.length ≤ k)]
    have hA : ∀ w, (convert 240 64 (.float .f64 (floatOfInt .f64 (p.1 : Int)))).run Tryz.prog w = .ok (.int .u32 (p.1 : Int)) w := fun w => fz_u32 w _ _ _ (by rw [Tryz.underlying240]; rfl) Tryz.underlying64 (by omega) (by omega)
    have hB : ∀ w, (convert 240 64 (.float .f64 (floatOfInt .f64 (p.2 : Int)))).run Tryz.prog w = .ok (.int .u32 (p.2 : Int)) w := fun w => fz_u32 w _ _ _ (by rw [Tryz.underlying240]; rfl) Tryz.underlying64 (by omega) (by omega)
    unfold cz
    have HE := Lib.hid hpe
    clear h1 h2 hone hpe Hp
    go_wp2_with fail
    go_ret
    refine ⟨?_, rfl⟩
    have e1 : sum32 l = p.2 * 65536 + p.1 := by rw [HE.out]; rfl
    rw [e1]
    go_num
end Go.Proofs.YtbbnejehglonjaaGreat

/- DERIVED. Contracts of ino's spot, within, May, of whole numbers that floats hold. -/
namespace Go.Proofs.YtbbnejehglonjaaGreat
open Go.RowKit
attribute [local irreducible] Calls
set_option maxRecDepth 100000

/-- Floats of whole numbers from -1 on, held against others. -/
theorem ord_z (x : Int) (y : Nat) (h0 : -1 ≤ x) (hx : x < 9007199254740992) (hy : y < 9007199254740992) :
 (x < (y : Int) ∧ FloatKind.f64.format.order (floatOfInt .f64 x) (floatOfInt .f64 (y : Int)) = some .lt) ∨ (x = (y : Int) ∧ FloatKind.f64.format.order (floatOfInt .f64 x) (floatOfInt .f64 (y : Int)) = some .eq) ∨ ((y : Int) < x ∧ FloatKind.f64.format.order (floatOfInt .f64 x) (floatOfInt .f64 (y : Int)) = some .gt) := by
 obtain ⟨n, j, hr2, hj, h2⟩ := fz_scale y hy
 by_cases hneg : x < 0
 · obtain rfl : x = -1 := by omega
   have hr := read_fz (-1) (by decide) (by decide)
   left
   refine ⟨by omega, ?_⟩
   show Ieee.double.order _ _ = _
   unfold Ieee.Format.order
   rw [hr2, hr]
   unfold Ieee.Datum.order Ieee.signed
   simp only [Bool.false_eq_true, if_false, Nat.shiftLeft_eq]
   refine congrArg some (Int.compare_eq_lt.2 ?_)
   simp only [decide_eq_true (show (-1 : Int) < 0 by decide), if_true]
   have hp : 0 < ((-1 : Int).natAbs * 2 ^ (52 - (-1 : Int).natAbs.log2)) * 2 ^ (((-1 : Int).natAbs.log2 : Int) - 52 - min (((-1 : Int).natAbs.log2 : Int) - 52) j).toNat := Nat.mul_pos (Nat.mul_pos (by decide) (Nat.two_pow_pos _)) (Nat.two_pow_pos _)
   omega
 · obtain ⟨m, rfl⟩ := Int.eq_ofNat_of_zero_le (show 0 ≤ x by omega)
   have hm : m < 9007199254740992 := by omega
   obtain ⟨k, i, hr1, hi, h1⟩ := fz_scale m hm
   have hlt := scale_lt hi hj h1 h2
   have hgt := scale_lt hj hi h2 h1
   have ho : Ieee.double.order (floatOfInt .f64 (m : Int)) (floatOfInt .f64 (y : Int)) = some (compare ((k * 2 ^ (i - min i j).toNat : Nat) : Int) ((n * 2 ^ (j - min i j).toNat : Nat) : Int)) := by
    unfold Ieee.Format.order
    rw [hr1, hr2]
    unfold Ieee.Datum.order Ieee.signed
    simp only [Bool.false_eq_true, if_false, Nat.shiftLeft_eq]
   have hmin : min j i = min i j := Int.min_comm j i
   rw [hmin] at hgt
   by_cases h : m < y
   · left
     refine ⟨by omega, ?_⟩
     show Ieee.double.order _ _ = _
     rw [ho]
     exact congrArg some (Int.compare_eq_lt.2 (by have := hlt.2 h; omega))
   · right
     by_cases h' : y < m
     · right
       refine ⟨by omega, ?_⟩
       show Ieee.double.order _ _ = _
       rw [ho]
       exact congrArg some (Int.compare_eq_gt.2 (by have := hgt.2 h'; omega))
     · left
       refine ⟨by omega, ?_⟩
       show Ieee.double.order _ _ = _
       rw [ho]
       have e1 : ¬ (k * 2 ^ (i - min i j).toNat < n * 2 ^ (j - min i j).toNat) := fun e => h (hlt.1 e)
       have e2 : ¬ (n * 2 ^ (j - min i j).toNat < k * 2 ^ (i - min i j).toNat) := fun e => h' (hgt.1 e)
       exact congrArg some (Int.compare_eq_eq.2 (by omega))
/-- Is a number from one on, below another one? -/
def inside (x : Int) (a b : Nat) : Bool := decide ((a : Int) ≤ x) && decide (x < (b : Int))
theorem inoWithin_any (x : Int) (a b : Nat) (h0 : -1 ≤ x) (hx : x < 9007199254740992) (ha : a < 1000) (hb : b < 1000) (w : World) :
 Calls Tryz.prog 223 #[.float .f64 (floatOfInt .f64 x), .int .i64 a, .int .i64 b] w fun e w' => e = .returned (.bool (inside x a b)) ∧ w' = w := by
 rcases ord_z x a h0 hx (by omega) with ⟨h1, ho⟩ | ⟨h1, ho⟩ | ⟨h1, ho⟩
 · have Hr := Lib.hid (show inside x a b = false by unfold inside; rw [decide_eq_false (by omega)]; rfl)
   clear h1 h0 hx
   go_enter Tryz.func223, Tryz.ntmps223
   go_wp2_with fail
   go_ret
   exact ⟨by rw [Hr.out]; rfl, rfl⟩
 all_goals rcases ord_z x b h0 hx (by omega) with ⟨h2, hp⟩ | ⟨h2, hp⟩ | ⟨h2, hp⟩
 all_goals have Hr := Lib.hid (show inside x a b = decide (x < (b : Int)) by unfold inside; rw [decide_eq_true (show (a : Int) ≤ x by omega)]; rfl)
 all_goals have Hx := Lib.hid h2
 all_goals clear h1 h2 h0 hx
 all_goals go_enter Tryz.func223, Tryz.ntmps223
 all_goals go_wp2_with fail
 all_goals go_ret
 all_goals (have hh := Hx.out; refine ⟨?_, rfl⟩; rw [Hr.out]; first | (rw [decide_eq_true (show x < (b : Int) by omega)]; rfl) | (rw [decide_eq_false (show ¬ x < (b : Int) by omega)]; rfl))
theorem spot_any (l a g : Int) (w : World) : Calls Tryz.prog 221 #[.agg #[.int .i64 l, .int .i64 a, .int .u32 g]] w fun e w' => e = .returned (.complex .f64 (floatOfInt .f64 l) (floatOfInt .f64 a)) ∧ Below w.heap.size w w' := by
 go_enter Tryz.func221, Tryz.ntmps221
 go_wp2_with fail
 go_ret
 exact ⟨rfl, grow_alloc (Below.refl _ _) _⟩
theorem inoRoot_any (w : World) : Calls Tryz.prog 222 #[] w fun e w' => e = .returned (.agg #[.int .i64 (-1), .int .i64 0, .int .u32 0]) ∧ Below w.heap.size w w' := by
 go_enter Tryz.func222, Tryz.ntmps222
 go_wp2_with fail
 refine bodyPost_ret (results_one rfl (resOne_agg aggId rfl (rowAt_heap (show objAt _ _ = some (.cells _ 66 (0, 0)) by rw [objAt_alloc, if_pos rfl])) rfl)) rfl ?_
 exact ⟨rfl, grow_alloc (Below.refl _ _) _⟩
end Go.Proofs.YtbbnejehglonjaaGreat

/- DERIVED. Contract of ino.May. -/
namespace Go.Proofs.YtbbnejehglonjaaGreat
open Go.RowKit
attribute [local irreducible] Calls
set_option maxRecDepth 100000

theorem mayIns_ways (l a g : Int) : ((l == -1) = true ∧ (a == 0) = true ∧ (g == 0) = true ∧ mayID ⟨l, a, g⟩ = true) ∨
 ((l == -1) = true ∧ (a == 0) = false ∧ mayID ⟨l, a, g⟩ = false ∧ inside l 0 8 = false) ∨ ((l == -1) = true ∧ (a == 0) = true ∧ (g == 0) = false ∧ mayID ⟨l, a, g⟩ = false ∧ inside l 0 8 = false) ∨
 ((l == -1) = false ∧ mayID ⟨l, a, g⟩ = false ∧ inside l 0 8 = false) ∨ ((l == -1) = false ∧ mayID ⟨l, a, g⟩ = false ∧ inside l 0 8 = true ∧ inside a 1 200 = false) ∨
 ((l == -1) = false ∧ mayID ⟨l, a, g⟩ = decide (1 ≤ g) ∧ inside l 0 8 = true ∧ inside a 1 200 = true) := by
 have e : mayID ⟨l, a, g⟩ = ((decide (l = -1) && decide (a = 0) && decide (g = 0)) || (decide (0 ≤ l) && decide (l < 8) && decide (1 ≤ a) && decide (a < 200) && decide (1 ≤ g))) := by
  simp [mayID, Id.root, Bool.and_assoc]
 rw [e]
 unfold inside
 by_cases h1 : l = -1
 · subst h1
   by_cases h2 : a = 0 <;> by_cases h3 : g = 0 <;> simp [h2, h3]
 · by_cases h2 : 0 ≤ l
   · by_cases h3 : l < 8 <;> by_cases h4 : 1 ≤ a <;> by_cases h5 : a < 200 <;> simp [h1, h2, h3, h4, h5]
   · simp [h1, h2]
set_option maxHeartbeats 4000000 in
theorem inoMay_any (i : Id) (h0 : -1 ≤ i.label) (h1 : i.label < 9007199254740992) (h2 : -1 ≤ i.at_) (h3 : i.at_ < 9007199254740992) (w : World) : Calls Tryz.prog 191 #[.agg i.cells] w fun e w' => e = .returned (.bool (mayID i)) ∧ Below w.heap.size w w' := by
 obtain ⟨l, at_, gen⟩ := i
 dsimp only at h0 h1 h2 h3
 rw [show (⟨l, at_, gen⟩ : Id).cells = #[.int .i64 l, .int .i64 at_, .int .u32 gen] from rfl]
 have hW1 := fun w => inoWithin_any l 0 8 h0 h1 (by decide) (by decide) w
 have hW2 := fun w => inoWithin_any at_ 1 200 h2 h3 (by decide) (by decide) w
 rw [show ((0 : Nat) : Int) = 0 from rfl, show ((8 : Nat) : Int) = 8 from rfl] at hW1
 rw [show ((1 : Nat) : Int) = 1 from rfl, show ((200 : Nat) : Int) = 200 from rfl] at hW2
 have hc0 : (w.alloc (.cells #[.int .i64 l, .int .i64 at_, .int .u32 gen] 66)).cell? ⟨w.heap.size, 0, none⟩ = some (.int .i64 l) := World.cell?_alloc_new ..
 have hc1 : (w.alloc (.cells #[.int .i64 l, .int .i64 at_, .int .u32 gen] 66)).cell? ⟨w.heap.size, 1, none⟩ = some (.int .i64 at_) := World.cell?_alloc_new ..
 have hc2 : (w.alloc (.cells #[.int .i64 l, .int .i64 at_, .int .u32 gen] 66)).cell? ⟨w.heap.size, 2, none⟩ = some (.int .u32 gen) := World.cell?_alloc_new ..
 have hw : Below w.heap.size w (w.alloc (.cells #[.int .i64 l, .int .i64 at_, .int .u32 gen] 66)) := (Below.refl _ _).alloc (Nat.le_refl _) _
 obtain ⟨G, hG⟩ : ∃ G, G = w.heap.size := ⟨_, rfl⟩
 rw [← hG] at hc0 hc1 hc2
 have Hw := Lib.hid hw
 clear h0 h1 h2 h3 hw
 rcases mayIns_ways l at_ gen with ⟨e1, e2, e3, hm⟩ | ⟨e1, e2, hm, i1⟩ | ⟨e1, e2, e3, hm, i1⟩ | ⟨e1, hm, i1⟩ | ⟨e1, hm, i1, i2⟩ | ⟨e1, hm, i1, i2⟩
 · rw [hm]
   have HW1 := Lib.hid hW1
   have HW2 := Lib.hid hW2
   clear hW1 hW2 hm
   go_enter Tryz.func191, Tryz.ntmps191
   go_upto_region 1 with fail
   obtain ⟨w0, hw0⟩ : ∃ w0, w0 = w.alloc (.cells #[.int .i64 l, .int .i64 at_, .int .u32 gen] 66) := ⟨_, rfl⟩
   rw [← hw0] at hc0 hc1 hc2 Hw ⊢
   rw [← hG]
   clear hw0 hG
   go_upto_region 2 with (go_at_call 221; refine (spot_any l at_ gen _).mono ?_; rintro e w1 ⟨rfl, b1⟩)
   have hS : ∀ w', Below w1.heap.size w1 w' → (w'.cell? ⟨G, 0, none⟩ = some (.int .i64 l) ∧ w'.cell? ⟨G, 1, none⟩ = some (.int .i64 at_) ∧ w'.cell? ⟨G, 2, none⟩ = some (.int .u32 gen) ∧ Below w1.heap.size w1 w') :=
    fun w' hb => ⟨grow_cell (grow_trans b1 hb) hc0, grow_cell (grow_trans b1 hb) hc1, grow_cell (grow_trans b1 hb) hc2, hb⟩
   have Hb := Lib.hid (grow_trans Hw.out b1)
   clear b1
   refine wp_region_held_drew (S := fun w' => w'.cell? ⟨G, 0, none⟩ = some (.int .i64 l) ∧ w'.cell? ⟨G, 1, none⟩ = some (.int .i64 at_) ∧ w'.cell? ⟨G, 2, none⟩ = some (.int .u32 gen) ∧ Below w1.heap.size w1 w') (by kernel_rfl) (hS _ (Below.refl _ _).drew) (fun hHeld => ?_)
   show wpAnyH _ _ _ _ _ 19 #[false, false, false, false, false, false, false, false, false, false, false, false, false, false, false, false, false, false, false] _ _
   refine gT (i := 0) (v := ?kv1) rfl ?ky1 ?kr1
   case ky1 => (intro w hSw; (try dsimp only at hSw); go_split_ands; (try simp only [qA, qB]); go_simp; (try with_reducible rfl))
   try simp only [Act.put, qA, qB, qD, qE, qF]
   refine wpAnyH_ready (rs := [1]) (by kernel_rfl) (by simp) ?_
   refine (AllReadyH.cons rfl (fun K hK => ?_) AllReadyH.nil)
   try simp only [qA, qB, qC]
   go_simp
   go_at_call 222; refine (inoRoot_any _).mono ?_; rintro e x1 ⟨rfl, y1⟩
   refine hK.out _ _ (by exact hS _ (grow_trans hHeld.2.2.2 y1)) (fun hHeldn => ?_)
   clear hHeld hK K
   have hHeld := hHeldn
   clear hHeldn
   try simp only [qD, qE, qF]
   refine gT (i := 2) (v := ?kv3) rfl ?ky3 ?kr3
   case ky3 => (intro w hSw; (try dsimp only at hSw); go_split_ands; (try simp only [qA, qB, qC]); go_simp; (try with_reducible rfl))
   try simp only [Act.put, qA, qB, qC, qD, qE, qF]
   refine gT (i := 3) (v := ?kv4) rfl ?ky4 ?kr4
   case ky4 => (intro w hSw; (try dsimp only at hSw); go_split_ands; (try simp only [qA, qB, qC]); go_simp; (try with_reducible rfl))
   try simp only [Act.put, qA, qB, qC, qD, qE, qF]
   refine gU (i := 4) rfl ?kr5
   try simp only [Act.put, qA, qB, qC, qD, qE, qF]
   refine gU (i := 5) rfl ?kr6
   try simp only [Act.put, qA, qB, qC, qD, qE, qF]
   refine gU (i := 6) rfl ?kr7
   try simp only [Act.put, qA, qB, qC, qD, qE, qF]
   refine gU (i := 7) rfl ?kr8
   try simp only [Act.put, qA, qB, qC, qD, qE, qF]
   refine gU (i := 8) rfl ?kr9
   try simp only [Act.put, qA, qB, qC, qD, qE, qF]
   refine gU (i := 9) rfl ?kr10
   try simp only [Act.put, qA, qB, qC, qD, qE, qF]
   refine gU (i := 10) rfl ?kr11
   try simp only [Act.put, qA, qB, qC, qD, qE, qF]
   refine gU (i := 11) rfl ?kr12
   try simp only [Act.put, qA, qB, qC, qD, qE, qF]
   refine gU (i := 12) rfl ?kr13
   try simp only [Act.put, qA, qB, qC, qD, qE, qF]
   refine gU (i := 13) rfl ?kr14
   try simp only [Act.put, qA, qB, qC, qD, qE, qF]
   refine gU (i := 14) rfl ?kr15
   try simp only [Act.put, qA, qB, qC, qD, qE, qF]
   refine gU (i := 15) rfl ?kr16
   try simp only [Act.put, qA, qB, qC, qD, qE, qF]
   refine gU (i := 16) rfl ?kr17
   try simp only [Act.put, qA, qB, qC, qD, qE, qF]
   refine gT (i := 17) (v := ?kv18) rfl ?ky18 ?kr18
   case ky18 => (intro w hSw; (try dsimp only at hSw); go_split_ands; (try simp only [qA, qB, qC]); go_simp; (try with_reducible rfl))
   try simp only [Act.put, qA, qB, qC, qD, qE, qF]
   refine gT (i := 18) (v := ?kv19) rfl ?ky19 ?kr19
   case ky19 => (intro w hSw; (try dsimp only at hSw); go_split_ands; (try simp only [qA, qB, qC]); go_simp; (try with_reducible rfl))
   try simp only [Act.put, qA, qB, qC, qD, qE, qF]
   refine wpAnyH_done (by kernel_rfl) ?_ _
   go_wp2_with fail
   go_ret
   exact ⟨rfl, grow_trans Hb.out hHeld.2.2.2⟩
 · rw [hm]
   rw [i1] at hW1
   have HW1 := Lib.hid hW1
   have HW2 := Lib.hid hW2
   clear hW1 hW2 hm
   go_enter Tryz.func191, Tryz.ntmps191
   go_upto_region 1 with fail
   obtain ⟨w0, hw0⟩ : ∃ w0, w0 = w.alloc (.cells #[.int .i64 l, .int .i64 at_, .int .u32 gen] 66) := ⟨_, rfl⟩
   rw [← hw0] at hc0 hc1 hc2 Hw ⊢
   rw [← hG]
   clear hw0 hG
   go_upto_region 2 with (go_at_call 221; refine (spot_any l at_ gen _).mono ?_; rintro e w1 ⟨rfl, b1⟩)
   have hS : ∀ w', Below w1.heap.size w1 w' → (w'.cell? ⟨G, 0, none⟩ = some (.int .i64 l) ∧ w'.cell? ⟨G, 1, none⟩ = some (.int .i64 at_) ∧ w'.cell? ⟨G, 2, none⟩ = some (.int .u32 gen) ∧ Below w1.heap.size w1 w') :=
    fun w' hb => ⟨grow_cell (grow_trans b1 hb) hc0, grow_cell (grow_trans b1 hb) hc1, grow_cell (grow_trans b1 hb) hc2, hb⟩
   have Hb := Lib.hid (grow_trans Hw.out b1)
   clear b1
   refine wp_region_held_drew (S := fun w' => w'.cell? ⟨G, 0, none⟩ = some (.int .i64 l) ∧ w'.cell? ⟨G, 1, none⟩ = some (.int .i64 at_) ∧ w'.cell? ⟨G, 2, none⟩ = some (.int .u32 gen) ∧ Below w1.heap.size w1 w') (by kernel_rfl) (hS _ (Below.refl _ _).drew) (fun hHeld => ?_)
   show wpAnyH _ _ _ _ _ 19 #[false, false, false, false, false, false, false, false, false, false, false, false, false, false, false, false, false, false, false] _ _
   refine gT (i := 0) (v := ?kv20) rfl ?ky20 ?kr20
   case ky20 => (intro w hSw; (try dsimp only at hSw); go_split_ands; (try simp only [qA, qB]); go_simp; (try with_reducible rfl))
   try simp only [Act.put, qA, qB, qD, qE, qF]
   refine wpAnyH_ready (rs := [1]) (by kernel_rfl) (by simp) ?_
   refine (AllReadyH.cons rfl (fun K hK => ?_) AllReadyH.nil)
   try simp only [qA, qB, qC]
   go_simp
   go_at_call 222; refine (inoRoot_any _).mono ?_; rintro e x1 ⟨rfl, y1⟩
   refine hK.out _ _ (by exact hS _ (grow_trans hHeld.2.2.2 y1)) (fun hHeldn => ?_)
   clear hHeld hK K
   have hHeld := hHeldn
   clear hHeldn
   try simp only [qD, qE, qF]
   refine gT (i := 2) (v := ?kv22) rfl ?ky22 ?kr22
   case ky22 => (intro w hSw; (try dsimp only at hSw); go_split_ands; (try simp only [qA, qB, qC]); go_simp; (try with_reducible rfl))
   try simp only [Act.put, qA, qB, qC, qD, qE, qF]
   refine gT (i := 3) (v := ?kv23) rfl ?ky23 ?kr23
   case ky23 => (intro w hSw; (try dsimp only at hSw); go_split_ands; (try simp only [qA, qB, qC]); go_simp; (try with_reducible rfl))
   try simp only [Act.put, qA, qB, qC, qD, qE, qF]
   refine gT (i := 4) (v := ?kv24) rfl ?ky24 ?kr24
   case ky24 => (intro w hSw; (try dsimp only at hSw); go_split_ands; (try simp only [qA, qB, qC]); go_simp; (try with_reducible rfl))
   try simp only [Act.put, qA, qB, qC, qD, qE, qF]
   refine gT (i := 5) (v := ?kv25) rfl ?ky25 ?kr25
   case ky25 => (intro w hSw; (try dsimp only at hSw); go_split_ands; (try simp only [qA, qB, qC]); go_simp; (try with_reducible rfl))
   try simp only [Act.put, qA, qB, qC, qD, qE, qF]
   refine wpAnyH_ready (rs := [6]) (by kernel_rfl) (by simp) ?_
   refine (AllReadyH.cons rfl (fun K hK => ?_) AllReadyH.nil)
   try simp only [qA, qB, qC]
   go_simp
   go_at_call 223; refine (HW1.out _).mono ?_; rintro e x2 ⟨rfl, hx2⟩; obtain rfl := hx2.symm
   refine hK.out _ _ (by exact hHeld) (fun hHeldn => ?_)
   clear hHeld hK K
   have hHeld := hHeldn
   clear hHeldn
   try simp only [qD, qE, qF]
   refine gT (i := 7) (v := ?kv27) rfl ?ky27 ?kr27
   case ky27 => (intro w hSw; (try dsimp only at hSw); go_split_ands; (try simp only [qA, qB, qC]); go_simp; (try with_reducible rfl))
   try simp only [Act.put, qA, qB, qC, qD, qE, qF]
   refine gU (i := 8) rfl ?kr28
   try simp only [Act.put, qA, qB, qC, qD, qE, qF]
   refine gU (i := 9) rfl ?kr29
   try simp only [Act.put, qA, qB, qC, qD, qE, qF]
   refine gU (i := 10) rfl ?kr30
   try simp only [Act.put, qA, qB, qC, qD, qE, qF]
   refine gT (i := 11) (v := ?kv31) rfl ?ky31 ?kr31
   case ky31 => (intro w hSw; (try dsimp only at hSw); go_split_ands; (try simp only [qA, qB, qC]); go_simp; (try with_reducible rfl))
   try simp only [Act.put, qA, qB, qC, qD, qE, qF]
   refine gT (i := 12) (v := ?kv32) rfl ?ky32 ?kr32
   case ky32 => (intro w hSw; (try dsimp only at hSw); go_split_ands; (try simp only [qA, qB, qC]); go_simp; (try with_reducible rfl))
   try simp only [Act.put, qA, qB, qC, qD, qE, qF]
   refine gU (i := 13) rfl ?kr33
   try simp only [Act.put, qA, qB, qC, qD, qE, qF]
   refine gU (i := 14) rfl ?kr34
   try simp only [Act.put, qA, qB, qC, qD, qE, qF]
   refine gU (i := 15) rfl ?kr35
   try simp only [Act.put, qA, qB, qC, qD, qE, qF]
   refine gT (i := 16) (v := ?kv36) rfl ?ky36 ?kr36
   case ky36 => (intro w hSw; (try dsimp only at hSw); go_split_ands; (try simp only [qA, qB, qC]); go_simp; (try with_reducible rfl))
   try simp only [Act.put, qA, qB, qC, qD, qE, qF]
   refine gT (i := 17) (v := ?kv37) rfl ?ky37 ?kr37
   case ky37 => (intro w hSw; (try dsimp only at hSw); go_split_ands; (try simp only [qA, qB, qC]); go_simp; (try with_reducible rfl))
   try simp only [Act.put, qA, qB, qC, qD, qE, qF]
   refine gT (i := 18) (v := ?kv38) rfl ?ky38 ?kr38
   case ky38 => (intro w hSw; (try dsimp only at hSw); go_split_ands; (try simp only [qA, qB, qC]); go_simp; (try with_reducible rfl))
   try simp only [Act.put, qA, qB, qC, qD, qE, qF]
   refine wpAnyH_done (by kernel_rfl) ?_ _
   go_wp2_with fail
   go_ret
   exact ⟨rfl, grow_trans Hb.out hHeld.2.2.2⟩
 · rw [hm]
   rw [i1] at hW1
   have HW1 := Lib.hid hW1
   have HW2 := Lib.hid hW2
   clear hW1 hW2 hm
   go_enter Tryz.func191, Tryz.ntmps191
   go_upto_region 1 with fail
   obtain ⟨w0, hw0⟩ : ∃ w0, w0 = w.alloc (.cells #[.int .i64 l, .int .i64 at_, .int .u32 gen] 66) := ⟨_, rfl⟩
   rw [← hw0] at hc0 hc1 hc2 Hw ⊢
   rw [← hG]
   clear hw0 hG
   go_upto_region 2 with (go_at_call 221; refine (spot_any l at_ gen _).mono ?_; rintro e w1 ⟨rfl, b1⟩)
   have hS : ∀ w', Below w1.heap.size w1 w' → (w'.cell? ⟨G, 0, none⟩ = some (.int .i64 l) ∧ w'.cell? ⟨G, 1, none⟩ = some (.int .i64 at_) ∧ w'.cell? ⟨G, 2, none⟩ = some (.int .u32 gen) ∧ Below w1.heap.size w1 w') :=
    fun w' hb => ⟨grow_cell (grow_trans b1 hb) hc0, grow_cell (grow_trans b1 hb) hc1, grow_cell (grow_trans b1 hb) hc2, hb⟩
   have Hb := Lib.hid (grow_trans Hw.out b1)
   clear b1
   refine wp_region_held_drew (S := fun w' => w'.cell? ⟨G, 0, none⟩ = some (.int .i64 l) ∧ w'.cell? ⟨G, 1, none⟩ = some (.int .i64 at_) ∧ w'.cell? ⟨G, 2, none⟩ = some (.int .u32 gen) ∧ Below w1.heap.size w1 w') (by kernel_rfl) (hS _ (Below.refl _ _).drew) (fun hHeld => ?_)
   show wpAnyH _ _ _ _ _ 19 #[false, false, false, false, false, false, false, false, false, false, false, false, false, false, false, false, false, false, false] _ _
   refine gT (i := 0) (v := ?kv39) rfl ?ky39 ?kr39
   case ky39 => (intro w hSw; (try dsimp only at hSw); go_split_ands; (try simp only [qA, qB]); go_simp; (try with_reducible rfl))
   try simp only [Act.put, qA, qB, qD, qE, qF]
   refine wpAnyH_ready (rs := [1]) (by kernel_rfl) (by simp) ?_
   refine (AllReadyH.cons rfl (fun K hK => ?_) AllReadyH.nil)
   try simp only [qA, qB, qC]
   go_simp
   go_at_call 222; refine (inoRoot_any _).mono ?_; rintro e x1 ⟨rfl, y1⟩
   refine hK.out _ _ (by exact hS _ (grow_trans hHeld.2.2.2 y1)) (fun hHeldn => ?_)
   clear hHeld hK K
   have hHeld := hHeldn
   clear hHeldn
   try simp only [qD, qE, qF]
   refine gT (i := 2) (v := ?kv41) rfl ?ky41 ?kr41
   case ky41 => (intro w hSw; (try dsimp only at hSw); go_split_ands; (try simp only [qA, qB, qC]); go_simp; (try with_reducible rfl))
   try simp only [Act.put, qA, qB, qC, qD, qE, qF]
   refine gT (i := 3) (v := ?kv42) rfl ?ky42 ?kr42
   case ky42 => (intro w hSw; (try dsimp only at hSw); go_split_ands; (try simp only [qA, qB, qC]); go_simp; (try with_reducible rfl))
   try simp only [Act.put, qA, qB, qC, qD, qE, qF]
   refine gT (i := 4) (v := ?kv43) rfl ?ky43 ?kr43
   case ky43 => (intro w hSw; (try dsimp only at hSw); go_split_ands; (try simp only [qA, qB, qC]); go_simp; (try with_reducible rfl))
   try simp only [Act.put, qA, qB, qC, qD, qE, qF]
   refine gT (i := 5) (v := ?kv44) rfl ?ky44 ?kr44
   case ky44 => (intro w hSw; (try dsimp only at hSw); go_split_ands; (try simp only [qA, qB, qC]); go_simp; (try with_reducible rfl))
   try simp only [Act.put, qA, qB, qC, qD, qE, qF]
   refine wpAnyH_ready (rs := [6]) (by kernel_rfl) (by simp) ?_
   refine (AllReadyH.cons rfl (fun K hK => ?_) AllReadyH.nil)
   try simp only [qA, qB, qC]
   go_simp
   go_at_call 223; refine (HW1.out _).mono ?_; rintro e x2 ⟨rfl, hx2⟩; obtain rfl := hx2.symm
   refine hK.out _ _ (by exact hHeld) (fun hHeldn => ?_)
   clear hHeld hK K
   have hHeld := hHeldn
   clear hHeldn
   try simp only [qD, qE, qF]
   refine gT (i := 7) (v := ?kv46) rfl ?ky46 ?kr46
   case ky46 => (intro w hSw; (try dsimp only at hSw); go_split_ands; (try simp only [qA, qB, qC]); go_simp; (try with_reducible rfl))
   try simp only [Act.put, qA, qB, qC, qD, qE, qF]
   refine gU (i := 8) rfl ?kr47
   try simp only [Act.put, qA, qB, qC, qD, qE, qF]
   refine gU (i := 9) rfl ?kr48
   try simp only [Act.put, qA, qB, qC, qD, qE, qF]
   refine gU (i := 10) rfl ?kr49
   try simp only [Act.put, qA, qB, qC, qD, qE, qF]
   refine gT (i := 11) (v := ?kv50) rfl ?ky50 ?kr50
   case ky50 => (intro w hSw; (try dsimp only at hSw); go_split_ands; (try simp only [qA, qB, qC]); go_simp; (try with_reducible rfl))
   try simp only [Act.put, qA, qB, qC, qD, qE, qF]
   refine gT (i := 12) (v := ?kv51) rfl ?ky51 ?kr51
   case ky51 => (intro w hSw; (try dsimp only at hSw); go_split_ands; (try simp only [qA, qB, qC]); go_simp; (try with_reducible rfl))
   try simp only [Act.put, qA, qB, qC, qD, qE, qF]
   refine gU (i := 13) rfl ?kr52
   try simp only [Act.put, qA, qB, qC, qD, qE, qF]
   refine gU (i := 14) rfl ?kr53
   try simp only [Act.put, qA, qB, qC, qD, qE, qF]
   refine gU (i := 15) rfl ?kr54
   try simp only [Act.put, qA, qB, qC, qD, qE, qF]
   refine gT (i := 16) (v := ?kv55) rfl ?ky55 ?kr55
   case ky55 => (intro w hSw; (try dsimp only at hSw); go_split_ands; (try simp only [qA, qB, qC]); go_simp; (try with_reducible rfl))
   try simp only [Act.put, qA, qB, qC, qD, qE, qF]
   refine gT (i := 17) (v := ?kv56) rfl ?ky56 ?kr56
   case ky56 => (intro w hSw; (try dsimp only at hSw); go_split_ands; (try simp only [qA, qB, qC]); go_simp; (try with_reducible rfl))
   try simp only [Act.put, qA, qB, qC, qD, qE, qF]
   refine gT (i := 18) (v := ?kv57) rfl ?ky57 ?kr57
   case ky57 => (intro w hSw; (try dsimp only at hSw); go_split_ands; (try simp only [qA, qB, qC]); go_simp; (try with_reducible rfl))
   try simp only [Act.put, qA, qB, qC, qD, qE, qF]
   refine wpAnyH_done (by kernel_rfl) ?_ _
   go_wp2_with fail
   go_ret
   exact ⟨rfl, grow_trans Hb.out hHeld.2.2.2⟩
 · rw [hm]
   rw [i1] at hW1
   have HW1 := Lib.hid hW1
   have HW2 := Lib.hid hW2
   clear hW1 hW2 hm
   go_enter Tryz.func191, Tryz.ntmps191
   go_upto_region 1 with fail
   obtain ⟨w0, hw0⟩ : ∃ w0, w0 = w.alloc (.cells #[.int .i64 l, .int .i64 at_, .int .u32 gen] 66) := ⟨_, rfl⟩
   rw [← hw0] at hc0 hc1 hc2 Hw ⊢
   rw [← hG]
   clear hw0 hG
   go_upto_region 2 with (go_at_call 221; refine (spot_any l at_ gen _).mono ?_; rintro e w1 ⟨rfl, b1⟩)
   have hS : ∀ w', Below w1.heap.size w1 w' → (w'.cell? ⟨G, 0, none⟩ = some (.int .i64 l) ∧ w'.cell? ⟨G, 1, none⟩ = some (.int .i64 at_) ∧ w'.cell? ⟨G, 2, none⟩ = some (.int .u32 gen) ∧ Below w1.heap.size w1 w') :=
    fun w' hb => ⟨grow_cell (grow_trans b1 hb) hc0, grow_cell (grow_trans b1 hb) hc1, grow_cell (grow_trans b1 hb) hc2, hb⟩
   have Hb := Lib.hid (grow_trans Hw.out b1)
   clear b1
   refine wp_region_held_drew (S := fun w' => w'.cell? ⟨G, 0, none⟩ = some (.int .i64 l) ∧ w'.cell? ⟨G, 1, none⟩ = some (.int .i64 at_) ∧ w'.cell? ⟨G, 2, none⟩ = some (.int .u32 gen) ∧ Below w1.heap.size w1 w') (by kernel_rfl) (hS _ (Below.refl _ _).drew) (fun hHeld => ?_)
   show wpAnyH _ _ _ _ _ 19 #[false, false, false, false, false, false, false, false, false, false, false, false, false, false, false, false, false, false, false] _ _
   refine gT (i := 0) (v := ?kv58) rfl ?ky58 ?kr58
   case ky58 => (intro w hSw; (try dsimp only at hSw); go_split_ands; (try simp only [qA, qB]); go_simp; (try with_reducible rfl))
   try simp only [Act.put, qA, qB, qD, qE, qF]
   refine wpAnyH_ready (rs := [1]) (by kernel_rfl) (by simp) ?_
   refine (AllReadyH.cons rfl (fun K hK => ?_) AllReadyH.nil)
   try simp only [qA, qB, qC]
   go_simp
   go_at_call 222; refine (inoRoot_any _).mono ?_; rintro e x1 ⟨rfl, y1⟩
   refine hK.out _ _ (by exact hS _ (grow_trans hHeld.2.2.2 y1)) (fun hHeldn => ?_)
   clear hHeld hK K
   have hHeld := hHeldn
   clear hHeldn
   try simp only [qD, qE, qF]
   refine gT (i := 2) (v := ?kv60) rfl ?ky60 ?kr60
   case ky60 => (intro w hSw; (try dsimp only at hSw); go_split_ands; (try simp only [qA, qB, qC]); go_simp; (try with_reducible rfl))
   try simp only [Act.put, qA, qB, qC, qD, qE, qF]
   refine gT (i := 3) (v := ?kv61) rfl ?ky61 ?kr61
   case ky61 => (intro w hSw; (try dsimp only at hSw); go_split_ands; (try simp only [qA, qB, qC]); go_simp; (try with_reducible rfl))
   try simp only [Act.put, qA, qB, qC, qD, qE, qF]
   refine gT (i := 4) (v := ?kv62) rfl ?ky62 ?kr62
   case ky62 => (intro w hSw; (try dsimp only at hSw); go_split_ands; (try simp only [qA, qB, qC]); go_simp; (try with_reducible rfl))
   try simp only [Act.put, qA, qB, qC, qD, qE, qF]
   refine gT (i := 5) (v := ?kv63) rfl ?ky63 ?kr63
   case ky63 => (intro w hSw; (try dsimp only at hSw); go_split_ands; (try simp only [qA, qB, qC]); go_simp; (try with_reducible rfl))
   try simp only [Act.put, qA, qB, qC, qD, qE, qF]
   refine wpAnyH_ready (rs := [6]) (by kernel_rfl) (by simp) ?_
   refine (AllReadyH.cons rfl (fun K hK => ?_) AllReadyH.nil)
   try simp only [qA, qB, qC]
   go_simp
   go_at_call 223; refine (HW1.out _).mono ?_; rintro e x2 ⟨rfl, hx2⟩; obtain rfl := hx2.symm
   refine hK.out _ _ (by exact hHeld) (fun hHeldn => ?_)
   clear hHeld hK K
   have hHeld := hHeldn
   clear hHeldn
   try simp only [qD, qE, qF]
   refine gT (i := 7) (v := ?kv65) rfl ?ky65 ?kr65
   case ky65 => (intro w hSw; (try dsimp only at hSw); go_split_ands; (try simp only [qA, qB, qC]); go_simp; (try with_reducible rfl))
   try simp only [Act.put, qA, qB, qC, qD, qE, qF]
   refine gU (i := 8) rfl ?kr66
   try simp only [Act.put, qA, qB, qC, qD, qE, qF]
   refine gU (i := 9) rfl ?kr67
   try simp only [Act.put, qA, qB, qC, qD, qE, qF]
   refine gU (i := 10) rfl ?kr68
   try simp only [Act.put, qA, qB, qC, qD, qE, qF]
   refine gT (i := 11) (v := ?kv69) rfl ?ky69 ?kr69
   case ky69 => (intro w hSw; (try dsimp only at hSw); go_split_ands; (try simp only [qA, qB, qC]); go_simp; (try with_reducible rfl))
   try simp only [Act.put, qA, qB, qC, qD, qE, qF]
   refine gT (i := 12) (v := ?kv70) rfl ?ky70 ?kr70
   case ky70 => (intro w hSw; (try dsimp only at hSw); go_split_ands; (try simp only [qA, qB, qC]); go_simp; (try with_reducible rfl))
   try simp only [Act.put, qA, qB, qC, qD, qE, qF]
   refine gU (i := 13) rfl ?kr71
   try simp only [Act.put, qA, qB, qC, qD, qE, qF]
   refine gU (i := 14) rfl ?kr72
   try simp only [Act.put, qA, qB, qC, qD, qE, qF]
   refine gU (i := 15) rfl ?kr73
   try simp only [Act.put, qA, qB, qC, qD, qE, qF]
   refine gT (i := 16) (v := ?kv74) rfl ?ky74 ?kr74
   case ky74 => (intro w hSw; (try dsimp only at hSw); go_split_ands; (try simp only [qA, qB, qC]); go_simp; (try with_reducible rfl))
   try simp only [Act.put, qA, qB, qC, qD, qE, qF]
   refine gT (i := 17) (v := ?kv75) rfl ?ky75 ?kr75
   case ky75 => (intro w hSw; (try dsimp only at hSw); go_split_ands; (try simp only [qA, qB, qC]); go_simp; (try with_reducible rfl))
   try simp only [Act.put, qA, qB, qC, qD, qE, qF]
   refine gT (i := 18) (v := ?kv76) rfl ?ky76 ?kr76
   case ky76 => (intro w hSw; (try dsimp only at hSw); go_split_ands; (try simp only [qA, qB, qC]); go_simp; (try with_reducible rfl))
   try simp only [Act.put, qA, qB, qC, qD, qE, qF]
   refine wpAnyH_done (by kernel_rfl) ?_ _
   go_wp2_with fail
   go_ret
   exact ⟨rfl, grow_trans Hb.out hHeld.2.2.2⟩
 · rw [hm]
   rw [i1] at hW1
   rw [i2] at hW2
   have HW1 := Lib.hid hW1
   have HW2 := Lib.hid hW2
   clear hW1 hW2 hm
   go_enter Tryz.func191, Tryz.ntmps191
   go_upto_region 1 with fail
   obtain ⟨w0, hw0⟩ : ∃ w0, w0 = w.alloc (.cells #[.int .i64 l, .int .i64 at_, .int .u32 gen] 66) := ⟨_, rfl⟩
   rw [← hw0] at hc0 hc1 hc2 Hw ⊢
   rw [← hG]
   clear hw0 hG
   go_upto_region 2 with (go_at_call 221; refine (spot_any l at_ gen _).mono ?_; rintro e w1 ⟨rfl, b1⟩)
   have hS : ∀ w', Below w1.heap.size w1 w' → (w'.cell? ⟨G, 0, none⟩ = some (.int .i64 l) ∧ w'.cell? ⟨G, 1, none⟩ = some (.int .i64 at_) ∧ w'.cell? ⟨G, 2, none⟩ = some (.int .u32 gen) ∧ Below w1.heap.size w1 w') :=
    fun w' hb => ⟨grow_cell (grow_trans b1 hb) hc0, grow_cell (grow_trans b1 hb) hc1, grow_cell (grow_trans b1 hb) hc2, hb⟩
   have Hb := Lib.hid (grow_trans Hw.out b1)
   clear b1
   refine wp_region_held_drew (S := fun w' => w'.cell? ⟨G, 0, none⟩ = some (.int .i64 l) ∧ w'.cell? ⟨G, 1, none⟩ = some (.int .i64 at_) ∧ w'.cell? ⟨G, 2, none⟩ = some (.int .u32 gen) ∧ Below w1.heap.size w1 w') (by kernel_rfl) (hS _ (Below.refl _ _).drew) (fun hHeld => ?_)
   show wpAnyH _ _ _ _ _ 19 #[false, false, false, false, false, false, false, false, false, false, false, false, false, false, false, false, false, false, false] _ _
   refine gT (i := 0) (v := ?kv77) rfl ?ky77 ?kr77
   case ky77 => (intro w hSw; (try dsimp only at hSw); go_split_ands; (try simp only [qA, qB]); go_simp; (try with_reducible rfl))
   try simp only [Act.put, qA, qB, qD, qE, qF]
   refine wpAnyH_ready (rs := [1]) (by kernel_rfl) (by simp) ?_
   refine (AllReadyH.cons rfl (fun K hK => ?_) AllReadyH.nil)
   try simp only [qA, qB, qC]
   go_simp
   go_at_call 222; refine (inoRoot_any _).mono ?_; rintro e x1 ⟨rfl, y1⟩
   refine hK.out _ _ (by exact hS _ (grow_trans hHeld.2.2.2 y1)) (fun hHeldn => ?_)
   clear hHeld hK K
   have hHeld := hHeldn
   clear hHeldn
   try simp only [qD, qE, qF]
   refine gT (i := 2) (v := ?kv79) rfl ?ky79 ?kr79
   case ky79 => (intro w hSw; (try dsimp only at hSw); go_split_ands; (try simp only [qA, qB, qC]); go_simp; (try with_reducible rfl))
   try simp only [Act.put, qA, qB, qC, qD, qE, qF]
   refine gT (i := 3) (v := ?kv80) rfl ?ky80 ?kr80
   case ky80 => (intro w hSw; (try dsimp only at hSw); go_split_ands; (try simp only [qA, qB, qC]); go_simp; (try with_reducible rfl))
   try simp only [Act.put, qA, qB, qC, qD, qE, qF]
   refine gT (i := 4) (v := ?kv81) rfl ?ky81 ?kr81
   case ky81 => (intro w hSw; (try dsimp only at hSw); go_split_ands; (try simp only [qA, qB, qC]); go_simp; (try with_reducible rfl))
   try simp only [Act.put, qA, qB, qC, qD, qE, qF]
   refine gT (i := 5) (v := ?kv82) rfl ?ky82 ?kr82
   case ky82 => (intro w hSw; (try dsimp only at hSw); go_split_ands; (try simp only [qA, qB, qC]); go_simp; (try with_reducible rfl))
   try simp only [Act.put, qA, qB, qC, qD, qE, qF]
   refine wpAnyH_ready (rs := [6]) (by kernel_rfl) (by simp) ?_
   refine (AllReadyH.cons rfl (fun K hK => ?_) AllReadyH.nil)
   try simp only [qA, qB, qC]
   go_simp
   go_at_call 223; refine (HW1.out _).mono ?_; rintro e x2 ⟨rfl, hx2⟩; obtain rfl := hx2.symm
   refine hK.out _ _ (by exact hHeld) (fun hHeldn => ?_)
   clear hHeld hK K
   have hHeld := hHeldn
   clear hHeldn
   try simp only [qD, qE, qF]
   refine gT (i := 7) (v := ?kv84) rfl ?ky84 ?kr84
   case ky84 => (intro w hSw; (try dsimp only at hSw); go_split_ands; (try simp only [qA, qB, qC]); go_simp; (try with_reducible rfl))
   try simp only [Act.put, qA, qB, qC, qD, qE, qF]
   refine gT (i := 8) (v := ?kv85) rfl ?ky85 ?kr85
   case ky85 => (intro w hSw; (try dsimp only at hSw); go_split_ands; (try simp only [qA, qB, qC]); go_simp; (try with_reducible rfl))
   try simp only [Act.put, qA, qB, qC, qD, qE, qF]
   refine gT (i := 9) (v := ?kv86) rfl ?ky86 ?kr86
   case ky86 => (intro w hSw; (try dsimp only at hSw); go_split_ands; (try simp only [qA, qB, qC]); go_simp; (try with_reducible rfl))
   try simp only [Act.put, qA, qB, qC, qD, qE, qF]
   refine wpAnyH_ready (rs := [10]) (by kernel_rfl) (by simp) ?_
   refine (AllReadyH.cons rfl (fun K hK => ?_) AllReadyH.nil)
   try simp only [qA, qB, qC]
   go_simp
   go_at_call 223; refine (HW2.out _).mono ?_; rintro e x3 ⟨rfl, hx3⟩; obtain rfl := hx3.symm
   refine hK.out _ _ (by exact hHeld) (fun hHeldn => ?_)
   clear hHeld hK K
   have hHeld := hHeldn
   clear hHeldn
   try simp only [qD, qE, qF]
   refine gT (i := 11) (v := ?kv88) rfl ?ky88 ?kr88
   case ky88 => (intro w hSw; (try dsimp only at hSw); go_split_ands; (try simp only [qA, qB, qC]); go_simp; (try with_reducible rfl))
   try simp only [Act.put, qA, qB, qC, qD, qE, qF]
   refine gT (i := 12) (v := ?kv89) rfl ?ky89 ?kr89
   case ky89 => (intro w hSw; (try dsimp only at hSw); go_split_ands; (try simp only [qA, qB, qC]); go_simp; (try with_reducible rfl))
   try simp only [Act.put, qA, qB, qC, qD, qE, qF]
   refine gU (i := 13) rfl ?kr90
   try simp only [Act.put, qA, qB, qC, qD, qE, qF]
   refine gU (i := 14) rfl ?kr91
   try simp only [Act.put, qA, qB, qC, qD, qE, qF]
   refine gU (i := 15) rfl ?kr92
   try simp only [Act.put, qA, qB, qC, qD, qE, qF]
   refine gT (i := 16) (v := ?kv93) rfl ?ky93 ?kr93
   case ky93 => (intro w hSw; (try dsimp only at hSw); go_split_ands; (try simp only [qA, qB, qC]); go_simp; (try with_reducible rfl))
   try simp only [Act.put, qA, qB, qC, qD, qE, qF]
   refine gT (i := 17) (v := ?kv94) rfl ?ky94 ?kr94
   case ky94 => (intro w hSw; (try dsimp only at hSw); go_split_ands; (try simp only [qA, qB, qC]); go_simp; (try with_reducible rfl))
   try simp only [Act.put, qA, qB, qC, qD, qE, qF]
   refine gT (i := 18) (v := ?kv95) rfl ?ky95 ?kr95
   case ky95 => (intro w hSw; (try dsimp only at hSw); go_split_ands; (try simp only [qA, qB, qC]); go_simp; (try with_reducible rfl))
   try simp only [Act.put, qA, qB, qC, qD, qE, qF]
   refine wpAnyH_done (by kernel_rfl) ?_ _
   go_wp2_with fail
   go_ret
   exact ⟨rfl, grow_trans Hb.out hHeld.2.2.2⟩
 · rw [hm]
   rw [i1] at hW1
   rw [i2] at hW2
   have HW1 := Lib.hid hW1
   have HW2 := Lib.hid hW2
   clear hW1 hW2 hm
   go_enter Tryz.func191, Tryz.ntmps191
   go_upto_region 1 with fail
   obtain ⟨w0, hw0⟩ : ∃ w0, w0 = w.alloc (.cells #[.int .i64 l, .int .i64 at_, .int .u32 gen] 66) := ⟨_, rfl⟩
   rw [← hw0] at hc0 hc1 hc2 Hw ⊢
   rw [← hG]
   clear hw0 hG
   go_upto_region 2 with (go_at_call 221; refine (spot_any l at_ gen _).mono ?_; rintro e w1 ⟨rfl, b1⟩)
   have hS : ∀ w', Below w1.heap.size w1 w' → (w'.cell? ⟨G, 0, none⟩ = some (.int .i64 l) ∧ w'.cell? ⟨G, 1, none⟩ = some (.int .i64 at_) ∧ w'.cell? ⟨G, 2, none⟩ = some (.int .u32 gen) ∧ Below w1.heap.size w1 w') :=
    fun w' hb => ⟨grow_cell (grow_trans b1 hb) hc0, grow_cell (grow_trans b1 hb) hc1, grow_cell (grow_trans b1 hb) hc2, hb⟩
   have Hb := Lib.hid (grow_trans Hw.out b1)
   clear b1
   refine wp_region_held_drew (S := fun w' => w'.cell? ⟨G, 0, none⟩ = some (.int .i64 l) ∧ w'.cell? ⟨G, 1, none⟩ = some (.int .i64 at_) ∧ w'.cell? ⟨G, 2, none⟩ = some (.int .u32 gen) ∧ Below w1.heap.size w1 w') (by kernel_rfl) (hS _ (Below.refl _ _).drew) (fun hHeld => ?_)
   show wpAnyH _ _ _ _ _ 19 #[false, false, false, false, false, false, false, false, false, false, false, false, false, false, false, false, false, false, false] _ _
   refine gT (i := 0) (v := ?kv96) rfl ?ky96 ?kr96
   case ky96 => (intro w hSw; (try dsimp only at hSw); go_split_ands; (try simp only [qA, qB]); go_simp; (try with_reducible rfl))
   try simp only [Act.put, qA, qB, qD, qE, qF]
   refine wpAnyH_ready (rs := [1]) (by kernel_rfl) (by simp) ?_
   refine (AllReadyH.cons rfl (fun K hK => ?_) AllReadyH.nil)
   try simp only [qA, qB, qC]
   go_simp
   go_at_call 222; refine (inoRoot_any _).mono ?_; rintro e x1 ⟨rfl, y1⟩
   refine hK.out _ _ (by exact hS _ (grow_trans hHeld.2.2.2 y1)) (fun hHeldn => ?_)
   clear hHeld hK K
   have hHeld := hHeldn
   clear hHeldn
   try simp only [qD, qE, qF]
   refine gT (i := 2) (v := ?kv98) rfl ?ky98 ?kr98
   case ky98 => (intro w hSw; (try dsimp only at hSw); go_split_ands; (try simp only [qA, qB, qC]); go_simp; (try with_reducible rfl))
   try simp only [Act.put, qA, qB, qC, qD, qE, qF]
   refine gT (i := 3) (v := ?kv99) rfl ?ky99 ?kr99
   case ky99 => (intro w hSw; (try dsimp only at hSw); go_split_ands; (try simp only [qA, qB, qC]); go_simp; (try with_reducible rfl))
   try simp only [Act.put, qA, qB, qC, qD, qE, qF]
   refine gT (i := 4) (v := ?kv100) rfl ?ky100 ?kr100
   case ky100 => (intro w hSw; (try dsimp only at hSw); go_split_ands; (try simp only [qA, qB, qC]); go_simp; (try with_reducible rfl))
   try simp only [Act.put, qA, qB, qC, qD, qE, qF]
   refine gT (i := 5) (v := ?kv101) rfl ?ky101 ?kr101
   case ky101 => (intro w hSw; (try dsimp only at hSw); go_split_ands; (try simp only [qA, qB, qC]); go_simp; (try with_reducible rfl))
   try simp only [Act.put, qA, qB, qC, qD, qE, qF]
   refine wpAnyH_ready (rs := [6]) (by kernel_rfl) (by simp) ?_
   refine (AllReadyH.cons rfl (fun K hK => ?_) AllReadyH.nil)
   try simp only [qA, qB, qC]
   go_simp
   go_at_call 223; refine (HW1.out _).mono ?_; rintro e x2 ⟨rfl, hx2⟩; obtain rfl := hx2.symm
   refine hK.out _ _ (by exact hHeld) (fun hHeldn => ?_)
   clear hHeld hK K
   have hHeld := hHeldn
   clear hHeldn
   try simp only [qD, qE, qF]
   refine gT (i := 7) (v := ?kv103) rfl ?ky103 ?kr103
   case ky103 => (intro w hSw; (try dsimp only at hSw); go_split_ands; (try simp only [qA, qB, qC]); go_simp; (try with_reducible rfl))
   try simp only [Act.put, qA, qB, qC, qD, qE, qF]
   refine gT (i := 8) (v := ?kv104) rfl ?ky104 ?kr104
   case ky104 => (intro w hSw; (try dsimp only at hSw); go_split_ands; (try simp only [qA, qB, qC]); go_simp; (try with_reducible rfl))
   try simp only [Act.put, qA, qB, qC, qD, qE, qF]
   refine gT (i := 9) (v := ?kv105) rfl ?ky105 ?kr105
   case ky105 => (intro w hSw; (try dsimp only at hSw); go_split_ands; (try simp only [qA, qB, qC]); go_simp; (try with_reducible rfl))
   try simp only [Act.put, qA, qB, qC, qD, qE, qF]
   refine wpAnyH_ready (rs := [10]) (by kernel_rfl) (by simp) ?_
   refine (AllReadyH.cons rfl (fun K hK => ?_) AllReadyH.nil)
   try simp only [qA, qB, qC]
   go_simp
   go_at_call 223; refine (HW2.out _).mono ?_; rintro e x3 ⟨rfl, hx3⟩; obtain rfl := hx3.symm
   refine hK.out _ _ (by exact hHeld) (fun hHeldn => ?_)
   clear hHeld hK K
   have hHeld := hHeldn
   clear hHeldn
   try simp only [qD, qE, qF]
   refine gT (i := 11) (v := ?kv107) rfl ?ky107 ?kr107
   case ky107 => (intro w hSw; (try dsimp only at hSw); go_split_ands; (try simp only [qA, qB, qC]); go_simp; (try with_reducible rfl))
   try simp only [Act.put, qA, qB, qC, qD, qE, qF]
   refine gT (i := 12) (v := ?kv108) rfl ?ky108 ?kr108
   case ky108 => (intro w hSw; (try dsimp only at hSw); go_split_ands; (try simp only [qA, qB, qC]); go_simp; (try with_reducible rfl))
   try simp only [Act.put, qA, qB, qC, qD, qE, qF]
   refine gT (i := 13) (v := ?kv109) rfl ?ky109 ?kr109
   case ky109 => (intro w hSw; (try dsimp only at hSw); go_split_ands; (try simp only [qA, qB, qC]); go_simp; (try with_reducible rfl))
   try simp only [Act.put, qA, qB, qC, qD, qE, qF]
   refine gT (i := 14) (v := ?kv110) rfl ?ky110 ?kr110
   case ky110 => (intro w hSw; (try dsimp only at hSw); go_split_ands; (try simp only [qA, qB, qC]); go_simp; (try with_reducible rfl))
   try simp only [Act.put, qA, qB, qC, qD, qE, qF]
   refine gT (i := 15) (v := ?kv111) rfl ?ky111 ?kr111
   case ky111 => (intro w hSw; (try dsimp only at hSw); go_split_ands; (try simp only [qA, qB, qC]); go_simp; (try with_reducible rfl))
   try simp only [Act.put, qA, qB, qC, qD, qE, qF]
   refine gT (i := 16) (v := ?kv112) rfl ?ky112 ?kr112
   case ky112 => (intro w hSw; (try dsimp only at hSw); go_split_ands; (try simp only [qA, qB, qC]); go_simp; (try with_reducible rfl))
   try simp only [Act.put, qA, qB, qC, qD, qE, qF]
   refine gT (i := 17) (v := ?kv113) rfl ?ky113 ?kr113
   case ky113 => (intro w hSw; (try dsimp only at hSw); go_split_ands; (try simp only [qA, qB, qC]); go_simp; (try with_reducible rfl))
   try simp only [Act.put, qA, qB, qC, qD, qE, qF]
   refine gT (i := 18) (v := ?kv114) rfl ?ky114 ?kr114
   case ky114 => (intro w hSw; (try dsimp only at hSw); go_split_ands; (try simp only [qA, qB, qC]); go_simp; (try with_reducible rfl))
   try simp only [Act.put, qA, qB, qC, qD, qE, qF]
   refine wpAnyH_done (by kernel_rfl) ?_ _
   go_wp2_with fail
   go_ret
   exact ⟨rfl, grow_trans Hb.out hHeld.2.2.2⟩
end Go.Proofs.YtbbnejehglonjaaGreat
