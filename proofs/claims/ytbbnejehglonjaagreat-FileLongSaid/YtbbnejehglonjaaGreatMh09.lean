/- DERIVED. Contracts and laws that the proofs of this seat share, part 9 of 36: LibW LibX NoA. -/
import Derived.Great.BuildSlice
import Derived.ArgAppend
import Derived.Test.YtbbnejehglonjaaGreatMh00
import Derived.Test.YtbbnejehglonjaaGreatMh03
import Derived.Test.YtbbnejehglonjaaGreatMh08
namespace Go.Proofs.YtbbnejehglonjaaGreat
set_option maxHeartbeats 8000000
set_option maxRecDepth 100000
set_option linter.unusedSimpArgs false
set_option linter.unusedVariables false
section
open Go.RowKit

structure Wr where
 at_ : Int
 b : Blk
 deriving DecidableEq
def Wr.zero : Wr := ⟨0, Blk.zero⟩
def Wr.cells (x : Wr) : Array Value := (Value.int .i64 x.at_ :: x.b.cells.toList).toArray
theorem Wr.size_cells (x : Wr) : x.cells.size = 58 := by simp [Wr.cells, Blk.size_cells]
theorem Wr.one_cells (x : Wr) : ∀ v ∈ x.cells.toList, v.oneCell' = true := by
 intro v hv
 simp only [Wr.cells, List.mem_cons] at hv
 rcases hv with rfl | hv
 · rfl
 · exact x.b.one_cells v hv
theorem Wr.cell0 (x : Wr) : x.cells[0]? = some (.int .i64 x.at_) := by simp [Wr.cells]
theorem Wr.cellS (x : Wr) (i : Nat) : x.cells[i + 1]? = x.b.cells[i]? := by simp [Wr.cells]
theorem Wr.cell1 (x : Wr) : x.cells[1]? = some (.int .i64 x.b.kind) := by rw [Wr.cellS, Blk.cell0]
theorem Wr.cells_blk (x : Wr) : x.cells.extract 1 58 = x.b.cells := by
 apply Array.ext'
 simp [Wr.cells, List.extract_eq_take_drop]
 exact List.take_of_length_le (by rw [Blk.len_cells]; exact Nat.le_refl _)
theorem aggWr : AggOf Tryz.prog 52 58 := ⟨⟨_, Tryz.underlying52, rfl⟩, by kernel_rfl⟩
theorem alloc_wr' (w : World) : (Instr.alloc 52 true (.tuple #[])).run Tryz.prog w = .ok (.pointer (some ⟨w.heap.size, 0, none⟩)) (w.alloc (.cells Wr.zero.cells 52)) := by kernel_rfl

theorem fold_lay (off : Nat) : ∀ (v : List Value) (cells : Array Value) (k : Nat), off + k + v.length ≤ cells.size →
 ((v.zipIdx k).foldl (fun cs (p : Value × Nat) => cs.setIfInBounds (off + p.2) p.1) cells) = (cells.toList.take (off + k) ++ v ++ cells.toList.drop (off + k + v.length)).toArray
 | [], cells, k, h => by simp
 | x :: v, cells, k, h => by
   rw [List.zipIdx_cons, List.foldl_cons, fold_lay off v _ (k + 1) (by simp only [List.length_cons] at h; simp; omega)]
   congr 1
   simp only [List.length_cons] at h
   apply List.ext_getElem?
   intro j
   have hcl : cells.toList.length = cells.size := Array.length_toList
   simp only [Array.toList_setIfInBounds, List.append_assoc]
   by_cases h1 : j < off + k
   · rw [List.getElem?_append_left (by rw [List.length_take, List.length_set]; omega), List.getElem?_append_left (by rw [List.length_take]; omega), List.getElem?_take, if_pos (by omega), List.getElem?_take, if_pos h1, List.getElem?_set, if_neg (by omega)]
   · have t1 : (cells.toList.take (off + k)).length = off + k := by rw [List.length_take]; omega
     have t2 : ((cells.toList.set (off + k) x).take (off + (k + 1))).length = off + (k + 1) := by rw [List.length_take, List.length_set]; omega
     rw [List.getElem?_append_right (l₁ := cells.toList.take (off + k)) (by omega), t1]
     by_cases h2 : j = off + k
     · subst h2
       rw [List.getElem?_append_left (by omega), List.getElem?_take, if_pos (by omega), List.getElem?_set, if_pos rfl, if_pos (by omega), Nat.sub_self]
       rfl
     · rw [List.getElem?_append_right (by omega), t2]
       have e : j - (off + k) = (j - (off + (k + 1))) + 1 := by omega
       rw [e, List.cons_append, List.getElem?_cons_succ]
       by_cases h3 : j - (off + (k + 1)) < v.length
       · rw [List.getElem?_append_left h3, List.getElem?_append_left h3]
       · rw [List.getElem?_append_right (by omega), List.getElem?_append_right (by omega), List.getElem?_drop, List.getElem?_drop, List.getElem?_set, if_neg (by omega)]
         congr 1
         simp only [List.length_cons]; omega
theorem fill_lay (off : Nat) (v : Array Value) (cells : Array Value) (h : off + v.size ≤ cells.size) :
 v.zipIdx.foldl (fun cs (p : Value × Nat) => cs.setIfInBounds (off + p.2) p.1) cells = (cells.toList.take off ++ v.toList ++ cells.toList.drop (off + v.size)).toArray := by
 rw [← Array.foldl_toList, Array.toList_zipIdx]
 have := fold_lay off v.toList cells 0 (by simpa using h)
 simpa using this
theorem wrPlaces : ∃ it fields z places, Tryz.prog.info? 52 = some it ∧ Tryz.prog.underlying 52 = some (.struct fields) ∧ it.zero = some z ∧ fields.toList.mapM (fun f => (Tryz.prog.info? f.type).map fun i => (f.offset, i.size)) = some places ∧ places = [(0, 1), (1, 57)] ∧ z.cells = Wr.zero.cells := by
 refine ⟨_, _, _, _, (Option.some_get (by kernel_rfl)).symm, Tryz.underlying52, (Option.some_get (by kernel_rfl)).symm, by kernel_rfl, rfl, by kernel_rfl⟩
theorem build_wr' (a : Int) (b : Blk) (w : World) : (Instr.build 52 #[(0, .int .i64 a), (1, .agg b.cells)]).run Tryz.prog w = .ok (.agg (Wr.cells ⟨a, b⟩)) w := by
 obtain ⟨it, fields, z, places, h1, h2, h3, h4, h5, h6⟩ := wrPlaces
 refine run_build w _ _ _ ?_
 subst h5
 have hz : z.cells.size = 58 := by rw [h6, Wr.size_cells]
 simp only [Program.built, h1, h2, h3, h4]
 have hs1 : (Value.int .i64 a).cells = #[.int .i64 a] := rfl
 have hs2 : (Value.agg b.cells).cells = b.cells := rfl
 have f1 := fill_lay 0 #[.int .i64 a] z.cells (by rw [hz]; show 0 + 1 ≤ 58; decide)
 have hc1 : (z.cells.toList.take 0 ++ (#[Value.int .i64 a] : Array Value).toList ++ z.cells.toList.drop (0 + (#[Value.int .i64 a] : Array Value).size)).toArray.size = 58 := by simp [hz]
 have f2 := fill_lay 1 b.cells (z.cells.toList.take 0 ++ (#[Value.int .i64 a] : Array Value).toList ++ z.cells.toList.drop (0 + (#[Value.int .i64 a] : Array Value).size)).toArray (by rw [hc1, b.size_cells]; exact Nat.le_refl _)
 have p0 : ([(0, 1), (1, 57)] : List (Nat × Nat)).toArray[0]? = some (0, 1) := rfl
 have p1 : ([(0, 1), (1, 57)] : List (Nat × Nat)).toArray[1]? = some (1, 57) := rfl
 simp only [Instr.fill, p0, p1, hs1, hs2]
 rw [f1]
 have hn1 : ¬ ((#[Value.int .i64 a] : Array Value).size ≠ 1 || decide (0 + (#[Value.int .i64 a] : Array Value).size > z.cells.size)) = true := by rw [hz]; exact (by decide : ¬ (decide (1 ≠ 1) || decide (0 + 1 > 58)) = true)
 have hn2 : ¬ (decide (b.cells.size ≠ 57) || decide (1 + b.cells.size > (z.cells.toList.take 0 ++ (#[Value.int .i64 a] : Array Value).toList ++ z.cells.toList.drop (0 + (#[Value.int .i64 a] : Array Value).size)).toArray.size)) = true := by rw [hc1, b.size_cells]; decide
 rw [if_neg hn1, if_neg hn2, f2]
 congr 1
 apply Array.ext'
 simp [Wr.cells, b.size_cells]
 have : z.cells.size = 58 := hz
 omega
attribute [irreducible] Wr.cells
noncomputable def wrBuild (parts : Array (Nat × Value)) (w : World) : Result Value := Sem.run Tryz.prog (Instr.build 52 parts) w
noncomputable def wrAlloc (w : World) : Result Value := Sem.run Tryz.prog (Instr.alloc 52 true (.tuple #[])) w
noncomputable def wrLoad (x : Value) (w : World) : Result Value := Sem.run Tryz.prog (Instr.loadAt 52 x) w
noncomputable def wrStore (x y : Value) (w : World) : Result Unit := Sem.run Tryz.prog (Instr.storeAt 52 x y) w
@[go_sem] theorem build_wr (a : Int) (b : Blk) (w : World) : wrBuild #[(0, .int .i64 a), (1, .agg b.cells)] w = .ok (.agg (Wr.cells ⟨a, b⟩)) w := build_wr' a b w
@[go_sem] theorem alloc_wr (w : World) : wrAlloc w = .ok (.pointer (some ⟨w.heap.size, 0, none⟩)) (w.alloc (.cells Wr.zero.cells 52)) := alloc_wr' w
def rowWr (w : World) (g off : Nat) : Option (Array Value) := (rowAt w g).bind fun c => if off + 58 ≤ c.size then some (c.extract off (off + 58)) else none
def hasWr (w : World) (g off : Nat) : Bool := (rowWr w g off).isSome
theorem rowWr_some {w : World} {g off : Nat} {r : Array Value} (h : rowWr w g off = some r) : ∃ c t, w.heap[g]? = some (.cells c t (0, 0)) ∧ off + 58 ≤ c.size ∧ r = c.extract off (off + 58) := by
 unfold rowWr at h
 cases hr : rowAt w g with
 | none => rw [hr] at h; cases h
 | some c =>
   rw [hr] at h
   obtain ⟨t, ht⟩ := heap_rowAt hr
   simp only [Option.bind_some] at h
   split at h
   · rename_i hle
     exact ⟨c, t, ht, hle, by simpa using h.symm⟩
   · cases h
theorem size_wr (w : World) : (sizeOf 52).run Tryz.prog w = .ok 58 w := by
 have := aggWr.size
 cases hi : Tryz.prog.info? 52 with
 | none => rw [hi] at this; cases this
 | some i =>
   rw [hi] at this
   have hs : i.size = 58 := by simpa using this
   simp [sizeOf, typeInfo, hi, hs]
theorem load_wr' (w : World) (g off : Nat) {r : Array Value} (h : rowWr w g off = some r) : (Instr.loadAt 52 (.pointer (some ⟨g, off, none⟩))).run Tryz.prog w = .ok (.agg r) w := by
 obtain ⟨c, t, hg, hle, rfl⟩ := rowWr_some h
 obtain ⟨d, hd, hd2⟩ := aggWr.desc
 have hag : (isAgg 52).run Tryz.prog w = .ok true w := by
  simp only [isAgg, Sem.run_bind, run_underlying hd, Result.andThen_ok]
  cases d <;> simp_all
 have hl := run_loadCells_list (P := Tryz.prog) w ⟨g, off, none⟩ (c.extract off (off + 58)).toList (fun j v hv => by
  have hadd : (⟨g, off, none⟩ : Addr).add j = ⟨g, off + j, none⟩ := by unfold Addr.add; split <;> simp_all
  rw [hadd, cell_of_row w g (off + j) c t (0, 0) hg]
  simp only [Array.toList_extract, List.extract_eq_take_drop, List.getElem?_take, List.getElem?_drop] at hv
  split at hv
  · simpa using hv
  · cases hv)
 have hlen : (c.extract off (off + 58)).toList.length = 58 := by simp; omega
 rw [hlen] at hl
 simp only [Instr.loadAt, Instr.sureAddr, Sem.run_bind, Sem.run_pure, Result.andThen_ok, loadVar, hag, if_true, size_wr, hl]
@[go_sem] theorem load_wr (w : World) (g off : Nat) (h : hasWr w g off = true) : wrLoad (.pointer (some ⟨g, off, none⟩)) w = .ok (.agg ((rowWr w g off).getD #[])) w := by
 unfold hasWr at h
 cases hr : rowWr w g off with
 | none => rw [hr] at h; cases h
 | some r =>
   unfold wrLoad
   exact load_wr' w g off hr
@[go_sem] theorem store_wr (w : World) (g : Nat) (x : Wr) (_ : hasWr w g 0 = true) (hs : (rowAt w g).any (·.size == 58) = true) : wrStore (.pointer (some ⟨g, 0, none⟩)) (.agg x.cells) w = .ok () (w.setRow g x.cells) := by
 cases hr : rowAt w g with
 | none => rw [hr] at hs; cases hs
 | some c =>
   rw [hr] at hs
   exact run_store_agg aggWr w g x.cells hr (by simpa using hs) x.size_cells x.one_cells
@[go_sem ↓] theorem exec_build_wr (ρ : Operand → Value) (w : World) (dst : Option Tmp) (parts : Array (Nat × Operand)) (ty : TypeId) (pos : String) (after : Array Edge) (gd : Option (Nat × Bool)) :
 (execOp ρ ⟨dst, .build 52 parts, ty, pos, after, gd⟩).run Tryz.prog w = (wrBuild (parts.map fun (i, x) => (i, ρ x)) w).andThen fun v w => .ok (.value v) w := by
 simp only [execOp, wrBuild, Sem.run_bind]; rfl
@[go_sem ↓] theorem exec_alloc_wr (ρ : Operand → Value) (w : World) (dst : Option Tmp) (ty : TypeId) (pos : String) (after : Array Edge) (gd : Option (Nat × Bool)) :
 (execOp ρ ⟨dst, .alloc 52, ty, pos, after, gd⟩).run Tryz.prog w = (wrAlloc w).andThen fun v w => .ok (.value v) w := by
 simp only [execOp, wrAlloc, Sem.run_bind]; rfl
@[go_sem ↓] theorem exec_load_wr (ρ : Operand → Value) (w : World) (dst : Option Tmp) (x : Operand) (ty : TypeId) (pos : String) (after : Array Edge) (gd : Option (Nat × Bool)) :
 (execOp ρ ⟨dst, .load 52 x, ty, pos, after, gd⟩).run Tryz.prog w = (wrLoad (ρ x) w).andThen fun v w => .ok (.value v) w := by
 simp only [execOp, wrLoad, Sem.run_bind]; rfl
@[go_sem ↓] theorem exec_store_wr (ρ : Operand → Value) (w : World) (dst : Option Tmp) (x y : Operand) (ty : TypeId) (pos : String) (after : Array Edge) (gd : Option (Nat × Bool)) :
 (execOp ρ ⟨dst, .store 52 x y, ty, pos, after, gd⟩).run Tryz.prog w = (wrStore (ρ x) (ρ y) w).andThen fun _ w => .ok .skip w := by
 simp only [execOp, wrStore, Sem.run_bind]; rfl
attribute [irreducible] wrBuild wrAlloc wrLoad wrStore
@[go_sem] theorem rowWr_new (w : World) (x : Wr) (t : TypeId) (n : Nat) (hn : n = w.heap.size) : rowWr (w.alloc (.cells x.cells t)) n 0 = some x.cells := by
 unfold rowWr; rw [rowAt_alloc_at w _ t n hn]; simp [x.size_cells]
@[go_sem] theorem hasWr_new (w : World) (x : Wr) (t : TypeId) (n : Nat) (hn : n = w.heap.size) : hasWr (w.alloc (.cells x.cells t)) n 0 = true := by
 unfold hasWr; rw [rowWr_new w x t n hn]; rfl
@[go_sem] theorem rowWr_drew (w : World) (n off : Nat) : rowWr w.drew n off = rowWr w n off := rfl
@[go_sem] theorem hasWr_drew (w : World) (n off : Nat) : hasWr w.drew n off = hasWr w n off := rfl
@[go_sem] theorem anyWr (x : Wr) : (x.cells.size == 58) = true := by rw [x.size_cells]; rfl
def WrAt (w : World) (g : Nat) (x : Wr) : Prop := objAt w g = some (.cells x.cells 52 (0, 0))
section
variable {w w' : World} {g : Nat} {x : Wr}
theorem WrAt.new (w : World) (x : Wr) : WrAt (w.alloc (.cells x.cells 52)) w.heap.size x := by unfold WrAt; rw [objAt_alloc, if_pos rfl]
theorem WrAt.below (h : WrAt w g x) (hb : Below w.heap.size w w') : WrAt w' g x := grow_obj hb h
theorem WrAt.c0 (h : WrAt w g x) : w.cell? ⟨g, 0, none⟩ = some (.int .i64 x.at_) := (cell_obj h 0).trans x.cell0
theorem WrAt.c1 (h : WrAt w g x) : w.cell? ⟨g, 1, none⟩ = some (.int .i64 x.b.kind) := (cell_obj h 1).trans x.cell1
theorem WrAt.row (h : WrAt w g x) : rowAt w g = some x.cells := rowAt_heap h
theorem WrAt.off (h : WrAt w g x) : rowOff w g 1 = some x.b.cells := by
 unfold rowOff
 rw [h.row]
 simp only [Option.bind_some, x.size_cells, show (1 + 57 ≤ 58) from Nat.le_refl _, if_true]
 rw [x.cells_blk]
theorem WrAt.has (h : WrAt w g x) : hasOff w g 1 = true := by unfold hasOff; rw [h.off]; rfl
theorem WrAt.byte (h : WrAt w g x) (i : Nat) (hi : i < 56) : w.cell? ⟨g, 2 + i, none⟩ = some (.int .u8 ((x.b.body.getD i 0).toNat : Int)) := by
 rw [cell_obj h, show 2 + i = (i + 1) + 1 by omega, x.cellS, x.b.cellS i hi, List.getD_eq_getElem?_getD, List.getElem?_eq_getElem (by rw [x.b.len]; exact hi)]; rfl
theorem WrAt.bytes (h : WrAt w g x) : BytesAt w (some ⟨g, 2, none⟩) x.b.body := by
 refine ⟨g, 2, fun _ => rfl, fun i hi => ?_⟩
 rw [h.byte i (by rw [← x.b.len]; exact hi), List.getD_eq_getElem?_getD, List.getElem?_eq_getElem hi]; rfl
end
def WREl (_ : World) (x : Wr) (c : List Value) : Prop := c = x.cells.toList
abbrev WRow (w : World) (S : Nat → Prop) (v : Value) (ws : List Wr) : Prop := RowG w S 52 58 WREl v ws
theorem elemWrK : ElemK Tryz.prog 49 52 58 72 := ElemK.mk' (z := .agg Wr.zero.cells) Tryz.underlying49 (by kernel_rfl) (Wr.size_cells _) (by decide) (by decide)
theorem WRow.row {w : World} {S : Nat → Prop} {g n cap : Nat} {ws : List Wr} (h : WRow w S (.slice (some ⟨g, 0, none⟩) n cap) ws) {i : Nat} {x : Wr} (hi : ws[i]? = some x) : rowWr w g (i * 58) = some x.cells := by
 obtain ⟨xs, h1, h2, h3, h4⟩ := h.ex
 have hil := (List.getElem?_eq_some_iff.1 hi).1
 rcases h1.2 with ⟨h', h0⟩ | ⟨g', cap', cur, h', hb, hg, hnc, hcm, hcs, htake⟩
 · cases h'
 · simp only [Value.slice.injEq, Option.some.injEq, Addr.mk.injEq] at h'
   obtain ⟨⟨rfl, _⟩, hn, rfl⟩ := h'
   unfold rowWr
   have hle : i * 58 + 58 ≤ cur.size := by rw [hcs]; omega
   rw [rowAt_heap hg, Option.bind_some, if_pos hle]
   congr 1
   apply Array.ext'
   apply List.ext_getElem?
   intro j
   simp only [Array.toList_extract, List.extract_eq_take_drop, List.getElem?_take, List.getElem?_drop]
   by_cases hj : j < 58
   · rw [if_pos (by omega)]
     have hx : xs[i]? = some xs[i] := List.getElem?_eq_getElem (by omega)
     have hc : xs[i] = x.cells.toList := h4 i x _ hi hx
     have hjl : j < xs[i].length := by rw [h3 _ (List.getElem_mem _)]; exact hj
     have hu : xs[i][j]? = some xs[i][j] := List.getElem?_eq_getElem hjl
     have := flat_getG h3 hx hu
     rw [← htake, List.getElem?_take] at this
     split at this
     · rw [this, ← hc, hu]
     · cases this
   · rw [if_neg (by omega), List.getElem?_eq_none (by rw [Array.length_toList, x.size_cells]; omega)]
theorem WRow.has {w : World} {S : Nat → Prop} {g n cap : Nat} {ws : List Wr} (h : WRow w S (.slice (some ⟨g, 0, none⟩) n cap) ws) {i : Nat} {x : Wr} (hi : ws[i]? = some x) : hasWr w g (i * 58) = true := by unfold hasWr; rw [h.row hi]; rfl
@[go_sem] theorem rowWr_past (w : World) (o : Obj) (n off : Nat) (hn : n < w.heap.size) : rowWr (w.alloc o) n off = rowWr w n off := by unfold rowWr; rw [rowAt_alloc_past w o n hn]
@[go_sem] theorem hasWr_past (w : World) (o : Obj) (n off : Nat) (hn : n < w.heap.size) : hasWr (w.alloc o) n off = hasWr w n off := by unfold hasWr; rw [rowWr_past w o n off hn]
theorem WRow.below {w w' : World} {S : Nat → Prop} {v : Value} {ws : List Wr} (h : WRow w S v ws) (hb : Below w.heap.size w w') : WRow w' S v ws := RowG.keeps h (Keeps.of_below_size hb) (fun g hg e => by have := RowG.lt h hg; omega) (fun _ h => h) (fun _ _ h => h)
theorem zero_bool (w : World) : (zeroValue 4).run Tryz.prog w = .ok (.bool false) w := by kernel_rfl
end
section
open Go.RowKit
attribute [local go_sem] hasBlk
attribute [local irreducible] Calls

theorem run_lit1 {P : Program} {t e : TypeId} {k bytes : Nat} (E : ElemK P t e k bytes) (c : Array Value) (hc : c.size = k) (hk : k ≤ 1000) (w : World) :
 (Instr.buildSlice t 1 #[(0, .agg c)]).run P w = .ok (.slice (some ⟨w.heap.size, 0, none⟩) 1 1) (w.alloc (.cells c e)) := by
 obtain ⟨i, z, hi, hz, hs, hby, hzs⟩ := E.info
 have hp := E.pos
 refine run_buildSlice w t e 1 _ c i z E.ht hi hz (by rw [hs]; omega) (by rw [hs]; omega) ?_
 rw [hs]
 have hv : (Value.agg c).cells = c := rfl
 have hl := fill_lay 0 c ((Array.range (1 * k)).map (z.cells[· % z.cells.size]!)) (by rw [hc]; simp)
 simp only [Instr.fill, hv]
 have hn : ¬ (decide (c.size ≠ k) || decide (0 * k + c.size > ((Array.range (1 * k)).map (z.cells[· % z.cells.size]!)).size)) = true := by rw [hc]; simp
 rw [if_neg hn, Nat.zero_mul, hl]
 congr 1
 apply Array.ext'
 simp [hc]
section
variable {t e : TypeId} {k bytes : Nat} {ops : Array Oper} {o : Oper} {a b0 : Act} {w : World} {K : Act → World → Prop} {Q : Exit → Act → World → Prop} {F : Prop} {rest : List Oper}
theorem wp_lit1 (E : ElemK Tryz.prog t e k bytes) (x : Operand) (ho : o.op = .buildSlice t 1 #[(0, x)]) {c : Array Value} (hx : a.eval x = .agg c) (hc : c.size = k) (hk : k ≤ 1000)
 (h : ∀ w', w' = w.alloc (.cells c e) → K (a.put o.dst (.slice (some ⟨w.heap.size, 0, none⟩) 1 1)) w') : o.wp Tryz.prog a w K Q := by
 unfold Oper.wp execOp
 simp only [ho, List.map_toArray, List.map_cons, List.map_nil, hx, Sem.run_bind]
 rw [run_lit1 E c hc hk]
 exact h _ rfl
theorem step_lit1 (E : ElemK Tryz.prog t e k bytes) (hgd : o.guard = none) (x : Operand) (ho : o.op = .buildSlice t 1 #[(0, x)]) {c : Array Value} (hx : a.eval x = .agg c) (hc : c.size = k) (hk : k ≤ 1000)
 (h : ∀ w', w' = w.alloc (.cells c e) → K (a.put o.dst (.slice (some ⟨w.heap.size, 0, none⟩) 1 1)) w') : if Region.wanted o (yielded ops b0.tmps) = true then Oper.wp Tryz.prog o a w K Q else F := by
 have hw : Region.wanted o (yielded ops b0.tmps) = true := by simp [Region.wanted, hgd]
 rw [if_pos hw]
 exact wp_lit1 E x ho hx hc hk h
theorem list_lit1 (E : ElemK Tryz.prog t e k bytes) (hgd : o.guard = none) (x : Operand) (ho : o.op = .buildSlice t 1 #[(0, x)]) {c : Array Value} (hx : a.eval x = .agg c) (hc : c.size = k) (hk : k ≤ 1000)
 (h : ∀ w', w' = w.alloc (.cells c e) → wpList Tryz.prog ops Q rest (a.put o.dst (.slice (some ⟨w.heap.size, 0, none⟩) 1 1)) w') : wpList Tryz.prog ops Q (o :: rest) a w :=
 wpList_plain hgd fun _ hK => wp_lit1 E x ho hx hc hk fun w' hw' => hK _ _ (h w' hw')
theorem elemBlkK : ElemK Tryz.prog 23 37 57 64 := ElemK.mk' (z := .agg Blk.zero.cells) Tryz.underlying23 (by kernel_rfl) (Blk.size_cells _) (by decide) (by decide)
theorem wp_appK (s x : Operand) (ho : o.op = .call { callee := .builtin .append, args := #[s, x], argTypes := #[23, 23] }) {B : Nat} {v : Value} {bs : List Blk} (hs : a.eval s = v) (hown : KRow w B v bs) {g : Nat} {b : Blk} (hx : a.eval x = .slice (some ⟨g, 0, none⟩) 1 1) (hu : BlkAt w g b) (hn : bs.length < 1000000) (hB : B ≤ w.heap.size)
 (h : ∀ g' cap' w', KRow w' B (.slice (some ⟨g', 0, none⟩) (bs.length + 1) cap') (bs ++ [b]) → Keeps (fun q => v.ownBlock = some q) w w' → (v.ownBlock = some g' ∨ g' = w.heap.size) → g' < w'.heap.size → K (a.put o.dst (.slice (some ⟨g', 0, none⟩) (bs.length + 1) cap')) w') : o.wp Tryz.prog a w K Q := by
 obtain ⟨i, z, hi, hz, hsz, hby, hzs⟩ := elemBlkK.info
 refine wp_append_lies w s x 23 ho B 37 i z 57 64 elemBlkK.ht hi hz hsz hby hzs (by decide) v bs.length _ hs hown ⟨g, 0, none⟩ 1 1 b.cells.toList hx (by rw [b.len_cells]) (fun j u hj => by
  rw [add_off', Nat.zero_add, cell_obj hu]; simpa using hj) b.one_cells (by decide) (by unfold maxLen; omega) (by omega) hB w.heap.size rfl ?_
 intro g' cap w' hw' hgr hor hlt
 refine h g' cap w' ?_ ⟨hgr.os, hgr.tape, hgr.output, hgr.size, fun k' hk' hn' => hgr.block k' hk' (fun e => hn' e.symm)⟩ hor hlt
 unfold KRow
 rw [List.length_append, flat_append]
 simpa [flat] using hw'
theorem step_appK (hgd : o.guard = none) (s x : Operand) (ho : o.op = .call { callee := .builtin .append, args := #[s, x], argTypes := #[23, 23] }) {B : Nat} {v : Value} {bs : List Blk} (hs : a.eval s = v) (hown : KRow w B v bs) {g : Nat} {b : Blk} (hx : a.eval x = .slice (some ⟨g, 0, none⟩) 1 1) (hu : BlkAt w g b) (hn : bs.length < 1000000) (hB : B ≤ w.heap.size)
 (h : ∀ g' cap' w', KRow w' B (.slice (some ⟨g', 0, none⟩) (bs.length + 1) cap') (bs ++ [b]) → Keeps (fun q => v.ownBlock = some q) w w' → (v.ownBlock = some g' ∨ g' = w.heap.size) → g' < w'.heap.size → K (a.put o.dst (.slice (some ⟨g', 0, none⟩) (bs.length + 1) cap')) w') : if Region.wanted o (yielded ops b0.tmps) = true then Oper.wp Tryz.prog o a w K Q else F := by
 have hw : Region.wanted o (yielded ops b0.tmps) = true := by simp [Region.wanted, hgd]
 rw [if_pos hw]
 exact wp_appK s x ho hs hown hx hu hn hB h
end
end
section
open Go.RowKit
attribute [local irreducible] Calls

theorem IRow.at_ {w : World} {B g n cap : Nat} {l : List Int} (h : IRow w B (.slice (some ⟨g, 0, none⟩) n cap) l) {i : Nat} {x : Int} (hi : l[i]? = some x) : w.cell? ⟨g, i, none⟩ = some (.int .i64 x) := by
 have := World.ownsRow.cells h (g := g) rfl i (.int .i64 x) (by rw [List.getElem?_map, hi]; rfl)
 rwa [add_off', Nat.zero_add] at this
theorem step_fullI {ops : Array Oper} {o : Oper} {a b0 : Act} {w : World} {K : Act → World → Prop} {Q : Exit → Act → World → Prop} {F : Prop} (hgd : o.guard = none) (s x : Operand) (ho : o.op = .call { callee := .builtin .append, args := #[s, x], argTypes := #[33, 33] })
 {g off n : Nat} {xs : List Int} (hs : a.eval s = .slice (some ⟨g, off, none⟩) n n) (hn : xs.length = n) (hxs : ∀ j x, xs[j]? = some x → w.cell? ⟨g, off + j, none⟩ = some (.int .i64 x)) {g2 : Nat} {y : Int} (hx : a.eval x = .slice (some ⟨g2, 0, none⟩) 1 1) (hy : w.cell? ⟨g2, 0, none⟩ = some (.int .i64 y)) (hlt : n < 1000000)
 (h : ∀ v w', IRow w' w.heap.size v (xs ++ [y]) → Below w.heap.size w w' → K (a.put o.dst v) w') :
 if Region.wanted o (yielded ops b0.tmps) = true then Oper.wp Tryz.prog o a w K Q else F := by
 have hw : Region.wanted o (yielded ops b0.tmps) = true := by simp [Region.wanted, hgd]
 rw [if_pos hw]
 obtain ⟨i, z, hi, hz, hsz, hby, hzs⟩ := elemInt.info
 obtain ⟨v', w', hr, h2, h3⟩ := run_append_arg_grows (P := Tryz.prog) (w := w) 33 o.type 3 i z 1 8 Tryz.underlying33 hi hz hsz hby hzs (by decide) ⟨g, off, none⟩ n n (xs.map fun x => .int .i64 x) (by simp [hn]) (fun j u hj => by
  rw [List.getElem?_map, Option.map_eq_some_iff] at hj
  obtain ⟨x, hx, rfl⟩ := hj
  rw [show (⟨g, off, none⟩ : Addr).add j = ⟨g, off + j, none⟩ by unfold Addr.add; split <;> simp_all]; exact hxs j x hx) ⟨g2, 0, none⟩ 1 1 [.int .i64 y] rfl (fun j u hj => by
  cases j with
  | zero =>
    obtain rfl := Option.some.inj hj
    exact hy
  | succ j => simp at hj) (by omega) (by unfold maxLen; omega) (by omega)
 unfold Oper.wp execOp
 simp only [ho, resolve, invoke, builtin, Sem.run_bind, Sem.run_pure, Result.andThen_ok, List.map_toArray, List.map_cons, List.map_nil, hs, hx]
 rw [hr]
 refine h _ _ ?_ ((Below.refl w.heap.size w).grown h3 (Nat.le_refl _) (fun k hk => by cases hk))
 unfold IRow
 rw [List.length_append, List.map_append, hn]
 exact h2

theorem Nd.c (n : Nd) {w : World} {g : Nat} (h : objAt w g = some (.cells n.cells 165 (0, 0))) (i : Nat) : w.cell? ⟨g, i, none⟩ = n.cells[i]? := cell_obj h i
theorem places_any (n : Nd) (w : World) : Calls Tryz.prog 190 #[.agg n.cells] w fun e w' => ∃ g cap, e = .returned (.slice (some ⟨g, 0, none⟩) 5 cap) ∧ IRow w' w.heap.size (.slice (some ⟨g, 0, none⟩) 5 cap) n.places ∧ Below w.heap.size w w' := by
 have hB0 : Below w.heap.size w (w.alloc (.cells n.cells 165)) := grow_alloc (Below.refl _ _) _
 have ho : objAt (w.alloc (.cells n.cells 165)) w.heap.size = some (.cells n.cells 165 (0, 0)) := by rw [objAt_alloc, if_pos rfl]
 obtain ⟨G, hG⟩ : ∃ G, G = w.heap.size := ⟨_, rfl⟩
 obtain ⟨w1, hw1⟩ : ∃ w1, w1 = w.alloc (.cells n.cells 165) := ⟨_, rfl⟩
 rw [← hw1] at hB0 ho
 rw [← hG] at ho
 have c7 := Nd.c n ho 7
 have H := Lib.hid (And.intro hB0 (And.intro ho (And.intro hG hw1)))
 clear hB0 ho hG hw1
 go_enter Tryz.func190, Tryz.ntmps190
 go_upto_region 1 with fail
 rw [← H.out.2.2.2, ← H.out.2.2.1]
 have e7 : w1.cell? ⟨G, 7, none⟩ = some (.int .i64 n.index) := c7
 clear c7
 have hB2 : Below w1.heap.size w1 (w1.alloc (.cells #[.int .i64 n.index] 3)).drew := (grow_alloc (Below.refl _ _) _).drew
 have hcs : ∀ j x, [n.d0, n.d1, n.d2, n.d3][j]? = some x → (w1.alloc (.cells #[.int .i64 n.index] 3)).drew.cell? ⟨G, 3 + j, none⟩ = some (.int .i64 x) := fun j x hj => by
  rw [cell_obj (grow_obj hB2 H.out.2.1)]
  match j, hj with
  | 0, hj => obtain rfl := Option.some.inj hj; rfl
  | 1, hj => obtain rfl := Option.some.inj hj; rfl
  | 2, hj => obtain rfl := Option.some.inj hj; rfl
  | 3, hj => obtain rfl := Option.some.inj hj; rfl
  | j + 4, hj => simp at hj
 have hnew : (w1.alloc (.cells #[.int .i64 n.index] 3)).drew.cell? ⟨w1.heap.size, 0, none⟩ = some (.int .i64 n.index) := by
  have : objAt (w1.alloc (.cells #[.int .i64 n.index] 3)).drew w1.heap.size = some (.cells #[.int .i64 n.index] 3 (0, 0)) := by show objAt (w1.alloc _) _ = _; rw [objAt_alloc, if_pos rfl]
  exact cell_obj this 0
 refine wp_region_F [5] (S := fun w' => w'.cell? ⟨G, 7, none⟩ = some (.int .i64 n.index) ∧ True) (by kernel_rfl) (⟨e7, trivial⟩) (fun hHeld => ?_)
 show wpAnyF _ _ _ _ _ _ 7 #[false, false, false, false, false, false, false] _ _
 refine gF 0 [0, 1, 5, 6] ?_; try simp only [Act.put, qs]
 refine gF 1 [1, 5, 6] ?_; try simp only [Act.put, qs]
 refine gF 2 [2, 3, 4, 5, 6] ?_; try simp only [Act.put, qs]
 refine gF 3 [3, 4, 5, 6] ?_; try simp only [Act.put, qs]
 refine gW 4 fun K hK => ?_
 try simp only [qs]
 go_simp
 refine hK.out _ _ (by exact ⟨grow_cell (grow_alloc (Below.refl _ _).drew _) e7, trivial⟩) (fun hN => ?_); replace hHeld := hN; clear hK K hN
 try simp only [qs]
 refine gV 5 fun K hK => ?_
 refine step_fullI rfl _ _ rfl (xs := [n.d0, n.d1, n.d2, n.d3]) (y := n.index) rfl rfl (fun j x hj => ?_) rfl ?_ (by decide) ?_; exact hcs j x hj; exact hnew; intro v4 w4 hr4 b4
 refine hK.out _ _ (trivial) (fun hN => ?_); replace hHeld := hN; clear hK K hN
 try simp only [Act.put, qs]
 refine gP 6 ?_; try simp only [Act.put, qs]
 refine wpAnyF_done (by kernel_rfl) ?_ _
 go_wp2_with fail
 go_ret
 have hs : w.heap.size ≤ (w1.alloc (.cells #[.int .i64 n.index] 3)).drew.heap.size := Nat.le_trans H.out.1.size hB2.size
 obtain ⟨g, cap, rfl, _⟩ := World.ownsRow.form hr4 (by simp)
 exact ⟨g, cap, rfl, IRow.mono hr4 hs, (H.out.1.trans (hB2.mono H.out.1.size)).trans (b4.mono hs)⟩
theorem bare_any (n : Nd) (w : World) : Calls Tryz.prog 219 #[.agg n.cells] w fun e w' => e = .returned (.bool (none5 n.places)) ∧ Below w.heap.size w w' := by
 have hB0 : Below w.heap.size w (w.alloc (.cells n.cells 165)) := grow_alloc (Below.refl _ _) _
 have ho : objAt (w.alloc (.cells n.cells 165)) w.heap.size = some (.cells n.cells 165 (0, 0)) := by rw [objAt_alloc, if_pos rfl]
 have hN := hasNd_obj ho
 have hrow := rowAt_heap ho
 have HP := Lib.hid (places_any n)
 have H := Lib.hid (And.intro hB0 ho)
 clear hB0
 go_enter Tryz.func219, Tryz.ntmps219
 go_wp2_with (go_at_call 190; refine (HP.out _).mono ?_; rintro e w2 ⟨g, cap, rfl, hr, b2⟩)
 have H2 := Lib.hid (And.intro hr (H.out.1.trans (b2.mono H.out.1.size)))
 clear hr b2 hN hrow ho
 go_loopw [8] (fun i wr => ∃ k : Nat, k ≤ 5 ∧ i = .int .i64 k ∧ wr = w2 ∧ none5 (n.places.take k) = true) (fun i _ => 5 - (Go.RowKit.intOf i).toNat)
 case atStart => exact ⟨0, by decide, rfl, rfl, rfl⟩
 case round =>
  obtain ⟨k, hk, rfl, rfl, hnn⟩ := hrel
  by_cases hlt : k < 5
  · have hlti : (k : Int) < 5 := by omega
    have hsucc := none5_succ (l := n.places) (k := k) hlt
    obtain ⟨x, hx⟩ : ∃ x, n.places[k]? = some x := ⟨_, List.getElem?_eq_getElem hlt⟩
    have hcx := IRow.at_ H2.out.1 hx
    have hgd : n.places.getD k 0 = x := by rw [List.getD_eq_getElem?_getD, hx]; rfl
    rw [hgd, hnn] at hsucc
    have HX := Lib.hid hsucc
    have hme : x ∈ n.places := List.mem_of_getElem? hx
    have HM := Lib.hid hme
    clear hsucc hnn hx hgd hme
    by_cases hm : x = -1
    · subst hm
      go_wp2_with fail
      go_roundw
      case rel => exact ⟨k + 1, by omega, by go_num, by first | rfl | simp, by rw [HX.out]; rfl⟩
      case measure => simp [Go.RowKit.intOf]; omega
    · have hr : none5 n.places = false := by
       cases h : none5 n.places with
       | false => rfl
       | true => exact absurd (by simpa using List.all_eq_true.1 h x HM.out) hm
      have Hr := Lib.hid hr
      have hm' : (x == -1) = false := by simpa using hm
      clear hm hr
      go_wp2_with fail
      go_ret
      exact ⟨by rw [Hr.out]; rfl, H2.out.2⟩
  · obtain rfl : k = 5 := by omega
    have Hr := Lib.hid (show none5 n.places = true from hnn)
    clear hnn
    go_wp2_with fail
    go_ret
    exact ⟨by rw [Hr.out]; rfl, H2.out.2⟩
end
end Go.Proofs.YtbbnejehglonjaaGreat
