/- DERIVED. Contracts and laws that the proofs of this seat share, part 25 of 36: PzD0 LibNm ShP ShA. -/
import Derived.Sort.Walk0
import Derived.Test.YtbbnejehglonjaaGreatMo00
import Derived.Test.YtbbnejehglonjaaGreatMo01
import Derived.Test.YtbbnejehglonjaaGreatMo03
import Derived.Test.YtbbnejehglonjaaGreatMo07
import Derived.Test.YtbbnejehglonjaaGreatMo09
import Derived.Test.YtbbnejehglonjaaGreatMo24
/- DERIVED. An aggregate stored at an offset. -/
namespace Go.Proofs.YtbbnejehglonjaaGreat
open Go.RowKit

theorem run_storeOff {t : TypeId} {n : Nat} (A : AggOf Tryz.prog t n) (w : World) (g j : Nat) (ty : TypeId) {c c' : Array Value} (h : objAt w g = some (.cells c ty (0, 0))) (hc' : c'.size = n) (hj : j + n ≤ c.size) (h1 : ∀ v ∈ c'.toList, v.oneCell' = true) :
 (Instr.storeAt t (.pointer (some ⟨g, j, none⟩)) (.agg c')).run Tryz.prog w = .ok () (w.setRow g (c.toList.take j ++ c'.toList ++ c.toList.drop (j + n)).toArray) := by
 have hs : (sizeOf t).run Tryz.prog w = .ok n w := by
  obtain ⟨i, hi, hsz⟩ := Option.map_eq_some_iff.1 A.size
  simp [sizeOf, typeInfo, hi, hsz]
 have hst := run_storeCells_at Tryz.prog g j ty c'.toList 0 c w h (by simp; omega) h1
 simp only [Instr.storeAt, Instr.sureAddr, Sem.run_bind, Sem.run_pure, Result.andThen_ok, storeVar, hs, Value.cells, ne_eq]
 simp only [hc', not_true_eq_false, if_false]
 rw [hst]
 simp [hc']
theorem step_storeOff {t : TypeId} {n : Nat} (E : AggOf Tryz.prog t n) {ops : Array Oper} {o : Oper} {a b0 : Act} {w : World} {K : Act → World → Prop} {Q : Exit → Act → World → Prop} {F : Prop} (hgd : o.guard = none) (x y : Operand) (ho : o.op = .store t x y) {g j : Nat} {c c' : Array Value} {ty : TypeId}
 (hx : a.eval x = .pointer (some ⟨g, j, none⟩)) (hy : a.eval y = .agg c') (hg : objAt w g = some (.cells c ty (0, 0))) (hs' : c'.size = n) (hj : j + n ≤ c.size) (h1 : ∀ v ∈ c'.toList, v.oneCell' = true)
 (h : ∀ w', w' = w.setRow g (c.toList.take j ++ c'.toList ++ c.toList.drop (j + n)).toArray → K (a.put o.dst undef) w') :
 if Region.wanted o (yielded ops b0.tmps) = true then Oper.wp Tryz.prog o a w K Q else F := by
 have hw : Region.wanted o (yielded ops b0.tmps) = true := by simp [Region.wanted, hgd]
 rw [if_pos hw]
 have hr := run_storeOff E w g j ty hg hs' hj h1
 unfold Oper.wp execOp
 simp only [ho, hx, hy, Sem.run_bind]
 rw [hr]
 simp only [Result.andThen_ok, Sem.run_pure]
 exact h _ rfl
end Go.Proofs.YtbbnejehglonjaaGreat

/- DERIVED. Rows of names; rows in which one element of several cells is turned. -/
namespace Go.Proofs.YtbbnejehglonjaaGreat
open Go.RowKit

theorem splice_take {cur c : List Value} {m n : Nat} (hm : m + c.length ≤ n) (hn : n ≤ cur.length) :
 (cur.take m ++ c ++ cur.drop (m + c.length)).take n = (cur.take n).take m ++ c ++ (cur.take n).drop (m + c.length) := by
 have t1 : (cur.take m).length = m := by rw [List.length_take]; omega
 have t2 : ((cur.take n).take m).length = m := by rw [List.length_take, List.length_take]; omega
 rw [List.append_assoc, List.take_append, List.take_append, t1, List.append_assoc]
 congr 1
 · rw [List.take_take, List.take_take, Nat.min_comm]
 · congr 1
   · exact List.take_of_length_le (by omega)
   · rw [List.drop_take]; congr 1; omega
theorem flat_splice {k : Nat} : ∀ {xs : List (List Value)} {i : Nat} {c : List Value}, (∀ x ∈ xs, x.length = k) → c.length = k → i < xs.length →
 (xs.set i c).flatten = xs.flatten.take (i * k) ++ c ++ xs.flatten.drop (i * k + k)
 | x :: xs, 0, c, hx, hc, hi => by
   have hl : x.length = k := hx x (by simp)
   simp only [qE, List.flatten_cons, Nat.zero_mul, List.take_zero, List.nil_append, Nat.zero_add]
   rw [List.drop_append_of_le_length (by omega), List.drop_of_length_le (by omega), List.nil_append]
 | x :: xs, i + 1, c, hx, hc, hi => by
   have hl : x.length = k := hx x (by simp)
   have e : (i + 1) * k = x.length + i * k := by rw [hl, Nat.succ_mul, Nat.add_comm]
   simp only [qF, List.flatten_cons]
   rw [flat_splice (fun y hy => hx y (by simp [hy])) hc (by simpa using hi), e, List.take_length_add_append, Nat.add_assoc, List.drop_length_add_append, List.append_assoc, List.append_assoc, List.append_assoc]
section
variable {α : Type} {w : World} {S : Nat → Prop} {e : TypeId} {k : Nat} {R : World → α → List Value → Prop} {al : List α}
/-- A row of elements of k cells: one is turned. -/
theorem RowG.putK {g n cap : Nat} (h : RowG w S e k R (.slice (some ⟨g, 0, none⟩) n cap) al) {i : Nat} (hi : i < al.length) {cur c : Array Value} {ty : TypeId} (hg : objAt w g = some (.cells cur ty (0, 0))) (hc : c.size = k) {a : α} {w' : World} (hw' : w' = w.setRow g (cur.toList.take (i * k) ++ c.toList ++ cur.toList.drop (i * k + k)).toArray)
 {R' : World → α → List Value → Prop} (hx : R' w' a c.toList) (hR : ∀ a c, R w a c → R' w' a c) :
 RowG w' S e k R' (.slice (some ⟨g, 0, none⟩) n cap) (al.set i a) := by
 subst hw'
 obtain ⟨xs, h1, h2, h3, h4⟩ := h.ex
 have hfl := flat_splice (c := c.toList) (i := i) h3 (by simpa using hc) (by omega)
 have hflen : xs.flatten.length = xs.length * k := by
  clear h1 h2 h4 hfl
  induction xs with
  | nil => simp
  | cons x xs ih => rw [List.flatten_cons, List.length_append, ih (fun y hy => h3 y (by simp [hy])), h3 x (by simp), List.length_cons, Nat.succ_mul, Nat.add_comm]
 refine ⟨⟨xs.set i c.toList, ?_, by rw [List.length_set, List.length_set, h2], fun y hy => ?_, fun j b y hb hy => ?_⟩, h.own⟩
 · rcases h1.2 with ⟨h', h0⟩ | ⟨g', cap', cur', h', hb, hg', hnc, hcm, hcs, htake⟩
   · cases h'
   · simp only [Value.slice.injEq, Option.some.injEq, Addr.mk.injEq] at h'
     obtain ⟨⟨rfl, _⟩, hn, rfl⟩ := h'
     have hg2 : objAt w g = some (.cells cur' e (0, 0)) := hg'
     rw [hg] at hg2
     simp only [Option.some.injEq, Obj.cells.injEq] at hg2
     obtain ⟨rfl, rfl, _⟩ := hg2
     have hik : i * k + k ≤ al.length * k := by rw [← Nat.succ_mul]; exact Nat.mul_le_mul_right k hi
     have hnk : al.length * k ≤ cap * k := Nat.mul_le_mul_right k hnc
     have hcl : c.toList.length = k := by simpa using hc
     have hsp := splice_take (cur := cur.toList) (c := c.toList) (m := i * k) (n := al.length * k) (by omega) (by have := cur.length_toList; omega)
     rw [hcl] at hsp
     have hnew : (xs.set i c.toList).flatten = (cur.toList.take (i * k) ++ c.toList ++ cur.toList.drop (i * k + k)).take (al.length * k) := by
      rw [hfl, hsp, htake]
     refine ⟨?_, .inr ⟨g, cap, _, by rw [List.length_set, hn], hb, setRow_heap w g cur _ _ _ hg, by rw [List.length_set]; exact hnc, hcm, ?_, ?_⟩⟩
     · rw [List.length_set, hfl, List.length_append, List.length_append, List.length_take, List.length_drop, hcl, hflen, h2]; omega
     · simp only [List.size_toArray, List.length_append, List.length_take, List.length_drop, Array.length_toList, hc]; omega
     · rw [List.length_set]; exact hnew.symm
 · rcases List.mem_or_eq_of_mem_set hy with hy | rfl
   · exact h3 y hy
   · simpa using hc
 · by_cases ej : i = j
   · subst ej
     rw [List.getElem?_set_self (by omega)] at hb hy
     obtain rfl := Option.some.inj hb
     obtain rfl := Option.some.inj hy
     exact hx
   · rw [List.getElem?_set_ne ej] at hb hy
     exact hR b y (h4 j b y hb hy)
theorem RowG.objF {g n cap : Nat} (h : RowG w S e k R (.slice (some ⟨g, 0, none⟩) n cap) al) : ∃ cur, objAt w g = some (.cells cur e (0, 0)) ∧ al.length * k ≤ cur.size := by
 obtain ⟨xs, h1, _⟩ := h.ex
 rcases h1.2 with ⟨h', h0⟩ | ⟨g', cap', cur', h', hb, hg', hnc, hcm, hcs, htake⟩
 · cases h'
 · simp only [Value.slice.injEq, Option.some.injEq, Addr.mk.injEq] at h'
   obtain ⟨⟨rfl, _⟩, hn, rfl⟩ := h'
   exact ⟨cur', hg', by rw [hcs]; exact Nat.mul_le_mul_right k hnc⟩
end
/-- The cells of a name. -/
def NmEl (_ : World) (n : Nm) (c : List Value) : Prop := c = n.cells.toList
abbrev NmRow (w : World) (S : Nat → Prop) (v : Value) (l : List Nm) : Prop := RowG w S 100 6 NmEl v l
theorem elemNameK : ElemK Tryz.prog 102 100 6 56 := ElemK.mk' (z := .agg #[.int .i64 0, .int .i64 0, .int .u32 0, .string ⟨#[]⟩, .int .i64 0, .int .u32 0]) Tryz.underlying102 (by kernel_rfl) rfl (by decide) (by decide)
structure NmCells (w : World) (g i : Nat) (n : Nm) : Prop where
 c0 : w.cell? ⟨g, i * 6, none⟩ = some (.int .i64 n.dir.label)
 c1 : w.cell? ⟨g, i * 6 + 1, none⟩ = some (.int .i64 n.dir.at_)
 c2 : w.cell? ⟨g, i * 6 + 2, none⟩ = some (.int .u32 n.dir.gen)
 c3 : w.cell? ⟨g, i * 6 + 3, none⟩ = some (.string n.name)
 c4 : w.cell? ⟨g, i * 6 + 4, none⟩ = some (.int .i64 n.at_)
 c5 : w.cell? ⟨g, i * 6 + 5, none⟩ = some (.int .u32 n.gen)
theorem NmRow.at_ {w : World} {S : Nat → Prop} {g n cap : Nat} {l : List Nm} (h : NmRow w S (.slice (some ⟨g, 0, none⟩) n cap) l) {i : Nat} {x : Nm} (hx : l[i]? = some x) : NmCells w g i x := by
 obtain ⟨c, _, hR, hc⟩ := h.cells hx
 unfold NmEl at hR
 subst hR
 exact ⟨hc 0 _ rfl, hc 1 _ rfl, hc 2 _ rfl, hc 3 _ rfl, hc 4 _ rfl, hc 5 _ rfl⟩
end Go.Proofs.YtbbnejehglonjaaGreat

/- DERIVED. Plain: names put in order by insertion. No program in sight. -/
namespace Go.Proofs.YtbbnejehglonjaaGreat
open Go.RowKit

/-- One name is ahead of another one. -/
def nlt (a b : Nm) : Bool := Op.bytesLess a.name.toList b.name.toList
theorem blt_asymm {x y : List UInt8} (h : Op.bytesLess x y = true) : Op.bytesLess y x = false := by
 rw [bytesLess_eq] at *
 simp only [decide_eq_true_eq, decide_eq_false_iff_not] at *
 exact List.lt_asymm h
theorem bge_trans {x y z : List UInt8} (h1 : Op.bytesLess y x = false) (h2 : Op.bytesLess z y = false) : Op.bytesLess z x = false := by
 rw [bytesLess_eq] at *
 simp only [decide_eq_false_iff_not] at *
 exact List.le_trans h1 h2
theorem blt_total {x y : List UInt8} (h1 : Op.bytesLess y x = false) (h2 : Op.bytesLess x y = false) : x = y := by
 rw [bytesLess_eq] at *
 simp only [decide_eq_false_iff_not] at *
 exact List.le_antisymm h1 h2
/-- The first i names are in order. -/
def sortedTo (l : List Nm) (i : Nat) : Prop := ∀ p q, p < q → q < i → nlt (l.getD q Nm.zero) (l.getD p Nm.zero) = false
/-- The first i + 1 names are in order but for the j-th one, which may want to go down. -/
def sinking (l : List Nm) (i j : Nat) : Prop := ∀ p q, p < q → q ≤ i → q ≠ j → nlt (l.getD q Nm.zero) (l.getD p Nm.zero) = false
def swapD (l : List Nm) (j : Nat) : List Nm := (l.set j (l.getD (j - 1) Nm.zero)).set (j - 1) (l.getD j Nm.zero)
theorem swapD_length (l : List Nm) (j : Nat) : (swapD l j).length = l.length := by simp [swapD]
theorem swapD_getD (l : List Nm) {j : Nat} (h0 : 0 < j) (h : j < l.length) (q : Nat) : (swapD l j).getD q Nm.zero = if q = j then l.getD (j - 1) Nm.zero else if q = j - 1 then l.getD j Nm.zero else l.getD q Nm.zero := by
 have e : ∀ x : Nm, (swapD l j)[q]? = some x → (swapD l j).getD q Nm.zero = x := fun x hx => by rw [List.getD_eq_getElem?_getD, hx]; rfl
 unfold swapD at *
 by_cases h1 : q = j - 1
 · subst h1
   rw [if_neg (by omega), if_pos rfl]
   exact e _ (by rw [List.getElem?_set_self (by rw [List.length_set]; omega)])
 · by_cases h2 : q = j
   · subst h2
     rw [if_pos rfl]
     exact e _ (by rw [List.getElem?_set_ne (by omega), List.getElem?_set_self (by omega)])
   · rw [if_neg h2, if_neg h1, List.getD_eq_getElem?_getD, List.getElem?_set_ne (by omega), List.getElem?_set_ne (by omega), ← List.getD_eq_getElem?_getD]
theorem swapD_perm (l : List Nm) {j : Nat} (h0 : 0 < j) (h : j < l.length) : (swapD l j).Perm l := by
 obtain ⟨k, rfl⟩ : ∃ k, j = k + 1 := ⟨j - 1, by omega⟩
 have hk : k < l.length := by omega
 have e : l = l.take k ++ l.getD k Nm.zero :: l.getD (k + 1) Nm.zero :: l.drop (k + 2) := by
  have h1 : l.drop k = l.getD k Nm.zero :: l.drop (k + 1) := by rw [List.drop_eq_getElem_cons hk, List.getD_eq_getElem?_getD, List.getElem?_eq_getElem hk]; rfl
  have h2 : l.drop (k + 1) = l.getD (k + 1) Nm.zero :: l.drop (k + 2) := by rw [List.drop_eq_getElem_cons h, List.getD_eq_getElem?_getD, List.getElem?_eq_getElem h]; rfl
  rw [← h2, ← h1, List.take_append_drop]
 have e2 : swapD l (k + 1) = l.take k ++ l.getD (k + 1) Nm.zero :: l.getD k Nm.zero :: l.drop (k + 2) := by
  apply List.ext_getElem?
  intro q
  by_cases hq : q < l.length
  · have t := swapD_getD l h0 h q
    rw [List.getD_eq_getElem?_getD] at t
    have hq2 : q < (swapD l (k + 1)).length := by rw [swapD_length]; exact hq
    rw [List.getElem?_eq_getElem hq2] at t ⊢
    rw [Option.getD_some] at t
    rw [t, Nat.add_sub_cancel]
    have tl : (l.take k).length = k := by rw [List.length_take]; omega
    by_cases h1 : q < k
    · rw [if_neg (by omega), if_neg (by omega), List.getElem?_append_left (by omega), List.getElem?_take, if_pos h1, List.getD_eq_getElem?_getD, List.getElem?_eq_getElem hq]; rfl
    · rw [List.getElem?_append_right (by omega), tl]
      by_cases h2 : q = k
      · subst h2; rw [if_neg (by omega), if_pos rfl, Nat.sub_self]; rfl
      · by_cases h3 : q = k + 1
        · subst h3; rw [if_pos rfl, show k + 1 - k = 1 by omega]; rfl
        · rw [if_neg h3, if_neg h2, show q - k = (q - (k + 2)) + 2 by omega, List.getElem?_cons_succ, List.getElem?_cons_succ, List.getElem?_drop, show k + 2 + (q - (k + 2)) = q by omega, List.getD_eq_getElem?_getD, List.getElem?_eq_getElem hq]; rfl
  · rw [List.getElem?_eq_none (by rw [swapD_length]; omega), List.getElem?_eq_none]
    simp only [List.length_append, List.length_take, List.length_cons, List.length_drop]; omega
 rw [e2]
 conv => rhs; rw [e]
 exact List.Perm.append_left _ (List.Perm.swap _ _ _)
theorem sinking_start {l : List Nm} {i : Nat} (h : sortedTo l i) : sinking l i i := fun p q h1 h2 h3 => h p q h1 (by omega)
theorem sinking_zero {l : List Nm} {i : Nat} (h : sinking l i 0) : sortedTo l (i + 1) := fun p q h1 h2 => h p q h1 (by omega) (by omega)
theorem sinking_stop {l : List Nm} {i j : Nat} (h0 : 0 < j) (h : sinking l i j) (hn : nlt (l.getD j Nm.zero) (l.getD (j - 1) Nm.zero) = false) (hj : j ≤ i) : sortedTo l (i + 1) := fun p q h1 h2 => by
 by_cases e : q = j
 · subst e
   by_cases e2 : p = q - 1
   · subst e2; exact hn
   · exact bge_trans (h p (q - 1) (by omega) (by omega) (by omega)) hn
 · exact h p q h1 (by omega) e
theorem sinking_step {l : List Nm} {i j : Nat} (h0 : 0 < j) (hj : j ≤ i) (hi : i < l.length) (h : sinking l i j) (hlt : nlt (l.getD j Nm.zero) (l.getD (j - 1) Nm.zero) = true) : sinking (swapD l j) i (j - 1) := fun p q h1 h2 h3 => by
 rw [swapD_getD l h0 (by omega) p, swapD_getD l h0 (by omega) q]
 by_cases e : q = j
 · subst e
   rw [if_pos rfl, if_neg (by omega)]
   by_cases e2 : p = q - 1
   · rw [if_pos e2]; exact blt_asymm hlt
   · rw [if_neg e2]; exact h p (q - 1) (by omega) (by omega) (by omega)
 · rw [if_neg e, if_neg h3]
   by_cases e2 : p = j
   · rw [if_pos e2]; exact h (j - 1) q (by omega) h2 e
   · rw [if_neg e2]
     by_cases e3 : p = j - 1
     · rw [if_pos e3]; exact h j q (by omega) h2 e
     · rw [if_neg e3]; exact h p q h1 h2 e
/-- A list in order. -/
def inOrder (l : List Nm) : Prop := l.Pairwise fun a b => nlt b a = false
theorem inOrder_of {l : List Nm} (h : sortedTo l l.length) : inOrder l := by
 unfold inOrder
 rw [List.pairwise_iff_getElem]
 intro p q hp hq hpq
 have := h p q hpq hq
 rwa [List.getD_eq_getElem?_getD, List.getD_eq_getElem?_getD, List.getElem?_eq_getElem hp, List.getElem?_eq_getElem hq] at this
/-- All names of blocks, and where they are. -/
def ents (B : List Blk) : List (Nm × Nat) := (List.range B.length).filterMap fun i => (takeEntry (B.getD i Blk.zero)).map fun n => (n, i)
def entsTo (B : List Blk) (k : Nat) : List (Nm × Nat) := (List.range k).filterMap fun i => (takeEntry (B.getD i Blk.zero)).map fun n => (n, i)
theorem entsTo_succ (B : List Blk) (k : Nat) : entsTo B (k + 1) = entsTo B k ++ ((takeEntry (B.getD k Blk.zero)).map fun n => (n, k)).toList := by
 unfold entsTo
 rw [List.range_succ, List.filterMap_append]
 congr 1
theorem entsTo_length (B : List Blk) (k : Nat) : (entsTo B k).length ≤ k := by
 unfold entsTo
 exact Nat.le_trans (List.length_filterMap_le _ _) (by simp)
def isN (dir : Id) (name : ByteArray) (p : Nm × Nat) : Bool := decide (p.1.dir = dir) && decide (p.1.name = name)
def findE (B : List Blk) (dir : Id) (name : ByteArray) : Option (Nm × Nat) := (ents B).find? (isN dir name)
end Go.Proofs.YtbbnejehglonjaaGreat

/- DERIVED. Contract of shard's names. -/
namespace Go.Proofs.YtbbnejehglonjaaGreat
open Go.RowKit
attribute [local irreducible] Calls
set_option maxRecDepth 100000

def PlEl (_ : World) (n : Nat) (c : List Value) : Prop := c = [.int .i64 (n : Int)]
abbrev PlRow (w : World) (S : Nat → Prop) (v : Value) (l : List Nat) : Prop := RowG w S 3 1 PlEl v l
theorem elemIntK : ElemK Tryz.prog 33 3 1 8 := ElemK.mk' (z := .int .i64 0) Tryz.underlying33 (by kernel_rfl) rfl (by decide) (by decide)
theorem RowG.grow {α : Type} {w w' : World} {S : Nat → Prop} {e : TypeId} {k : Nat} {R : World → α → List Value → Prop} {v : Value} {al : List α} (h : RowG w S e k R v al) (hb : Below w.heap.size w w') (hR : ∀ a c, R w a c → R w' a c) : RowG w' S e k R v al :=
 h.keeps (Keeps.of_below_size hb) (fun g hg e => by have := h.lt hg; omega) (fun _ h => h) hR
theorem RowG.ne' {α β : Type} {w : World} {S S2 : Nat → Prop} {e e2 : TypeId} {k k2 : Nat} {R : World → α → List Value → Prop} {R2 : World → β → List Value → Prop} {v v2 : Value} {al : List α} {bl : List β} (h : RowG w S e k R v al) (h2 : RowG w S2 e2 k2 R2 v2 bl) (hne : e ≠ e2) {g : Nat} (hg : v.ownBlock = some g) (hg2 : v2.ownBlock = some g) : False := by
 obtain ⟨c, hc⟩ := h.obj hg
 obtain ⟨c2, hc2⟩ := h2.obj hg2
 rw [hc] at hc2
 simp only [Option.some.injEq, Obj.cells.injEq] at hc2
 exact hne hc2.2.1
theorem Nm.size_cells (n : Nm) : n.cells.size = 6 := rfl
theorem Nm.one_cells (n : Nm) : ∀ u ∈ n.cells.toList, u.oneCell' = true := by
 intro u hu
 unfold Nm.cells at hu
 simp only [List.mem_cons, List.not_mem_nil, or_false] at hu
 rcases hu with rfl | rfl | rfl | rfl | rfl | rfl <;> rfl
theorem frame35 (A : Array Value) (h : A.size = 35) : A = #[A.getD 0 undef, A.getD 1 undef, A.getD 2 undef, A.getD 3 undef, A.getD 4 undef, A.getD 5 undef, A.getD 6 undef, A.getD 7 undef, A.getD 8 undef, A.getD 9 undef, A.getD 10 undef, A.getD 11 undef, A.getD 12 undef, A.getD 13 undef, A.getD 14 undef, A.getD 15 undef, A.getD 16 undef, A.getD 17 undef, A.getD 18 undef, A.getD 19 undef, A.getD 20 undef, A.getD 21 undef, A.getD 22 undef, A.getD 23 undef, A.getD 24 undef, A.getD 25 undef, A.getD 26 undef, A.getD 27 undef, A.getD 28 undef, A.getD 29 undef, A.getD 30 undef, A.getD 31 undef, A.getD 32 undef, A.getD 33 undef, A.getD 34 undef] := frame_list A 35 h
section
variable {w : World} {t v mp mt : Nat} {L : PL} {T : ML}
variable {Sd : Nat → Prop} {d reg : Nat} {s : Sh} {epoch seq : Nat} {used : Int} {gb cap m : Nat} {bs : List Blk} {Dm : ML} {D : Dv} {c : Nat}
/-- What names has gathered of the first blocks. -/
def NaJ (w : World) (t : Nat) (B : List Blk) (l : Nat) (a' : Act) (w' : World) : Prop :=
 l = 0 ∧ Below w.heap.size w w' ∧ ∃ (k : Nat) (V U : Value), k ≤ B.length ∧ NmRow w' (fun q => w.heap.size ≤ q) V ((entsTo B k).map (·.1)) ∧ PlRow w' (fun q => w.heap.size ≤ q) U ((entsTo B k).map (·.2)) ∧ ∃ A : Array Value, A.size = 35 ∧ (A.getD 0 undef = .pointer (some ⟨t, 0, none⟩) ∧ A.getD 2 undef = V ∧ A.getD 3 undef = U ∧ A.getD 4 undef = .int .i64 (k : Int) ∧ True) ∧ a' = { tmps := A, defers := [] }
theorem getB_nat {B bs : List Blk} (hl : B.length = bs.length) {k : Nat} (hk : k < B.length) : getB B (k : Int) = B.getD k Blk.zero ∧ inB bs (k : Int) = true := by
 refine ⟨?_, inB_nat (by omega)⟩
 unfold getB
 rw [if_pos (inB_nat hk), blkD_nat]
set_option maxHeartbeats 8000000 in
theorem shNames_any (h : TxAt w t v mp mt L T bs.length) (hv : VolP w Sd v d reg s epoch seq used gb cap m bs Dm D c) :
 Calls Tryz.prog 99 #[.pointer (some ⟨t, 0, none⟩)] w fun e w' => ∃ V U, e = .returned (.tuple #[V, U]) ∧ NmRow w' (fun q => w.heap.size ≤ q) V ((ents (txV L bs)).map (·.1)) ∧ PlRow w' (fun q => w.heap.size ≤ q) U ((ents (txV L bs)).map (·.2)) ∧ Below w.heap.size w w' := by
 have hlen : bs.length ≤ 200 := by rw [← hv.slen]; exact hv.sok.blocks
 obtain ⟨B, hB⟩ : ∃ B, B = txV L bs := ⟨_, rfl⟩
 have hBl : B.length = bs.length := by rw [hB, txV_length]
 have HE := Lib.hid (show entsTo B B.length = ents B from rfl)
 have H := Lib.hid (And.intro h (And.intro hv (And.intro hB (And.intro hBl hlen))))
 rw [← hB]
 clear h hv hB hBl hlen
 go_enter Tryz.func99, Tryz.ntmps99
 go_wp2_with fail
 refine wp_scope_labels (NaJ w t B) (fun l a _ => B.length - (Go.RowKit.intOf (a.tmps.getD 4 undef)).toNat) ?_ ?_ ?_
 · rintro l a' w' ⟨rfl, _⟩; exact ⟨_, rfl⟩
 · rintro l rest a' w' ⟨rfl, hb, k, V, U, hk, hV, hU, ⟨A, hA, ⟨hA0, hA2, hA3, hA4, _⟩, rfl⟩⟩ hrest
   obtain rfl := (Code.seq.inj (Option.some.inj hrest)).2
   rw [frame35 A hA, hA0, hA2, hA3, hA4]
   clear hrest
   have HG := txGet_any (H.out.1.below hb) (H.out.2.1.below hb) (k : Int)
   rw [← H.out.2.2.1] at HG
   by_cases hlt : k < B.length
   · obtain ⟨e1, e2⟩ := getB_nat H.out.2.2.2.1 hlt
     rw [e1, e2] at HG
     obtain ⟨b, hbb⟩ : ∃ b, b = B.getD k Blk.zero := ⟨_, rfl⟩
     rw [← hbb] at HG
     have HT := Lib.hid HG
     have hsucc := entsTo_succ B k
     rw [← hbb] at hsucc
     have hel := entsTo_length B k
     have HS := Lib.hid (And.intro hb (And.intro hV (And.intro hU (And.intro hsucc (And.intro hel (And.intro hlt hbb))))))
     clear hb hV hU hsucc hel hbb HG e1 e2
     go_upto_region 5 with (go_at_call 26; refine HT.out.mono ?_; rintro e w1 ⟨rfl, b1⟩)
     have hX := BlkAt.alloc_new w1 b
     obtain ⟨w2, hw2⟩ : ∃ w2, w2 = w1.alloc (.cells b.cells 37) := ⟨_, rfl⟩
     have hB2 : Below w1.heap.size w1 w2 := below_alloc hw2
     obtain ⟨G, hG⟩ : ∃ G, G = w1.heap.size := ⟨_, rfl⟩
     rw [← hw2, ← hG] at hX
     rw [← hw2, ← hG]
     have i1 := hX.has
     have i2 := hX.row
     have HE2 := Lib.hid (entryTake_any b w2)
     have H2 := Lib.hid (grow_trans b1 hB2)
     clear hw2 hG hX b1 hB2
     cases hte : takeEntry b with
     | none =>
       rw [hte] at HE2
       rw [show (Option.getD none Nm.zero).cells = #[.int .i64 0, .int .i64 0, .int .u32 0, .string ⟨#[]⟩, .int .i64 0, .int .u32 0] from rfl] at HE2
       have Hn := Lib.hid (show entsTo B (k + 1) = entsTo B k by rw [HS.out.2.2.2.1, hte]; simp)
       clear hte
       have hk1 : IntKind.i64.wrap ((k : Int) + 1) = ((k + 1 : Nat) : Int) := by rw [IntWalk.i64_in _ (by have := H.out.2.2.2.1; have := H.out.2.2.2.2; omega)]; omega
       go_wp2_with (go_at_call 156; refine HE2.out.mono ?_; rintro e w3 ⟨rfl, b3⟩)
       have hb4 := grow_alloc b3 (.cells #[.int .i64 0, .int .i64 0, .int .u32 0, .string ⟨#[]⟩, .int .i64 0, .int .u32 0] 100)
       have hb24 := grow_trans H2.out hb4
       go_step3
       refine ⟨⟨rfl, grow_trans HS.out.1 hb24, k + 1, V, U, hlt, ?_, ?_, ⟨_, rfl, ⟨rfl, rfl, rfl, rfl, trivial⟩, rfl⟩⟩, ?_⟩
       · rw [Hn.out]; exact HS.out.2.1.grow hb24 (fun _ _ h => h)
       · rw [Hn.out]; exact HS.out.2.2.1.grow hb24 (fun _ _ h => h)
       · show B.length - ((k : Int) + 1).toNat < B.length - (k : Int).toNat
         omega
     | some n =>
       rw [hte] at HE2
       rw [show (Option.getD (some n) Nm.zero).cells = #[.int .i64 n.dir.label, .int .i64 n.dir.at_, .int .u32 n.dir.gen, .string n.name, .int .i64 n.at_, .int .u32 n.gen] from rfl] at HE2
       have Hn := Lib.hid (show entsTo B (k + 1) = entsTo B k ++ [(n, k)] by rw [HS.out.2.2.2.1, hte]; rfl)
       clear hte
       have hk1 : IntKind.i64.wrap ((k : Int) + 1) = ((k + 1 : Nat) : Int) := by rw [IntWalk.i64_in _ (by have := H.out.2.2.2.1; have := H.out.2.2.2.2; omega)]; omega
       have hn1 : ((entsTo B k).map (·.1)).length < 1000000 := by rw [List.length_map]; have := HS.out.2.2.2.2.1; have := H.out.2.2.2.1; have := H.out.2.2.2.2; omega
       have hn2 : ((entsTo B k).map (·.2)).length < 1000000 := by rw [List.length_map]; have := HS.out.2.2.2.2.1; have := H.out.2.2.2.1; have := H.out.2.2.2.2; omega
       have HN := Lib.hid (And.intro hn1 hn2)
       clear hn1 hn2
       go_upto_region 7 with (go_at_call 156; refine HE2.out.mono ?_; rintro e w3 ⟨rfl, b3⟩)
       obtain ⟨J, hJ⟩ : ∃ J, J = w3.heap.size := ⟨_, rfl⟩
       obtain ⟨w4, hw4⟩ : ∃ w4, w4 = w3.alloc (.cells #[.int .i64 n.dir.label, .int .i64 n.dir.at_, .int .u32 n.dir.gen, .string n.name, .int .i64 n.at_, .int .u32 n.gen] 100) := ⟨_, rfl⟩
       have hb4 : Below w3.heap.size w3 w4 := below_alloc hw4
       have ho4 : objAt w4 J = some (.cells n.cells 100 (0, 0)) := by rw [hJ]; exact obj_alloc hw4
       rw [← hw4, ← hJ]
       have c0 : w4.cell? ⟨J, 0, none⟩ = some (.int .i64 n.dir.label) := cell_obj ho4 0
       have c1 : w4.cell? ⟨J, 1, none⟩ = some (.int .i64 n.dir.at_) := cell_obj ho4 1
       have c2 : w4.cell? ⟨J, 2, none⟩ = some (.int .u32 n.dir.gen) := cell_obj ho4 2
       have c3 : w4.cell? ⟨J, 3, none⟩ = some (.string n.name) := cell_obj ho4 3
       have c4 : w4.cell? ⟨J, 4, none⟩ = some (.int .i64 n.at_) := cell_obj ho4 4
       have c5 : w4.cell? ⟨J, 5, none⟩ = some (.int .u32 n.gen) := cell_obj ho4 5
       have hb24 := grow_trans H2.out (grow_trans b3 hb4)
       have hV4 : NmRow w4 (fun q => w.heap.size ≤ q) V ((entsTo B k).map (·.1)) := HS.out.2.1.grow hb24 (fun _ _ h => h)
       have hU4 : PlRow w4 (fun q => w.heap.size ≤ q) U ((entsTo B k).map (·.2)) := HS.out.2.2.1.grow hb24 (fun _ _ h => h)
       have H4 := Lib.hid (And.intro hV4 (And.intro hU4 (grow_trans HS.out.1 hb24)))
       clear hw4 hJ hb4 ho4 hb24 hV4 hU4 b3
       have hOnce : True := trivial
       go_wp2_with (first
        | (refine list_lit1 elemNameK rfl _ rfl (by rfl) rfl (by decide) ?_; intro w5 hw5; have hB5 := below_alloc hw5; have ho5 : objAt w5 w4.heap.size = some (.cells #[.int .i64 n.dir.label, .int .i64 n.dir.at_, .int .u32 n.dir.gen, .string n.name, .int .i64 n.at_, .int .u32 n.gen] 100 (0, 0)) := obj_alloc hw5; have HX5 := Lib.hid (And.intro (RowG.grow H4.out.1 hB5 (fun _ _ h => h)) (And.intro ho5 hB5)); clear hw5 hB5 ho5)
        | (clear hOnce; at_builtin; refine list_appG elemNameK rfl _ _ rfl rfl HX5.out.1 rfl HX5.out.2.1 rfl (Nm.one_cells n) HN.out.1 NmEl n (fun w' _ => ⟨fun _ _ h => h, rfl⟩) ?_; intro g6 cap6 w6 hr6 hk6 ho6 hl6; have hU6 : PlRow w6 (fun q => w.heap.size ≤ q) U ((entsTo B k).map (·.2)) := ((H4.out.2.1).grow HX5.out.2.2 (fun _ _ h => h)).keeps hk6 (fun g hg e => RowG.ne' ((H4.out.2.1).grow HX5.out.2.2 (fun _ _ h => h)) HX5.out.1 (by decide) hg e) (fun _ h => h) (fun _ _ h => h); have H6 := Lib.hid (And.intro hr6 (And.intro hk6 hU6)); clear hr6 hk6 ho6 hl6 hU6)
        | (at_builtin; refine list_appG elemIntK rfl _ _ rfl rfl (RowG.grow H6.out.2.2 (grow_alloc (Below.refl _ _) _) (fun _ _ h => h)) rfl (by rw [objAt_alloc, if_pos rfl]) rfl (by simp [Value.oneCell']) HN.out.2 PlEl k (fun w' _ => ⟨fun _ _ h => h, rfl⟩) ?_; intro g7 cap7 w7 hr7 hk7 ho7 hl7; have H7 := Lib.hid (And.intro hr7 hk7); clear hr7 hk7 ho7 hl7))
       have hb5 : Below w.heap.size w _ := grow_trans H4.out.2.2 HX5.out.2.2
       have hb6 : Below w.heap.size w w6 := hb5.trans (H6.out.2.1.below hb5.size (fun q e => HX5.out.1.own q e))
       have hb6' := grow_alloc hb6 (.cells #[.int .i64 (k : Int)] 3)
       have hb7 : Below w.heap.size w w7 := hb6'.trans (H7.out.2.below hb6'.size (fun q e => H6.out.2.2.own q e))
       have hV6 : NmRow w6 (fun q => w.heap.size ≤ q) (.slice (some ⟨g6, 0, none⟩) (((entsTo B k).map (·.1)).length + 1) cap6) ((entsTo B k).map (·.1) ++ [n]) := RowG.mono H6.out.1 (fun q hq => Or.elim hq id (fun h => Nat.le_trans hb5.size h))
       have hV6a := RowG.grow hV6 (grow_alloc (Below.refl w6.heap.size w6) (.cells #[.int .i64 (k : Int)] 3)) (R := NmEl) (fun _ _ h => h)
       have hU6a := RowG.grow H6.out.2.2 (grow_alloc (Below.refl w6.heap.size w6) (.cells #[.int .i64 (k : Int)] 3)) (R := PlEl) (fun _ _ h => h)
       have hV7 : NmRow w7 (fun q => w.heap.size ≤ q) (.slice (some ⟨g6, 0, none⟩) (((entsTo B k).map (·.1)).length + 1) cap6) ((entsTo B k).map (·.1) ++ [n]) := hV6a.keeps H7.out.2 (fun g hg e => RowG.ne' hV6a hU6a (by decide) hg e) (fun _ h => h) (fun _ _ h => h)
       have hU7 : PlRow w7 (fun q => w.heap.size ≤ q) (.slice (some ⟨g7, 0, none⟩) (((entsTo B k).map (·.2)).length + 1) cap7) ((entsTo B k).map (·.2) ++ [k]) := RowG.mono H7.out.1 (fun q hq => Or.elim hq id (fun h => Nat.le_trans hb6'.size h))
       rw [List.length_map] at hV7 hU7
       have H9 := Lib.hid (And.intro hV7 (And.intro hU7 hb7))
       clear hb5 hb6 hb6' hb7 hV6 hV6a hU6a hV7 hU7
       go_step3
       refine ⟨⟨rfl, H9.out.2.2, k + 1, _, _, hlt, ?_, ?_, ⟨_, rfl, ⟨rfl, rfl, rfl, rfl, trivial⟩, rfl⟩⟩, ?_⟩
       · rw [Hn.out, List.map_append]; exact H9.out.1
       · rw [Hn.out, List.map_append]; exact H9.out.2.1
       · show B.length - ((k : Int) + 1).toNat < B.length - (k : Int).toNat
         omega
   · obtain rfl : k = B.length := by omega
     have e2 : inB bs (B.length : Int) = false := by unfold inB; rw [H.out.2.2.2.1]; simp
     rw [e2] at HG
     have HT := Lib.hid HG
     have HS := Lib.hid (And.intro hb (And.intro hV hU))
     clear hb hV hU HG e2 hlt
     go_wp2_with (go_at_call 26; refine HT.out.mono ?_; rintro e w1 ⟨rfl, b1⟩)
     try rw [jumps_ret]
     refine bodyPost_ret (results_two rfl (resOne_tmp _ _ _) (resOne_tmp _ _ _)) rfl ?_
     have hb2 := grow_alloc b1 (.cells (getB B (B.length : Int)).cells 37)
     exact ⟨V, U, rfl, HS.out.2.1.grow hb2 (fun _ _ h => h), HS.out.2.2.grow hb2 (fun _ _ h => h), grow_trans HS.out.1 hb2⟩
 · intro hfall
   have HF := Lib.hid hfall
   clear hfall
   go_wp2_with fail
   go_step3
   simp only [Exit.then]
   go_step
   refine HF.out 0 _ _ _ ?_ rfl
   exact ⟨rfl, Below.refl _ _, 0, .slice none 0 0, .slice none 0 0, Nat.zero_le _, RowG.nil _ _ _ _ _, RowG.nil _ _ _ _ _, ⟨_, rfl, ⟨rfl, rfl, rfl, rfl, trivial⟩, rfl⟩⟩
end
end Go.Proofs.YtbbnejehglonjaaGreat
