/- DERIVED. Contracts and laws that the proofs of this seat share, part 1 of 36: Ref1B LibC Ref1C BlkEq Ref1D Ref1E Ref1F Spec14 Spec15. -/
import Derived.Deep.DeepCutAuto
import Derived.Deep.QuietTactic
import Derived.BigQuiet
import Derived.Lib.AppendStr
import Derived.Stop.BytesEq
import Derived.Deep.Onto
import Derived.Test.YtbbnejehglonjaaGreatMo00
/- DERIVED. Contracts of clathriref1.mayAt, MayTarget, MayNode. -/
namespace Go.Proofs.YtbbnejehglonjaaGreat
open Go.RowKit
attribute [local go_sem] hasBlk
def Nd.cells (n : Nd) : Array Value := #[.int .u32 n.gen, .int .i64 n.links, .int .i64 n.size, .int .i64 n.d0, .int .i64 n.d1, .int .i64 n.d2, .int .i64 n.d3, .int .i64 n.index, .string n.target]
/-- A node that Go can hold. -/
structure Nd.wf (n : Nd) : Prop where
 gen0 : 0 ≤ n.gen
 gen1 : n.gen ≤ 4294967295
 long : n.target.size ≤ 1000000

theorem elemInt : Elem1 Tryz.prog 33 3 8 := .mk' Tryz.underlying33 (z := .int .i64 0) (by kernel_rfl) rfl (by decide)
def Nd.box (n : Nd) : Obj := .cells n.cells 165 (0, 0)
def okPre (l : List Int) (k : Nat) : Prop := ∀ j, j < k → okNew (l.take j) (l.getD j 0) = true
theorem okPre_succ {l : List Int} {k : Nat} (h : okPre l k) (h2 : okNew (l.take k) (l.getD k 0) = true) : okPre l (k + 1) := fun j hj => by
 rcases Nat.lt_succ_iff_lt_or_eq.1 hj with h' | rfl
 · exact h j h'
 · exact h2
theorem none5_succ {l : List Int} {k : Nat} (h : k < l.length) : none5 (l.take (k + 1)) = (none5 (l.take k) && (l.getD k 0 == -1)) := by
 rw [List.take_succ_eq_append_getElem h]
 simp only [none5, List.all_append, List.all_cons, List.all_nil, Bool.and_true, List.getD_eq_getElem?_getD, List.getElem?_eq_getElem h, Option.getD_some]
theorem placesOk_all {l : List Int} (h : okPre l l.length) : placesOk l = true := placesOk_iff.2 fun k hk => h k hk
theorem okNew_none (pre : List Int) : okNew pre (-1) = true := by simp [okNew]
/-- The places of a node, in a row of the call's own. -/
structure PlaceRow (w wr : World) (G g : Nat) (n : Nd) : Prop where
 grow : Below w.heap.size w wr
 box : objAt wr G = some n.box
 at_ : ∀ j, (h : j < 5) → wr.cell? ⟨g, j, none⟩ = some (.int .i64 (n.places.getD j 0))
theorem PlaceRow.on {w wr wx : World} {G g : Nat} {n : Nd} (h : PlaceRow w wr G g n) (hb : Below wr.heap.size wr wx) : PlaceRow w wx G g n :=
 ⟨grow_trans h.grow hb, grow_obj hb h.box, fun j hj => grow_cell hb (h.at_ j hj)⟩
theorem PlaceRow.cell {w wr : World} {G g : Nat} {n : Nd} (h : PlaceRow w wr G g n) (i : Nat) : wr.cell? ⟨G, i, none⟩ = n.cells[i]? := cell_of_row wr G i _ _ _ h.box

end Go.Proofs.YtbbnejehglonjaaGreat

/- DERIVED. Laws on append of bytes to a row of the call's own: at the run, at a plain list of operations, at a step of a region that draws. -/
namespace Go.Proofs.YtbbnejehglonjaaGreat
open Go.RowKit

theorem BRow.mono {w : World} {B B' : Nat} {v : Value} {l : List UInt8} (h : BRow w B v l) (hb : B' ≤ B) : BRow w B' v l := by
 refine ⟨h.1, ?_⟩
 rcases h.2 with h' | ⟨g, cap, cur, h1, h2, h3⟩
 · exact .inl h'
 · exact .inr ⟨g, cap, cur, h1, Nat.le_trans hb h2, h3⟩
theorem BRow.drew {w : World} {B : Nat} {v : Value} {l : List UInt8} (h : BRow w B v l) : BRow w.drew B v l := h
theorem BRow.alloc {w : World} {B : Nat} {v : Value} {l : List UInt8} (h : BRow w B v l) (o : Obj) : BRow (w.alloc o) B v l := World.ownsRow.alloc h o
theorem BRow.form {w : World} {B : Nat} {v : Value} {l : List UInt8} (h : BRow w B v l) (hn : 0 < l.length) : ∃ g cap, v = .slice (some ⟨g, 0, none⟩) l.length cap ∧ B ≤ g ∧ g < w.heap.size := World.ownsRow.form h hn
theorem BRow.nil (w : World) (B : Nat) : BRow w B (.slice none 0 0) [] := World.ownsRow_nil w B 5 1
/-- One byte that was written out. -/
theorem BRow.lit {w : World} {B g : Nat} {x : Int} (c : UInt8) (hx : x = (c.toNat : Int)) (h : objAt w g = some (.cells #[.int .u8 x] 5 (0, 0))) (hb : B ≤ g) : BRow w B (.slice (some ⟨g, 0, none⟩) 1 1) [c] := by
 subst hx
 exact ⟨rfl, .inr ⟨g, 1, #[.int .u8 c.toNat], rfl, hb, h, Nat.le_refl _, by decide, rfl, rfl⟩⟩
theorem BRow.bytesAt {w : World} {B : Nat} {a : Option Addr} {n cap : Nat} {l : List UInt8} (h : BRow w B (.slice a n cap) l) : BytesAt w a l ∧ n = l.length := by
 obtain ⟨a', cap', he, hb⟩ := h.bytes
 simp only [Value.slice.injEq] at he
 obtain ⟨rfl, rfl, rfl⟩ := he
 exact ⟨hb, rfl⟩

theorem infoByte : ∃ i z, Tryz.prog.info? 5 = some i ∧ i.zero = some z ∧ i.size = 1 ∧ i.bytes = 1 ∧ z.cells.size = 1 := elemByte.info

theorem run_appB {w : World} {base : Nat} {v : Value} {xs : List UInt8} (hown : BRow w base v xs) {b2 : Nat} {u : Value} {ys : List UInt8} (hu : BRow w b2 u ys) (hys : 0 < ys.length) (hsz : xs.length + ys.length < 2000000000)
 (hbase : base ≤ w.heap.size) (ty : TypeId) :
 ∃ g cap w', (Builtin.append_ #[22, 22] ty #[v, u]).run Tryz.prog w = .ok (.slice (some ⟨g, 0, none⟩) (xs.length + ys.length) cap) w' ∧ BRow w' base (.slice (some ⟨g, 0, none⟩) (xs.length + ys.length) cap) (xs ++ ys) ∧
   w.grownBy w' v.ownBlock ∧ Below base w w' := by
 obtain ⟨g2, cap2, rfl, _, _⟩ := hu.form hys
 obtain ⟨i, z, hi, hz, hs, hby, hzs⟩ := infoByte
 obtain ⟨g, cap, w', h1, h2, h3, _, _⟩ := run_append_lies (P := Tryz.prog) w 22 ty base 5 i z 1 1 Tryz.underlying22 hi hz hs hby hzs (by decide) v xs.length _ hown ⟨g2, 0, none⟩ ys.length cap2 (ys.map fun c => Value.int .u8 c.toNat)
  (by simp) (World.ownsRow.cells hu (g := g2) rfl) (by intro x hx; simp only [List.mem_map] at hx; obtain ⟨c, _, rfl⟩ := hx; rfl) hys (by unfold maxLen; omega) (by omega) hbase w.heap.size rfl
 refine ⟨g, cap, w', h1, ?_, h3, (Below.refl base w).grown h3 hbase (fun k hk => (World.ownsRow.lt hown k hk).1)⟩
 unfold BRow
 rw [List.length_append, List.map_append]; exact h2

theorem run_appS {w : World} {base : Nat} {v : Value} {xs : List UInt8} (hown : BRow w base v xs) (s : ByteArray) (hxs : 0 < xs.length) (hsz : xs.length + s.size < 2000000000)
 (hbase : base ≤ w.heap.size) (ty : TypeId) :
 ∃ g cap w', (Builtin.append_ #[22, 9] ty #[v, .string s]).run Tryz.prog w = .ok (.slice (some ⟨g, 0, none⟩) (xs.length + s.size) cap) w' ∧ BRow w' base (.slice (some ⟨g, 0, none⟩) (xs.length + s.size) cap) (xs ++ s.data.toList) ∧
   w.grownBy w' v.ownBlock ∧ Below base w w' := by
 obtain ⟨i, z, hi, hz, hs, hby, hzs⟩ := infoByte
 have hz' : i.zero = some (.int .u8 0) := by
  have : (Tryz.prog.info? 5).map (·.zero) = some (some (.int .u8 0)) := by kernel_rfl
  rw [hi] at this; simpa using this
 obtain ⟨v', w', h1, h2, h3, _⟩ := Lib.run_append_own_string (P := Tryz.prog) w base 22 9 ty 5 i Tryz.underlying22 Tryz.underlying9 hi hz' hs hby v xs.length _ hown s (by unfold maxLen; omega) (by omega) hbase
 have hcells : Lib.strCells s = s.data.toList.map fun c => Value.int .u8 c.toNat := by
  unfold Lib.strCells; rfl
 have hB : BRow w' base v' (xs ++ s.data.toList) := by
  unfold BRow
  rw [List.length_append, List.map_append, ← hcells, show s.data.toList.length = s.size by simp]; exact h2
 obtain ⟨g, cap, rfl, _, _⟩ := hB.form (by rw [List.length_append]; omega)
 rw [List.length_append, show s.data.toList.length = s.size by simp] at h1 hB
 exact ⟨g, cap, w', h1, hB, h3, (Below.refl base w).grown h3 hbase (fun k hk => (World.ownsRow.lt hown k hk).1)⟩

section
variable {ops : Array Oper} {o : Oper} {a : Act} {w : World} {K : Act → World → Prop} {Q : Exit → Act → World → Prop} {F : Prop} {rest : List Oper}
theorem wp_appB (s x : Operand) (ho : o.op = .call { callee := .builtin .append, args := #[s, x], argTypes := #[22, 22] })
 {base : Nat} {v : Value} {xs : List UInt8} (hs : a.eval s = v) (hown : BRow w base v xs) {b2 : Nat} {u : Value} {ys : List UInt8} (hx : a.eval x = u) (hu : BRow w b2 u ys) (hys : 0 < ys.length) (m : Nat) (hm : xs.length + ys.length = m) (hsz : m < 2000000000) (hbase : base ≤ w.heap.size)
 (h : ∀ g cap w', BRow w' base (.slice (some ⟨g, 0, none⟩) m cap) (xs ++ ys) → w.grownBy w' v.ownBlock → Below base w w' → K (a.put o.dst (.slice (some ⟨g, 0, none⟩) m cap)) w') :
 o.wp Tryz.prog a w K Q := by
 subst hm
 obtain ⟨g, cap, w', hr, h2, h3, h4⟩ := run_appB hown hu hys hsz hbase o.type
 unfold Oper.wp execOp
 simp only [ho, resolve, invoke, builtin, Sem.run_bind, Sem.run_pure, Result.andThen_ok, List.map_toArray, List.map_cons, List.map_nil, hs, hx, hr]
 exact h g cap w' h2 h3 h4
theorem wp_appS (s x : Operand) (ho : o.op = .call { callee := .builtin .append, args := #[s, x], argTypes := #[22, 9] })
 {base : Nat} {v : Value} {xs : List UInt8} (hs : a.eval s = v) (hown : BRow w base v xs) (t : ByteArray) (hx : a.eval x = .string t) (hxs : 0 < xs.length) (m : Nat) (hm : xs.length + t.size = m) (hsz : m < 2000000000) (hbase : base ≤ w.heap.size)
 (h : ∀ g cap w', BRow w' base (.slice (some ⟨g, 0, none⟩) m cap) (xs ++ t.data.toList) → w.grownBy w' v.ownBlock → Below base w w' → K (a.put o.dst (.slice (some ⟨g, 0, none⟩) m cap)) w') :
 o.wp Tryz.prog a w K Q := by
 subst hm
 obtain ⟨g, cap, w', hr, h2, h3, h4⟩ := run_appS hown t hxs hsz hbase o.type
 unfold Oper.wp execOp
 simp only [ho, resolve, invoke, builtin, Sem.run_bind, Sem.run_pure, Result.andThen_ok, List.map_toArray, List.map_cons, List.map_nil, hs, hx, hr]
 exact h g cap w' h2 h3 h4
theorem step_appS (hgd : o.guard = none) (s x : Operand) (ho : o.op = .call { callee := .builtin .append, args := #[s, x], argTypes := #[22, 9] })
 {base : Nat} {v : Value} {xs : List UInt8} (hs : a.eval s = v) (hown : BRow w base v xs) (t : ByteArray) (hx : a.eval x = .string t) (hxs : 0 < xs.length) (m : Nat) (hm : xs.length + t.size = m) (hsz : m < 2000000000) (hbase : base ≤ w.heap.size)
 (h : ∀ g cap w', BRow w' base (.slice (some ⟨g, 0, none⟩) m cap) (xs ++ t.data.toList) → w.grownBy w' v.ownBlock → Below base w w' → K (a.put o.dst (.slice (some ⟨g, 0, none⟩) m cap)) w') :
 if Region.wanted o (yielded ops a.tmps) = true then Oper.wp Tryz.prog o a w K Q else F := by
 have hw : Region.wanted o (yielded ops a.tmps) = true := by simp [Region.wanted, hgd]
 rw [if_pos hw]
 exact wp_appS s x ho hs hown t hx hxs m hm hsz hbase h
theorem list_appB (hgd : o.guard = none) (s x : Operand) (ho : o.op = .call { callee := .builtin .append, args := #[s, x], argTypes := #[22, 22] })
 {base : Nat} {v : Value} {xs : List UInt8} (hs : a.eval s = v) (hown : BRow w base v xs) {b2 : Nat} {u : Value} {ys : List UInt8} (hx : a.eval x = u) (hu : BRow w b2 u ys) (hys : 0 < ys.length) (m : Nat) (hm : xs.length + ys.length = m) (hsz : m < 2000000000) (hbase : base ≤ w.heap.size)
 (h : ∀ g cap w', BRow w' base (.slice (some ⟨g, 0, none⟩) m cap) (xs ++ ys) → w.grownBy w' v.ownBlock → Below base w w' → wpList Tryz.prog ops Q rest (a.put o.dst (.slice (some ⟨g, 0, none⟩) m cap)) w') :
 wpList Tryz.prog ops Q (o :: rest) a w :=
 wpList_plain hgd fun _ hK => wp_appB s x ho hs hown hx hu hys m hm hsz hbase fun g cap w' h1 h2 h3 => hK _ _ (h g cap w' h1 h2 h3)
end

end Go.Proofs.YtbbnejehglonjaaGreat

/- DERIVED. Contract of clathriref1.PutNode. -/
namespace Go.Proofs.YtbbnejehglonjaaGreat
open Go.RowKit
attribute [local irreducible] Calls
def ats (l : List Int) : List UInt8 := l.flatMap fun a => high (a + 1).toNat 2
def nodeHead (n : Nd) : List UInt8 := high n.gen.toNat 4 ++ high n.links.toNat 2 ++ high n.size.toNat 4
def nodeBytes (n : Nd) : List UInt8 := nodeHead n ++ ats n.direct ++ high (n.index + 1).toNat 2 ++ [UInt8.ofNat n.target.size] ++ n.target.data.toList
def putNode (kind : Int) (n : Nd) : Blk × Bool := if mayNode kind n = true then (Blk.of kind (nodeBytes n), true) else (Blk.zero, false)

theorem ats_length (l : List Int) : (ats l).length = 2 * l.length := by
 induction l with
 | nil => rfl
 | cons a l ih => simp only [ats, List.flatMap_cons, List.length_append, high_length, List.length_cons] at ih ⊢; omega
theorem ats_succ {l : List Int} {k : Nat} (h : k < l.length) : ats (l.take (k + 1)) = ats (l.take k) ++ high (l.getD k 0 + 1).toNat 2 := by
 rw [List.take_succ_eq_append_getElem h]
 simp only [ats, List.flatMap_append, List.flatMap_cons, List.flatMap_nil, List.append_nil, List.getD_eq_getElem?_getD, List.getElem?_eq_getElem h, Option.getD_some]

theorem okNew_bounds {pre : List Int} {a : Int} (h : okNew pre a = true) : -1 ≤ a ∧ a < 200 := by
 simp only [okNew, okAt, Bool.or_eq_true, Bool.and_eq_true, decide_eq_true_eq, beq_iff_eq] at h
 omega
theorem placesOk_bounds {l : List Int} (h : placesOk l = true) (k : Nat) (hk : k < l.length) : -1 ≤ l.getD k 0 ∧ l.getD k 0 < 200 := okNew_bounds (placesOk_iff.1 h k hk)
theorem mayTarget_le {t : ByteArray} (h : mayTarget t.data.toList = true) : t.size ≤ 32 := by
 simp only [mayTarget, Bool.and_eq_true, decide_eq_true_eq] at h
 have := h.2
 simpa using this
structure Nd.small (n : Nd) : Prop where
 gen : 1 ≤ n.gen
 links0 : 0 ≤ n.links
 links1 : n.links ≤ 1000
 size0 : 0 ≤ n.size
 size1 : n.size ≤ 1120
 target : n.target.size ≤ 32
 place : ∀ k, k < 5 → -1 ≤ n.places.getD k 0 ∧ n.places.getD k 0 < 200
theorem mayNode_small {kind : Int} {n : Nd} (h : mayNode kind n = true) : n.small := by
 simp only [mayNode, Bool.and_eq_true, decide_eq_true_eq] at h
 obtain ⟨⟨⟨⟨h1, h2⟩, h3⟩, h4⟩, h5⟩ := h
 have hp : ∀ k, k < 5 → -1 ≤ n.places.getD k 0 ∧ n.places.getD k 0 < 200 := fun k hk => placesOk_bounds h4 k hk
 have hempty : n.target.data.toList.isEmpty = true → n.target.size ≤ 32 := fun h => by
  have h' : n.target.data.toList.length = 0 := by rw [List.isEmpty_iff.1 h]; rfl
  have h'' : n.target.data.toList.length = n.target.size := by simp
  omega
 unfold kindOk at h5
 split at h5
 · simp only [Bool.and_eq_true, decide_eq_true_eq] at h5
   exact ⟨h1, h2, h3, h5.1.1, h5.1.2, hempty h5.2, hp⟩
 · split at h5
   · simp only [Bool.and_eq_true, decide_eq_true_eq] at h5
     exact ⟨h1, h2, h3, by omega, by omega, hempty h5.1.2, hp⟩
   · split at h5
     · simp only [Bool.and_eq_true, decide_eq_true_eq] at h5
       have := mayTarget_le h5.1.2
       exact ⟨h1, h2, h3, by omega, by omega, this, hp⟩
     · cases h5

theorem BlkAt.has {w : World} {g : Nat} {b : Blk} (h : BlkAt w g b) : hasBlk w g = true := by
 unfold hasBlk; rw [h.row]; simp [b.size_cells]

end Go.Proofs.YtbbnejehglonjaaGreat

/- DERIVED. Whole blocks compared. -/
namespace Go.Proofs.YtbbnejehglonjaaGreat
open Go.RowKit
attribute [local go_sem] hasBlk
theorem blk_fields : ((Tryz.prog.fieldsOf 37).toList.map fun f => (f.name, f.type, f.offset)) = [("Kind", 3, 0), ("Body", 35, 1)] := by kernel_rfl
theorem size_byte (w : World) : (sizeOf 5).run Tryz.prog w = .ok 1 w := by
 obtain ⟨i, z, hi, _, hs, _, _⟩ := elemByte.info
 simp [sizeOf, typeInfo, hi, hs]
theorem size_body (w : World) : (sizeOf 35).run Tryz.prog w = .ok 56 w := by
 have h : (Tryz.prog.info? 35).map (·.size) = some 56 := by kernel_rfl
 cases hi : Tryz.prog.info? 35 with
 | none => rw [hi] at h; cases h
 | some i =>
   rw [hi] at h
   have : i.size = 56 := by simpa using h
   simp [sizeOf, typeInfo, hi, this]
theorem Blk.cells_def (b : Blk) : b.cells = (Value.int .i64 b.kind :: b.body.map fun c => Value.int .u8 (c.toNat : Int)).toArray := by unfold Blk.cells; rfl
theorem part_kind (b : Blk) (w : World) : (part 3 b.cells 0).run Tryz.prog w = .ok (.int .i64 b.kind) w := by
 simp [part, isAgg, run_underlying Tryz.underlying3, Blk.cells_def]
theorem part_body (b : Blk) (w : World) : (part 35 b.cells 1).run Tryz.prog w = .ok (.agg (b.body.map Extern.Stop.cell).toArray) w := by
 have h : b.cells.extract 1 (1 + 56) = (b.body.map Extern.Stop.cell).toArray := by
  rw [Blk.cells_def]
  apply Array.ext'
  simp only [Array.toList_extract, List.extract_eq_take_drop, Nat.reduceAdd, Nat.reduceSub, List.drop_succ_cons, List.drop_zero]
  rw [List.take_of_length_le (by rw [List.length_map, b.len]; exact Nat.le_refl _)]
  rfl
 simp only [part, isAgg, Sem.run_bind, run_underlying Tryz.underlying35, Result.andThen_ok, Sem.run_pure, Sem.run_ite, if_true, size_body, h]

theorem run_eq_blk (w : World) (b c : Blk) : (Op.equalIn 10000 37 (.agg b.cells) (.agg c.cells)).run Tryz.prog w = .ok (decide (b = c)) w := by
 have ht : Tryz.prog.underlying 37 = some (.struct (Tryz.prog.fieldsOf 37)) := by
  unfold Program.fieldsOf; rw [Tryz.underlying37]
 rw [run_equalIn_struct w 9999 _ _ _ ht (by kernel_rfl)]
 have hf := blk_fields
 generalize (Tryz.prog.fieldsOf 37).toList = fs at hf
 obtain ⟨f, g, rfl⟩ : ∃ f g, fs = [f, g] := by
  have hl : fs.length = 2 := by have := congrArg List.length hf; simpa using this
  match fs, hl with
  | [f, g], _ => exact ⟨f, g, rfl⟩
 · simp only [List.map_cons, List.map_nil, List.cons.injEq, Prod.mk.injEq, and_true] at hf
   obtain ⟨⟨f1, f2, f3⟩, g1, g2, g3⟩ := hf
   simp only [Op.eqFields, f1, f2, f3, g1, g2, g3, Sem.run_ite, Sem.run_bind, part_kind, part_body, Result.andThen_ok]
   rw [run_equalIn_int w 9998 3 .i64 .i64 _ _ Tryz.underlying3]
   simp only [Result.andThen_ok]
   rw [run_equalIn_bytes w 9997 35 5 56 Tryz.underlying35 Tryz.underlying5 size_byte b.body c.body b.len c.len]
   by_cases hk : b.kind = c.kind
   · by_cases hb : b.body = c.body
     · have : b = c := Blk.ext' hk hb
       subst this
       simp
     · have : ¬ b = c := fun e => hb (by rw [e])
       simp [hk, hb, this]
   · have : ¬ b = c := fun e => hk (by rw [e])
     simp [hk, this]

theorem neq_blk (w : World) (b c : Blk) : (binOp .neq 37 (.agg b.cells) (.agg c.cells)).run Tryz.prog w = .ok (.bool (!decide (b = c))) w := by
 rw [run_neq_struct, run_eq_blk]; rfl
theorem eql_blk (w : World) (b c : Blk) : (binOp .eql 37 (.agg b.cells) (.agg c.cells)).run Tryz.prog w = .ok (.bool (decide (b = c))) w := by
 rw [run_eql_struct, run_eq_blk]; rfl
noncomputable def blkCmp (op : BinOp) (x y : Operand) (u v : Value) (w : World) : Result Value := Sem.run Tryz.prog (do eqGuard op 37 x y u v; binOp op 37 u v) w
@[go_sem] theorem cmp_neq (x y : Operand) (b c : Blk) (w : World) : blkCmp .neq x y (.agg b.cells) (.agg c.cells) w = .ok (.bool (!decide (b = c))) w := by
 unfold blkCmp
 rw [Sem.run_bind, run_eqGuard_agg w .neq _ x y _ _ (by kernel_rfl), Result.andThen_ok, neq_blk]
@[go_sem] theorem cmp_eql (x y : Operand) (b c : Blk) (w : World) : blkCmp .eql x y (.agg b.cells) (.agg c.cells) w = .ok (.bool (decide (b = c))) w := by
 unfold blkCmp
 rw [Sem.run_bind, run_eqGuard_agg w .eql _ x y _ _ (by kernel_rfl), Result.andThen_ok, eql_blk]
@[go_sem ↓] theorem exec_cmp_blk (ρ : Operand → Value) (w : World) (dst : Option Tmp) (op : BinOp) (x y : Operand) (z : TypeId) (ty : TypeId) (pos : String) (after : Array Edge) (gd : Option (Nat × Bool)) :
 (execOp ρ ⟨dst, .binOp op 37 x y z, ty, pos, after, gd⟩).run Tryz.prog w = (blkCmp op x y (ρ x) (ρ y) w).andThen fun v w => .ok (.value v) w := by
 simp only [execOp, blkCmp, Sem.run_bind]; rfl
attribute [irreducible] blkCmp
theorem num_sub_lt (b : Blk) (off n k : Nat) (h : n ≤ k) : num ((b.body.drop off).take n) < 256 ^ k := num_le _ _ (by rw [List.length_take]; omega)
end Go.Proofs.YtbbnejehglonjaaGreat

/- DERIVED. Contract of clathriref1.TakeNode. -/
namespace Go.Proofs.YtbbnejehglonjaaGreat
open Go.RowKit
attribute [local irreducible] Calls
def Nd.zero : Nd := ⟨0, 0, 0, 0, 0, 0, 0, 0, ⟨#[]⟩⟩
/-- The number of n bytes of a block, from a place on. -/
def Blk.sub (b : Blk) (off n : Nat) : Nat := num ((b.body.drop off).take n)
def Blk.long (b : Blk) : Nat := (b.body.getD 20 0).toNat
def nodeOf (b : Blk) : Nd := ⟨b.sub 0 4, b.sub 4 2, b.sub 6 4, (b.sub 10 2 : Int) - 1, (b.sub 12 2 : Int) - 1, (b.sub 14 2 : Int) - 1, (b.sub 16 2 : Int) - 1, (b.sub 18 2 : Int) - 1, ⟨((b.body.drop 21).take b.long).toArray⟩⟩
def takeNode (b : Blk) : Nd × Bool := if 35 < b.long then (Nd.zero, false) else if putNode b.kind (nodeOf b) = (b, true) then (nodeOf b, true) else (Nd.zero, false)
theorem Blk.sub_lt (b : Blk) (off n : Nat) : b.sub off n < 256 ^ n := num_sub_lt b off n n (Nat.le_refl _)
/-- The node that is being read: k of its four blocks are there. -/
def nodeUpto (b : Blk) (k : Nat) : Nd := ⟨b.sub 0 4, b.sub 4 2, b.sub 6 4, if 0 < k then (b.sub 10 2 : Int) - 1 else 0, if 1 < k then (b.sub 12 2 : Int) - 1 else 0, if 2 < k then (b.sub 14 2 : Int) - 1 else 0, if 3 < k then (b.sub 16 2 : Int) - 1 else 0, 0, ⟨#[]⟩⟩
theorem free_of_row {w : World} {g : Nat} {c : Array Value} {t : TypeId} (h : objAt w g = some (.cells c t (0, 0))) (i : Nat) : w.frozen? ⟨g, i, none⟩ = false := by
 unfold objAt at h; simp [World.frozen?, h]
/-! Whole nodes loaded and stored. -/
theorem aggNd : AggOf Tryz.prog 165 9 := ⟨⟨_, Tryz.underlying165, rfl⟩, by kernel_rfl⟩
noncomputable def ndLoad (x : Value) (w : World) : Result Value := Sem.run Tryz.prog (Instr.loadAt 165 x) w
noncomputable def ndStore (x y : Value) (w : World) : Result Unit := Sem.run Tryz.prog (Instr.storeAt 165 x y) w
def hasNd (w : World) (g : Nat) : Bool := (rowAt w g).any (·.size == 9)
theorem hasNd_some {w : World} {g : Nat} (h : hasNd w g = true) : ∃ c, rowAt w g = some c ∧ c.size = 9 := by
 unfold hasNd at h
 cases hr : rowAt w g with
 | none => rw [hr] at h; cases h
 | some c => rw [hr] at h; exact ⟨c, rfl, by simpa using h⟩
theorem hasNd_obj {w : World} {g : Nat} {n : Nd} {t : TypeId} (h : objAt w g = some (.cells n.cells t (0, 0))) : hasNd w g = true := by
 unfold hasNd; rw [rowAt_heap h]; rfl
@[go_sem] theorem hasNd_new (w : World) (c : Array Value) (t : TypeId) (n : Nat) (hn : n = w.heap.size) (hc : c.size = 9) : hasNd (w.alloc (.cells c t)) n = true := by
 unfold hasNd; rw [rowAt_alloc_at w c t n hn]; simp [hc]
@[go_sem] theorem hasNd_drew (w : World) (n : Nat) : hasNd w.drew n = hasNd w n := rfl
@[go_sem] theorem load_nd (w : World) (g : Nat) (h : hasNd w g = true) : ndLoad (.pointer (some ⟨g, 0, none⟩)) w = .ok (.agg ((rowAt w g).getD #[])) w := by
 obtain ⟨c, hc, hs⟩ := hasNd_some h
 rw [hc]; exact run_load_agg aggNd w g hc hs
theorem Nd.size_cells (n : Nd) : n.cells.size = 9 := rfl
theorem Nd.one_cells (n : Nd) : ∀ v ∈ n.cells.toList, v.oneCell' = true := by
 intro v hv
 simp only [Nd.cells, List.mem_cons, List.not_mem_nil, or_false] at hv
 rcases hv with rfl | rfl | rfl | rfl | rfl | rfl | rfl | rfl | rfl <;> rfl
@[go_sem] theorem store_ndv (w : World) (g : Nat) (n : Nd) (h : hasNd w g = true) : ndStore (.pointer (some ⟨g, 0, none⟩)) (.agg n.cells) w = .ok () (w.setRow g n.cells) := by
 obtain ⟨c, hc, hs⟩ := hasNd_some h
 exact run_store_agg aggNd w g n.cells hc hs n.size_cells n.one_cells
@[go_sem] theorem store_nd (w : World) (g : Nat) (a l s d0 d1 d2 d3 ix : Int) (t : ByteArray) (h : hasNd w g = true) :
 ndStore (.pointer (some ⟨g, 0, none⟩)) (.agg #[.int .u32 a, .int .i64 l, .int .i64 s, .int .i64 d0, .int .i64 d1, .int .i64 d2, .int .i64 d3, .int .i64 ix, .string t]) w =
  .ok () (w.setRow g #[.int .u32 a, .int .i64 l, .int .i64 s, .int .i64 d0, .int .i64 d1, .int .i64 d2, .int .i64 d3, .int .i64 ix, .string t]) := store_ndv w g ⟨a, l, s, d0, d1, d2, d3, ix, t⟩ h
@[go_sem ↓] theorem exec_load_nd (ρ : Operand → Value) (w : World) (dst : Option Tmp) (x : Operand) (ty : TypeId) (pos : String) (after : Array Edge) (gd : Option (Nat × Bool)) :
 (execOp ρ ⟨dst, .load 165 x, ty, pos, after, gd⟩).run Tryz.prog w = (ndLoad (ρ x) w).andThen fun v w => .ok (.value v) w := by
 simp only [execOp, ndLoad, Sem.run_bind]; rfl
@[go_sem ↓] theorem exec_store_nd (ρ : Operand → Value) (w : World) (dst : Option Tmp) (x y : Operand) (ty : TypeId) (pos : String) (after : Array Edge) (gd : Option (Nat × Bool)) :
 (execOp ρ ⟨dst, .store 165 x y, ty, pos, after, gd⟩).run Tryz.prog w = (ndStore (ρ x) (ρ y) w).andThen fun _ w => .ok .skip w := by
 simp only [execOp, ndStore, Sem.run_bind]; rfl
attribute [irreducible] ndLoad ndStore
@[go_sem] theorem hasBlk_new (w : World) (b : Blk) (t : TypeId) (n : Nat) (hn : n = w.heap.size) : hasBlk (w.alloc (.cells b.cells t)) n = true := by
 unfold hasBlk; rw [rowAt_alloc_at w _ t n hn]; simp [b.size_cells]
theorem resOne_nd {p : Tmp} {tmps : Array Value} {w : World} {g : Nat} {n : Nd} (hp : tmps.getD p undef = .pointer (some ⟨g, 0, none⟩)) (h : rowAt w g = some n.cells) :
 (resultOne (.cell p 165) tmps).run Tryz.prog w = .ok (.agg n.cells) w := resOne_agg aggNd hp h n.size_cells
theorem objAt_setRow {w : World} {g : Nat} {c : Array Value} {t : TypeId} (h : objAt w g = some (.cells c t (0, 0))) (c' : Array Value) : objAt (w.setRow g c') g = some (.cells c' t (0, 0)) := setRow_heap w g c c' t (0, 0) h

end Go.Proofs.YtbbnejehglonjaaGreat

/- DERIVED. Contract of clathriref1.PutIndex. -/
namespace Go.Proofs.YtbbnejehglonjaaGreat
open Go.RowKit
attribute [local irreducible] Calls
def putIndex (l : List Int) : Blk × Bool := if l.length = 16 ∧ placesOk l = true then (Blk.of 5 (ats l), true) else (Blk.zero, false)
/-- Ints from a slice's address on. -/
def IntsAt (w : World) (a : Option Addr) (l : List Int) : Prop :=
 ∃ b off, (0 < l.length → a = some ⟨b, off, none⟩) ∧ ∀ i, i < l.length → w.cell? ⟨b, off + i, none⟩ = some (.int .i64 (l.getD i 0))
theorem IntsAt.below {w w' : World} {a : Option Addr} {l : List Int} (h : IntsAt w a l) (hb : Below w.heap.size w w') : IntsAt w' a l := by
 obtain ⟨b, off, h1, h2⟩ := h
 exact ⟨b, off, h1, fun i hi => grow_cell hb (h2 i hi)⟩
end Go.Proofs.YtbbnejehglonjaaGreat

/- DERIVED. Contract of clathriref1.TakeIndex. -/
namespace Go.Proofs.YtbbnejehglonjaaGreat
open Go.RowKit
attribute [local irreducible] Calls
def indexOf (b : Blk) : List Int := (List.range 16).map fun i => (b.sub (2 * i) 2 : Int) - 1
def takeIndex (b : Blk) : Option (List Int) := if putIndex (indexOf b) = (b, true) then some (indexOf b) else none
def IRow (w : World) (B : Nat) (v : Value) (l : List Int) : Prop := w.ownsRow B 3 1 v l.length (l.map fun x => Value.int .i64 x)

end Go.Proofs.YtbbnejehglonjaaGreat

/- DERIVED. Plain Lean functions: who is who, names, entries. No program in sight. -/
namespace Go.Proofs.YtbbnejehglonjaaGreat
open Go.RowKit
attribute [local go_sem] hasBlk
/-- Who is who. -/
structure Id where
 label : Int
 at_ : Int
 gen : Int
 deriving DecidableEq
def Id.root : Id := ⟨-1, 0, 0⟩
def Id.zero : Id := ⟨0, 0, 0⟩
def mayID (i : Id) : Bool := decide (i = Id.root) || (decide (0 ≤ i.label) && decide (i.label < 8) && decide (1 ≤ i.at_) && decide (i.at_ < 200) && decide (1 ≤ i.gen))
def idBytes (i : Id) : List UInt8 := [UInt8.ofNat (i.label % 256).toNat] ++ high i.at_.toNat 2 ++ high i.gen.toNat 4
def putID (i : Id) : List UInt8 := if mayID i = true then idBytes i else []
def idOf (b : Blk) : Id := ⟨if b.body.getD 0 0 = 255 then -1 else ((b.body.getD 0 0).toNat : Int), b.sub 1 2, b.sub 3 4⟩
/-- The one of a block's first seven bytes. -/
def takeID (b : Blk) : Option Id := if putID (idOf b) = b.body.take 7 then some (idOf b) else none

/-- A byte that no name bears. -/
def badName (r : Nat) : Bool := decide (r < 33) || decide (126 < r) || decide (r = 47)
/-- May a name be: P14.1. -/
def mayName (l : List UInt8) : Bool := decide (1 ≤ l.length) && decide (l.length ≤ 14) && !(l.any fun c => badName c.toNat) && !(l == [46]) && !(l == [46, 46])

/-- A name of a folder. -/
structure Nm where
 dir : Id
 name : ByteArray
 at_ : Int
 gen : Int
 deriving DecidableEq
def Nm.zero : Nm := ⟨Id.zero, ⟨#[]⟩, 0, 0⟩
def mayEntry (n : Nm) : Bool := mayID n.dir && mayName n.name.data.toList && okAt n.at_ && decide (1 ≤ n.gen)
def entryBytes (n : Nm) : List UInt8 := idBytes n.dir ++ high n.at_.toNat 2 ++ high n.gen.toNat 4 ++ [UInt8.ofNat n.name.size] ++ n.name.data.toList
def putEntry (n : Nm) : Blk × Bool := if mayEntry n = true then (Blk.of 6 (entryBytes n), true) else (Blk.zero, false)
def nameOf (b : Blk) (i : Id) : Nm := ⟨i, ⟨((b.body.drop 14).take (b.body.getD 13 0).toNat).toArray⟩, b.sub 7 2, b.sub 9 4⟩
def takeEntry (b : Blk) : Option Nm :=
 match takeID b with
 | none => none
 | some i => if 14 < (b.body.getD 13 0).toNat then none else if putEntry (nameOf b i) = (b, true) then some (nameOf b i) else none
end Go.Proofs.YtbbnejehglonjaaGreat

/- DERIVED. Plain Lean functions: the document's answer to tx, file, shard, store: blocks in a row. No program in sight. -/
namespace Go.Proofs.YtbbnejehglonjaaGreat
open Go.RowKit
attribute [local go_sem] hasBlk
def isNode (k : Int) : Bool := k == 1 || k == 2 || k == 3
def real (l : List Int) : List Int := l.filter (· != -1)
def blkD (bs : List Blk) (i : Int) : Blk := bs.getD i.toNat Blk.zero
def inB (bs : List Blk) (i : Int) : Bool := decide (0 ≤ i) && decide (i < bs.length)
/-- The blocks that a File's node names. -/
def namesOf (bs : List Blk) (n : Nd) : List Int :=
 (if n.index == -1 then [] else n.index :: (if inB bs n.index then real ((takeIndex (blkD bs n.index)).getD []) else [])) ++ real n.direct
def named (bs : List Blk) (i : Nat) : List Int :=
 if (bs.getD i Blk.zero).kind = 1 then (match takeNode (bs.getD i Blk.zero) with | (n, true) => namesOf bs n | (_, false) => []) else []
/-- In use, as far as the blocks below k tell. -/
def usedUpto (bs : List Blk) (k j : Nat) : Bool :=
 (decide (j < k) && (j == 0 || isNode (bs.getD j Blk.zero).kind || (bs.getD j Blk.zero).kind == 6)) || (List.range k).any fun i => (named bs i).contains (j : Int)
def used (bs : List Blk) : List Bool := (List.range bs.length).map (usedUpto bs bs.length)
def firstOf (u : List Bool) : Int := match u.findIdx? (! ·) with | some j => j | none => -1
def markAll (u : List Bool) (l : List Int) : List Bool := l.foldl (fun u a => u.set a.toNat true) u
def first (bs : List Blk) (but : List Int) : Int := firstOf (markAll (used bs) but)
def left (bs : List Blk) : Nat := (used bs).countP (! ·)
end Go.Proofs.YtbbnejehglonjaaGreat
