/- DERIVED. Contracts and laws that the proofs of this seat share, part 2 of 36: LibC Ref1C BlkEq Ref1D. -/
import Derived.Lib.AppendStr
import Derived.Stop.BytesEq
import Derived.Test.YtbbnejehglonjaaGreatMh00
import Derived.Test.YtbbnejehglonjaaGreatMh01
namespace Go.Proofs.YtbbnejehglonjaaGreat
set_option maxHeartbeats 8000000
set_option maxRecDepth 100000
set_option linter.unusedSimpArgs false
set_option linter.unusedVariables false
section
open Go.RowKit

theorem BRow.mono {w : World} {B B' : Nat} {v : Value} {l : List UInt8} (h : BRow w B v l) (hb : B' ≤ B) : BRow w B' v l := by
 refine ⟨h.1, ?_⟩
 rcases h.2 with h' | ⟨g, cap, cur, h1, h2, h3⟩
 · exact .inl h'
 · exact .inr ⟨g, cap, cur, h1, Nat.le_trans hb h2, h3⟩
theorem BRow.drew {w : World} {B : Nat} {v : Value} {l : List UInt8} (h : BRow w B v l) : BRow w.drew B v l := h
theorem BRow.alloc {w : World} {B : Nat} {v : Value} {l : List UInt8} (h : BRow w B v l) (o : Obj) : BRow (w.alloc o) B v l := World.ownsRow.alloc h o
theorem BRow.form {w : World} {B : Nat} {v : Value} {l : List UInt8} (h : BRow w B v l) (hn : 0 < l.length) : ∃ g cap, v = .slice (some ⟨g, 0, none⟩) l.length cap ∧ B ≤ g ∧ g < w.heap.size := World.ownsRow.form h hn
theorem BRow.nil (w : World) (B : Nat) : BRow w B (.slice none 0 0) [] := World.ownsRow_nil w B 5 1
theorem BRow.lit {w : World} {B g : Nat} {x : Int} (c : UInt8) (hx : x = (c.toNat : Int)) (h : objAt w g = some (.cells #[.int .u8 x] 5 (0, 0))) (hb : B ≤ g) : BRow w B (.slice (some ⟨g, 0, none⟩) 1 1) [c] := by
 subst hx
 exact ⟨rfl, .inr ⟨g, 1, #[.int .u8 c.toNat], rfl, hb, h, Nat.le_refl _, by decide, rfl, rfl⟩⟩
theorem BRow.bytesAt {w : World} {B : Nat} {a : Option Addr} {n cap : Nat} {l : List UInt8} (h : BRow w B (.slice a n cap) l) : BytesAt w a l ∧ n = l.length := by
 obtain ⟨a', cap', he, hb⟩ := h.bytes
 simp only [Value.slice.injEq] at he
 obtain ⟨rfl, rfl, rfl⟩ := he
 exact ⟨hb, rfl⟩

theorem infoByte : ∃ i z, Tryz.prog.info? 5 = some i ∧ i.zero = some z ∧ i.size = 1 ∧ i.bytes = 1 ∧ z.cells.size = 1 := elemByte.info

theorem run_appB {w : World} {base : Nat} {v : Value} {xs : List UInt8} (hown : BRow w base v xs) {b2 : Nat} {u : Value} {ys : List UInt8} (hu : BRow w b2 u ys) (hys : 0 < ys.length) (hsz : xs.length + ys.length < 2000000000)
 (hbase : base ≤ w.heap.size) (ty : TypeId) :
 ∃ g cap w', (Builtin.append_ #[22, 22] ty #[v, u]).run Tryz.prog w = .ok (.slice (some ⟨g, 0, none⟩) (xs.length + ys.length) cap) w' ∧ BRow w' base (.slice (some ⟨g, 0, none⟩) (xs.length + ys.length) cap) (xs ++ ys) ∧
   w.grownBy w' v.ownBlock ∧ Below base w w' := by
 obtain ⟨g2, cap2, rfl, _, _⟩ := hu.form hys
 obtain ⟨i, z, hi, hz, hs, hby, hzs⟩ := infoByte
 obtain ⟨g, cap, w', h1, h2, h3, _, _⟩ := run_append_lies (P := Tryz.prog) w 22 ty base 5 i z 1 1 Tryz.underlying22 hi hz hs hby hzs (by decide) v xs.length _ hown ⟨g2, 0, none⟩ ys.length cap2 (ys.map fun c => Value.int .u8 c.toNat)
  (by simp) (World.ownsRow.cells hu (g := g2) rfl) (by intro x hx; simp only [List.mem_map] at hx; obtain ⟨c, _, rfl⟩ := hx; rfl) hys (by unfold maxLen; omega) (by omega) hbase w.heap.size rfl
 refine ⟨g, cap, w', h1, ?_, h3, (Below.refl base w).grown h3 hbase (fun k hk => (World.ownsRow.lt hown k hk).1)⟩
 unfold BRow
 rw [List.length_append, List.map_append]; exact h2

theorem run_appS {w : World} {base : Nat} {v : Value} {xs : List UInt8} (hown : BRow w base v xs) (s : ByteArray) (hxs : 0 < xs.length) (hsz : xs.length + s.size < 2000000000)
 (hbase : base ≤ w.heap.size) (ty : TypeId) :
 ∃ g cap w', (Builtin.append_ #[22, 9] ty #[v, .string s]).run Tryz.prog w = .ok (.slice (some ⟨g, 0, none⟩) (xs.length + s.size) cap) w' ∧ BRow w' base (.slice (some ⟨g, 0, none⟩) (xs.length + s.size) cap) (xs ++ s.data.toList) ∧
   w.grownBy w' v.ownBlock ∧ Below base w w' := by
 obtain ⟨i, z, hi, hz, hs, hby, hzs⟩ := infoByte
 have hz' : i.zero = some (.int .u8 0) := by
  have : (Tryz.prog.info? 5).map (·.zero) = some (some (.int .u8 0)) := by kernel_rfl
  rw [hi] at this; simpa using this
 obtain ⟨v', w', h1, h2, h3, _⟩ := Lib.run_append_own_string (P := Tryz.prog) w base 22 9 ty 5 i Tryz.underlying22 Tryz.underlying9 hi hz' hs hby v xs.length _ hown s (by unfold maxLen; omega) (by omega) hbase
 have hcells : Lib.strCells s = s.data.toList.map fun c => Value.int .u8 c.toNat := by
  unfold Lib.strCells; rfl
 have hB : BRow w' base v' (xs ++ s.data.toList) := by
  unfold BRow
  rw [List.length_append, List.map_append, ← hcells, show s.data.toList.length = s.size by simp]; exact h2
 obtain ⟨g, cap, rfl, _, _⟩ := hB.form (by rw [List.length_append]; omega)
 rw [List.length_append, show s.data.toList.length = s.size by simp] at h1 hB
 exact ⟨g, cap, w', h1, hB, h3, (Below.refl base w).grown h3 hbase (fun k hk => (World.ownsRow.lt hown k hk).1)⟩

section
variable {ops : Array Oper} {o : Oper} {a : Act} {w : World} {K : Act → World → Prop} {Q : Exit → Act → World → Prop} {F : Prop} {rest : List Oper}
theorem wp_appB (s x : Operand) (ho : o.op = .call { callee := .builtin .append, args := #[s, x], argTypes := #[22, 22] })
 {base : Nat} {v : Value} {xs : List UInt8} (hs : a.eval s = v) (hown : BRow w base v xs) {b2 : Nat} {u : Value} {ys : List UInt8} (hx : a.eval x = u) (hu : BRow w b2 u ys) (hys : 0 < ys.length) (m : Nat) (hm : xs.length + ys.length = m) (hsz : m < 2000000000) (hbase : base ≤ w.heap.size)
 (h : ∀ g cap w', BRow w' base (.slice (some ⟨g, 0, none⟩) m cap) (xs ++ ys) → w.grownBy w' v.ownBlock → Below base w w' → K (a.put o.dst (.slice (some ⟨g, 0, none⟩) m cap)) w') :
 o.wp Tryz.prog a w K Q := by
 subst hm
 obtain ⟨g, cap, w', hr, h2, h3, h4⟩ := run_appB hown hu hys hsz hbase o.type
 unfold Oper.wp execOp
 simp only [ho, resolve, invoke, builtin, Sem.run_bind, Sem.run_pure, Result.andThen_ok, List.map_toArray, List.map_cons, List.map_nil, hs, hx, hr]
 exact h g cap w' h2 h3 h4
theorem wp_appS (s x : Operand) (ho : o.op = .call { callee := .builtin .append, args := #[s, x], argTypes := #[22, 9] })
 {base : Nat} {v : Value} {xs : List UInt8} (hs : a.eval s = v) (hown : BRow w base v xs) (t : ByteArray) (hx : a.eval x = .string t) (hxs : 0 < xs.length) (m : Nat) (hm : xs.length + t.size = m) (hsz : m < 2000000000) (hbase : base ≤ w.heap.size)
 (h : ∀ g cap w', BRow w' base (.slice (some ⟨g, 0, none⟩) m cap) (xs ++ t.data.toList) → w.grownBy w' v.ownBlock → Below base w w' → K (a.put o.dst (.slice (some ⟨g, 0, none⟩) m cap)) w') :
 o.wp Tryz.prog a w K Q := by
 subst hm
 obtain ⟨g, cap, w', hr, h2, h3, h4⟩ := run_appS hown t hxs hsz hbase o.type
 unfold Oper.wp execOp
 simp only [ho, resolve, invoke, builtin, Sem.run_bind, Sem.run_pure, Result.andThen_ok, List.map_toArray, List.map_cons, List.map_nil, hs, hx, hr]
 exact h g cap w' h2 h3 h4
theorem step_appB (hgd : o.guard = none) (s x : Operand) (ho : o.op = .call { callee := .builtin .append, args := #[s, x], argTypes := #[22, 22] })
 {base : Nat} {v : Value} {xs : List UInt8} (hs : a.eval s = v) (hown : BRow w base v xs) {b2 : Nat} {u : Value} {ys : List UInt8} (hx : a.eval x = u) (hu : BRow w b2 u ys) (hys : 0 < ys.length) (m : Nat) (hm : xs.length + ys.length = m) (hsz : m < 2000000000) (hbase : base ≤ w.heap.size)
 (h : ∀ g cap w', BRow w' base (.slice (some ⟨g, 0, none⟩) m cap) (xs ++ ys) → w.grownBy w' v.ownBlock → Below base w w' → K (a.put o.dst (.slice (some ⟨g, 0, none⟩) m cap)) w') :
 if Region.wanted o (yielded ops a.tmps) = true then Oper.wp Tryz.prog o a w K Q else F := by
 have hw : Region.wanted o (yielded ops a.tmps) = true := by simp [Region.wanted, hgd]
 rw [if_pos hw]
 exact wp_appB s x ho hs hown hx hu hys m hm hsz hbase h
theorem step_appS (hgd : o.guard = none) (s x : Operand) (ho : o.op = .call { callee := .builtin .append, args := #[s, x], argTypes := #[22, 9] })
 {base : Nat} {v : Value} {xs : List UInt8} (hs : a.eval s = v) (hown : BRow w base v xs) (t : ByteArray) (hx : a.eval x = .string t) (hxs : 0 < xs.length) (m : Nat) (hm : xs.length + t.size = m) (hsz : m < 2000000000) (hbase : base ≤ w.heap.size)
 (h : ∀ g cap w', BRow w' base (.slice (some ⟨g, 0, none⟩) m cap) (xs ++ t.data.toList) → w.grownBy w' v.ownBlock → Below base w w' → K (a.put o.dst (.slice (some ⟨g, 0, none⟩) m cap)) w') :
 if Region.wanted o (yielded ops a.tmps) = true then Oper.wp Tryz.prog o a w K Q else F := by
 have hw : Region.wanted o (yielded ops a.tmps) = true := by simp [Region.wanted, hgd]
 rw [if_pos hw]
 exact wp_appS s x ho hs hown t hx hxs m hm hsz hbase h
theorem list_appB (hgd : o.guard = none) (s x : Operand) (ho : o.op = .call { callee := .builtin .append, args := #[s, x], argTypes := #[22, 22] })
 {base : Nat} {v : Value} {xs : List UInt8} (hs : a.eval s = v) (hown : BRow w base v xs) {b2 : Nat} {u : Value} {ys : List UInt8} (hx : a.eval x = u) (hu : BRow w b2 u ys) (hys : 0 < ys.length) (m : Nat) (hm : xs.length + ys.length = m) (hsz : m < 2000000000) (hbase : base ≤ w.heap.size)
 (h : ∀ g cap w', BRow w' base (.slice (some ⟨g, 0, none⟩) m cap) (xs ++ ys) → w.grownBy w' v.ownBlock → Below base w w' → wpList Tryz.prog ops Q rest (a.put o.dst (.slice (some ⟨g, 0, none⟩) m cap)) w') :
 wpList Tryz.prog ops Q (o :: rest) a w :=
 wpList_plain hgd fun _ hK => wp_appB s x ho hs hown hx hu hys m hm hsz hbase fun g cap w' h1 h2 h3 => hK _ _ (h g cap w' h1 h2 h3)
end

theorem High_lit (v k : Int) (n : Nat) (w : World) (hk : k = n) (hn0 : 0 < n) (hn : n ≤ 100) (h0 : 0 ≤ v) (h1 : v ≤ 18446744073709551615) :
 Calls Tryz.prog 141 #[.int .u64 v, .int .i64 k] w fun e w' => (∃ g cap, e = .returned (.slice (some ⟨g, 0, none⟩) n cap) ∧ BRow w' w.heap.size (.slice (some ⟨g, 0, none⟩) n cap) (high v.toNat n)) ∧ Below w.heap.size w w' := by
 subst hk
 refine (High_any v n w h0 h1 hn).mono ?_
 rintro e w' ⟨⟨r, rfl, hb⟩, hbel⟩
 obtain ⟨g, cap, rfl, _, _⟩ := hb.form (by rw [high_length]; exact hn0)
 rw [high_length] at hb ⊢
 exact ⟨⟨g, cap, rfl, hb⟩, hbel⟩
end
section
open Go.RowKit
attribute [local irreducible] Calls
def ats (l : List Int) : List UInt8 := l.flatMap fun a => high (a + 1).toNat 2
def nodeHead (n : Nd) : List UInt8 := high n.gen.toNat 4 ++ high n.links.toNat 2 ++ high n.size.toNat 4
def nodeBytes (n : Nd) : List UInt8 := nodeHead n ++ ats n.direct ++ high (n.index + 1).toNat 2 ++ [UInt8.ofNat n.target.size] ++ n.target.data.toList
def putNode (kind : Int) (n : Nd) : Blk × Bool := if mayNode kind n = true then (Blk.of kind (nodeBytes n), true) else (Blk.zero, false)

theorem ats_length (l : List Int) : (ats l).length = 2 * l.length := by
 induction l with
 | nil => rfl
 | cons a l ih => simp only [ats, List.flatMap_cons, List.length_append, high_length, List.length_cons] at ih ⊢; omega
theorem ats_succ {l : List Int} {k : Nat} (h : k < l.length) : ats (l.take (k + 1)) = ats (l.take k) ++ high (l.getD k 0 + 1).toNat 2 := by
 rw [List.take_succ_eq_append_getElem h]
 simp only [ats, List.flatMap_append, List.flatMap_cons, List.flatMap_nil, List.append_nil, List.getD_eq_getElem?_getD, List.getElem?_eq_getElem h, Option.getD_some]

theorem okNew_bounds {pre : List Int} {a : Int} (h : okNew pre a = true) : -1 ≤ a ∧ a < 200 := by
 simp only [okNew, okAt, Bool.or_eq_true, Bool.and_eq_true, decide_eq_true_eq, beq_iff_eq] at h
 omega
theorem placesOk_bounds {l : List Int} (h : placesOk l = true) (k : Nat) (hk : k < l.length) : -1 ≤ l.getD k 0 ∧ l.getD k 0 < 200 := okNew_bounds (placesOk_iff.1 h k hk)
theorem mayTarget_le {t : ByteArray} (h : mayTarget t.data.toList = true) : t.size ≤ 32 := by
 simp only [mayTarget, Bool.and_eq_true, decide_eq_true_eq] at h
 have := h.2
 simpa using this
structure Nd.small (n : Nd) : Prop where
 gen : 1 ≤ n.gen
 links0 : 0 ≤ n.links
 links1 : n.links ≤ 1000
 size0 : 0 ≤ n.size
 size1 : n.size ≤ 1120
 target : n.target.size ≤ 32
 place : ∀ k, k < 5 → -1 ≤ n.places.getD k 0 ∧ n.places.getD k 0 < 200
theorem mayNode_small {kind : Int} {n : Nd} (h : mayNode kind n = true) : n.small := by
 simp only [mayNode, Bool.and_eq_true, decide_eq_true_eq] at h
 obtain ⟨⟨⟨⟨h1, h2⟩, h3⟩, h4⟩, h5⟩ := h
 have hp : ∀ k, k < 5 → -1 ≤ n.places.getD k 0 ∧ n.places.getD k 0 < 200 := fun k hk => placesOk_bounds h4 k hk
 have hempty : n.target.data.toList.isEmpty = true → n.target.size ≤ 32 := fun h => by
  have h' : n.target.data.toList.length = 0 := by rw [List.isEmpty_iff.1 h]; rfl
  have h'' : n.target.data.toList.length = n.target.size := by simp
  omega
 unfold kindOk at h5
 split at h5
 · simp only [Bool.and_eq_true, decide_eq_true_eq] at h5
   exact ⟨h1, h2, h3, h5.1.1, h5.1.2, hempty h5.2, hp⟩
 · split at h5
   · simp only [Bool.and_eq_true, decide_eq_true_eq] at h5
     exact ⟨h1, h2, h3, by omega, by omega, hempty h5.1.2, hp⟩
   · split at h5
     · simp only [Bool.and_eq_true, decide_eq_true_eq] at h5
       have := mayTarget_le h5.1.2
       exact ⟨h1, h2, h3, by omega, by omega, this, hp⟩
     · cases h5

theorem hasBlk_keep {B : Nat} {w w' : World} {g : Nat} (h : hasBlk w g = true) (hb : Below B w w') (hg : g < B) : hasBlk w' g = true := by
 unfold hasBlk rowAt at *
 rw [hb.block g hg]; exact h
theorem BlkAt.has {w : World} {g : Nat} {b : Blk} (h : BlkAt w g b) : hasBlk w g = true := by
 unfold hasBlk; rw [h.row]; simp [b.size_cells]

theorem hasBlk_drew {w : World} {g : Nat} (h : hasBlk w g = true) : hasBlk w.drew g = true := h
theorem hasBlk_alloc {w : World} {g : Nat} (h : hasBlk w g = true) (o : Obj) : hasBlk (w.alloc o) g = true := by
 obtain ⟨c, hc, hs⟩ := hasBlk_some h
 obtain ⟨t, ht⟩ := heap_rowAt hc
 unfold hasBlk; rw [rowAt_alloc_past _ _ _ (block_lt ht)]; exact h
theorem rowAt_setRow {w : World} {g : Nat} (h : hasBlk w g = true) (c : Array Value) : rowAt (w.setRow g c) g = some c := by
 obtain ⟨c', hc, hs⟩ := hasBlk_some h
 obtain ⟨t, ht⟩ := heap_rowAt hc
 exact rowAt_heap (setRow_heap w g _ c t _ ht)
theorem hasBlk_setRow {w : World} {g : Nat} (h : hasBlk w g = true) (b : Blk) : hasBlk (w.setRow g b.cells) g = true := by
 unfold hasBlk; rw [rowAt_setRow h]; simp [b.size_cells]
theorem keep_alloc {B : Nat} {x w : World} (h : Below B x w) (hB : B ≤ x.heap.size) (o : Obj) : Below B x (w.alloc o) := h.alloc (Nat.le_trans hB h.size) o
theorem keep_trans {B C : Nat} {x w w' : World} (h : Below B x w) (k : Below C w w') (hc : B ≤ C) : Below B x w' := h.trans (k.mono hc)
theorem keep_call {B : Nat} {x w w' : World} (h : Below B x w) (k : Below w.heap.size w w') (hc : B ≤ x.heap.size) : Below B x w' := h.trans (k.mono (Nat.le_trans hc h.size))
theorem hasBlk_call {w w' : World} {g : Nat} (h : hasBlk w g = true) (k : Below w.heap.size w w') : hasBlk w' g = true := by
 obtain ⟨c, hc, hs⟩ := hasBlk_some h
 obtain ⟨t, ht⟩ := heap_rowAt hc
 exact hasBlk_keep h k (block_lt ht)
theorem body_row (kind : Int) {B g n cap : Nat} {l : List UInt8} {w : World} (h : BRow w B (.slice (some ⟨g, 0, none⟩) n cap) l) (hl : l.length ≤ 1000) :
 Calls Tryz.prog 142 #[.int .i64 kind, .slice (some ⟨g, 0, none⟩) n cap] w fun e w' => e = .returned (.agg (Blk.of kind l).cells) ∧ Below w.heap.size w w' := by
 obtain ⟨hb, rfl⟩ := h.bytesAt
 exact body_any kind _ l cap w hb hl

theorem PutNode_any (kind : Int) (n : Nd) (w : World) (hn : n.wf) :
 Calls Tryz.prog 82 #[.int .i64 kind, .agg n.cells] w fun e w' => e = .returned (.tuple #[.agg (putNode kind n).1.cells, .bool (putNode kind n).2]) ∧ Below w.heap.size w w' := by
 obtain ⟨N, hN⟩ : ∃ N, N = n := ⟨n, rfl⟩
 rw [← hN]
 have HN := Lib.hid hN
 have Hwf := Lib.hid hn
 clear hN hn
 obtain ⟨gen, links, size, d0, d1, d2, d3, index, t⟩ := n
 rw [show N.cells = #[.int .u32 gen, .int .i64 links, .int .i64 size, .int .i64 d0, .int .i64 d1, .int .i64 d2, .int .i64 d3, .int .i64 index, .string t] by rw [HN.out]; rfl]
 go_enter Tryz.func82, Tryz.ntmps82
 go_wp2_with fail
 have hm := MayNode_any kind N ((w.alloc (.cells #[.int .u32 gen, .int .i64 links, .int .i64 size, .int .i64 d0, .int .i64 d1, .int .i64 d2, .int .i64 d3, .int .i64 index, .string t] 165)).alloc (.cells Blk.zero.cells 37)) (by rw [HN.out]; exact Hwf.out)
 rw [show N.cells = #[.int .u32 gen, .int .i64 links, .int .i64 size, .int .i64 d0, .int .i64 d1, .int .i64 d2, .int .i64 d3, .int .i64 index, .string t] by rw [HN.out]; rfl] at hm
 have hA : BlkAt ((w.alloc (.cells #[.int .u32 gen, .int .i64 links, .int .i64 size, .int .i64 d0, .int .i64 d1, .int .i64 d2, .int .i64 d3, .int .i64 index, .string t] 165)).alloc (.cells Blk.zero.cells 37)) (w.heap.size + 1) Blk.zero := by
  have := BlkAt.alloc_new (w.alloc (.cells #[.int .u32 gen, .int .i64 links, .int .i64 size, .int .i64 d0, .int .i64 d1, .int .i64 d2, .int .i64 d3, .int .i64 index, .string t] 165)) Blk.zero
  rwa [size_alloc] at this
 have hO : objAt ((w.alloc (.cells #[.int .u32 gen, .int .i64 links, .int .i64 size, .int .i64 d0, .int .i64 d1, .int .i64 d2, .int .i64 d3, .int .i64 index, .string t] 165)).alloc (.cells Blk.zero.cells 37)) w.heap.size = some (.cells #[.int .u32 gen, .int .i64 links, .int .i64 size, .int .i64 d0, .int .i64 d1, .int .i64 d2, .int .i64 d3, .int .i64 index, .string t] 165 (0, 0)) := by
  rw [objAt_alloc, if_neg (by simp), objAt_alloc, if_pos rfl]
 have hB : Below w.heap.size w ((w.alloc (.cells #[.int .u32 gen, .int .i64 links, .int .i64 size, .int .i64 d0, .int .i64 d1, .int .i64 d2, .int .i64 d3, .int .i64 index, .string t] 165)).alloc (.cells Blk.zero.cells 37)) :=
  ((Below.refl _ _).alloc (Nat.le_refl _) _).alloc (by rw [size_alloc]; omega) _
 generalize (w.alloc (.cells #[.int .u32 gen, .int .i64 links, .int .i64 size, .int .i64 d0, .int .i64 d1, .int .i64 d2, .int .i64 d3, .int .i64 index, .string t] 165)).alloc (.cells Blk.zero.cells 37) = wa at *
 obtain ⟨G, hG⟩ : ∃ G, G = w.heap.size := ⟨_, rfl⟩
 rw [← hG] at hA hO ⊢
 have Hm := Lib.hid hm
 have HG := Lib.hid (And.intro hG (And.intro hA (And.intro hO hB)))
 clear hm hG hA hO hB
 generalize hmm : mayNode kind N = mm at Hm
 have Hmm := Lib.hid hmm
 clear hmm
 have hA1 : ∀ w1, Below wa.heap.size wa w1 → rowAt w1 (G + 1) = some Blk.zero.cells ∧ hasBlk w1 (G + 1) = true := fun w1 hb =>
  have h := BlkAt.below HG.out.2.1 hb (block_lt HG.out.2.1)
  ⟨h.row, h.has⟩
 cases mm
 · have Hp := Lib.hid (show putNode kind N = (Blk.zero, false) by unfold putNode; rw [Hmm.out]; rfl)
   go_wp2_with (go_at_call 140; refine Hm.out.mono ?_; rintro e w1 ⟨rfl, be1⟩; obtain ⟨hr, hh⟩ := hA1 w1 be1)
   have Hrow := (BlkAt.setRow (BlkAt.below HG.out.2.1 be1 (block_lt HG.out.2.1)) Blk.zero).row
   refine bodyPost_ret (results_two rfl (resOne_blk rfl Hrow) (resOne_tmp _ _ _)) rfl ?_
   exact ⟨by rw [Hp.out]; rfl, (grow_trans HG.out.2.2.2 be1).setRow (by rw [HG.out.1]; exact Nat.le_succ _) _⟩
 · have Hp := Lib.hid (show putNode kind N = (Blk.of kind (nodeBytes N), true) by unfold putNode; rw [Hmm.out]; rfl)
   have hs := mayNode_small Hmm.out
   obtain ⟨hg1, hl0, hl1, hz0, hz1, ht, hpl⟩ := (by rw [HN.out] at hs; exact hs : Nd.small ⟨gen, links, size, d0, d1, d2, d3, index, t⟩)
   dsimp only at hg1 hl0 hl1 hz0 hz1 ht
   have hg2 := Hwf.out.gen1
   dsimp only at hg2
   have Hpl := Lib.hid hpl
   clear hs hpl
   go_upto_region 3 with (first | (go_at_call 140; refine Hm.out.mono ?_; rintro e w1 ⟨rfl, be1⟩))
   have hO1 : objAt w1 G = _ := grow_obj be1 HG.out.2.2.1
   have hc0 : w1.cell? ⟨G, 0, none⟩ = some (.int .u32 gen) := by rw [cell_of_row w1 G 0 _ _ _ hO1]; rfl
   have hc1 : w1.cell? ⟨G, 1, none⟩ = some (.int .i64 links) := by rw [cell_of_row w1 G 1 _ _ _ hO1]; rfl
   have hc2 : w1.cell? ⟨G, 2, none⟩ = some (.int .i64 size) := by rw [cell_of_row w1 G 2 _ _ _ hO1]; rfl
   have u0 : IntKind.u64.wrap gen = gen := IntWalk.u64_in _ (by omega)
   have u1 : IntKind.u64.wrap links = links := IntWalk.u64_in _ (by omega)
   have u2 : IntKind.u64.wrap size = size := IntWalk.u64_in _ (by omega)
   have HO := Lib.hid hO1
   clear hO1 hA1
   go_cut [6] (fun s6 wx => ∃ g cap, s6 = .slice (some ⟨g, 0, none⟩) 10 cap ∧ BRow wx w1.heap.size s6 (nodeHead N) ∧ Below w1.heap.size w1 wx)
   case first =>
    have hS : ∀ w', Below w1.heap.size w1 w' → (w'.cell? ⟨G, 0, none⟩ = some (.int .u32 gen) ∧ w'.cell? ⟨G, 1, none⟩ = some (.int .i64 links) ∧ w'.cell? ⟨G, 2, none⟩ = some (.int .i64 size) ∧ Below w1.heap.size w1 w') :=
     fun w' hb => ⟨grow_cell hb hc0, grow_cell hb hc1, grow_cell hb hc2, hb⟩
    have hB0 := Below.refl w1.heap.size w1
    go_region_held3 (fun w' => w'.cell? ⟨G, 0, none⟩ = some (.int .u32 gen) ∧ w'.cell? ⟨G, 1, none⟩ = some (.int .i64 links) ∧ w'.cell? ⟨G, 2, none⟩ = some (.int .i64 size) ∧ Below w1.heap.size w1 w')
     (exact hS _ (by go_split_ands; first | assumption | (exact grow_drew (by assumption)) | (exact grow_alloc (by assumption) _) | (exact grow_trans (by assumption) b1) | (exact grow_trans (by assumption) b2) | (exact Below.trans (by assumption) b3) | (exact grow_trans (by assumption) b4) | (exact Below.trans (by assumption) b5)))
     (first | (go_at_call 141; refine (High_lit gen 4 4 _ rfl (by decide) (by decide) (by omega) (by omega)).mono ?_; rintro e x1 ⟨⟨p1, q1, rfl, r1⟩, b1⟩; replace r1 := BRow.mono r1 (B' := w1.heap.size) (by go_split_ands; exact grow_le (by assumption))) | (go_at_call 141; refine (High_lit links 2 2 _ rfl (by decide) (by decide) (by omega) (by omega)).mono ?_; rintro e x2 ⟨⟨p2, q2, rfl, r2⟩, b2⟩) | (go_at_call 141; refine (High_lit size 4 4 _ rfl (by decide) (by decide) (by omega) (by omega)).mono ?_; rintro e x4 ⟨⟨p4, q4, rfl, r4⟩, b4⟩) | ((refine step_at 21 ?_; have rr := r1.below b2; refine step_appB (by rfl) (.tmp 16) (.tmp 20) (by rfl) (base := w1.heap.size) (by rfl) rr (by rfl) r2 (by simp [high_length]) 6 (by simp [high_length]) (by decide) (by go_split_ands; exact grow_le (by assumption)) ?_; intro p3 q3 x3 r3 h3 b3)) | ((refine step_at 26 ?_; refine step_appB (by rfl) (.tmp 21) (.tmp 25) (by rfl) (base := w1.heap.size) (by rfl) (r3.below b4) (by rfl) r4 (by simp [high_length]) 10 (by simp [high_length]) (by decide) (by go_split_ands; exact grow_le (by assumption)) ?_; intro p5 q5 x5 r5 h5 b5; have hfin : Below w1.heap.size w1 x5 := Below.trans (by go_split_ands; assumption) b5)))
    all_goals go_wp2_with fail
    all_goals go_meet
    all_goals
     refine ⟨p5, q5, rfl, ?_, hfin⟩
     have hh : nodeHead N = high gen.toNat 4 ++ high links.toNat 2 ++ high size.toNat 4 := by rw [HN.out]; rfl
     rw [hh]
     exact r5
   case rest =>
    obtain ⟨g, cap, rfl, hrow, hbel⟩ := hcut
    clear hc0 hc1 hc2 u0 u1 u2
    have hnl : (nodeHead N).length = 10 := by simp [nodeHead, high_length]
    have Hnl := Lib.hid hnl
    clear hnl
    go_wp2_with fail
    go_loopw [6, 7] (fun s6 s7 wr => ∃ k : Nat, k ≤ 4 ∧ s7 = .int .i64 k ∧ (∃ g cap, s6 = .slice (some ⟨g, 0, none⟩) (10 + 2 * k) cap ∧ BRow wr w1.heap.size s6 (nodeHead N ++ ats (N.direct.take k))) ∧ Below w1.heap.size w1 wr) (fun _ i _ => 4 - (intOf i).toNat)
    case atStart => exact ⟨0, Nat.zero_le _, rfl, ⟨g, cap, rfl, by simpa [ats] using hrow⟩, hbel⟩
    case round =>
     clear hrow hbel
     obtain ⟨k, hk, rfl, ⟨g, cap, rfl, hrow⟩, hbel⟩ := hrel
     by_cases hlt : k < 4
     · obtain ⟨d, hd⟩ : ∃ d, d = N.direct.getD k 0 := ⟨_, rfl⟩
       have hdp : d = N.places.getD k 0 := by
        rw [hd, HN.out]
        match k, hlt with
        | 0, _ => rfl
        | 1, _ => rfl
        | 2, _ => rfl
        | 3, _ => rfl
       have hdb := Hpl.out k (by omega)
       rw [← HN.out, ← hdp] at hdb
       obtain ⟨hd0, hd1⟩ := hdb
       have hcell : wr.cell? ⟨G, 3 + k, none⟩ = some (.int .i64 d) := by
        rw [cell_of_row wr G (3 + k) _ _ _ (grow_obj hbel HO.out), hd, HN.out]
        match k, hlt with
        | 0, _ => rfl
        | 1, _ => rfl
        | 2, _ => rfl
        | 3, _ => rfl
       have u0 : IntKind.u64.wrap (d + 1) = d + 1 := IntWalk.u64_in _ (by omega)
       have Hat := Lib.hid (ats_succ (l := N.direct) (k := k) (by simp [Nd.direct]; omega))
       have hal : (ats (N.direct.take k)).length = 2 * k := by rw [ats_length, List.length_take]; simp [Nd.direct]; omega
       have Hal := Lib.hid hal
       have Hd := Lib.hid hd
       have Hrow := Lib.hid hrow
       have Hbel := Lib.hid hbel
       clear hd hdp hal hrow hbel
       go_wp2_with (first | (go_at_call 141; refine (High_lit (d + 1) 2 2 _ rfl (by decide) (by decide) (by omega) (by omega)).mono ?_; rintro e x1 ⟨⟨p1, q1, rfl, r1⟩, b1⟩) | (at_builtin; refine list_appB rfl _ _ rfl rfl (Hrow.out.below b1) rfl r1 (by simp [high_length]) (10 + 2 * (k + 1)) (by rw [List.length_append, Hnl.out, Hal.out, high_length]; omega) (by omega) (Nat.le_trans Hbel.out.size b1.size) ?_; intro p2 q2 x2 r2 h2 b2))
       go_roundw
       case rel =>
        refine ⟨k + 1, by omega, by go_num, ⟨p2, q2, rfl, ?_⟩, (grow_trans Hbel.out b1).trans b2⟩
        rw [Hat.out, ← Hd.out, ← List.append_assoc]; exact r2
       case measure => simp [intOf]; omega
     · obtain rfl : k = 4 := by omega
       have hcell : wr.cell? ⟨G, 7, none⟩ = some (.int .i64 index) := by
        rw [cell_of_row wr G 7 _ _ _ (grow_obj hbel HO.out)]; rfl
       have hdb := Hpl.out 4 (by omega)
       have hdb' : -1 ≤ index ∧ index < 200 := hdb
       obtain ⟨hd0, hd1⟩ := hdb'
       have u0 : IntKind.u64.wrap (index + 1) = index + 1 := IntWalk.u64_in _ (by omega)
       have hal : (ats (N.direct.take 4)).length = 8 := by rw [ats_length, List.length_take]; simp [Nd.direct]
       have Hal := Lib.hid hal
       have Hrow := Lib.hid hrow
       have Hbel := Lib.hid hbel
       clear hdb hal hrow hbel
       go_upto_region 9 with (first | (go_at_call 141; refine (High_lit (index + 1) 2 2 _ rfl (by decide) (by decide) (by omega) (by omega)).mono ?_; rintro e x1 ⟨⟨p1, q1, rfl, r1⟩, b1⟩) | (at_builtin; refine list_appB rfl _ _ rfl rfl (Hrow.out.below b1) rfl r1 (by simp [high_length]) 20 (by rw [List.length_append, Hnl.out, Hal.out, high_length]) (by decide) (Nat.le_trans Hbel.out.size b1.size) ?_; intro p2 q2 x2 r2 h2 b2))
       have hb2 := (grow_trans Hbel.out b1).trans b2
       clear hcell Hrow Hbel b1 b2 r1 h2
       have hO2 := grow_obj hb2 HO.out
       have hc8 : x2.cell? ⟨G, 8, none⟩ = some (.string t) := by rw [cell_of_row x2 G 8 _ _ _ hO2]; rfl
       have hblk : BlkAt x2 (G + 1) Blk.zero := BlkAt.below (BlkAt.below HG.out.2.1 be1 (block_lt HG.out.2.1)) hb2 (Nat.lt_of_lt_of_le (block_lt HG.out.2.1) be1.size)
       have hG1 : G + 1 < x2.heap.size := block_lt hblk
       have hG2 : G + 1 < w1.heap.size := Nat.lt_of_lt_of_le (block_lt HG.out.2.1) be1.size
       have hhas := hblk.has
       have u3 : IntKind.u8.wrap (t.size : Int) = t.size := IntWalk.u8_in _ (by omega)
       have Hu := Lib.hid (show ((t.size : Nat) : Int) = ((UInt8.ofNat t.size).toNat : Int) by rw [UInt8.toNat_ofNat', Nat.mod_eq_of_lt (by omega)])
       have HX := Lib.hid (And.intro hb2 (And.intro hG1 hG2))
       have hl18 : (nodeHead N ++ ats (N.direct.take 4) ++ high (index + 1).toNat 2).length = 20 := by rw [List.length_append, List.length_append, Hnl.out, Hal.out, high_length]
       have Hl := Lib.hid hl18
       have Hr2 := Lib.hid r2
       have Hnb := Lib.hid (show nodeBytes N = nodeHead N ++ ats (N.direct.take 4) ++ high (index + 1).toNat 2 ++ UInt8.ofNat t.size :: t.data.toList by
        have h1 : N.direct.take 4 = N.direct := by rw [HN.out]; rfl
        have h2 : N.index = index := by rw [HN.out]
        have h3 : N.target = t := by rw [HN.out]
        rw [h1]; unfold nodeBytes; rw [h2, h3, List.append_assoc _ [UInt8.ofNat t.size], List.singleton_append])
       clear hO2 hblk hb2 hG1 hG2 hl18 r2 u0
       generalize nodeHead N ++ ats (N.direct.take 4) ++ high (index + 1).toNat 2 = L at *
       have hS : ∀ w', Below (G + 1) x2 w' → hasBlk w' (G + 1) = true → (w'.cell? ⟨G, 8, none⟩ = some (.string t) ∧ hasBlk w' (G + 1) = true ∧ Below (G + 1) x2 w') :=
        fun w' hb hh => ⟨(hb.cell (Nat.lt_succ_self G)).trans hc8, hh, hb⟩
       have hB0 := Below.refl (G + 1) x2
       go_region_held3 (fun w' => w'.cell? ⟨G, 8, none⟩ = some (.string t) ∧ hasBlk w' (G + 1) = true ∧ Below (G + 1) x2 w')
        (exact hS _ (by go_split_ands; first | assumption | (exact Below.drew (by assumption)) | (exact keep_alloc (by assumption) (Nat.le_of_lt HX.out.2.1) _) | (exact keep_trans (by assumption) b3 (Nat.le_of_lt HX.out.2.2)) | (exact keep_trans (by assumption) b4 (Nat.le_of_lt HX.out.2.2)) | (exact keep_call (by assumption) b5 (Nat.le_of_lt HX.out.2.1)) | (exact Below.setRow (by assumption) (Nat.le_refl _) _)) (by go_split_ands; first | assumption | (exact hasBlk_drew (by assumption)) | (exact hasBlk_alloc (by assumption) _) | (exact hasBlk_keep (by assumption) b3 HX.out.2.2) | (exact hasBlk_keep (by assumption) b4 HX.out.2.2) | (exact hasBlk_call (by assumption) b5) | (exact hasBlk_setRow (by assumption) _)))
        (first | ((refine step_at 54 ?_; refine step_appB (by rfl) (.tmp 48) (.tmp 53) (by rfl) (base := w1.heap.size) (xs := L) (ys := [UInt8.ofNat t.size]) (by rfl) (BRow.drew (BRow.alloc Hr2.out _)) (b2 := 0) (by rfl) (BRow.lit (g := x2.heap.size) (x := (t.size : Int)) (UInt8.ofNat t.size) Hu.out (by simp [objAt_alloc, objAt_drew]) (Nat.zero_le _)) (by simp) 21 (by rw [Hl.out]; rfl) (by decide) (by go_split_ands; exact Nat.le_trans HX.out.1.size (grow_le (by assumption))) ?_; intro p3 q3 x3 r3 h3 b3)) | ((refine step_at 54 ?_; refine step_appB (by rfl) (.tmp 48) (.tmp 53) (by rfl) (base := w1.heap.size) (xs := L) (ys := [UInt8.ofNat t.size]) (by rfl) (BRow.alloc Hr2.out _) (b2 := 0) (by rfl) (BRow.lit (g := x2.heap.size) (x := (t.size : Int)) (UInt8.ofNat t.size) Hu.out (by simp [objAt_alloc, objAt_drew]) (Nat.zero_le _)) (by simp) 21 (by rw [Hl.out]; rfl) (by decide) (by go_split_ands; exact Nat.le_trans HX.out.1.size (grow_le (by assumption))) ?_; intro p3 q3 x3 r3 h3 b3)) | ((refine step_at 54 ?_; refine step_appB (by rfl) (.tmp 48) (.tmp 53) (by rfl) (base := w1.heap.size) (xs := L) (ys := [UInt8.ofNat t.size]) (by rfl) (BRow.alloc (BRow.drew Hr2.out) _) (b2 := 0) (by rfl) (BRow.lit (g := x2.heap.size) (x := (t.size : Int)) (UInt8.ofNat t.size) Hu.out (by simp [objAt_alloc, objAt_drew]) (Nat.zero_le _)) (by simp) 21 (by rw [Hl.out]; rfl) (by decide) (by go_split_ands; exact Nat.le_trans HX.out.1.size (grow_le (by assumption))) ?_; intro p3 q3 x3 r3 h3 b3)) | ((refine step_at 57 ?_; refine step_appS (by rfl) (.tmp 54) (.tmp 56) (by rfl) (base := w1.heap.size) (by rfl) r3 t (by rfl) (by simp) (21 + t.size) (by rw [List.length_append, Hl.out]; rfl) (by omega) (by go_split_ands; exact Nat.le_trans HX.out.1.size (grow_le (by assumption))) ?_; intro p4 q4 x4 r4 h4 b4)) | (go_at_call 142; refine (body_row kind r4 (by rw [List.length_append, List.length_append, Hl.out]; simp; omega)).mono ?_; rintro e x5 ⟨rfl, b5⟩; have hfin := keep_call (B := G + 1) (x := x2) (w := x4) (by go_split_ands; assumption) b5 (Nat.le_of_lt HX.out.2.1); have hfin2 := hasBlk_call (g := G + 1) (w := x4) (by go_split_ands; assumption) b5))
       all_goals go_wp2_with fail
       all_goals
        refine bodyPost_ret (results_two rfl (resOne_blk rfl (rowAt_setRow hfin2 _)) (resOne_tmp _ _ _)) rfl ?_
        refine ⟨by rw [Hp.out, Hnb.out]; rfl, ?_⟩
        refine Below.setRow ?_ (by rw [HG.out.1]; exact Nat.le_succ _) _
        exact ((grow_trans (grow_trans HG.out.2.2.2 be1) HX.out.1)).trans (hfin.mono (by rw [HG.out.1]; exact Nat.le_succ _))
end
section
open Go.RowKit
attribute [local go_sem] hasBlk
theorem blk_fields : ((Tryz.prog.fieldsOf 37).toList.map fun f => (f.name, f.type, f.offset)) = [("Kind", 3, 0), ("Body", 35, 1)] := by kernel_rfl
theorem size_byte (w : World) : (sizeOf 5).run Tryz.prog w = .ok 1 w := by
 obtain ⟨i, z, hi, _, hs, _, _⟩ := elemByte.info
 simp [sizeOf, typeInfo, hi, hs]
theorem size_body (w : World) : (sizeOf 35).run Tryz.prog w = .ok 56 w := by
 have h : (Tryz.prog.info? 35).map (·.size) = some 56 := by kernel_rfl
 cases hi : Tryz.prog.info? 35 with
 | none => rw [hi] at h; cases h
 | some i =>
   rw [hi] at h
   have : i.size = 56 := by simpa using h
   simp [sizeOf, typeInfo, hi, this]
theorem Blk.cells_def (b : Blk) : b.cells = (Value.int .i64 b.kind :: b.body.map fun c => Value.int .u8 (c.toNat : Int)).toArray := by unfold Blk.cells; rfl
theorem part_kind (b : Blk) (w : World) : (part 3 b.cells 0).run Tryz.prog w = .ok (.int .i64 b.kind) w := by
 simp [part, isAgg, run_underlying Tryz.underlying3, Blk.cells_def]
theorem part_body (b : Blk) (w : World) : (part 35 b.cells 1).run Tryz.prog w = .ok (.agg (b.body.map Extern.Stop.cell).toArray) w := by
 have h : b.cells.extract 1 (1 + 56) = (b.body.map Extern.Stop.cell).toArray := by
  rw [Blk.cells_def]
  apply Array.ext'
  simp only [Array.toList_extract, List.extract_eq_take_drop, Nat.reduceAdd, Nat.reduceSub, List.drop_succ_cons, List.drop_zero]
  rw [List.take_of_length_le (by rw [List.length_map, b.len]; exact Nat.le_refl _)]
  rfl
 simp only [part, isAgg, Sem.run_bind, run_underlying Tryz.underlying35, Result.andThen_ok, Sem.run_pure, Sem.run_ite, if_true, size_body, h]

theorem run_eq_blk (w : World) (b c : Blk) : (Op.equalIn 10000 37 (.agg b.cells) (.agg c.cells)).run Tryz.prog w = .ok (decide (b = c)) w := by
 have ht : Tryz.prog.underlying 37 = some (.struct (Tryz.prog.fieldsOf 37)) := by
  unfold Program.fieldsOf; rw [Tryz.underlying37]
 rw [run_equalIn_struct w 9999 _ _ _ ht (by kernel_rfl)]
 have hf := blk_fields
 generalize (Tryz.prog.fieldsOf 37).toList = fs at hf
 obtain ⟨f, g, rfl⟩ : ∃ f g, fs = [f, g] := by
  have hl : fs.length = 2 := by have := congrArg List.length hf; simpa using this
  match fs, hl with
  | [f, g], _ => exact ⟨f, g, rfl⟩
 · simp only [List.map_cons, List.map_nil, List.cons.injEq, Prod.mk.injEq, and_true] at hf
   obtain ⟨⟨f1, f2, f3⟩, g1, g2, g3⟩ := hf
   simp only [Op.eqFields, f1, f2, f3, g1, g2, g3, Sem.run_ite, Sem.run_bind, part_kind, part_body, Result.andThen_ok]
   rw [run_equalIn_int w 9998 3 .i64 .i64 _ _ Tryz.underlying3]
   simp only [Result.andThen_ok]
   rw [run_equalIn_bytes w 9997 35 5 56 Tryz.underlying35 Tryz.underlying5 size_byte b.body c.body b.len c.len]
   by_cases hk : b.kind = c.kind
   · by_cases hb : b.body = c.body
     · have : b = c := Blk.ext' hk hb
       subst this
       simp
     · have : ¬ b = c := fun e => hb (by rw [e])
       simp [hk, hb, this]
   · have : ¬ b = c := fun e => hk (by rw [e])
     simp [hk, this]

theorem neq_blk (w : World) (b c : Blk) : (binOp .neq 37 (.agg b.cells) (.agg c.cells)).run Tryz.prog w = .ok (.bool (!decide (b = c))) w := by
 rw [run_neq_struct, run_eq_blk]; rfl
theorem eql_blk (w : World) (b c : Blk) : (binOp .eql 37 (.agg b.cells) (.agg c.cells)).run Tryz.prog w = .ok (.bool (decide (b = c))) w := by
 rw [run_eql_struct, run_eq_blk]; rfl
noncomputable def blkCmp (op : BinOp) (x y : Operand) (u v : Value) (w : World) : Result Value := Sem.run Tryz.prog (do eqGuard op 37 x y u v; binOp op 37 u v) w
@[go_sem] theorem cmp_neq (x y : Operand) (b c : Blk) (w : World) : blkCmp .neq x y (.agg b.cells) (.agg c.cells) w = .ok (.bool (!decide (b = c))) w := by
 unfold blkCmp
 rw [Sem.run_bind, run_eqGuard_agg w .neq _ x y _ _ (by kernel_rfl), Result.andThen_ok, neq_blk]
@[go_sem] theorem cmp_eql (x y : Operand) (b c : Blk) (w : World) : blkCmp .eql x y (.agg b.cells) (.agg c.cells) w = .ok (.bool (decide (b = c))) w := by
 unfold blkCmp
 rw [Sem.run_bind, run_eqGuard_agg w .eql _ x y _ _ (by kernel_rfl), Result.andThen_ok, eql_blk]
@[go_sem ↓] theorem exec_cmp_blk (ρ : Operand → Value) (w : World) (dst : Option Tmp) (op : BinOp) (x y : Operand) (z : TypeId) (ty : TypeId) (pos : String) (after : Array Edge) (gd : Option (Nat × Bool)) :
 (execOp ρ ⟨dst, .binOp op 37 x y z, ty, pos, after, gd⟩).run Tryz.prog w = (blkCmp op x y (ρ x) (ρ y) w).andThen fun v w => .ok (.value v) w := by
 simp only [execOp, blkCmp, Sem.run_bind]; rfl
attribute [irreducible] blkCmp
theorem Num_row (w : World) (g off n cap : Nat) (b : Blk) (h : BlkAt w g b) (hn : off + n ≤ 56) (h8 : n ≤ 8) :
 Calls Tryz.prog 139 #[.slice (some ⟨g, 1 + off, none⟩) n cap] w fun e w' => e = .returned (.int .u64 (num ((b.body.drop off).take n) : Nat)) ∧ w = w' := by
 have hl : ((b.body.drop off).take n).length = n := by rw [List.length_take, List.length_drop, b.len]; omega
 have := Num_any (some ⟨g, 1 + off, none⟩) ((b.body.drop off).take n) cap w ⟨g, 1 + off, fun _ => rfl, fun i hi => by
  rw [hl] at hi
  have hc := h.cell (off + i) (by omega)
  rw [Nat.add_assoc, hc]
  simp only [List.getElem_take, List.getElem_drop]⟩ (by rw [hl]; exact h8)
 rwa [hl] at this
theorem num_sub_lt (b : Blk) (off n k : Nat) (h : n ≤ k) : num ((b.body.drop off).take n) < 256 ^ k := num_le _ _ (by rw [List.length_take]; omega)
end
section
open Go.RowKit
attribute [local irreducible] Calls
def Nd.zero : Nd := ⟨0, 0, 0, 0, 0, 0, 0, 0, ⟨#[]⟩⟩
def Blk.sub (b : Blk) (off n : Nat) : Nat := num ((b.body.drop off).take n)
def Blk.long (b : Blk) : Nat := (b.body.getD 20 0).toNat
def nodeOf (b : Blk) : Nd := ⟨b.sub 0 4, b.sub 4 2, b.sub 6 4, (b.sub 10 2 : Int) - 1, (b.sub 12 2 : Int) - 1, (b.sub 14 2 : Int) - 1, (b.sub 16 2 : Int) - 1, (b.sub 18 2 : Int) - 1, ⟨((b.body.drop 21).take b.long).toArray⟩⟩
def takeNode (b : Blk) : Nd × Bool := if 35 < b.long then (Nd.zero, false) else if putNode b.kind (nodeOf b) = (b, true) then (nodeOf b, true) else (Nd.zero, false)
theorem Blk.sub_lt (b : Blk) (off n : Nat) : b.sub off n < 256 ^ n := num_sub_lt b off n n (Nat.le_refl _)
theorem Num_sub (w : World) (g off n cap : Nat) (b : Blk) (h : BlkAt w g b) (hn : off + n ≤ 56) (h8 : n ≤ 8) :
 Calls Tryz.prog 139 #[.slice (some ⟨g, 1 + off, none⟩) n cap] w fun e w' => e = .returned (.int .u64 (b.sub off n : Nat)) ∧ w = w' := Num_row w g off n cap b h hn h8
def nodeUpto (b : Blk) (k : Nat) : Nd := ⟨b.sub 0 4, b.sub 4 2, b.sub 6 4, if 0 < k then (b.sub 10 2 : Int) - 1 else 0, if 1 < k then (b.sub 12 2 : Int) - 1 else 0, if 2 < k then (b.sub 14 2 : Int) - 1 else 0, if 3 < k then (b.sub 16 2 : Int) - 1 else 0, 0, ⟨#[]⟩⟩
theorem free_of_row {w : World} {g : Nat} {c : Array Value} {t : TypeId} (h : objAt w g = some (.cells c t (0, 0))) (i : Nat) : w.frozen? ⟨g, i, none⟩ = false := by
 unfold objAt at h; simp [World.frozen?, h]
theorem nodeOf_wf (b : Blk) : (nodeOf b).wf := by
 have := b.sub_lt 0 4
 refine ⟨by simp [nodeOf], by simp only [nodeOf]; omega, ?_⟩
 show ByteArray.size ⟨((b.body.drop 21).take b.long).toArray⟩ ≤ 1000000
 show ((b.body.drop 21).take b.long).toArray.size ≤ 1000000
 simp [b.len]; omega

/-! Whole nodes loaded and stored. -/
theorem aggNd : AggOf Tryz.prog 165 9 := ⟨⟨_, Tryz.underlying165, rfl⟩, by kernel_rfl⟩
noncomputable def ndLoad (x : Value) (w : World) : Result Value := Sem.run Tryz.prog (Instr.loadAt 165 x) w
noncomputable def ndStore (x y : Value) (w : World) : Result Unit := Sem.run Tryz.prog (Instr.storeAt 165 x y) w
def hasNd (w : World) (g : Nat) : Bool := (rowAt w g).any (·.size == 9)
theorem hasNd_some {w : World} {g : Nat} (h : hasNd w g = true) : ∃ c, rowAt w g = some c ∧ c.size = 9 := by
 unfold hasNd at h
 cases hr : rowAt w g with
 | none => rw [hr] at h; cases h
 | some c => rw [hr] at h; exact ⟨c, rfl, by simpa using h⟩
theorem hasNd_obj {w : World} {g : Nat} {n : Nd} {t : TypeId} (h : objAt w g = some (.cells n.cells t (0, 0))) : hasNd w g = true := by
 unfold hasNd; rw [rowAt_heap h]; rfl
@[go_sem] theorem hasNd_new (w : World) (c : Array Value) (t : TypeId) (n : Nat) (hn : n = w.heap.size) (hc : c.size = 9) : hasNd (w.alloc (.cells c t)) n = true := by
 unfold hasNd; rw [rowAt_alloc_at w c t n hn]; simp [hc]
@[go_sem] theorem hasNd_drew (w : World) (n : Nat) : hasNd w.drew n = hasNd w n := rfl
@[go_sem] theorem load_nd (w : World) (g : Nat) (h : hasNd w g = true) : ndLoad (.pointer (some ⟨g, 0, none⟩)) w = .ok (.agg ((rowAt w g).getD #[])) w := by
 obtain ⟨c, hc, hs⟩ := hasNd_some h
 rw [hc]; exact run_load_agg aggNd w g hc hs
theorem Nd.size_cells (n : Nd) : n.cells.size = 9 := rfl
theorem Nd.one_cells (n : Nd) : ∀ v ∈ n.cells.toList, v.oneCell' = true := by
 intro v hv
 simp only [Nd.cells, List.mem_cons, List.not_mem_nil, or_false] at hv
 rcases hv with rfl | rfl | rfl | rfl | rfl | rfl | rfl | rfl | rfl <;> rfl
@[go_sem] theorem store_ndv (w : World) (g : Nat) (n : Nd) (h : hasNd w g = true) : ndStore (.pointer (some ⟨g, 0, none⟩)) (.agg n.cells) w = .ok () (w.setRow g n.cells) := by
 obtain ⟨c, hc, hs⟩ := hasNd_some h
 exact run_store_agg aggNd w g n.cells hc hs n.size_cells n.one_cells
@[go_sem] theorem store_nd (w : World) (g : Nat) (a l s d0 d1 d2 d3 ix : Int) (t : ByteArray) (h : hasNd w g = true) :
 ndStore (.pointer (some ⟨g, 0, none⟩)) (.agg #[.int .u32 a, .int .i64 l, .int .i64 s, .int .i64 d0, .int .i64 d1, .int .i64 d2, .int .i64 d3, .int .i64 ix, .string t]) w =
  .ok () (w.setRow g #[.int .u32 a, .int .i64 l, .int .i64 s, .int .i64 d0, .int .i64 d1, .int .i64 d2, .int .i64 d3, .int .i64 ix, .string t]) := store_ndv w g ⟨a, l, s, d0, d1, d2, d3, ix, t⟩ h
@[go_sem ↓] theorem exec_load_nd (ρ : Operand → Value) (w : World) (dst : Option Tmp) (x : Operand) (ty : TypeId) (pos : String) (after : Array Edge) (gd : Option (Nat × Bool)) :
 (execOp ρ ⟨dst, .load 165 x, ty, pos, after, gd⟩).run Tryz.prog w = (ndLoad (ρ x) w).andThen fun v w => .ok (.value v) w := by
 simp only [execOp, ndLoad, Sem.run_bind]; rfl
@[go_sem ↓] theorem exec_store_nd (ρ : Operand → Value) (w : World) (dst : Option Tmp) (x y : Operand) (ty : TypeId) (pos : String) (after : Array Edge) (gd : Option (Nat × Bool)) :
 (execOp ρ ⟨dst, .store 165 x y, ty, pos, after, gd⟩).run Tryz.prog w = (ndStore (ρ x) (ρ y) w).andThen fun _ w => .ok .skip w := by
 simp only [execOp, ndStore, Sem.run_bind]; rfl
attribute [irreducible] ndLoad ndStore
@[go_sem] theorem hasBlk_new (w : World) (b : Blk) (t : TypeId) (n : Nat) (hn : n = w.heap.size) : hasBlk (w.alloc (.cells b.cells t)) n = true := by
 unfold hasBlk; rw [rowAt_alloc_at w _ t n hn]; simp [b.size_cells]
theorem resOne_nd {p : Tmp} {tmps : Array Value} {w : World} {g : Nat} {n : Nd} (hp : tmps.getD p undef = .pointer (some ⟨g, 0, none⟩)) (h : rowAt w g = some n.cells) :
 (resultOne (.cell p 165) tmps).run Tryz.prog w = .ok (.agg n.cells) w := resOne_agg aggNd hp h n.size_cells
theorem objAt_setRow {w : World} {g : Nat} {c : Array Value} {t : TypeId} (h : objAt w g = some (.cells c t (0, 0))) (c' : Array Value) : objAt (w.setRow g c') g = some (.cells c' t (0, 0)) := setRow_heap w g c c' t (0, 0) h

theorem TakeNode_any (b : Blk) (w : World) :
 Calls Tryz.prog 151 #[.agg b.cells] w fun e w' => e = .returned (.tuple #[.agg (takeNode b).1.cells, .bool (takeNode b).2]) ∧ Below w.heap.size w w' := by
 go_enter Tryz.func151, Tryz.ntmps151
 go_upto_region 2 with (fail)
 have hA : BlkAt ((w.alloc (.cells b.cells 37)).alloc (.cells Nd.zero.cells 165)) w.heap.size b := (BlkAt.alloc_new _ _).alloc _
 have hZ : objAt ((w.alloc (.cells b.cells 37)).alloc (.cells Nd.zero.cells 165)) (w.heap.size + 1) = some (.cells Nd.zero.cells 165 (0, 0)) := by rw [objAt_alloc, size_alloc, if_pos rfl]
 have hB : Below w.heap.size w ((w.alloc (.cells b.cells 37)).alloc (.cells Nd.zero.cells 165)) := ((Below.refl _ _).alloc (Nat.le_refl _) _).alloc (by rw [size_alloc]; omega) _
 rw [show Nd.zero.cells = #[.int .u32 0, .int .i64 0, .int .i64 0, .int .i64 0, .int .i64 0, .int .i64 0, .int .i64 0, .int .i64 0, .string ⟨#[]⟩] from rfl] at hA hZ hB
 generalize (w.alloc (.cells b.cells 37)).alloc (.cells #[.int .u32 0, .int .i64 0, .int .i64 0, .int .i64 0, .int .i64 0, .int .i64 0, .int .i64 0, .int .i64 0, .string ⟨#[]⟩] 165) = w0 at *
 obtain ⟨G, hG⟩ : ∃ G, G = w.heap.size := ⟨_, rfl⟩
 rw [← hG] at hA hZ ⊢
 have HX := Lib.hid (And.intro hG (And.intro hA (And.intro hZ hB)))
 clear hG hA hZ hB
 have u0 : IntKind.u32.wrap (b.sub 0 4 : Int) = b.sub 0 4 := IntWalk.u32_in _ (by have := b.sub_lt 0 4; omega)
 have u1 : IntKind.i64.wrap (b.sub 4 2 : Int) = b.sub 4 2 := IntWalk.i64_in _ (by have := b.sub_lt 4 2; omega)
 have u2 : IntKind.i64.wrap (b.sub 6 4 : Int) = b.sub 6 4 := IntWalk.i64_in _ (by have := b.sub_lt 6 4; omega)
 go_cut [5] (fun s5 wx => ∃ H, s5 = .pointer (some ⟨H, 0, none⟩) ∧ w0.heap.size ≤ H ∧ Below w0.heap.size w0 wx ∧
  objAt wx H = some (.cells #[.int .u32 (b.sub 0 4 : Nat), .int .i64 (b.sub 4 2 : Nat), .int .i64 (b.sub 6 4 : Nat), .int .i64 0, .int .i64 0, .int .i64 0, .int .i64 0, .int .i64 0, .string ⟨#[]⟩] 165 (0, 0)))
 case first =>
  have hB0 := Below.refl w0.heap.size w0
  go_region_held3 (fun w' => Below w0.heap.size w0 w')
   ((go_split_ands; first | assumption | (exact grow_drew (by assumption)) | (exact grow_alloc (by assumption) _) | (exact grow_drew (grow_alloc (by assumption) _)) | (exact Below.setRow (by assumption) (Nat.le_refl _) _)))
   (first | (go_at_call 139; refine (Num_sub _ G 0 4 56 b (BlkAt.below HX.out.2.1 (by go_split_ands; assumption) (block_lt HX.out.2.1)) (by decide) (by decide)).mono ?_; rintro e x1 ⟨rfl, rfl⟩) | (go_at_call 139; refine (Num_sub _ G 4 2 52 b (BlkAt.below HX.out.2.1 (by go_split_ands; assumption) (block_lt HX.out.2.1)) (by decide) (by decide)).mono ?_; rintro e x1 ⟨rfl, rfl⟩) | (go_at_call 139; refine (Num_sub _ G 6 4 50 b (BlkAt.below HX.out.2.1 (by go_split_ands; assumption) (block_lt HX.out.2.1)) (by decide) (by decide)).mono ?_; rintro e x1 ⟨rfl, rfl⟩))
  all_goals go_wp2_with fail
  all_goals go_meet
  all_goals (refine ⟨w0.heap.size, rfl, Nat.le_refl _, ?_, ?_⟩)
  all_goals first | (exact Below.setRow (grow_drew (grow_alloc hB0 _)) (Nat.le_refl _) _) | (exact Below.setRow (grow_alloc hB0 _) (Nat.le_refl _) _) | (exact objAt_setRow (c := Nd.zero.cells) (by rw [objAt_drew, objAt_alloc, if_pos rfl]; rfl) _) | (exact grow_drew (grow_alloc hB0 _)) | (exact grow_alloc hB0 _) | (simp [objAt_alloc, objAt_drew]; done) | trace_state
 case rest =>
  obtain ⟨H, rfl, hH, hbel, hobj⟩ := hcut
  clear u0 u1 u2
  go_wp2_with fail
  go_loopw [6] (fun s6 wr => ∃ k : Nat, k ≤ 4 ∧ s6 = .int .i64 k ∧ Below w0.heap.size w0 wr ∧ objAt wr H = some (.cells (nodeUpto b k).cells 165 (0, 0))) (fun i _ => 4 - (intOf i).toNat)
  case atStart => exact ⟨0, Nat.zero_le _, rfl, hbel, hobj⟩
  case round =>
   clear hbel hobj
   obtain ⟨k, hk, rfl, hbel, hobj⟩ := hrel
   by_cases hlt : k < 4
   · obtain rfl | rfl | rfl | rfl : k = 0 ∨ k = 1 ∨ k = 2 ∨ k = 3 := by omega
     · have hc := cell_of_row wr H 3 _ _ _ hobj
       have hf := free_of_row hobj 3
       have hb := b.sub_lt 10 2
       have hb0 : (0 : Int) ≤ (b.sub 10 2 : Int) := Int.natCast_nonneg _
       have hb1 : (b.sub 10 2 : Int) < 65536 := by omega
       have u1 : IntKind.i64.wrap (b.sub 10 2 : Int) = b.sub 10 2 := IntWalk.i64_in _ (by omega)
       have hcell : wr.cell? ⟨H, 3, none⟩ = some (.int .i64 0) := hc.trans rfl
       have Hobj := Lib.hid hobj
       have Hbel := Lib.hid hbel
       clear hc hobj hbel hb
       go_wp2_with (first | (go_at_call 139; refine (Num_sub _ G 10 2 46 b (BlkAt.below HX.out.2.1 Hbel.out (block_lt HX.out.2.1)) (by decide) (by decide)).mono ?_; rintro e x1 ⟨rfl, rfl⟩))
       go_roundw
       case rel => exact ⟨1, by omega, rfl, Hbel.out.setCell (p := ⟨H, 3, none⟩) hH _, heap_setCell_same Hobj.out 3 _⟩
       case measure => decide
     · have hc := cell_of_row wr H 4 _ _ _ hobj
       have hf := free_of_row hobj 4
       have hb := b.sub_lt 12 2
       have hb0 : (0 : Int) ≤ (b.sub 12 2 : Int) := Int.natCast_nonneg _
       have hb1 : (b.sub 12 2 : Int) < 65536 := by omega
       have u1 : IntKind.i64.wrap (b.sub 12 2 : Int) = b.sub 12 2 := IntWalk.i64_in _ (by omega)
       have hcell : wr.cell? ⟨H, 4, none⟩ = some (.int .i64 0) := hc.trans rfl
       have Hobj := Lib.hid hobj
       have Hbel := Lib.hid hbel
       clear hc hobj hbel hb
       go_wp2_with (first | (go_at_call 139; refine (Num_sub _ G 12 2 44 b (BlkAt.below HX.out.2.1 Hbel.out (block_lt HX.out.2.1)) (by decide) (by decide)).mono ?_; rintro e x1 ⟨rfl, rfl⟩))
       go_roundw
       case rel => exact ⟨2, by omega, rfl, Hbel.out.setCell (p := ⟨H, 4, none⟩) hH _, heap_setCell_same Hobj.out 4 _⟩
       case measure => decide
     · have hc := cell_of_row wr H 5 _ _ _ hobj
       have hf := free_of_row hobj 5
       have hb := b.sub_lt 14 2
       have hb0 : (0 : Int) ≤ (b.sub 14 2 : Int) := Int.natCast_nonneg _
       have hb1 : (b.sub 14 2 : Int) < 65536 := by omega
       have u1 : IntKind.i64.wrap (b.sub 14 2 : Int) = b.sub 14 2 := IntWalk.i64_in _ (by omega)
       have hcell : wr.cell? ⟨H, 5, none⟩ = some (.int .i64 0) := hc.trans rfl
       have Hobj := Lib.hid hobj
       have Hbel := Lib.hid hbel
       clear hc hobj hbel hb
       go_wp2_with (first | (go_at_call 139; refine (Num_sub _ G 14 2 42 b (BlkAt.below HX.out.2.1 Hbel.out (block_lt HX.out.2.1)) (by decide) (by decide)).mono ?_; rintro e x1 ⟨rfl, rfl⟩))
       go_roundw
       case rel => exact ⟨3, by omega, rfl, Hbel.out.setCell (p := ⟨H, 5, none⟩) hH _, heap_setCell_same Hobj.out 5 _⟩
       case measure => decide
     · have hc := cell_of_row wr H 6 _ _ _ hobj
       have hf := free_of_row hobj 6
       have hb := b.sub_lt 16 2
       have hb0 : (0 : Int) ≤ (b.sub 16 2 : Int) := Int.natCast_nonneg _
       have hb1 : (b.sub 16 2 : Int) < 65536 := by omega
       have u1 : IntKind.i64.wrap (b.sub 16 2 : Int) = b.sub 16 2 := IntWalk.i64_in _ (by omega)
       have hcell : wr.cell? ⟨H, 6, none⟩ = some (.int .i64 0) := hc.trans rfl
       have Hobj := Lib.hid hobj
       have Hbel := Lib.hid hbel
       clear hc hobj hbel hb
       go_wp2_with (first | (go_at_call 139; refine (Num_sub _ G 16 2 40 b (BlkAt.below HX.out.2.1 Hbel.out (block_lt HX.out.2.1)) (by decide) (by decide)).mono ?_; rintro e x1 ⟨rfl, rfl⟩))
       go_roundw
       case rel => exact ⟨4, by omega, rfl, Hbel.out.setCell (p := ⟨H, 6, none⟩) hH _, heap_setCell_same Hobj.out 6 _⟩
       case measure => decide
   · obtain rfl : k = 4 := by omega
     have hc := cell_of_row wr H 7 _ _ _ hobj
     have hf := free_of_row hobj 7
     have hb := b.sub_lt 18 2
     have hb0 : (0 : Int) ≤ (b.sub 18 2 : Int) := Int.natCast_nonneg _
     have hb1 : (b.sub 18 2 : Int) < 65536 := by omega
     have u1 : IntKind.i64.wrap (b.sub 18 2 : Int) = b.sub 18 2 := IntWalk.i64_in _ (by omega)
     have hcell : wr.cell? ⟨H, 7, none⟩ = some (.int .i64 0) := hc.trans rfl
     have hblk : BlkAt wr G b := BlkAt.below HX.out.2.1 hbel (block_lt HX.out.2.1)
     have hGH : G ≠ H := fun e => by
      have := block_lt HX.out.2.1
      omega
     have hHG : H ≠ G := fun e => hGH e.symm
     have h21 : wr.cell? ⟨G, 21, none⟩ = some (.int .u8 ((b.body.getD 20 0).toNat : Int)) := by
      have := hblk.cell 20 (by decide)
      rw [List.getD_eq_getElem?_getD, List.getElem?_eq_getElem (by rw [b.len]; decide)]
      exact this
     rw [show (b.body.getD 20 0).toNat = b.long from rfl] at h21
     have hlong : b.long ≤ 255 := by unfold Blk.long; have := (b.body.getD 20 0).toNat_lt; omega
     have Hobj := Lib.hid hobj
     have Hbel := Lib.hid hbel
     have Hblk := Lib.hid hblk
     clear hc hobj hbel hb hblk
     go_upto_if 52 with (first | (go_at_call 139; refine (Num_sub _ G 18 2 38 b Hblk.out (by decide) (by decide)).mono ?_; rintro e x1 ⟨rfl, rfl⟩))
     have hO7 : objAt (wr.setCell ⟨H, 7, none⟩ (.int .i64 ((b.sub 18 2 : Nat) - 1))) H = some (.cells ({ nodeUpto b 4 with index := (b.sub 18 2 : Int) - 1 } : Nd).cells 165 (0, 0)) := heap_setCell_same Hobj.out 7 _
     have hB7 : Below w0.heap.size w0 (wr.setCell ⟨H, 7, none⟩ (.int .i64 ((b.sub 18 2 : Nat) - 1))) := Hbel.out.setCell (p := ⟨H, 7, none⟩) hH _
     clear hcell hf u1 hb0 hb1 h21 Hobj Hbel Hblk
     generalize wr.setCell ⟨H, 7, none⟩ (.int .i64 ((b.sub 18 2 : Nat) - 1)) = w7 at *
     have hZ7 : objAt w7 (G + 1) = some (.cells Nd.zero.cells 165 (0, 0)) := grow_obj hB7 HX.out.2.2.1
     have hZn := hasNd_obj hZ7
     have hZG : Below w.heap.size w (w7.setRow (G + 1) Nd.zero.cells) := (grow_trans HX.out.2.2.2 hB7).setRow (by rw [HX.out.1]; exact Nat.le_succ _) _
     have hZr : rowAt (w7.setRow (G + 1) Nd.zero.cells) (G + 1) = some Nd.zero.cells := rowAt_heap (objAt_setRow hZ7 _)
     have HZ := Lib.hid (And.intro hZ7 (And.intro hZG hZr))
     have H7 := Lib.hid (And.intro hO7 hB7)
     clear hO7 hB7 hZ7 hZG hZr
     by_cases hl : 35 < b.long
     · have Ht := Lib.hid (show takeNode b = (Nd.zero, false) by unfold takeNode; rw [if_pos hl])
       go_wp2_with fail
       refine bodyPost_ret (results_two rfl (resOne_nd rfl HZ.out.2.2) (resOne_tmp _ _ _)) rfl ?_
       exact ⟨by rw [Ht.out]; rfl, HZ.out.2.1⟩
     · have hle : b.long ≤ 35 := by omega
       have hle' : (b.long : Int) ≤ 35 := by omega
       have hb7 : BlkAt w7 G b := BlkAt.below HX.out.2.1 H7.out.2 (block_lt HX.out.2.1)
       have h21 : w7.cell? ⟨G, 21, none⟩ = some (.int .u8 (b.long : Int)) := by
        have := hb7.cell 20 (by decide)
        unfold Blk.long
        rw [List.getD_eq_getElem?_getD, List.getElem?_eq_getElem (by rw [b.len]; decide)]
        exact this
       have hc8 : w7.cell? ⟨H, 8, none⟩ = some (.string ⟨#[]⟩) := (cell_of_row w7 H 8 _ _ _ H7.out.1).trans rfl
       have hf8 := free_of_row H7.out.1 8
       have htl : ((b.body.drop 21).take b.long).length = b.long := by rw [List.length_take, List.length_drop, b.len]; omega
       have hconv := run_convert_bytes_back (P := Tryz.prog) w7 22 9 5 ⟨G, 22, none⟩ 35 ((b.body.drop 21).take b.long) Tryz.underlying22 Tryz.underlying5 Tryz.underlying9 (fun j hj => by
        rw [htl] at hj
        have hc := hb7.cell (21 + j) (by omega)
        have hadd : (⟨G, 22, none⟩ : Addr).add j = ⟨G, 22 + j, none⟩ := by unfold Addr.add; split <;> simp_all
        rw [hadd, show 22 + j = 1 + (21 + j) by omega, hc]
        simp only [List.getElem_take, List.getElem_drop])
       rw [htl] at hconv
       have Hb7 := Lib.hid hb7
       have Hl := Lib.hid hl
       clear hb7 htl hl hle
       go_upto_region 11 with (fail)
       have hO8 : objAt (w7.setCell ⟨H, 8, none⟩ (.string ⟨((b.body.drop 21).take b.long).toArray⟩)) H = some (.cells (nodeOf b).cells 165 (0, 0)) := heap_setCell_same H7.out.1 8 _
       have hB8 : Below w0.heap.size w0 (w7.setCell ⟨H, 8, none⟩ (.string ⟨((b.body.drop 21).take b.long).toArray⟩)) := H7.out.2.setCell (p := ⟨H, 8, none⟩) hH _
       clear h21 hc8 hf8 hconv Hb7
       generalize w7.setCell ⟨H, 8, none⟩ (.string ⟨((b.body.drop 21).take b.long).toArray⟩) = w8 at *
       have hb8 : BlkAt w8 G b := BlkAt.below HX.out.2.1 hB8 (block_lt HX.out.2.1)
       have hk : w8.cell? ⟨G, 0, none⟩ = some (.int .i64 b.kind) := (cell_of_row w8 G 0 _ _ _ hb8).trans b.cell0
       have hnd := hasNd_obj hO8
       have hnr : rowAt w8 H = some (nodeOf b).cells := rowAt_heap hO8
       obtain ⟨⟨pb, pok⟩, hp⟩ : ∃ p, putNode b.kind (nodeOf b) = p := ⟨_, rfl⟩
       have hP := PutNode_any b.kind (nodeOf b) w8 (nodeOf_wf b)
       rw [hp] at hP
       dsimp only at hP
       have HP := Lib.hid hP
       have Hp := Lib.hid hp
       have H8 := Lib.hid (And.intro hO8 (And.intro hB8 hb8))
       clear hO8 hB8 hb8 hP hp hle' hlong hZn
       go_upto_region 12 with (first | (go_at_call 82; refine HP.out.mono ?_; rintro e w9 ⟨rfl, be9⟩))
       have hB9 := grow_trans H8.out.2.1 be9
       have hB10 := grow_alloc hB9 (.cells pb.cells 37)
       have hb10 : BlkAt (w9.alloc (.cells pb.cells 37)) G b := BlkAt.below HX.out.2.1 hB10 (block_lt HX.out.2.1)
       have hk10 := BlkAt.alloc_new w9 pb
       have hO9 := grow_obj be9 H8.out.1
       have hO10 : objAt (w9.alloc (.cells pb.cells 37)) H = some (.cells (nodeOf b).cells 165 (0, 0)) := by
        rw [objAt_alloc, if_neg (by have := block_lt hO9; omega)]; exact hO9
       have hZ10 : objAt (w9.alloc (.cells pb.cells 37)) (G + 1) = some (.cells Nd.zero.cells 165 (0, 0)) := grow_obj hB10 HX.out.2.2.1
       clear hk hnd hnr hB9 hO9
       generalize hw10 : w9.alloc (.cells pb.cells 37) = w10 at *
       generalize hK : w9.heap.size = K at *
       have hh1 := hb10.has
       have hr1 := hb10.row
       have hh2 := hk10.has
       have hr2 := hk10.row
       have hh3 := hasNd_obj hO10
       have hr3 : rowAt w10 H = some (nodeOf b).cells := rowAt_heap hO10
       have hh4 := hasNd_obj hZ10
       have hbel10 : Below w.heap.size w w10 := grow_trans HX.out.2.2.2 hB10
       have HF := Lib.hid (And.intro (rowAt_heap (objAt_setRow hZ10 Nd.zero.cells)) (And.intro (hbel10.setRow (g := G + 1) (by rw [HX.out.1]; exact Nat.le_succ _) Nd.zero.cells)
        (And.intro (rowAt_heap (objAt_setRow hZ10 (nodeOf b).cells)) (hbel10.setRow (g := G + 1) (by rw [HX.out.1]; exact Nat.le_succ _) (nodeOf b).cells))))
       clear be9 hb10 hk10 hO10 hZ10 hB10 hbel10 hw10 hK
       cases pok
       · have Ht := Lib.hid (show takeNode b = (Nd.zero, false) by unfold takeNode; rw [if_neg Hl.out, Hp.out, if_neg (by intro h; cases h)])
         go_wp2_with fail
         refine bodyPost_ret (results_two rfl (resOne_nd rfl HF.out.1) (resOne_tmp _ _ _)) rfl ?_
         exact ⟨by rw [Ht.out]; rfl, HF.out.2.1⟩
       · by_cases hpb : pb = b
         · have d1 : decide (pb = b) = true := by simpa using hpb
           have Ht := Lib.hid (show takeNode b = (nodeOf b, true) by unfold takeNode; rw [if_neg Hl.out, Hp.out, if_pos (by rw [hpb])])
           clear hpb
           go_wp2_with fail
           refine bodyPost_ret (results_two rfl (resOne_nd rfl HF.out.2.2.1) (resOne_tmp _ _ _)) rfl ?_
           exact ⟨by rw [Ht.out]; rfl, HF.out.2.2.2⟩
         · have d1 : decide (pb = b) = false := by simpa using hpb
           have Hpb := Lib.hid hpb
           clear hpb
           have Ht := Lib.hid (show takeNode b = (Nd.zero, false) by unfold takeNode; rw [if_neg Hl.out, Hp.out, if_neg (by intro h; injection h with h1 h2; exact Hpb.out h1)])
           go_wp2_with fail
           refine bodyPost_ret (results_two rfl (resOne_nd rfl HF.out.1) (resOne_tmp _ _ _)) rfl ?_
           exact ⟨by rw [Ht.out]; rfl, HF.out.2.1⟩
end
end Go.Proofs.YtbbnejehglonjaaGreat
