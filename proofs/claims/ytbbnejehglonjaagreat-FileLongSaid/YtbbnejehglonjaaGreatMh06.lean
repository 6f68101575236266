/- DERIVED. Contracts and laws that the proofs of this seat share, part 6 of 36: Ref1L LibI LibP PaC. -/
import Derived.Lib.AppendZerosOnto
import Derived.Test.YtbbnejehglonjaaGreatMh00
import Derived.Test.YtbbnejehglonjaaGreatMh02
import Derived.Test.YtbbnejehglonjaaGreatMh04
import Derived.Test.YtbbnejehglonjaaGreatMh05
namespace Go.Proofs.YtbbnejehglonjaaGreat
set_option maxHeartbeats 8000000
set_option maxRecDepth 100000
set_option linter.unusedSimpArgs false
set_option linter.unusedVariables false
section
open Go.RowKit
attribute [local irreducible] Calls
theorem aggNm : AggOf Tryz.prog 100 6 := ⟨⟨_, Tryz.underlying100, rfl⟩, by kernel_rfl⟩
noncomputable def nmStore (x y : Value) (w : World) : Result Unit := Sem.run Tryz.prog (Instr.storeAt 100 x y) w
def hasNm (w : World) (g : Nat) : Bool := (rowAt w g).any (·.size == 6)
theorem hasNm_some {w : World} {g : Nat} (h : hasNm w g = true) : ∃ c, rowAt w g = some c ∧ c.size = 6 := by
 unfold hasNm at h
 cases hr : rowAt w g with
 | none => rw [hr] at h; cases h
 | some c => rw [hr] at h; exact ⟨c, rfl, by simpa using h⟩
theorem hasNm_obj {w : World} {g : Nat} {c : Array Value} {t : TypeId} (h : objAt w g = some (.cells c t (0, 0))) (hc : c.size = 6) : hasNm w g = true := by
 unfold hasNm; rw [rowAt_heap h]; simp [hc]
@[go_sem] theorem hasNm_new (w : World) (c : Array Value) (t : TypeId) (n : Nat) (hn : n = w.heap.size) (hc : c.size = 6) : hasNm (w.alloc (.cells c t)) n = true := by
 unfold hasNm; rw [rowAt_alloc_at w c t n hn]; simp [hc]
@[go_sem] theorem hasNm_drew (w : World) (n : Nat) : hasNm w.drew n = hasNm w n := rfl
@[go_sem] theorem store_nm (w : World) (gB : Nat) (l a g : Int) (t : ByteArray) (p h : Int) (hB : hasNm w gB = true) :
 nmStore (.pointer (some ⟨gB, 0, none⟩)) (.agg #[.int .i64 l, .int .i64 a, .int .u32 g, .string t, .int .i64 p, .int .u32 h]) w = .ok () (w.setRow gB #[.int .i64 l, .int .i64 a, .int .u32 g, .string t, .int .i64 p, .int .u32 h]) := by
 obtain ⟨c, hc, hs⟩ := hasNm_some hB
 refine run_store_agg aggNm w gB _ hc hs rfl ?_
 simp [Value.oneCell']
@[go_sem ↓] theorem exec_store_nm (ρ : Operand → Value) (w : World) (dst : Option Tmp) (x y : Operand) (ty : TypeId) (pos : String) (after : Array Edge) (gd : Option (Nat × Bool)) :
 (execOp ρ ⟨dst, .store 100 x y, ty, pos, after, gd⟩).run Tryz.prog w = (nmStore (ρ x) (ρ y) w).andThen fun _ w => .ok .skip w := by
 simp only [execOp, nmStore, Sem.run_bind]; rfl
attribute [irreducible] nmStore
def Blk.nlen (b : Blk) : Nat := (b.body.getD 13 0).toNat
theorem takeEntry_none {b : Blk} (h : takeID b = none) : takeEntry b = none := by unfold takeEntry; rw [h]
theorem takeEntry_long {b : Blk} {i : Id} (h : takeID b = some i) (hl : 14 < b.nlen) : takeEntry b = none := by unfold takeEntry; rw [h]; exact if_pos hl
theorem takeEntry_get {b : Blk} {i : Id} (h : takeID b = some i) (hl : ¬ 14 < b.nlen) : takeEntry b = if putEntry (nameOf b i) = (b, true) then some (nameOf b i) else none := by unfold takeEntry; rw [h]; exact if_neg hl
end
section
open Go.RowKit
attribute [local irreducible] Calls
section
variable {w : World} {B : Nat} {v : Value} {l : List Int}
theorem IRow.below {w' : World} (h : IRow w B v l) (hb : Below w.heap.size w w') : IRow w' B v l := by
 refine World.ownsRow.kept h ⟨hb.os, hb.tape, hb.output, hb.size, fun k hk _ => hb.block k hk⟩ (row := none) ?_
 cases v.ownBlock <;> simp
theorem IRow.alloc (h : IRow w B v l) (o : Obj) : IRow (w.alloc o) B v l := World.ownsRow.alloc h o
theorem IRow.drew (h : IRow w B v l) : IRow w.drew B v l := h
theorem IRow.mono {B' : Nat} (h : IRow w B v l) (hb : B' ≤ B) : IRow w B' v l := by
 refine ⟨h.1, ?_⟩
 rcases h.2 with h' | ⟨g, cap, cur, h1, h2, h3⟩
 · exact .inl h'
 · exact .inr ⟨g, cap, cur, h1, Nat.le_trans hb h2, h3⟩
theorem IRow.nil (w : World) (B : Nat) : IRow w B (.slice none 0 0) [] := World.ownsRow_nil w B 3 1
theorem IRow.ints (h : IRow w B v l) : ∃ a cap, v = .slice a l.length cap ∧ IntsAt w a l := by
 rcases h.2 with ⟨rfl, h0⟩ | ⟨g, cap, cur, rfl, _⟩
 · exact ⟨none, 0, by rw [h0], 0, 0, fun h => by omega, fun i hi => by omega⟩
 · refine ⟨_, _, rfl, g, 0, fun _ => rfl, fun i hi => ?_⟩
   have := World.ownsRow.cells h (g := g) rfl i (.int .i64 (l.getD i 0)) (by simp [hi])
   rwa [add_off'] at this
theorem IRow.fromB (h : IRow w B v l) : ∃ a cap, v = .slice a l.length cap ∧ ∃ b off, (0 < l.length → a = some ⟨b, off, none⟩ ∧ B ≤ b) ∧ ∀ i, i < l.length → w.cell? ⟨b, off + i, none⟩ = some (.int .i64 (l.getD i 0)) := by
 rcases h.2 with ⟨rfl, h0⟩ | ⟨g, cap, cur, rfl, hb, _⟩
 · exact ⟨none, 0, by rw [h0], 0, 0, fun h => by omega, fun i hi => by omega⟩
 · refine ⟨_, _, rfl, g, 0, fun _ => ⟨rfl, hb⟩, fun i hi => ?_⟩
   have := World.ownsRow.cells h (g := g) rfl i (.int .i64 (l.getD i 0)) (by simp [hi])
   rwa [add_off'] at this
theorem IRow.keeps {S : Nat → Prop} {w' : World} (h : IRow w B v l) (hk : Keeps S w w') (hn : ∀ g, v.ownBlock = some g → ¬ S g) : IRow w' B v l := by
 rcases h.2 with ⟨h', h0⟩ | ⟨g', cap', cur, h', hb, hg, hnc, hcm, hcs, htake⟩
 · exact ⟨h.1, .inl ⟨h', h0⟩⟩
 · exact ⟨h.1, .inr ⟨g', cap', cur, h', hb, by rw [hk.block g' (block_lt hg) (hn g' (by rw [h']; rfl))]; exact hg, hnc, hcm, hcs, htake⟩⟩
end

theorem run_appI {w : World} {base : Nat} {v : Value} {xs : List Int} (hown : IRow w base v xs) {b2 : Nat} {u : Value} {ys : List Int} (hu : IRow w b2 u ys) (hsz : xs.length + ys.length < 2000000000) (hbase : base ≤ w.heap.size) (ty : TypeId) :
 ∃ v' w', (Builtin.append_ #[33, 33] ty #[v, u]).run Tryz.prog w = .ok v' w' ∧ IRow w' base v' (xs ++ ys) ∧ Below base w w' := by
 obtain ⟨i, z, hi, hz, hs, hby, hzs⟩ := elemInt.info
 rcases hu.2 with ⟨rfl, h0⟩ | ⟨g2, cap2, cur, rfl, _⟩
 · obtain rfl : ys = [] := List.length_eq_zero_iff.1 h0
   exact ⟨v, w, run_append_owned_none w base 33 ty 3 i 1 Tryz.underlying33 hi v _ _ hown, by rw [List.append_nil]; exact hown, Below.refl _ _⟩
 · obtain ⟨v', w', h1, h2, h3, _⟩ := run_append_own (P := Tryz.prog) w base 33 ty 3 i z 1 8 Tryz.underlying33 hi hz hs hby hzs (by decide) v xs.length _ hown ⟨g2, 0, none⟩ ys.length cap2 (ys.map fun c => Value.int .i64 c)
    (by simp) (World.ownsRow.cells hu (g := g2) rfl) (by intro x hx; simp only [List.mem_map] at hx; obtain ⟨c, _, rfl⟩ := hx; rfl) (by unfold maxLen; omega) (by omega) hbase
   refine ⟨v', w', h1, ?_, (Below.refl base w).grown h3 hbase (fun k hk => (World.ownsRow.lt hown k hk).1)⟩
   unfold IRow
   rw [List.length_append, List.map_append]; exact h2

theorem list_appI {ops : Array Oper} {o : Oper} {a : Act} {w : World} {Q : Exit → Act → World → Prop} {rest : List Oper} (hgd : o.guard = none) (s x : Operand) (ho : o.op = .call { callee := .builtin .append, args := #[s, x], argTypes := #[33, 33] })
 {base : Nat} {v : Value} {xs : List Int} (hs : a.eval s = v) (hown : IRow w base v xs) {b2 : Nat} {u : Value} {ys : List Int} (hx : a.eval x = u) (hu : IRow w b2 u ys) (hsz : xs.length + ys.length < 2000000000) (hbase : base ≤ w.heap.size)
 (h : ∀ v' w', IRow w' base v' (xs ++ ys) → Below base w w' → wpList Tryz.prog ops Q rest (a.put o.dst v') w') :
 wpList Tryz.prog ops Q (o :: rest) a w :=
 wpList_plain hgd fun K hK => by
  obtain ⟨v', w', hr, h2, h4⟩ := run_appI hown hu hsz hbase o.type
  unfold Oper.wp execOp
  simp only [ho, resolve, invoke, builtin, Sem.run_bind, Sem.run_pure, Result.andThen_ok, List.map_toArray, List.map_cons, List.map_nil, hs, hx, hr]
  exact hK _ _ (h v' w' h2 h4)

theorem real_take_succ {l : List Int} {k : Nat} (h : k < l.length) : real (l.take (k + 1)) = real (l.take k) ++ (if l.getD k 0 = -1 then [] else [l.getD k 0]) := by
 rw [List.take_succ_eq_append_getElem h]
 unfold real
 rw [List.filter_append]
 congr 1
 rw [List.getD_eq_getElem?_getD, List.getElem?_eq_getElem h, Option.getD_some]
 by_cases e : l[k] = -1
 · rw [if_pos e, e]; rfl
 · rw [if_neg e]; simp [e]
theorem real_length (l : List Int) : (real l).length ≤ l.length := List.length_filter_le _ _

theorem Real_any (a : Option Addr) (l : List Int) (cap : Nat) (w : World) (h : IntsAt w a l) (hl : l.length ≤ 1000) :
 Calls Tryz.prog 95 #[.slice a l.length cap] w fun e w' => ∃ v, e = .returned v ∧ IRow w' w.heap.size v (real l) ∧ Below w.heap.size w w' := by
 obtain ⟨b, off, ha, hc⟩ := h
 have Hc := Lib.hid hc
 have Ha := Lib.hid ha
 clear hc ha
 go_enter Tryz.func95, Tryz.ntmps95
 go_wp2_with fail
 go_loopw [3, 4] (fun s3 s4 wr => ∃ (k : Nat) (V : Value), k ≤ l.length ∧ s4 = .int .i64 k ∧ V = s3 ∧ IRow wr w.heap.size V (real (l.take k)) ∧ Below w.heap.size w wr) (fun _ i _ => l.length - (intOf i).toNat)
 case atStart => exact ⟨0, _, Nat.zero_le _, rfl, rfl, IRow.nil _ _, Below.refl _ _⟩
 case round =>
  obtain ⟨k, V, hk, rfl, rfl, hrow, hbel⟩ := hrel
  have Hrow := Lib.hid hrow
  have Hbel := Lib.hid hbel
  by_cases hlt : k < l.length
  · obtain rfl := Ha.out (by omega)
    have hcell := grow_cell hbel (Hc.out k hlt)
    have Hs := Lib.hid (real_take_succ hlt)
    have hlen := real_length (l.take k)
    rw [List.length_take] at hlen
    generalize l.getD k 0 = x at *
    clear hrow hbel
    by_cases hx : x = -1
    · have e1 : (x == -1) = true := by simpa using hx
      have e1' : (x != -1) = false := by rw [bne, e1]; rfl
      have Hx := Lib.hid hx
      clear hx
      go_wp2_with fail
      go_roundw
      case rel => exact ⟨k + 1, _, by omega, by go_num, rfl, by rw [Hs.out, if_pos Hx.out, List.append_nil]; exact Hrow.out, Hbel.out⟩
      case measure => simp [intOf]; omega
    · have e1 : (x == -1) = false := by simpa using hx
      have e1' : (x != -1) = true := by rw [bne, e1]; rfl
      have Hx := Lib.hid hx
      clear hx
      go_wp2_with (at_builtin; refine wpList_app1 elemInt rfl _ _ rfl (World.ownsRow.alloc Hrow.out _) rfl _ (.int .i64 x) rfl (by simp) rfl (by omega) (by have := Hbel.out.size; simp; omega) ?_; intro v3 w3 hrow3 hg3 b3)
      go_roundw
      case rel =>
       refine ⟨k + 1, _, by omega, by go_num, rfl, ?_, (grow_alloc Hbel.out _).trans b3⟩
       rw [Hs.out, if_neg Hx.out]
       unfold IRow
       rw [List.length_append, List.map_append]; exact hrow3
      case measure => simp [intOf]; omega
  · clear hrow hbel
    go_wp2_with fail
    go_ret
    refine ⟨_, rfl, ?_, Hbel.out⟩
    have := Hrow.out
    rwa [List.take_of_length_le (by omega)] at this
end
section
open Go.RowKit
attribute [local go_sem] hasBlk
attribute [local irreducible] Calls

theorem run_appAt {w : World} {base : Nat} {v : Value} {xs : List UInt8} (hown : BRow w base v xs) {a : Option Addr} {cap : Nat} {ys : List UInt8} (hu : BytesAt w a ys) (hsz : xs.length + ys.length < 2000000000) (hbase : base ≤ w.heap.size) (ty : TypeId) :
 ∃ v' w', (Builtin.append_ #[22, 22] ty #[v, .slice a ys.length cap]).run Tryz.prog w = .ok v' w' ∧ BRow w' base v' (xs ++ ys) ∧ Below base w w' ∧ w.grownBy w' v.ownBlock := by
 obtain ⟨i, z, hi, hz, hs, hby, hzs⟩ := infoByte
 obtain ⟨b, off, h1, h2⟩ := hu
 cases a with
 | none =>
   have h0 : ys = [] := by
    cases ys with
    | nil => rfl
    | cons c ys => simp at h1
   subst h0
   exact ⟨v, w, run_append_owned_none w base 22 ty 5 i 1 Tryz.underlying22 hi v _ _ hown, by rw [List.append_nil]; exact hown, Below.refl _ _, by exact World.grownBy.refl _ _⟩
 | some ad =>
   obtain ⟨v', w', h3, h4, h5, _⟩ := run_append_own (P := Tryz.prog) w base 22 ty 5 i z 1 1 Tryz.underlying22 hi hz hs hby hzs (by decide) v xs.length _ hown ad ys.length cap (ys.map fun c => Value.int .u8 c.toNat)
    (by simp) (by
     intro j u hj
     rw [List.getElem?_map] at hj
     cases hy : ys[j]? with
     | none => rw [hy] at hj; cases hj
     | some c =>
       rw [hy] at hj
       obtain rfl := Option.some.inj hj
       obtain ⟨hlt, rfl⟩ := List.getElem?_eq_some_iff.1 hy
       obtain rfl := Option.some.inj (h1 (by omega))
       have := h2 j hlt
       unfold Addr.add
       split
       · rename_i e; subst e; exact this
       · exact this) (by intro x hx; simp only [List.mem_map] at hx; obtain ⟨c, _, rfl⟩ := hx; rfl) (by unfold maxLen; omega) (by omega) hbase
   refine ⟨v', w', h3, ?_, (Below.refl base w).grown h5 hbase (fun k hk => (World.ownsRow.lt hown k hk).1), h5⟩
   unfold BRow
   rw [List.length_append, List.map_append]; exact h4

theorem list_appAt {ops : Array Oper} {o : Oper} {a : Act} {w : World} {Q : Exit → Act → World → Prop} {rest : List Oper} (hgd : o.guard = none) (s x : Operand) (ho : o.op = .call { callee := .builtin .append, args := #[s, x], argTypes := #[22, 22] })
 {base : Nat} {v : Value} {xs : List UInt8} (hs : a.eval s = v) (hown : BRow w base v xs) {ad : Option Addr} {cap : Nat} {ys : List UInt8} (hx : a.eval x = .slice ad ys.length cap) (hu : BytesAt w ad ys) (hsz : xs.length + ys.length < 2000000000) (hbase : base ≤ w.heap.size)
 (h : ∀ v' w', BRow w' base v' (xs ++ ys) → Below base w w' → wpList Tryz.prog ops Q rest (a.put o.dst v') w') :
 wpList Tryz.prog ops Q (o :: rest) a w :=
 wpList_plain hgd fun K hK => by
  obtain ⟨v', w', hr, h2, h4, _⟩ := run_appAt hown hu hsz hbase o.type
  unfold Oper.wp execOp
  simp only [ho, resolve, invoke, builtin, Sem.run_bind, Sem.run_pure, Result.andThen_ok, List.map_toArray, List.map_cons, List.map_nil, hs, hx]
  rw [hr]
  exact hK _ _ (h v' w' h2 h4)
theorem owns_emptyB {w : World} {base g : Nat} (h : objAt w g = some (.cells #[] 5 (0, 0))) (hb : base ≤ g) : BRow w base (.slice (some ⟨g, 0, none⟩) 0 0) [] :=
 ⟨rfl, .inr ⟨g, 0, #[], rfl, hb, h, Nat.le_refl _, by decide, rfl, rfl⟩⟩

theorem eqNil_some {P : Program} (w : World) (t e : TypeId) (h : P.underlying t = some (.slice e)) (a : Addr) (l c : Nat) : (binOp .eql t (.slice (some a) l c) (.slice none 0 0)).run P w = .ok (.bool false) w := by
 simp [binOp, run_equal_slice_nil w t e (some a) l c h]
theorem Clone_any (ad : Addr) (l : List UInt8) (cap : Nat) (w : World) (h : BytesAt w (some ad) l) (h0 : 0 < l.length) (hl : l.length ≤ 100000) :
 Calls Tryz.prog 164 #[.slice (some ad) l.length cap] w fun e w' => ∃ g cap', e = .returned (.slice (some ⟨g, 0, none⟩) l.length cap') ∧ BRow w' w.heap.size (.slice (some ⟨g, 0, none⟩) l.length cap') l ∧ Below w.heap.size w w' := by
 have hnil : ∀ w', (binOp .eql 22 (.slice (some ad) l.length cap) (.slice none 0 0)).run Tryz.prog w' = .ok (.bool false) w' := fun w' => eqNil_some w' _ _ Tryz.underlying22 _ _ _
 go_enter Tryz.func164, Tryz.ntmps164
 go_wp2_with (at_builtin; refine list_appAt rfl _ _ rfl rfl (owns_emptyB (g := w.heap.size) (base := w.heap.size) (by simp [objAt_alloc]) (Nat.le_refl _)) rfl (h.below (grow_alloc (Below.refl _ _) _)) (by simp; omega) (by simp) ?_; intro v2 w2 hB2 b2)
 go_ret
 rw [List.nil_append] at hB2
 obtain ⟨g, cap', rfl, _, _⟩ := hB2.form h0
 exact ⟨g, cap', rfl, hB2, grow_alloc (Below.refl _ _) _ |>.trans b2⟩

theorem run_copyV {e t : TypeId} {bytes : Nat} (E : Elem1 Tryz.prog t e bytes) {w : World} {base : Nat} {v : Value} (hown : w.ownsRow base e 1 v 0 []) {ad : Addr} {cap : Nat} {xs : List Value} (hx : ∀ j u, xs[j]? = some u → w.cell? (ad.add j) = some u)
 (h1 : ∀ u ∈ xs, u.oneCell' = true) (h0 : 0 < xs.length) (hl : xs.length ≤ 1000000) (hbase : base ≤ w.heap.size) (ty : TypeId) :
 ∃ g cap' w', (Builtin.append_ #[t, t] ty #[v, .slice (some ad) xs.length cap]).run Tryz.prog w = .ok (.slice (some ⟨g, 0, none⟩) xs.length cap') w' ∧ w'.ownsRow base e 1 (.slice (some ⟨g, 0, none⟩) xs.length cap') xs.length xs ∧ Below base w w' := by
 obtain ⟨i, z, hi, hz, hs, hby, hzs⟩ := E.info
 have hle := E.le
 have hm : xs.length * bytes ≤ 1000000 * 64 := Nat.mul_le_mul hl hle
 obtain ⟨v', w', h3, h4, h5, _⟩ := run_append_own (P := Tryz.prog) w base t ty e i z 1 bytes E.ht hi hz hs hby hzs (by decide) v 0 _ hown ad xs.length cap xs (by simp) hx h1 (by unfold maxLen; omega) (by rw [Nat.zero_add]; omega) hbase
 rw [List.nil_append, Nat.zero_add] at h4
 obtain ⟨g, cap', rfl, _, _⟩ := World.ownsRow.form h4 h0
 exact ⟨g, cap', w', h3, h4, (Below.refl base w).grown h5 hbase (fun k hk => (World.ownsRow.lt hown k hk).1)⟩
theorem list_copyV {e t : TypeId} {bytes : Nat} (E : Elem1 Tryz.prog t e bytes) {ops : Array Oper} {o : Oper} {a : Act} {w : World} {Q : Exit → Act → World → Prop} {rest : List Oper} (hgd : o.guard = none) (s x : Operand) (ho : o.op = .call { callee := .builtin .append, args := #[s, x], argTypes := #[t, t] })
 {base : Nat} {v : Value} (hs : a.eval s = v) (hown : w.ownsRow base e 1 v 0 []) {ad : Addr} {cap : Nat} {xs : List Value} (hx : a.eval x = .slice (some ad) xs.length cap) (hu : ∀ j u, xs[j]? = some u → w.cell? (ad.add j) = some u)
 (h1 : ∀ u ∈ xs, u.oneCell' = true) (h0 : 0 < xs.length) (hl : xs.length ≤ 1000000) (hbase : base ≤ w.heap.size)
 (h : ∀ g cap' w', w'.ownsRow base e 1 (.slice (some ⟨g, 0, none⟩) xs.length cap') xs.length xs → Below base w w' → wpList Tryz.prog ops Q rest (a.put o.dst (.slice (some ⟨g, 0, none⟩) xs.length cap')) w') :
 wpList Tryz.prog ops Q (o :: rest) a w :=
 wpList_plain hgd fun K hK => by
  obtain ⟨g, cap', w', hr, h2, h4⟩ := run_copyV E hown hu h1 h0 hl hbase o.type
  unfold Oper.wp execOp
  simp only [ho, resolve, invoke, builtin, Sem.run_bind, Sem.run_pure, Result.andThen_ok, List.map_toArray, List.map_cons, List.map_nil, hs, hx]
  rw [hr]
  exact hK _ _ (h g cap' w' h2 h4)
theorem elemBytes : Elem1 Tryz.prog 204 22 24 := Elem1.mk' (z := .slice none 0 0) Tryz.underlying204 (by kernel_rfl) rfl (by decide)
theorem owns_emptyV {w : World} {base g : Nat} {e : TypeId} (h : objAt w g = some (.cells #[] e (0, 0))) (hb : base ≤ g) : w.ownsRow base e 1 (.slice (some ⟨g, 0, none⟩) 0 0) 0 [] :=
 ⟨rfl, .inr ⟨g, 0, #[], rfl, hb, h, Nat.le_refl _, by decide, rfl, rfl⟩⟩

theorem CloneV_any (ad : Addr) (xs : List Value) (cap : Nat) (w : World) (hx : ∀ j u, xs[j]? = some u → w.cell? (ad.add j) = some u) (h1 : ∀ u ∈ xs, u.oneCell' = true) (h0 : 0 < xs.length) (hl : xs.length ≤ 100000) :
 Calls Tryz.prog 168 #[.slice (some ad) xs.length cap] w fun e w' => ∃ g cap', e = .returned (.slice (some ⟨g, 0, none⟩) xs.length cap') ∧ w'.ownsRow w.heap.size 22 1 (.slice (some ⟨g, 0, none⟩) xs.length cap') xs.length xs ∧ Below w.heap.size w w' := by
 have hnil : ∀ w', (binOp .eql 204 (.slice (some ad) xs.length cap) (.slice none 0 0)).run Tryz.prog w' = .ok (.bool false) w' := fun w' => eqNil_some w' _ _ Tryz.underlying204 _ _ _
 have hX : ∀ j u, xs[j]? = some u → (w.alloc (.cells #[] 22)).cell? (ad.add j) = some u := fun j u hj => grow_cell (grow_alloc (Below.refl _ _) _) (hx j u hj)
 have HX := Lib.hid hX
 clear hX hx
 go_enter Tryz.func168, Tryz.ntmps168
 go_wp2_with (at_builtin; refine list_copyV elemBytes rfl _ _ rfl rfl (owns_emptyV (g := w.heap.size) (base := w.heap.size) (by simp [objAt_alloc]) (Nat.le_refl _)) rfl HX.out h1 h0 (by omega) (by simp) ?_; intro g2 cap2 w2 hB2 b2)
 go_ret
 exact ⟨g2, cap2, rfl, hB2, grow_alloc (Below.refl _ _) _ |>.trans b2⟩

theorem GrowNil_any (n : Nat) (w : World) (h0 : 0 < n) (hn : n ≤ 100000) :
 Calls Tryz.prog 193 #[.slice none 0 0, .int .i64 n] w fun e w' => ∃ v, e = .returned v ∧ BRow w' w.heap.size v [] ∧ Below w.heap.size w w' := by
 obtain ⟨i, z, hi, hz, hs, hby, hzs⟩ := infoByte
 have hG := Lib.hid (grownCap_ge w n 0 5)
 have hG2 := grownCap_le_maxLen w n 0 5 (by unfold maxLen; omega)
 have hr : ∀ ty, (Builtin.append_ #[22, 3] ty #[.slice none 0 0, .int .i64 n]).run Tryz.prog w = .ok (.slice (some ⟨w.heap.size, 0, none⟩) n (grownCap w n 0 5)) (w.drew.alloc (.cells (#[] ++ Builtin.zeroCells z.cells n ++ Builtin.zeroCells z.cells (grownCap w n 0 5 - n)) 5)) := fun ty => by
  have h := Lib.run_append_grow_zeros w 22 3 ty 5 i z .i64 .i64 Tryz.underlying22 Tryz.underlying3 hi hz none 0 0 [] (by exact run_firstCells_none w.drew i.size 0 0 0) n h0 (by omega) (by omega) (by omega) (by rw [hby]; omega)
   (by rw [hby]; have := @growslice_fits (0 + n) 0 1 (by omega) (by omega); simpa using this)
  rw [Nat.zero_add] at h
  exact h
 have hsize : (#[] ++ Builtin.zeroCells z.cells n ++ Builtin.zeroCells z.cells (grownCap w n 0 5 - n)).size = grownCap w n 0 5 := by
  have := hG.out
  simp [Builtin.zeroCells, hzs]; omega
 generalize #[] ++ Builtin.zeroCells z.cells n ++ Builtin.zeroCells z.cells (grownCap w n 0 5 - n) = C at *
 generalize hGe : grownCap w n 0 5 = G at *
 have hG3 : G ≤ 9223372036854775807 := by unfold maxLen at hG2; omega
 have h1 : ¬ ((n : Int) < 0) := by omega
 have h2 : (n : Int) > 0 := by omega
 have Hr := Lib.hid hr
 have Hs := Lib.hid hsize
 have Hm := Lib.hid hG2
 clear hr hGe hG2 hsize hz hzs
 go_enter Tryz.func193, Tryz.ntmps193
 go_wp2_with (at_builtin; refine Lib.wpList_append_run _ rfl _ _ _ _ rfl _ _ rfl rfl _ _ (Hr.out _) ?_)
 go_ret
 refine ⟨_, rfl, ⟨rfl, .inr ⟨w.heap.size, G, C, rfl, Nat.le_refl _, ?_, Nat.zero_le _, Hm.out, by rw [Hs.out, Nat.mul_one], rfl⟩⟩, (grow_alloc (Below.refl _ _) _).drew⟩
 exact (heap_alloc_if w _ _).trans (if_pos rfl)

def ListsAt (w : World) (g : Nat) (ls : List (List UInt8)) : Prop := ∀ i (h : i < ls.length), ∃ a c, w.cell? ⟨g, i, none⟩ = some (.slice a ls[i].length c) ∧ BytesAt w a ls[i]
theorem ListsAt.below {w w' : World} {g : Nat} {ls : List (List UInt8)} (h : ListsAt w g ls) (hb : Below w.heap.size w w') : ListsAt w' g ls := by
 intro i hi
 obtain ⟨a, c, h1, h2⟩ := h i hi
 exact ⟨a, c, grow_cell hb h1, h2.below hb⟩
theorem flat_take_succ {ls : List (List UInt8)} {k : Nat} (h : k < ls.length) : (ls.take (k + 1)).flatten = (ls.take k).flatten ++ ls[k] := by
 rw [List.take_succ_eq_append_getElem h, List.flatten_append]; simp
theorem flat_take_le (ls : List (List UInt8)) (k : Nat) : (ls.take k).flatten.length ≤ ls.flatten.length := by
 conv => rhs; rw [← List.take_append_drop k ls, List.flatten_append, List.length_append]
 omega

theorem Concat_any (g : Nat) (ls : List (List UInt8)) (cap : Nat) (w : World) (h : ListsAt w g ls) (hl : ls.length ≤ 100) (h0 : 0 < ls.flatten.length) (ht : ls.flatten.length ≤ 10000) :
 Calls Tryz.prog 154 #[.slice (some ⟨g, 0, none⟩) ls.length cap] w fun e w' => ∃ v, e = .returned v ∧ BRow w' w.heap.size v ls.flatten ∧ Below w.heap.size w w' := by
 go_enter Tryz.func154, Tryz.ntmps154
 go_wp2_with fail
 go_loop [3, 11] (fun t i => ∃ k : Nat, k ≤ ls.length ∧ i = .int .i64 k ∧ t = .int .i64 ((ls.take k).flatten.length : Nat)) (fun _ i => ls.length - (intOf i).toNat)
 case atStart => exact ⟨0, Nat.zero_le _, rfl, rfl⟩
 case round =>
  obtain ⟨k, hk, rfl, rfl⟩ := hrel
  obtain ⟨u, hu⟩ : ∃ u, u = (ls.take k).flatten.length := ⟨_, rfl⟩
  rw [← hu]
  have Hu := Lib.hid hu
  clear hu
  by_cases hlt : k < ls.length
  · obtain ⟨a, c, hc, _⟩ := h k hlt
    have hle := flat_take_le ls (k + 1)
    rw [flat_take_succ hlt, List.length_append, ← Hu.out] at hle
    have Hs := Lib.hid (congrArg List.length (flat_take_succ hlt))
    generalize hq : ls[k].length = q at *
    have Hq := Lib.hid hq
    have hF : ¬ ((u : Int) + (q : Int) < 0) := by omega
    have hqq : u + q ≤ 10000 := by omega
    clear h h0 hle hq ht
    go_wp2_with fail
    go_round
    case rel => exact ⟨k + 1, by omega, by go_num, by rw [Hs.out, List.length_append, ← Hu.out, Hq.out]; go_num⟩
    case measure => simp [intOf]; omega
  · have hkl : ls.take k = ls := List.take_of_length_le (by omega)
    have huq : u = ls.flatten.length := by rw [Hu.out, hkl]
    rw [huq]
    clear huq Hu
    have HG := Lib.hid (GrowNil_any ls.flatten.length w h0 (by omega))
    have Hh := Lib.hid h
    have Ht := Lib.hid (And.intro h0 ht)
    generalize hq : ls.flatten.length = q at *
    have Hq := Lib.hid hq
    clear hkl h hq h0 ht
    go_wp2_with (go_at_call 193; refine HG.out.mono ?_; rintro e w1 ⟨v, rfl, hv, b1⟩)
    go_loopw [6, 27] (fun s i wr => ∃ (k : Nat) (V : Value), k ≤ ls.length ∧ i = .int .i64 k ∧ V = s ∧ BRow wr w.heap.size V (ls.take k).flatten ∧ Below w.heap.size w wr) (fun _ i _ => ls.length - (intOf i).toNat)
    case atStart => exact ⟨0, v, Nat.zero_le _, rfl, rfl, hv, b1⟩
    case round =>
     obtain ⟨k2, V, hk2, rfl, rfl, hV, bV⟩ := hrel
     have HV := Lib.hid (And.intro hV bV)
     clear hV bV hv b1
     by_cases hlt2 : k2 < ls.length
     · obtain ⟨a, c, hc, hby⟩ := (Hh.out.below HV.out.2) k2 hlt2
       have hle := flat_take_le ls (k2 + 1)
       have hs := Lib.hid (flat_take_succ hlt2)
       have hs2 := congrArg List.length hs.out
       rw [List.length_append] at hs2
       have htt := Ht.out
       have HB := Lib.hid hby
       have hlen2 : (ls.take k2).flatten.length + ls[k2].length < 2000000000 := by have := Hq.out; omega
       generalize hx : ls[k2] = x at *
       clear hle hs2 htt hx hby
       go_wp2_with (at_builtin; refine list_appAt rfl _ _ rfl rfl HV.out.1 rfl HB.out hlen2 HV.out.2.size ?_; intro v2 w2 hB2 b2)
       have hB3 := hB2
       rw [← hs.out] at hB3
       have b3 := HV.out.2.trans b2
       clear hB2 b2
       go_roundw
       case rel => exact ⟨k2 + 1, _, by omega, by go_num, rfl, hB3, b3⟩
       case measure => simp [intOf]; omega
     · go_wp2_with fail
       go_ret
       have e : ls.take k2 = ls := List.take_of_length_le (by omega)
       have := HV.out.1
       rw [e] at this
       exact ⟨_, rfl, this, HV.out.2⟩
end
section
open Go.RowKit
attribute [local go_sem] hasBlk
attribute [local irreducible] Calls

theorem wp_scope_none {P : Program} {a : Act} {w : World} {Q : Exit → Act → World → Prop} {c : Code} (first : c.wp P (jumps (fun _ _ _ => False) Q) a w) : (Code.scope c).wp P Q a w :=
 wp_scope_gotos (fun _ _ _ => False) (fun _ _ _ => 0) (fun _ _ _ h => h.elim) first (fun _ _ _ _ h => h.elim)
theorem lit4 {w : World} {g : Nat} {x0 x1 x2 x3 : Int} (c0 c1 c2 c3 : UInt8) (h : objAt w g = some (.cells #[.int .u8 x0, .int .u8 x1, .int .u8 x2, .int .u8 x3] 5 (0, 0))) (e0 : x0 = c0.toNat) (e1 : x1 = c1.toNat) (e2 : x2 = c2.toNat) (e3 : x3 = c3.toNat) {B : Nat} (hb : B ≤ g) :
 BRow w B (.slice (some ⟨g, 0, none⟩) 4 4) [c0, c1, c2, c3] := by
 subst e0 e1 e2 e3
 exact ⟨rfl, .inr ⟨g, 4, _, rfl, hb, h, Nat.le_refl _, by decide, rfl, rfl⟩⟩
theorem high4 (n : Nat) : high n 4 = [UInt8.ofNat (n / 16777216 % 256), UInt8.ofNat (n / 65536 % 256), UInt8.ofNat (n / 256 % 256), UInt8.ofNat (n % 256)] := by
 simp [high, List.range, List.range.loop]
theorem ofNat_mod (n : Nat) : ((UInt8.ofNat (n % 256)).toNat : Int) = (n : Int) % 256 := by
 simp
theorem four_any (n : Nat) (hn : n < 4294967296) (w : World) :
 Calls Tryz.prog 198 #[.int .u32 n] w fun e w' => e = .returned (.slice (some ⟨w.heap.size, 0, none⟩) 4 4) ∧ BRow w' w.heap.size (.slice (some ⟨w.heap.size, 0, none⟩) 4 4) (high n 4) ∧ Below w.heap.size w w' := by
 go_enter Tryz.func198, Tryz.ntmps198
 go_wp2_with fail
 go_ret
 refine ⟨rfl, ?_, grow_alloc (Below.refl _ _) _⟩
 rw [high4]
 refine lit4 _ _ _ _ (by rw [objAt_alloc, if_pos rfl]) ?_ ?_ ?_ ?_ (Nat.le_refl _)
 all_goals (rw [ofNat_mod]; try omega)

theorem BlkAt.bytes {w : World} {g : Nat} {b : Blk} (h : BlkAt w g b) : BytesAt w (some ⟨g, 1, none⟩) b.body :=
 ⟨g, 1, fun _ => rfl, fun i hi => h.cell i (by rw [← b.len]; exact hi)⟩
theorem lists2 {W : World} {g : Nat} {a1 a2 : Option Addr} {n1 n2 c1 c2 : Nat} {l1 l2 : List UInt8} {t : TypeId} (h : objAt W g = some (.cells #[.slice a1 n1 c1, .slice a2 n2 c2] t (0, 0))) (e1 : n1 = l1.length) (e2 : n2 = l2.length) (h1 : BytesAt W a1 l1) (h2 : BytesAt W a2 l2) : ListsAt W g [l1, l2] := by
 subst e1 e2
 intro i hi
 have ho : W.heap[g]? = _ := h
 match i, hi with
 | 0, _ => exact ⟨a1, c1, by simp only [World.cell?, ho]; rfl, h1⟩
 | 1, _ => exact ⟨a2, c2, by simp only [World.cell?, ho]; rfl, h2⟩
def sealHead (lb : UInt8) (a : Nat) (b : Blk) : List UInt8 := [UInt8.ofNat b.kind.toNat, lb, UInt8.ofNat (a / 256), UInt8.ofNat a] ++ b.body
def sealB (lb : UInt8) (a : Nat) (b : Blk) : List UInt8 := sealHead lb a b ++ high (sum32 (sealHead lb a b)) 4
theorem sealHead_length (lb : UInt8) (a : Nat) (b : Blk) : (sealHead lb a b).length = 60 := by simp [sealHead, b.len]
theorem sealB_length (lb : UInt8) (a : Nat) (b : Blk) : (sealB lb a b).length = 64 := by rw [sealB, List.length_append, sealHead_length, high_length]

theorem seal_lists (w0 : World) (G : Nat) (b : Blk) (lb : UInt8) (k a : Nat) (hX : BlkAt w0 G b) :
 ListsAt (World.drew (World.alloc (World.alloc w0 (.cells #[.int .u8 (IntKind.u8.wrap (k : Int)), .int .u8 (lb.toNat : Int), .int .u8 (IntKind.u8.wrap ((a : Int) / 256)), .int .u8 (IntKind.u8.wrap (a : Int))] 5)) (.cells #[.slice (some ⟨w0.heap.size, 0, none⟩) 4 4, .slice (some ⟨G, 1, none⟩) 56 56] 22)))
  (w0.heap.size + 1) [[UInt8.ofNat k, lb, UInt8.ofNat (a / 256), UInt8.ofNat a], b.body] := by
 have hsz := size_alloc w0
 have ho1 := objAt_drew (World.alloc (World.alloc w0 (.cells #[.int .u8 (IntKind.u8.wrap (k : Int)), .int .u8 (lb.toNat : Int), .int .u8 (IntKind.u8.wrap ((a : Int) / 256)), .int .u8 (IntKind.u8.wrap (a : Int))] 5)) (.cells #[.slice (some ⟨w0.heap.size, 0, none⟩) 4 4, .slice (some ⟨G, 1, none⟩) 56 56] 22)) w0.heap.size
 rw [objAt_alloc, hsz, if_neg (by omega), objAt_alloc, if_pos rfl] at ho1
 have ho2 := objAt_drew (World.alloc (World.alloc w0 (.cells #[.int .u8 (IntKind.u8.wrap (k : Int)), .int .u8 (lb.toNat : Int), .int .u8 (IntKind.u8.wrap ((a : Int) / 256)), .int .u8 (IntKind.u8.wrap (a : Int))] 5)) (.cells #[.slice (some ⟨w0.heap.size, 0, none⟩) 4 4, .slice (some ⟨G, 1, none⟩) 56 56] 22)) (w0.heap.size + 1)
 rw [objAt_alloc, hsz, if_pos rfl] at ho2
 have hb1 := (lit4 (c0 := UInt8.ofNat k) (c1 := lb) (c2 := UInt8.ofNat (a / 256)) (c3 := UInt8.ofNat a) ho1 (wrap_byte k) rfl (wrap_byte (a / 256)) (wrap_byte a) (Nat.zero_le _)).bytesAt.1
 exact lists2 ho2 rfl b.len.symm hb1 (hX.below (grow_alloc (grow_alloc (Below.refl _ _) _) _).drew (block_lt hX)).bytes
theorem Seal_any (lb : UInt8) (a : Nat) (b : Blk) (hk : 0 ≤ b.kind ∧ b.kind ≤ 7) (ha : a < 200) (w : World) :
 Calls Tryz.prog 166 #[.int .u8 (lb.toNat : Int), .int .i64 a, .agg b.cells] w fun e w' => ∃ g cap, e = .returned (.tuple #[.slice (some ⟨g, 0, none⟩) 64 cap, .bool true]) ∧ BRow w' w.heap.size (.slice (some ⟨g, 0, none⟩) 64 cap) (sealB lb a b) ∧ Below w.heap.size w w' := by
 obtain ⟨k, hk'⟩ := Int.eq_ofNat_of_zero_le hk.1
 have hX : BlkAt (w.alloc (.cells b.cells 37)) w.heap.size b := BlkAt.alloc_new w b
 have hB : Below w.heap.size w (w.alloc (.cells b.cells 37)) := grow_alloc (Below.refl _ _) _
 have c0 : (w.alloc (.cells b.cells 37)).cell? ⟨w.heap.size, 0, none⟩ = some (.int .i64 (k : Int)) := by
  unfold BlkAt at hX
  simp only [World.cell?, hX]; rw [b.cell0, hk']; rfl
 obtain ⟨G, hG⟩ : ∃ G, G = w.heap.size := ⟨_, rfl⟩
 rw [← hG] at hX c0
 have HG := Lib.hid hG
 clear hG
 have h7 : ¬ ((7 : Int) < (k : Int)) := by omega
 have h0 : ¬ ((k : Int) < 0) := by omega
 have a0 : ¬ ((a : Int) < 0) := by omega
 have a1 : ¬ ((200 : Int) ≤ (a : Int)) := by omega
 go_enter Tryz.func166, Tryz.ntmps166
 go_wp2_with fail
 refine wp_scope_none ?_
 rw [← HG.out]
 obtain ⟨w0, hw0⟩ : ∃ w0, w0 = w.alloc (.cells b.cells 37) := ⟨_, rfl⟩
 rw [← hw0] at hX c0 hB ⊢
 clear hw0
 have hGl : G < w0.heap.size := block_lt hX
 have hwl : w.heap.size ≤ w0.heap.size := hB.size
 have HX := Lib.hid (And.intro hX hB)
 have hS : ∀ w', Below w0.heap.size w0 w' → w'.cell? ⟨G, 0, none⟩ = some (.int .i64 (k : Int)) ∧ Below w0.heap.size w0 w' := fun w' hb => ⟨grow_cell hb c0, hb⟩
 clear hX hB
 go_upto_region 3 with fail
 refine wp_region_held_drew (S := fun w' => w'.cell? ⟨G, 0, none⟩ = some (.int .i64 (k : Int)) ∧ Below w0.heap.size w0 w') (by kernel_rfl) (hS _ (Below.refl _ _).drew) (fun hHeld => ?_)
 show wpAnyH _ _ _ _ _ 15 #[false, false, false, false, false, false, false, false, false, false, false, false, false, false, false] _ _
 refine gT 0 ?_; try simp only [Act.put, qs]
 refine gT 1 ?_; try simp only [Act.put, qs]
 refine gT 2 ?_; try simp only [Act.put, qs]
 refine gT 3 ?_; try simp only [Act.put, qs]
 refine gT 4 ?_; try simp only [Act.put, qs]
 refine gT 5 ?_; try simp only [Act.put, qs]
 refine gT 6 ?_; try simp only [Act.put, qs]
 refine gT 7 ?_; try simp only [Act.put, qs]
 refine gT 8 ?_; try simp only [Act.put, qs]
 refine gT 10 ?_; try simp only [Act.put, qs]
 refine gT 11 ?_; try simp only [Act.put, qs]
 refine gY 9 fun K hK => ?_
 try simp only [qs]
 go_simp
 refine hK.out _ _ (by exact hS _ (grow_alloc hHeld.2 _)) (fun hN => ?_); replace hHeld := hN; clear hK K hN
 try simp only [qs]
 refine gY 12 fun K hK => ?_
 try simp only [qs]
 go_simp
 refine hK.out _ _ (by exact hS _ (grow_alloc hHeld.2 _)) (fun hN => ?_); replace hHeld := hN; clear hK K hN
 try simp only [qs]
 refine gY 13 fun K hK => ?_
 try simp only [qs]
 go_simp
 have hL := seal_lists w0 G b lb k a HX.out.1; have hfl : ([[UInt8.ofNat k, lb, UInt8.ofNat (a / 256), UInt8.ofNat a], b.body] : List (List UInt8)).flatten = sealHead lb a b := (by unfold sealHead; rw [hk']; simp); go_at_call 154; refine (Concat_any _ _ _ _ hL (by simp) (by rw [hfl, sealHead_length]; decide) (by rw [hfl, sealHead_length]; decide)).mono ?_; rintro e x1 ⟨v1, rfl, hv1, b1⟩; have hx1 := grow_trans hHeld.2 b1; rw [hfl] at hv1; obtain ⟨g1, cap1, rfl, hg1, _⟩ := hv1.form (by rw [sealHead_length]; decide); have hv := hv1.mono (Nat.le_trans hwl hHeld.2.size); clear hL hfl hv1 hg1 b1
 refine hK.out _ _ (by exact hS _ hx1) (fun hN => ?_); replace hHeld := hN; clear hK K hN
 try simp only [qs]
 refine gT 14 ?_; try simp only [Act.put, qs]
 refine wpAnyH_done (by kernel_rfl) ?_ _
 have hbt := hv.bytesAt.1
 have hsum := Sum_any (some ⟨g1, 0, none⟩) (sealHead lb a b) cap1 x1 hbt (by rw [sealHead_length]; decide)
 have hf := four_any (sum32 (sealHead lb a b)) (sum32_lt _) x1
 have Hsum := Lib.hid (And.intro hsum hf)
 have HV := Lib.hid (And.intro hv (HX.out.2.trans (hHeld.2.mono hwl)))
 clear hbt hsum hf hv hHeld hS c0 hx1
 go_wp2_with (first | (go_at_call 199; refine Hsum.out.1.mono ?_; rintro e x2 ⟨rfl, rfl⟩) | (go_at_call 198; refine Hsum.out.2.mono ?_; rintro e x3 ⟨rfl, hb3, b3⟩; have hv3 := HV.out.1.below b3) | (at_builtin; refine list_appAt rfl _ _ rfl rfl hv3 (by rw [high_length]; rfl) hb3.bytesAt.1 (by rw [sealHead_length, high_length]; decide) (HV.out.2.trans (b3.mono HV.out.2.size)).size ?_; intro v4 x4 hB4 b4))
 rw [jumps_ret]
 go_ret2
 have e : sealHead lb a b ++ high (sum32 (sealHead lb a b)) 4 = sealB lb a b := rfl
 rw [e] at hB4
 obtain ⟨g5, cap5, rfl, _, _⟩ := hB4.form (by rw [sealB_length]; decide)
 rw [sealB_length] at hB4 ⊢
 exact ⟨g5, cap5, rfl, hB4, (HV.out.2.trans (b3.mono HV.out.2.size)).trans b4⟩
end
end Go.Proofs.YtbbnejehglonjaaGreat
