/- DERIVED. Contracts and laws that the proofs of this seat share, part 1 of 32: PaB LibC Blk Ref1B Ref1C BlkEq. -/
import Derived.Lib.AppendStr
import Derived.Deep.DeepCutAuto
import Derived.Deep.QuietTactic
import Derived.BigQuiet
import Derived.Stop.BytesEq
import Derived.Test.YtanmihhlkelgeaaGreatMg00
/- DERIVED. Contracts of area's functions, label.May and Put, block.four. -/
namespace Go.Proofs.YtanmihhlkelgeaaGreat
open Go.RowKit
attribute [local irreducible] Calls

/-- A share: its label's level and categories, how many blocks, of the log, frames. -/
structure Sh where
  level : Int
  cats : Int
  blocks : Nat
  log : Nat
  frames : Int
def Sh.cells (s : Sh) : Array Value := #[.int .i64 s.level, .int .i64 s.cats, .int .i64 s.blocks, .int .i64 s.log, .int .i64 s.frames]
structure Sh.Ok (s : Sh) : Prop where
  level : 0 ≤ s.level ∧ s.level ≤ 3
  cats : 0 ≤ s.cats ∧ s.cats ≤ 15
  blocks : s.blocks ≤ 200
  log : s.log ≤ 100
  pos : 0 < s.blocks
/-- How many blocks a region has. -/
def Sh.size (s : Sh) : Nat := 2 + s.log + s.blocks
/-- The label as a byte. -/
def Sh.lb (s : Sh) : UInt8 := UInt8.ofNat (16 * s.level + s.cats).toNat

theorem Size_any (s : Sh) (h : s.Ok) (w : World) :
    Calls Tryz.prog 49 #[.agg s.cells] w fun e w' => e = .returned (.int .i64 (s.size : Nat)) ∧ Below w.heap.size w w' := by
  obtain ⟨lv, ca, bl, lo, fr⟩ := s
  have h1 := h.blocks
  have h2 := h.log
  dsimp only at h1 h2
  unfold Sh.cells Sh.size
  go_enter Tryz.func49, Tryz.ntmps49
  go_wp2_with fail
  go_ret
  exact ⟨by go_num, grow_alloc (Below.refl _ _) _⟩
theorem Anchor_any (e : Nat) (w : World) :
    Calls Tryz.prog 119 #[.int .u32 e] w fun x w' => x = .returned (.int .i64 (e % 2 : Nat)) ∧ w' = w := by
  go_enter Tryz.func119, Tryz.ntmps119
  go_wp2_with fail
  go_ret
  exact ⟨by go_num, rfl⟩
theorem row_any (a b : Int) (w : World) :
    Calls Tryz.prog 164 #[.int .i64 a, .int .i64 b] w fun x w' => x = .returned (cz a b) ∧ w' = w := by
  unfold cz
  go_enter Tryz.func164, Tryz.ntmps164
  go_wp2_with fail
  go_ret
  exact ⟨rfl, rfl⟩
theorem of_any (a b i : Nat) (ha : a ≤ 1000) (hb : b ≤ 1000) (hi : i < b) (w : World) :
    Calls Tryz.prog 165 #[cz a b, .int .i64 i] w fun x w' => x = .returned (.int .i64 (a + i : Nat)) ∧ w' = w := by
  have hA : ∀ w, (convert 329 3 (.float .f64 (floatOfInt .f64 (a : Int)))).run Tryz.prog w = .ok (.int .i64 (a : Int)) w := fun w => fz_i64 w _ _ _ (by rw [Tryz.underlying329]; rfl) Tryz.underlying3 (smallZ_of (by omega) (by omega))
  have hB : ∀ w, (convert 329 3 (.float .f64 (floatOfInt .f64 (b : Int)))).run Tryz.prog w = .ok (.int .i64 (b : Int)) w := fun w => fz_i64 w _ _ _ (by rw [Tryz.underlying329]; rfl) Tryz.underlying3 (smallZ_of (by omega) (by omega))
  have h0 : ¬ ((i : Int) < 0) := by omega
  have h1 : ¬ ((b : Int) ≤ (i : Int)) := by omega
  unfold cz
  go_enter Tryz.func165, Tryz.ntmps165
  go_wp2_with fail
  go_ret
  exact ⟨by go_num, rfl⟩
theorem Log_any (s : Sh) (h : s.Ok) (i : Nat) (hi : i < s.log) (w : World) :
    Calls Tryz.prog 122 #[.agg s.cells, .int .i64 i] w fun e w' => e = .returned (.int .i64 (2 + i : Nat)) ∧ Below w.heap.size w w' := by
  obtain ⟨lv, ca, bl, lo, fr⟩ := s
  have h2 := h.log
  dsimp only at h2 hi
  have hof := Lib.hid (of_any 2 lo i (by omega) (by omega) hi)
  unfold Sh.cells
  go_enter Tryz.func122, Tryz.ntmps122
  go_wp2_with (first | (go_at_call 164; refine (row_any _ _ _).mono ?_; rintro e w1 ⟨rfl, rfl⟩) | (go_at_call 165; refine (hof.out _).mono ?_; rintro e w1 ⟨rfl, rfl⟩))
  go_ret
  exact ⟨rfl, grow_alloc (Below.refl _ _) _⟩
theorem Home_any (s : Sh) (h : s.Ok) (i : Nat) (hi : i < s.blocks) (w : World) :
    Calls Tryz.prog 118 #[.agg s.cells, .int .i64 i] w fun e w' => e = .returned (.int .i64 (2 + s.log + i : Nat)) ∧ Below w.heap.size w w' := by
  obtain ⟨lv, ca, bl, lo, fr⟩ := s
  have h1 := h.blocks
  have h2 := h.log
  dsimp only at h1 h2 hi
  have hof := Lib.hid (of_any (2 + lo) bl i (by omega) (by omega) hi)
  have e1 : (((2 + lo : Nat)) : Int) = 2 + (lo : Int) := by omega
  rw [e1] at hof
  unfold Sh.cells
  go_enter Tryz.func118, Tryz.ntmps118
  go_wp2_with (first | (go_at_call 164; refine (row_any _ _ _).mono ?_; rintro e w1 ⟨rfl, rfl⟩) | (go_at_call 165; refine (hof.out _).mono ?_; rintro e w1 ⟨rfl, rfl⟩))
  go_ret
  exact ⟨by go_num, grow_alloc (Below.refl _ _) _⟩
theorem wrap_byte (n : Nat) : IntKind.u8.wrap (n : Int) = ((UInt8.ofNat n).toNat : Int) := by
  rw [IntKind.wrap_u8]; simp
theorem LabelMay_ok (lv ca : Int) (h1 : 0 ≤ lv ∧ lv ≤ 3) (h2 : 0 ≤ ca ∧ ca ≤ 15) (w : World) :
    Calls Tryz.prog 79 #[.agg #[.int .i64 lv, .int .i64 ca]] w fun e w' => e = .returned (.bool true) ∧ Below w.heap.size w w' := by
  obtain ⟨a1, a2⟩ := h1
  obtain ⟨a3, a4⟩ := h2
  go_enter Tryz.func79, Tryz.ntmps79
  go_wp2_with fail
  go_ret
  exact ⟨rfl, grow_alloc (Below.refl _ _) _⟩
theorem LabelPut_ok (lv ca : Int) (h1 : 0 ≤ lv ∧ lv ≤ 3) (h2 : 0 ≤ ca ∧ ca ≤ 15) (w : World) :
    Calls Tryz.prog 115 #[.agg #[.int .i64 lv, .int .i64 ca]] w fun e w' => e = .returned (.tuple #[.int .u8 ((UInt8.ofNat (16 * lv + ca).toNat).toNat : Int), .bool true]) ∧ Below w.heap.size w w' := by
  have hb : IntKind.u8.wrap (16 * lv + ca) = ((UInt8.ofNat (16 * lv + ca).toNat).toNat : Int) := by
    have := wrap_byte (16 * lv + ca).toNat
    rw [← this]; congr 1; omega
  have Hb := Lib.hid hb
  go_enter Tryz.func115, Tryz.ntmps115
  go_wp2_with (go_at_call 79; refine (LabelMay_ok lv ca h1 h2 _).mono ?_; rintro e w1 ⟨rfl, b1⟩; have c0 : w1.cell? ⟨w.heap.size, 0, none⟩ = some (.int .i64 lv) := grow_cell b1 (by simp); have c1 : w1.cell? ⟨w.heap.size, 1, none⟩ = some (.int .i64 ca) := grow_cell b1 (by simp))
  go_ret2
  refine ⟨?_, grow_trans (grow_alloc (Below.refl _ _) _) b1⟩
  rw [← Hb.out]
  simp only [IntKind.wrap_u8]
  go_num
end Go.Proofs.YtanmihhlkelgeaaGreat

/- DERIVED. Laws on append of bytes to a row of the call's own: at the run, at a plain list of operations, at a step of a region that draws. -/
namespace Go.Proofs.YtanmihhlkelgeaaGreat
open Go.RowKit

theorem BRow.mono {w : World} {B B' : Nat} {v : Value} {l : List UInt8} (h : BRow w B v l) (hb : B' ≤ B) : BRow w B' v l := by
  refine ⟨h.1, ?_⟩
  rcases h.2 with h' | ⟨g, cap, cur, h1, h2, h3⟩
  · exact .inl h'
  · exact .inr ⟨g, cap, cur, h1, Nat.le_trans hb h2, h3⟩
theorem BRow.drew {w : World} {B : Nat} {v : Value} {l : List UInt8} (h : BRow w B v l) : BRow w.drew B v l := h
theorem BRow.alloc {w : World} {B : Nat} {v : Value} {l : List UInt8} (h : BRow w B v l) (o : Obj) : BRow (w.alloc o) B v l := World.ownsRow.alloc h o
theorem BRow.form {w : World} {B : Nat} {v : Value} {l : List UInt8} (h : BRow w B v l) (hn : 0 < l.length) : ∃ g cap, v = .slice (some ⟨g, 0, none⟩) l.length cap ∧ B ≤ g ∧ g < w.heap.size := World.ownsRow.form h hn
theorem BRow.nil (w : World) (B : Nat) : BRow w B (.slice none 0 0) [] := World.ownsRow_nil w B 5 1
/-- One byte that was written out. -/
theorem BRow.lit {w : World} {B g : Nat} {x : Int} (c : UInt8) (hx : x = (c.toNat : Int)) (h : objAt w g = some (.cells #[.int .u8 x] 5 (0, 0))) (hb : B ≤ g) : BRow w B (.slice (some ⟨g, 0, none⟩) 1 1) [c] := by
  subst hx
  exact ⟨rfl, .inr ⟨g, 1, #[.int .u8 c.toNat], rfl, hb, h, Nat.le_refl _, by decide, rfl, rfl⟩⟩
theorem BRow.bytesAt {w : World} {B : Nat} {a : Option Addr} {n cap : Nat} {l : List UInt8} (h : BRow w B (.slice a n cap) l) : BytesAt w a l ∧ n = l.length := by
  obtain ⟨a', cap', he, hb⟩ := h.bytes
  simp only [Value.slice.injEq] at he
  obtain ⟨rfl, rfl, rfl⟩ := he
  exact ⟨hb, rfl⟩

theorem infoByte : ∃ i z, Tryz.prog.info? 5 = some i ∧ i.zero = some z ∧ i.size = 1 ∧ i.bytes = 1 ∧ z.cells.size = 1 := elemByte.info

theorem run_appB {w : World} {base : Nat} {v : Value} {xs : List UInt8} (hown : BRow w base v xs) {b2 : Nat} {u : Value} {ys : List UInt8} (hu : BRow w b2 u ys) (hys : 0 < ys.length) (hsz : xs.length + ys.length < 2000000000)
    (hbase : base ≤ w.heap.size) (ty : TypeId) :
    ∃ g cap w', (Builtin.append_ #[22, 22] ty #[v, u]).run Tryz.prog w = .ok (.slice (some ⟨g, 0, none⟩) (xs.length + ys.length) cap) w' ∧ BRow w' base (.slice (some ⟨g, 0, none⟩) (xs.length + ys.length) cap) (xs ++ ys) ∧
      w.grownBy w' v.ownBlock ∧ Below base w w' := by
  obtain ⟨g2, cap2, rfl, _, _⟩ := hu.form hys
  obtain ⟨i, z, hi, hz, hs, hby, hzs⟩ := infoByte
  obtain ⟨g, cap, w', h1, h2, h3, _, _⟩ := run_append_lies (P := Tryz.prog) w 22 ty base 5 i z 1 1 Tryz.underlying22 hi hz hs hby hzs (by decide) v xs.length _ hown ⟨g2, 0, none⟩ ys.length cap2 (ys.map fun c => Value.int .u8 c.toNat)
    (by simp) (World.ownsRow.cells hu (g := g2) rfl) (by intro x hx; simp only [List.mem_map] at hx; obtain ⟨c, _, rfl⟩ := hx; rfl) hys (by unfold maxLen; omega) (by omega) hbase w.heap.size rfl
  refine ⟨g, cap, w', h1, ?_, h3, (Below.refl base w).grown h3 hbase (fun k hk => (World.ownsRow.lt hown k hk).1)⟩
  unfold BRow
  rw [List.length_append, List.map_append]; exact h2

theorem run_appS {w : World} {base : Nat} {v : Value} {xs : List UInt8} (hown : BRow w base v xs) (s : ByteArray) (hxs : 0 < xs.length) (hsz : xs.length + s.size < 2000000000)
    (hbase : base ≤ w.heap.size) (ty : TypeId) :
    ∃ g cap w', (Builtin.append_ #[22, 9] ty #[v, .string s]).run Tryz.prog w = .ok (.slice (some ⟨g, 0, none⟩) (xs.length + s.size) cap) w' ∧ BRow w' base (.slice (some ⟨g, 0, none⟩) (xs.length + s.size) cap) (xs ++ s.data.toList) ∧
      w.grownBy w' v.ownBlock ∧ Below base w w' := by
  obtain ⟨i, z, hi, hz, hs, hby, hzs⟩ := infoByte
  have hz' : i.zero = some (.int .u8 0) := by
    have : (Tryz.prog.info? 5).map (·.zero) = some (some (.int .u8 0)) := by kernel_rfl
    rw [hi] at this; simpa using this
  obtain ⟨v', w', h1, h2, h3, _⟩ := Lib.run_append_own_string (P := Tryz.prog) w base 22 9 ty 5 i Tryz.underlying22 Tryz.underlying9 hi hz' hs hby v xs.length _ hown s (by unfold maxLen; omega) (by omega) hbase
  have hcells : Lib.strCells s = s.data.toList.map fun c => Value.int .u8 c.toNat := by
    unfold Lib.strCells; rfl
  have hB : BRow w' base v' (xs ++ s.data.toList) := by
    unfold BRow
    rw [List.length_append, List.map_append, ← hcells, show s.data.toList.length = s.size by simp]; exact h2
  obtain ⟨g, cap, rfl, _, _⟩ := hB.form (by rw [List.length_append]; omega)
  rw [List.length_append, show s.data.toList.length = s.size by simp] at h1 hB
  exact ⟨g, cap, w', h1, hB, h3, (Below.refl base w).grown h3 hbase (fun k hk => (World.ownsRow.lt hown k hk).1)⟩

section
variable {ops : Array Oper} {o : Oper} {a : Act} {w : World} {K : Act → World → Prop} {Q : Exit → Act → World → Prop} {F : Prop} {rest : List Oper}
theorem wp_appB (s x : Operand) (ho : o.op = .call { callee := .builtin .append, args := #[s, x], argTypes := #[22, 22] })
    {base : Nat} {v : Value} {xs : List UInt8} (hs : a.eval s = v) (hown : BRow w base v xs) {b2 : Nat} {u : Value} {ys : List UInt8} (hx : a.eval x = u) (hu : BRow w b2 u ys) (hys : 0 < ys.length) (m : Nat) (hm : xs.length + ys.length = m) (hsz : m < 2000000000) (hbase : base ≤ w.heap.size)
    (h : ∀ g cap w', BRow w' base (.slice (some ⟨g, 0, none⟩) m cap) (xs ++ ys) → w.grownBy w' v.ownBlock → Below base w w' → K (a.put o.dst (.slice (some ⟨g, 0, none⟩) m cap)) w') :
    o.wp Tryz.prog a w K Q := by
  subst hm
  obtain ⟨g, cap, w', hr, h2, h3, h4⟩ := run_appB hown hu hys hsz hbase o.type
  unfold Oper.wp execOp
  simp only [ho, resolve, invoke, builtin, Sem.run_bind, Sem.run_pure, Result.andThen_ok, List.map_toArray, List.map_cons, List.map_nil, hs, hx, hr]
  exact h g cap w' h2 h3 h4
theorem wp_appS (s x : Operand) (ho : o.op = .call { callee := .builtin .append, args := #[s, x], argTypes := #[22, 9] })
    {base : Nat} {v : Value} {xs : List UInt8} (hs : a.eval s = v) (hown : BRow w base v xs) (t : ByteArray) (hx : a.eval x = .string t) (hxs : 0 < xs.length) (m : Nat) (hm : xs.length + t.size = m) (hsz : m < 2000000000) (hbase : base ≤ w.heap.size)
    (h : ∀ g cap w', BRow w' base (.slice (some ⟨g, 0, none⟩) m cap) (xs ++ t.data.toList) → w.grownBy w' v.ownBlock → Below base w w' → K (a.put o.dst (.slice (some ⟨g, 0, none⟩) m cap)) w') :
    o.wp Tryz.prog a w K Q := by
  subst hm
  obtain ⟨g, cap, w', hr, h2, h3, h4⟩ := run_appS hown t hxs hsz hbase o.type
  unfold Oper.wp execOp
  simp only [ho, resolve, invoke, builtin, Sem.run_bind, Sem.run_pure, Result.andThen_ok, List.map_toArray, List.map_cons, List.map_nil, hs, hx, hr]
  exact h g cap w' h2 h3 h4
theorem step_appB (hgd : o.guard = none) (s x : Operand) (ho : o.op = .call { callee := .builtin .append, args := #[s, x], argTypes := #[22, 22] })
    {base : Nat} {v : Value} {xs : List UInt8} (hs : a.eval s = v) (hown : BRow w base v xs) {b2 : Nat} {u : Value} {ys : List UInt8} (hx : a.eval x = u) (hu : BRow w b2 u ys) (hys : 0 < ys.length) (m : Nat) (hm : xs.length + ys.length = m) (hsz : m < 2000000000) (hbase : base ≤ w.heap.size)
    (h : ∀ g cap w', BRow w' base (.slice (some ⟨g, 0, none⟩) m cap) (xs ++ ys) → w.grownBy w' v.ownBlock → Below base w w' → K (a.put o.dst (.slice (some ⟨g, 0, none⟩) m cap)) w') :
    if Region.wanted o (yielded ops a.tmps) = true then Oper.wp Tryz.prog o a w K Q else F := by
  have hw : Region.wanted o (yielded ops a.tmps) = true := by simp [Region.wanted, hgd]
  rw [if_pos hw]
  exact wp_appB s x ho hs hown hx hu hys m hm hsz hbase h
theorem step_appS (hgd : o.guard = none) (s x : Operand) (ho : o.op = .call { callee := .builtin .append, args := #[s, x], argTypes := #[22, 9] })
    {base : Nat} {v : Value} {xs : List UInt8} (hs : a.eval s = v) (hown : BRow w base v xs) (t : ByteArray) (hx : a.eval x = .string t) (hxs : 0 < xs.length) (m : Nat) (hm : xs.length + t.size = m) (hsz : m < 2000000000) (hbase : base ≤ w.heap.size)
    (h : ∀ g cap w', BRow w' base (.slice (some ⟨g, 0, none⟩) m cap) (xs ++ t.data.toList) → w.grownBy w' v.ownBlock → Below base w w' → K (a.put o.dst (.slice (some ⟨g, 0, none⟩) m cap)) w') :
    if Region.wanted o (yielded ops a.tmps) = true then Oper.wp Tryz.prog o a w K Q else F := by
  have hw : Region.wanted o (yielded ops a.tmps) = true := by simp [Region.wanted, hgd]
  rw [if_pos hw]
  exact wp_appS s x ho hs hown t hx hxs m hm hsz hbase h
theorem list_appB (hgd : o.guard = none) (s x : Operand) (ho : o.op = .call { callee := .builtin .append, args := #[s, x], argTypes := #[22, 22] })
    {base : Nat} {v : Value} {xs : List UInt8} (hs : a.eval s = v) (hown : BRow w base v xs) {b2 : Nat} {u : Value} {ys : List UInt8} (hx : a.eval x = u) (hu : BRow w b2 u ys) (hys : 0 < ys.length) (m : Nat) (hm : xs.length + ys.length = m) (hsz : m < 2000000000) (hbase : base ≤ w.heap.size)
    (h : ∀ g cap w', BRow w' base (.slice (some ⟨g, 0, none⟩) m cap) (xs ++ ys) → w.grownBy w' v.ownBlock → Below base w w' → wpList Tryz.prog ops Q rest (a.put o.dst (.slice (some ⟨g, 0, none⟩) m cap)) w') :
    wpList Tryz.prog ops Q (o :: rest) a w :=
  wpList_plain hgd fun _ hK => wp_appB s x ho hs hown hx hu hys m hm hsz hbase fun g cap w' h1 h2 h3 => hK _ _ (h g cap w' h1 h2 h3)
end

end Go.Proofs.YtanmihhlkelgeaaGreat

/- DERIVED. Blocks of a store in memory: loads, stores, comparisons of whole blocks. Contract of clathriref1.body. -/
namespace Go.Proofs.YtanmihhlkelgeaaGreat
open Go.RowKit

/-- A block of a label's store. -/
structure Blk where
  kind : Int
  body : List UInt8
  len : body.length = 56
  deriving DecidableEq

def Blk.cells (b : Blk) : Array Value := (Value.int .i64 b.kind :: b.body.map fun c => Value.int .u8 (c.toNat : Int)).toArray
theorem Blk.size_cells (b : Blk) : b.cells.size = 57 := by simp [Blk.cells, b.len]
theorem Blk.one_cells (b : Blk) : ∀ v ∈ b.cells.toList, v.oneCell' = true := by
  intro v hv
  simp only [Blk.cells, List.mem_cons, List.mem_map] at hv
  rcases hv with rfl | ⟨c, _, rfl⟩ <;> rfl
theorem Blk.cell0 (b : Blk) : b.cells[0]? = some (.int .i64 b.kind) := by simp [Blk.cells]
theorem Blk.cellS (b : Blk) (i : Nat) (h : i < 56) : b.cells[i + 1]? = some (.int .u8 ((b.body[i]'(by rw [b.len]; exact h)).toNat : Int)) := by
  simp [Blk.cells, b.len, h]
def fill56 (l : List UInt8) : List UInt8 := (l ++ List.replicate 56 0).take 56
theorem fill56_len (l : List UInt8) : (fill56 l).length = 56 := by simp [fill56]
/-- Bytes as a block's, of a kind. -/
def Blk.of (kind : Int) (l : List UInt8) : Blk := ⟨kind, fill56 l, fill56_len l⟩
def Blk.zero : Blk := Blk.of 0 []
def Blk.setB (b : Blk) (i : Nat) (c : UInt8) : Blk := ⟨b.kind, b.body.set i c, by simp [b.len]⟩
theorem Blk.set_cells (b : Blk) (i : Nat) (c : UInt8) : b.cells.setIfInBounds (i + 1) (.int .u8 (c.toNat : Int)) = (b.setB i c).cells := by
  simp [Blk.cells, Blk.setB, List.map_set]

/-- A block's cells lie at g. -/
def BlkAt (w : World) (g : Nat) (b : Blk) : Prop := w.heap[g]? = some (.cells b.cells 139 (0, 0))
theorem BlkAt.row {w : World} {g : Nat} {b : Blk} (h : BlkAt w g b) : rowAt w g = some b.cells := rowAt_heap h

theorem aggBlk : AggOf Tryz.prog 139 57 := ⟨⟨_, Tryz.underlying139, rfl⟩, by kernel_rfl⟩

theorem build_kind' (k : Int) (w : World) : (Instr.build 139 #[(0, .int .i64 k)]).run Tryz.prog w = .ok (.agg (Blk.of k []).cells) w := by kernel_rfl
theorem build_zero' (w : World) : (Instr.build 139 #[]).run Tryz.prog w = .ok (.agg Blk.zero.cells) w := by kernel_rfl
theorem alloc_blk' (w : World) : (Instr.alloc 139 true (.tuple #[])).run Tryz.prog w = .ok (.pointer (some ⟨w.heap.size, 0, none⟩)) (w.alloc (.cells Blk.zero.cells 139)) := by kernel_rfl

attribute [irreducible] Blk.cells Blk.of Blk.zero

noncomputable def blkBuild (parts : Array (Nat × Value)) (w : World) : Result Value := Sem.run Tryz.prog (Instr.build 139 parts) w
noncomputable def blkAlloc (w : World) : Result Value := Sem.run Tryz.prog (Instr.alloc 139 true (.tuple #[])) w
noncomputable def blkLoad (x : Value) (w : World) : Result Value := Sem.run Tryz.prog (Instr.loadAt 139 x) w
noncomputable def blkStore (x y : Value) (w : World) : Result Unit := Sem.run Tryz.prog (Instr.storeAt 139 x y) w
@[go_sem] theorem build_kind (k : Int) (w : World) : blkBuild #[(0, .int .i64 k)] w = .ok (.agg (Blk.of k []).cells) w := build_kind' k w
@[go_sem] theorem build_zero (w : World) : blkBuild #[] w = .ok (.agg Blk.zero.cells) w := build_zero' w
@[go_sem] theorem alloc_blk (w : World) : blkAlloc w = .ok (.pointer (some ⟨w.heap.size, 0, none⟩)) (w.alloc (.cells Blk.zero.cells 139)) := alloc_blk' w
/-- A row of 57 cells lies at g. -/
def hasBlk (w : World) (g : Nat) : Bool := (rowAt w g).any (·.size == 57)
theorem hasBlk_some {w : World} {g : Nat} (h : hasBlk w g = true) : ∃ c, rowAt w g = some c ∧ c.size = 57 := by
  unfold hasBlk at h
  cases hr : rowAt w g with
  | none => rw [hr] at h; cases h
  | some c => rw [hr] at h; exact ⟨c, rfl, by simpa using h⟩
@[go_sem] theorem hasBlk_cells (b : Blk) : (b.cells.size == 57) = true := by rw [b.size_cells]; rfl
@[go_sem] theorem load_blk (w : World) (g : Nat) (h : hasBlk w g = true) : blkLoad (.pointer (some ⟨g, 0, none⟩)) w = .ok (.agg ((rowAt w g).getD #[])) w := by
  obtain ⟨c, hc, hs⟩ := hasBlk_some h
  rw [hc]; exact run_load_agg aggBlk w g hc hs
@[go_sem] theorem store_blk (w : World) (g : Nat) (b' : Blk) (h : hasBlk w g = true) : blkStore (.pointer (some ⟨g, 0, none⟩)) (.agg b'.cells) w = .ok () (w.setRow g b'.cells) := by
  obtain ⟨c, hc, hs⟩ := hasBlk_some h
  exact run_store_agg aggBlk w g b'.cells hc hs b'.size_cells b'.one_cells
attribute [local go_sem] hasBlk
@[go_sem ↓] theorem exec_build_blk (ρ : Operand → Value) (w : World) (dst : Option Tmp) (parts : Array (Nat × Operand)) (ty : TypeId) (pos : String) (after : Array Edge) (gd : Option (Nat × Bool)) :
    (execOp ρ ⟨dst, .build 139 parts, ty, pos, after, gd⟩).run Tryz.prog w = (blkBuild (parts.map fun (i, x) => (i, ρ x)) w).andThen fun v w => .ok (.value v) w := by
  simp only [execOp, blkBuild, Sem.run_bind]; rfl
@[go_sem ↓] theorem exec_alloc_blk (ρ : Operand → Value) (w : World) (dst : Option Tmp) (ty : TypeId) (pos : String) (after : Array Edge) (gd : Option (Nat × Bool)) :
    (execOp ρ ⟨dst, .alloc 139, ty, pos, after, gd⟩).run Tryz.prog w = (blkAlloc w).andThen fun v w => .ok (.value v) w := by
  simp only [execOp, blkAlloc, Sem.run_bind]; rfl
@[go_sem ↓] theorem exec_load_blk (ρ : Operand → Value) (w : World) (dst : Option Tmp) (x : Operand) (ty : TypeId) (pos : String) (after : Array Edge) (gd : Option (Nat × Bool)) :
    (execOp ρ ⟨dst, .load 139 x, ty, pos, after, gd⟩).run Tryz.prog w = (blkLoad (ρ x) w).andThen fun v w => .ok (.value v) w := by
  simp only [execOp, blkLoad, Sem.run_bind]; rfl
@[go_sem ↓] theorem exec_store_blk (ρ : Operand → Value) (w : World) (dst : Option Tmp) (x y : Operand) (ty : TypeId) (pos : String) (after : Array Edge) (gd : Option (Nat × Bool)) :
    (execOp ρ ⟨dst, .store 139 x y, ty, pos, after, gd⟩).run Tryz.prog w = (blkStore (ρ x) (ρ y) w).andThen fun _ w => .ok .skip w := by
  simp only [execOp, blkStore, Sem.run_bind]; rfl
attribute [irreducible] blkBuild blkAlloc blkLoad blkStore

theorem Blk.ext' {a b : Blk} (h : a.kind = b.kind) (h2 : a.body = b.body) : a = b := by
  cases a; cases b; simp_all
theorem Blk.of_kind (kind : Int) (l : List UInt8) : (Blk.of kind l).kind = kind := by unfold Blk.of; rfl
theorem Blk.of_body (kind : Int) (l : List UInt8) : (Blk.of kind l).body = fill56 l := by unfold Blk.of; rfl
theorem fill56_step (l : List UInt8) (k : Nat) (h : k < l.length) (hk : k < 56) : (fill56 (l.take k)).set k l[k] = fill56 (l.take (k + 1)) := by
  apply List.ext_getElem
  · simp [fill56]
  · intro i h1 h2
    simp only [List.length_set, fill56_len] at h1
    simp only [fill56, List.getElem_set, List.getElem_take, List.getElem_append, List.length_take, List.getElem_replicate]
    by_cases hi : i < k
    · rw [if_neg (by omega), dif_pos (by omega), dif_pos (by omega)]
    · by_cases hi2 : i = k
      · subst hi2; rw [if_pos rfl, dif_pos (by omega)]
      · rw [if_neg (by omega), dif_neg (by omega), dif_neg (by omega)]
theorem Blk.of_step (kind : Int) (l : List UInt8) (k : Nat) (h : k < l.length) (hk : k < 56) : (Blk.of kind (l.take k)).setB k l[k] = Blk.of kind (l.take (k + 1)) := by
  apply Blk.ext'
  · simp [Blk.setB, Blk.of_kind]
  · simp only [Blk.setB, Blk.of_body]; exact fill56_step l k h hk
theorem fill56_all (l : List UInt8) (k : Nat) (h : k = l.length ∨ k = 56) : fill56 (l.take k) = fill56 l := by
  rcases h with rfl | rfl
  · rw [List.take_of_length_le (Nat.le_refl _)]
  · apply List.ext_getElem
    · simp [fill56]
    · intro i h1 h2
      simp only [fill56_len] at h1
      simp only [fill56, List.getElem_take, List.getElem_append, List.length_take, List.getElem_replicate]
      by_cases hi : i < l.length
      · rw [dif_pos (by omega), dif_pos hi]
      · rw [dif_neg (by omega), dif_neg hi]
theorem Blk.of_all (kind : Int) (l : List UInt8) (k : Nat) (h : k = l.length ∨ k = 56) : Blk.of kind (l.take k) = Blk.of kind l := by
  apply Blk.ext'
  · simp [Blk.of_kind]
  · simp only [Blk.of_body]; exact fill56_all l k h

theorem BlkAt.alloc_new (w : World) (b : Blk) : BlkAt (w.alloc (.cells b.cells 139)) w.heap.size b := by unfold BlkAt; rw [heap_alloc_if, if_pos rfl]
theorem BlkAt.alloc {w : World} {g : Nat} {b : Blk} (h : BlkAt w g b) (o : Obj) : BlkAt (w.alloc o) g b := by
  have := block_lt h
  unfold BlkAt; rw [heap_alloc_if, if_neg (by omega)]; exact h
theorem BlkAt.setCell_ne {w : World} {g : Nat} {b : Blk} (h : BlkAt w g b) (a : Addr) (v : Value) (hn : g ≠ a.block) : BlkAt (w.setCell a v) g b := by
  unfold BlkAt; rw [heap_setCell_ne hn]; exact h
theorem BlkAt.setCell {w : World} {g : Nat} {b : Blk} (h : BlkAt w g b) (i : Nat) (c : UInt8) : BlkAt (w.setCell ⟨g, 1 + i, none⟩ (.int .u8 (c.toNat : Int))) g (b.setB i c) := by
  rw [Nat.add_comm 1 i]; unfold BlkAt; rw [heap_setCell_same h, Blk.set_cells]
theorem BlkAt.cell {w : World} {g : Nat} {b : Blk} (h : BlkAt w g b) (i : Nat) (hi : i < 56) : w.cell? ⟨g, 1 + i, none⟩ = some (.int .u8 ((b.body[i]'(by rw [b.len]; exact hi)).toNat : Int)) := by
  rw [Nat.add_comm 1 i]; unfold BlkAt at h
  simp only [World.cell?, h]; exact b.cellS i hi
theorem BlkAt.free {w : World} {g : Nat} {b : Blk} (h : BlkAt w g b) (i : Nat) : w.frozen? ⟨g, i, none⟩ = false := by
  unfold BlkAt at h
  simp [World.frozen?, h]
theorem BlkAt.keeps {S : Nat → Prop} {w w' : World} {g : Nat} {b : Blk} (h : BlkAt w g b) (hk : Keeps S w w') (hn : ¬ S g) : BlkAt w' g b := by
  unfold BlkAt; rw [hk.block g (block_lt h) hn]; exact h
theorem BlkAt.below {B : Nat} {w w' : World} {g : Nat} {b : Blk} (h : BlkAt w g b) (hk : Below B w w') (hn : g < B) : BlkAt w' g b := by
  unfold BlkAt; rw [hk.block g hn]; exact h
theorem BlkAt.setRow {w : World} {g : Nat} {b : Blk} (h : BlkAt w g b) (b' : Blk) : BlkAt (w.setRow g b'.cells) g b' := setRow_heap w g b.cells b'.cells 139 (0, 0) h
theorem resOne_blk {p : Tmp} {tmps : Array Value} {w : World} {g : Nat} {b : Blk} (hp : tmps.getD p undef = .pointer (some ⟨g, 0, none⟩)) (h : rowAt w g = some b.cells) :
    (resultOne (.cell p 139) tmps).run Tryz.prog w = .ok (.agg b.cells) w := resOne_agg aggBlk hp h b.size_cells
theorem _root_.Go.RowKit.Below.setRow {B : Nat} {w w' : World} (h : Below B w w') {g : Nat} (hg : B ≤ g) (c : Array Value) : Below B w (w'.setRow g c) :=
  ⟨h.os, h.tape, h.output, by simp [World.setRow]; exact h.size, fun k hk => by
    rw [← h.block k hk]; simp only [World.setRow, Array.getElem?_modify]; rw [if_neg (by omega)]⟩
theorem BytesAt.get {w : World} {a : Option Addr} {l : List UInt8} (h : BytesAt w a l) (i : Nat) (hi : i < l.length) : ∃ b off, a = some ⟨b, off, none⟩ ∧ w.cell? ⟨b, off + i, none⟩ = some (.int .u8 (l[i].toNat : Int)) := by
  obtain ⟨b, off, h1, h2⟩ := h
  exact ⟨b, off, h1 (by omega), h2 i hi⟩

end Go.Proofs.YtanmihhlkelgeaaGreat

/- DERIVED. Contracts of clathriref1.mayAt, MayTarget, MayNode. -/
namespace Go.Proofs.YtanmihhlkelgeaaGreat
open Go.RowKit
attribute [local go_sem] hasBlk

def Nd.cells (n : Nd) : Array Value := #[.int .u32 n.gen, .int .i64 n.links, .int .i64 n.size, .int .i64 n.d0, .int .i64 n.d1, .int .i64 n.d2, .int .i64 n.d3, .int .i64 n.index, .string n.target]
/-- A node that Go can hold. -/
structure Nd.wf (n : Nd) : Prop where
  gen0 : 0 ≤ n.gen
  gen1 : n.gen ≤ 4294967295
  long : n.target.size ≤ 1000000

theorem elemInt : Elem1 Tryz.prog 93 3 8 := .mk' Tryz.underlying93 (z := .int .i64 0) (by kernel_rfl) rfl (by decide)
theorem owns_none {w : World} {base : Nat} {e : TypeId} {g : Nat} (h : objAt w g = some (.cells #[] e (0, 0))) (hb : base ≤ g) : w.ownsRow base e 1 (.slice (some ⟨g, 0, none⟩) 0 0) 0 [] :=
  ⟨rfl, .inr ⟨g, 0, #[], rfl, hb, h, Nat.le_refl _, by decide, rfl, rfl⟩⟩
theorem news_mid {w : World} {B off m : Nat} {cs : Array Value} {t : TypeId} {fr : Nat × Nat} {news : List Value} (hb : objAt w B = some (.cells cs t fr)) (h : news = (cs.toList.drop off).take m) :
    ∀ j u, news[j]? = some u → w.cell? ((⟨B, off, none⟩ : Addr).add j) = some u := fun j u hu => by
  have hadd : (⟨B, off, none⟩ : Addr).add j = ⟨B, off + j, none⟩ := by unfold Addr.add; split <;> simp_all
  rw [hadd, cell_of_row w B (off + j) cs t fr hb]
  rw [h] at hu
  simp only [List.getElem?_take, List.getElem?_drop] at hu
  split at hu
  · simpa using hu
  · cases hu

def Nd.box (n : Nd) : Obj := .cells n.cells 142 (0, 0)
theorem Nd.places_length (n : Nd) : n.places.length = 5 := rfl
def okPre (l : List Int) (k : Nat) : Prop := ∀ j, j < k → okNew (l.take j) (l.getD j 0) = true
theorem okPre_succ {l : List Int} {k : Nat} (h : okPre l k) (h2 : okNew (l.take k) (l.getD k 0) = true) : okPre l (k + 1) := fun j hj => by
  rcases Nat.lt_succ_iff_lt_or_eq.1 hj with h' | rfl
  · exact h j h'
  · exact h2
theorem none5_succ {l : List Int} {k : Nat} (h : k < l.length) : none5 (l.take (k + 1)) = (none5 (l.take k) && (l.getD k 0 == -1)) := by
  rw [List.take_succ_eq_append_getElem h]
  simp only [none5, List.all_append, List.all_cons, List.all_nil, Bool.and_true, List.getD_eq_getElem?_getD, List.getElem?_eq_getElem h, Option.getD_some]
theorem placesOk_all {l : List Int} (h : okPre l l.length) : placesOk l = true := placesOk_iff.2 fun k hk => h k hk
theorem mayNode_eq {kind : Int} {n : Nd} (h1 : 1 ≤ n.gen) (h2 : 0 ≤ n.links) (h3 : n.links ≤ 1000) : mayNode kind n = (placesOk n.places && kindOk kind n) := by
  simp [mayNode, h1, h2, h3]

theorem okNew_none (pre : List Int) : okNew pre (-1) = true := by simp [okNew]
theorem okNew_good {l : List Int} {k : Nat} {x : Int} (hk : k ≤ l.length) (h1 : okAt x = true) (h2 : ∀ j, j < k → l.getD j 0 ≠ x) : okNew (l.take k) x = true := by
  have : (l.take k).contains x = false := by
    rw [← Bool.not_eq_true, List.contains_iff_mem]
    intro hmem
    obtain ⟨j, hj, he⟩ := List.getElem_of_mem hmem
    rw [List.length_take] at hj
    refine h2 j (by omega) ?_
    rw [← he, List.getElem_take, List.getD_eq_getElem?_getD, List.getElem?_eq_getElem (by omega)]; rfl
  simp only [okNew, h1, this, Bool.not_false, Bool.and_true, Bool.or_true]
theorem okNew_bad {pre : List Int} {x : Int} (h0 : (x == -1) = false) (h1 : okAt x = false) : okNew pre x = false := by simp [okNew, h0, h1]
theorem okNew_twice {l : List Int} {k j : Nat} {x : Int} (h0 : (x == -1) = false) (hj : j < k) (hk : k ≤ l.length) (h : l.getD j 0 = x) : okNew (l.take k) x = false := by
  have : (l.take k).contains x = true := by
    rw [List.contains_iff_mem]
    refine List.mem_of_getElem (i := j) (h := by rw [List.length_take]; omega) ?_
    rw [List.getElem_take]
    rw [List.getD_eq_getElem?_getD, List.getElem?_eq_getElem (by omega)] at h
    exact h
  simp only [okNew, h0, this, Bool.not_true, Bool.and_false, Bool.or_false]

/-- The places of a node, in a row of the call's own. -/
structure PlaceRow (w wr : World) (G g : Nat) (n : Nd) : Prop where
  grow : Below w.heap.size w wr
  box : objAt wr G = some n.box
  at_ : ∀ j, (h : j < 5) → wr.cell? ⟨g, j, none⟩ = some (.int .i64 (n.places.getD j 0))
theorem PlaceRow.on {w wr wx : World} {G g : Nat} {n : Nd} (h : PlaceRow w wr G g n) (hb : Below wr.heap.size wr wx) : PlaceRow w wx G g n :=
  ⟨grow_trans h.grow hb, grow_obj hb h.box, fun j hj => grow_cell hb (h.at_ j hj)⟩
def drewN (w : World) (n : Nat) : World := { w with drawn := n }
theorem PlaceRow.drawn {w wr : World} {G g : Nat} {n : Nd} (h : PlaceRow w wr G g n) (k : Nat) : PlaceRow w { wr with drawn := k } G g n :=
  ⟨⟨h.grow.os, h.grow.tape, h.grow.output, h.grow.size, h.grow.block⟩, h.box, h.at_⟩
theorem PlaceRow.cell {w wr : World} {G g : Nat} {n : Nd} (h : PlaceRow w wr G g n) (i : Nat) : wr.cell? ⟨G, i, none⟩ = n.cells[i]? := cell_of_row wr G i _ _ _ h.box

end Go.Proofs.YtanmihhlkelgeaaGreat

/- DERIVED. Contract of clathriref1.PutNode. -/
namespace Go.Proofs.YtanmihhlkelgeaaGreat
open Go.RowKit
attribute [local irreducible] Calls

def ats (l : List Int) : List UInt8 := l.flatMap fun a => high (a + 1).toNat 2
def nodeHead (n : Nd) : List UInt8 := high n.gen.toNat 4 ++ high n.links.toNat 2 ++ high n.size.toNat 4
def nodeBytes (n : Nd) : List UInt8 := nodeHead n ++ ats n.direct ++ high (n.index + 1).toNat 2 ++ [UInt8.ofNat n.target.size] ++ n.target.data.toList
def putNode (kind : Int) (n : Nd) : Blk × Bool := if mayNode kind n = true then (Blk.of kind (nodeBytes n), true) else (Blk.zero, false)

theorem ats_length (l : List Int) : (ats l).length = 2 * l.length := by
  induction l with
  | nil => rfl
  | cons a l ih => simp only [ats, List.flatMap_cons, List.length_append, high_length, List.length_cons] at ih ⊢; omega
theorem ats_succ {l : List Int} {k : Nat} (h : k < l.length) : ats (l.take (k + 1)) = ats (l.take k) ++ high (l.getD k 0 + 1).toNat 2 := by
  rw [List.take_succ_eq_append_getElem h]
  simp only [ats, List.flatMap_append, List.flatMap_cons, List.flatMap_nil, List.append_nil, List.getD_eq_getElem?_getD, List.getElem?_eq_getElem h, Option.getD_some]

theorem okNew_bounds {pre : List Int} {a : Int} (h : okNew pre a = true) : -1 ≤ a ∧ a < 200 := by
  simp only [okNew, okAt, Bool.or_eq_true, Bool.and_eq_true, decide_eq_true_eq, beq_iff_eq] at h
  omega
theorem placesOk_bounds {l : List Int} (h : placesOk l = true) (k : Nat) (hk : k < l.length) : -1 ≤ l.getD k 0 ∧ l.getD k 0 < 200 := okNew_bounds (placesOk_iff.1 h k hk)
theorem mayTarget_le {t : ByteArray} (h : mayTarget t.data.toList = true) : t.size ≤ 32 := by
  simp only [mayTarget, Bool.and_eq_true, decide_eq_true_eq] at h
  have := h.2
  simpa using this
structure Nd.small (n : Nd) : Prop where
  gen : 1 ≤ n.gen
  links0 : 0 ≤ n.links
  links1 : n.links ≤ 1000
  size0 : 0 ≤ n.size
  size1 : n.size ≤ 1120
  target : n.target.size ≤ 32
  place : ∀ k, k < 5 → -1 ≤ n.places.getD k 0 ∧ n.places.getD k 0 < 200
theorem mayNode_small {kind : Int} {n : Nd} (h : mayNode kind n = true) : n.small := by
  simp only [mayNode, Bool.and_eq_true, decide_eq_true_eq] at h
  obtain ⟨⟨⟨⟨h1, h2⟩, h3⟩, h4⟩, h5⟩ := h
  have hp : ∀ k, k < 5 → -1 ≤ n.places.getD k 0 ∧ n.places.getD k 0 < 200 := fun k hk => placesOk_bounds h4 k hk
  have hempty : n.target.data.toList.isEmpty = true → n.target.size ≤ 32 := fun h => by
    have h' : n.target.data.toList.length = 0 := by rw [List.isEmpty_iff.1 h]; rfl
    have h'' : n.target.data.toList.length = n.target.size := by simp
    omega
  unfold kindOk at h5
  split at h5
  · simp only [Bool.and_eq_true, decide_eq_true_eq] at h5
    exact ⟨h1, h2, h3, h5.1.1, h5.1.2, hempty h5.2, hp⟩
  · split at h5
    · simp only [Bool.and_eq_true, decide_eq_true_eq] at h5
      exact ⟨h1, h2, h3, by omega, by omega, hempty h5.1.2, hp⟩
    · split at h5
      · simp only [Bool.and_eq_true, decide_eq_true_eq] at h5
        have := mayTarget_le h5.1.2
        exact ⟨h1, h2, h3, by omega, by omega, this, hp⟩
      · cases h5

theorem hasBlk_keep {B : Nat} {w w' : World} {g : Nat} (h : hasBlk w g = true) (hb : Below B w w') (hg : g < B) : hasBlk w' g = true := by
  unfold hasBlk rowAt at *
  rw [hb.block g hg]; exact h
theorem BlkAt.has {w : World} {g : Nat} {b : Blk} (h : BlkAt w g b) : hasBlk w g = true := by
  unfold hasBlk; rw [h.row]; simp [b.size_cells]

theorem hasBlk_drew {w : World} {g : Nat} (h : hasBlk w g = true) : hasBlk w.drew g = true := h
theorem hasBlk_alloc {w : World} {g : Nat} (h : hasBlk w g = true) (o : Obj) : hasBlk (w.alloc o) g = true := by
  obtain ⟨c, hc, hs⟩ := hasBlk_some h
  obtain ⟨t, ht⟩ := heap_rowAt hc
  unfold hasBlk; rw [rowAt_alloc_past _ _ _ (block_lt ht)]; exact h
theorem rowAt_setRow {w : World} {g : Nat} (h : hasBlk w g = true) (c : Array Value) : rowAt (w.setRow g c) g = some c := by
  obtain ⟨c', hc, hs⟩ := hasBlk_some h
  obtain ⟨t, ht⟩ := heap_rowAt hc
  exact rowAt_heap (setRow_heap w g _ c t _ ht)
theorem hasBlk_setRow {w : World} {g : Nat} (h : hasBlk w g = true) (b : Blk) : hasBlk (w.setRow g b.cells) g = true := by
  unfold hasBlk; rw [rowAt_setRow h]; simp [b.size_cells]
theorem keep_alloc {B : Nat} {x w : World} (h : Below B x w) (hB : B ≤ x.heap.size) (o : Obj) : Below B x (w.alloc o) := h.alloc (Nat.le_trans hB h.size) o
theorem keep_trans {B C : Nat} {x w w' : World} (h : Below B x w) (k : Below C w w') (hc : B ≤ C) : Below B x w' := h.trans (k.mono hc)
theorem keep_call {B : Nat} {x w w' : World} (h : Below B x w) (k : Below w.heap.size w w') (hc : B ≤ x.heap.size) : Below B x w' := h.trans (k.mono (Nat.le_trans hc h.size))
theorem hasBlk_call {w w' : World} {g : Nat} (h : hasBlk w g = true) (k : Below w.heap.size w w') : hasBlk w' g = true := by
  obtain ⟨c, hc, hs⟩ := hasBlk_some h
  obtain ⟨t, ht⟩ := heap_rowAt hc
  exact hasBlk_keep h k (block_lt ht)
end Go.Proofs.YtanmihhlkelgeaaGreat

/- DERIVED. Whole blocks compared. -/
namespace Go.Proofs.YtanmihhlkelgeaaGreat
open Go.RowKit
attribute [local go_sem] hasBlk

theorem blk_fields : ((Tryz.prog.fieldsOf 139).toList.map fun f => (f.name, f.type, f.offset)) = [("Kind", 3, 0), ("Body", 137, 1)] := by kernel_rfl
theorem size_byte (w : World) : (sizeOf 5).run Tryz.prog w = .ok 1 w := by
  obtain ⟨i, z, hi, _, hs, _, _⟩ := elemByte.info
  simp [sizeOf, typeInfo, hi, hs]
theorem size_body (w : World) : (sizeOf 137).run Tryz.prog w = .ok 56 w := by
  have h : (Tryz.prog.info? 137).map (·.size) = some 56 := by kernel_rfl
  cases hi : Tryz.prog.info? 137 with
  | none => rw [hi] at h; cases h
  | some i =>
    rw [hi] at h
    have : i.size = 56 := by simpa using h
    simp [sizeOf, typeInfo, hi, this]
theorem Blk.cells_def (b : Blk) : b.cells = (Value.int .i64 b.kind :: b.body.map fun c => Value.int .u8 (c.toNat : Int)).toArray := by unfold Blk.cells; rfl
theorem part_kind (b : Blk) (w : World) : (part 3 b.cells 0).run Tryz.prog w = .ok (.int .i64 b.kind) w := by
  simp [part, isAgg, run_underlying Tryz.underlying3, Blk.cells_def]
theorem part_body (b : Blk) (w : World) : (part 137 b.cells 1).run Tryz.prog w = .ok (.agg (b.body.map Extern.Stop.cell).toArray) w := by
  have h : b.cells.extract 1 (1 + 56) = (b.body.map Extern.Stop.cell).toArray := by
    rw [Blk.cells_def]
    apply Array.ext'
    simp only [Array.toList_extract, List.extract_eq_take_drop, Nat.reduceAdd, Nat.reduceSub, List.drop_succ_cons, List.drop_zero]
    rw [List.take_of_length_le (by rw [List.length_map, b.len]; exact Nat.le_refl _)]
    rfl
  simp only [part, isAgg, Sem.run_bind, run_underlying Tryz.underlying137, Result.andThen_ok, Sem.run_pure, Sem.run_ite, if_true, size_body, h]

theorem run_eq_blk (w : World) (b c : Blk) : (Op.equalIn 10000 139 (.agg b.cells) (.agg c.cells)).run Tryz.prog w = .ok (decide (b = c)) w := by
  have ht : Tryz.prog.underlying 139 = some (.struct (Tryz.prog.fieldsOf 139)) := by
    unfold Program.fieldsOf; rw [Tryz.underlying139]
  rw [run_equalIn_struct w 9999 _ _ _ ht (by kernel_rfl)]
  have hf := blk_fields
  generalize (Tryz.prog.fieldsOf 139).toList = fs at hf
  obtain ⟨f, g, rfl⟩ : ∃ f g, fs = [f, g] := by
    have hl : fs.length = 2 := by have := congrArg List.length hf; simpa using this
    match fs, hl with
    | [f, g], _ => exact ⟨f, g, rfl⟩
  · simp only [List.map_cons, List.map_nil, List.cons.injEq, Prod.mk.injEq, and_true] at hf
    obtain ⟨⟨f1, f2, f3⟩, g1, g2, g3⟩ := hf
    simp only [Op.eqFields, f1, f2, f3, g1, g2, g3, Sem.run_ite, Sem.run_bind, part_kind, part_body, Result.andThen_ok]
    rw [run_equalIn_int w 9998 3 .i64 .i64 _ _ Tryz.underlying3]
    simp only [Result.andThen_ok]
    rw [run_equalIn_bytes w 9997 137 5 56 Tryz.underlying137 Tryz.underlying5 size_byte b.body c.body b.len c.len]
    by_cases hk : b.kind = c.kind
    · by_cases hb : b.body = c.body
      · have : b = c := Blk.ext' hk hb
        subst this
        simp
      · have : ¬ b = c := fun e => hb (by rw [e])
        simp [hk, hb, this]
    · have : ¬ b = c := fun e => hk (by rw [e])
      simp [hk, this]

theorem neq_blk (w : World) (b c : Blk) : (binOp .neq 139 (.agg b.cells) (.agg c.cells)).run Tryz.prog w = .ok (.bool (!decide (b = c))) w := by
  rw [run_neq_struct, run_eq_blk]; rfl
theorem eql_blk (w : World) (b c : Blk) : (binOp .eql 139 (.agg b.cells) (.agg c.cells)).run Tryz.prog w = .ok (.bool (decide (b = c))) w := by
  rw [run_eql_struct, run_eq_blk]; rfl
noncomputable def blkCmp (op : BinOp) (x y : Operand) (u v : Value) (w : World) : Result Value := Sem.run Tryz.prog (do eqGuard op 139 x y u v; binOp op 139 u v) w
@[go_sem] theorem cmp_neq (x y : Operand) (b c : Blk) (w : World) : blkCmp .neq x y (.agg b.cells) (.agg c.cells) w = .ok (.bool (!decide (b = c))) w := by
  unfold blkCmp
  rw [Sem.run_bind, run_eqGuard_agg w .neq _ x y _ _ (by kernel_rfl), Result.andThen_ok, neq_blk]
@[go_sem] theorem cmp_eql (x y : Operand) (b c : Blk) (w : World) : blkCmp .eql x y (.agg b.cells) (.agg c.cells) w = .ok (.bool (decide (b = c))) w := by
  unfold blkCmp
  rw [Sem.run_bind, run_eqGuard_agg w .eql _ x y _ _ (by kernel_rfl), Result.andThen_ok, eql_blk]
@[go_sem ↓] theorem exec_cmp_blk (ρ : Operand → Value) (w : World) (dst : Option Tmp) (op : BinOp) (x y : Operand) (z : TypeId) (ty : TypeId) (pos : String) (after : Array Edge) (gd : Option (Nat × Bool)) :
    (execOp ρ ⟨dst, .binOp op 139 x y z, ty, pos, after, gd⟩).run Tryz.prog w = (blkCmp op x y (ρ x) (ρ y) w).andThen fun v w => .ok (.value v) w := by
  simp only [execOp, blkCmp, Sem.run_bind]; rfl
attribute [irreducible] blkCmp

theorem num_sub_lt (b : Blk) (off n k : Nat) (h : n ≤ k) : num ((b.body.drop off).take n) < 256 ^ k := num_le _ _ (by rw [List.length_take]; omega)
end Go.Proofs.YtanmihhlkelgeaaGreat
