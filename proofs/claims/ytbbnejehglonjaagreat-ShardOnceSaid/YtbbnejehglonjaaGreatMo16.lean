/- DERIVED. Contracts and laws that the proofs of this seat share, part 16 of 36: InD. -/
import Derived.Test.YtbbnejehglonjaaGreatMo00
import Derived.Test.YtbbnejehglonjaaGreatMo03
import Derived.Test.YtbbnejehglonjaaGreatMo04
import Derived.Test.YtbbnejehglonjaaGreatMo05
import Derived.Test.YtbbnejehglonjaaGreatMo14
import Derived.Test.YtbbnejehglonjaaGreatMo15
/- DERIVED. Contract of ino.Take. -/
namespace Go.Proofs.YtbbnejehglonjaaGreat
open Go.RowKit
attribute [local irreducible] Calls
set_option maxRecDepth 100000

theorem or_i64 (a b : UInt8) : bits .or .i64 ((a.toNat : Int) * 256) (b.toNat : Int) = ((a.toNat * 256 + b.toNat : Nat) : Int) := by
 have ha := a.toNat_lt
 have hb := b.toNat_lt
 have hx : a.toNat * 256 + b.toNat < 2 ^ 16 := by omega
 have h2 : a.toNat * 256 ||| b.toNat = a.toNat * 256 + b.toNat := by
  rw [show a.toNat * 256 = a.toNat <<< 8 by rw [Nat.shiftLeft_eq], Nat.shiftLeft_add_eq_or_of_lt hb]
 show IntKind.i64.wrap ((BitVec.ofInt 64 ((a.toNat : Int) * 256) ||| BitVec.ofInt 64 (b.toNat : Int)).toNat : Int) = _
 rw [show ((a.toNat : Int) * 256) = ((a.toNat * 256 : Nat) : Int) by omega, BitVec.ofInt_natCast, BitVec.ofInt_natCast, BitVec.toNat_or, BitVec.toNat_ofNat, BitVec.toNat_ofNat,
  Nat.mod_eq_of_lt (show a.toNat * 256 < 2 ^ 64 by omega), Nat.mod_eq_of_lt (show b.toNat < 2 ^ 64 by omega), h2]
 exact IntWalk.i64_in _ (by omega)
theorem or_u32 (x : Nat) (k : Nat) (b : Nat) (hb : b < 2 ^ k) (hx : x * 2 ^ k + b < 4294967296) : bits .or .u32 ((x * 2 ^ k : Nat) : Int) (b : Int) = ((x * 2 ^ k + b : Nat) : Int) := by
 rw [bits_or_u32_nat _ _ (by omega) (by omega), show x * 2 ^ k = x <<< k by rw [Nat.shiftLeft_eq], Nat.shiftLeft_add_eq_or_of_lt hb]
theorem or_four (a b c d : UInt8) : bits .or .u32 (bits .or .u32 (bits .or .u32 ((a.toNat : Int) * 16777216) ((b.toNat : Int) * 65536)) ((c.toNat : Int) * 256)) (d.toNat : Int) = ((((a.toNat * 256 + b.toNat) * 256 + c.toNat) * 256 + d.toNat : Nat) : Int) := by
 have ha := a.toNat_lt
 have hb := b.toNat_lt
 have hc := c.toNat_lt
 have hd := d.toNat_lt
 have e1 := or_u32 a.toNat 24 (b.toNat * 65536) (by omega) (by omega)
 rw [show ((a.toNat * 2 ^ 24 : Nat) : Int) = (a.toNat : Int) * 16777216 by omega, show ((b.toNat * 65536 : Nat) : Int) = (b.toNat : Int) * 65536 by omega] at e1
 have e2 := or_u32 (a.toNat * 256 + b.toNat) 16 (c.toNat * 256) (by omega) (by omega)
 rw [show (((a.toNat * 256 + b.toNat) * 2 ^ 16 : Nat) : Int) = ((a.toNat * 2 ^ 24 + b.toNat * 65536 : Nat) : Int) by omega, show ((c.toNat * 256 : Nat) : Int) = (c.toNat : Int) * 256 by omega] at e2
 have e3 := or_u32 ((a.toNat * 256 + b.toNat) * 256 + c.toNat) 8 d.toNat (by omega) (by omega)
 rw [show ((((a.toNat * 256 + b.toNat) * 256 + c.toNat) * 2 ^ 8 : Nat) : Int) = (((a.toNat * 256 + b.toNat) * 2 ^ 16 + c.toNat * 256 : Nat) : Int) by omega] at e3
 rw [e1, e2, e3]
theorem sub_four (b : Blk) (p : Nat) (h : p + 3 < 56) : b.sub p 4 = (((b.body.getD p 0).toNat * 256 + (b.body.getD (p + 1) 0).toNat) * 256 + (b.body.getD (p + 2) 0).toNat) * 256 + (b.body.getD (p + 3) 0).toNat := by
 have hl := b.len
 have e : (b.body.drop p).take 4 = [b.body.getD p 0, b.body.getD (p + 1) 0, b.body.getD (p + 2) 0, b.body.getD (p + 3) 0] := by
  rw [List.drop_eq_getElem_cons (by omega), List.drop_eq_getElem_cons (by omega), List.drop_eq_getElem_cons (by omega), List.drop_eq_getElem_cons (by omega)]
  simp only [List.take_succ_cons, List.take_zero, List.getD_eq_getElem?_getD]
  rw [List.getElem?_eq_getElem (show p < b.body.length by omega), List.getElem?_eq_getElem (show p + 1 < b.body.length by omega), List.getElem?_eq_getElem (show p + 2 < b.body.length by omega), List.getElem?_eq_getElem (show p + 3 < b.body.length by omega)]
  rfl
 unfold Blk.sub
 rw [e]
 simp only [num, List.foldl_cons, List.foldl_nil, Nat.zero_mul, Nat.zero_add]
theorem eqNil_none {P : Program} (w : World) (t e : TypeId) (h : P.underlying t = some (.slice e)) : (binOp .eql t (.slice none 0 0) (.slice none 0 0)).run P w = .ok (.bool true) w := by
 simp [binOp, run_equal_slice_nil w t e none 0 0 h]
theorem BlkAt.seven {w : World} {g : Nat} {b : Blk} (h : BlkAt w g b) : BytesAt w (some ⟨g, 1, none⟩) (b.body.take 7) :=
 ⟨g, 1, fun _ => rfl, fun i hi => by
  rw [List.length_take] at hi
  rw [List.getElem_take]
  exact h.cell i (by omega)⟩
set_option maxHeartbeats 4000000 in
theorem inoTake_any (w : World) (g : Nat) (b : Blk) (h : BlkAt w g b) :
 Calls Tryz.prog 194 #[.slice (some ⟨g, 1, none⟩) 7 56] w fun e w' => e = .returned (.tuple #[.agg ((takeID b).getD Id.zero).cells, .bool (takeID b).isSome]) ∧ Below w.heap.size w w' := by
 have hcs : ∀ j (x : World), BlkAt x g b → j < 56 → x.cell? ⟨g, 1 + j, none⟩ = some (.int .u8 ((b.body.getD j 0).toNat : Int)) := fun j x hx hj => by
  rw [List.getD_eq_getElem?_getD, List.getElem?_eq_getElem (by rw [b.len]; exact hj)]
  exact hx.cell j hj
 have hR : objAt (w.alloc (.cells #[.int .i64 0, .int .i64 0, .int .u32 0] 66)) w.heap.size = some (.cells #[.int .i64 0, .int .i64 0, .int .u32 0] 66 (0, 0)) := by rw [objAt_alloc, if_pos rfl]
 have hw : Below w.heap.size w (w.alloc (.cells #[.int .i64 0, .int .i64 0, .int .u32 0] 66)) := grow_alloc (Below.refl _ _) _
 have hb := h.alloc (.cells #[.int .i64 0, .int .i64 0, .int .u32 0] 66)
 obtain ⟨G, hG⟩ : ∃ G, G = w.heap.size := ⟨_, rfl⟩
 obtain ⟨w0, hw0⟩ : ∃ w0, w0 = w.alloc (.cells #[.int .i64 0, .int .i64 0, .int .u32 0] 66) := ⟨_, rfl⟩
 rw [← hw0] at hw hb hR
 rw [← hG] at hR
 have HG := Lib.hid hG
 have HX := Lib.hid (And.intro hb (And.intro hw hR))
 have q1 := sub_two b 1 (by decide)
 have q2 := sub_four b 3 (by decide)
 have hl0 : b.body.getD 0 0 = b.body.getD 0 0 := rfl
 obtain ⟨c0, hc0⟩ : ∃ c, c = b.body.getD 0 0 := ⟨_, rfl⟩
 obtain ⟨c1, hc1⟩ : ∃ c, c = b.body.getD 1 0 := ⟨_, rfl⟩
 obtain ⟨c2, hc2⟩ : ∃ c, c = b.body.getD 2 0 := ⟨_, rfl⟩
 obtain ⟨c3, hc3⟩ : ∃ c, c = b.body.getD 3 0 := ⟨_, rfl⟩
 obtain ⟨c4, hc4⟩ : ∃ c, c = b.body.getD 4 0 := ⟨_, rfl⟩
 obtain ⟨c5, hc5⟩ : ∃ c, c = b.body.getD 5 0 := ⟨_, rfl⟩
 obtain ⟨c6, hc6⟩ : ∃ c, c = b.body.getD 6 0 := ⟨_, rfl⟩
 have k0 := hcs 0 w0 hb (by decide)
 have k1 := hcs 1 w0 hb (by decide)
 have k2 := hcs 2 w0 hb (by decide)
 have k3 := hcs 3 w0 hb (by decide)
 have k4 := hcs 4 w0 hb (by decide)
 have k5 := hcs 5 w0 hb (by decide)
 have k6 := hcs 6 w0 hb (by decide)
 simp only [Nat.reduceAdd] at k0 k1 k2 k3 k4 k5 k6 q1 q2
 rw [← hc0] at k0
 rw [← hc1] at k1 q1
 rw [← hc2] at k2 q1
 rw [← hc3] at k3 q2
 rw [← hc4] at k4 q2
 rw [← hc5] at k5 q2
 rw [← hc6] at k6 q2
 have Hc := Lib.hid hc0
 have o1 := or_i64 c1 c2
 have o2 := or_four c3 c4 c5 c6
 rw [← q1] at o1
 rw [← q2] at o2
 have z0 : IntKind.i64.wrap (c0.toNat : Int) = c0.toNat := IntWalk.i64_in _ (by have := c0.toNat_lt; omega)
 have z1 : IntKind.i64.wrap (c1.toNat : Int) = c1.toNat := IntWalk.i64_in _ (by have := c1.toNat_lt; omega)
 have z2 : IntKind.i64.wrap (c2.toNat : Int) = c2.toNat := IntWalk.i64_in _ (by have := c2.toNat_lt; omega)
 have z1' : IntKind.i64.wrap ((c1.toNat : Int) * 256) = (c1.toNat : Int) * 256 := IntWalk.i64_in _ (by have := c1.toNat_lt; omega)
 have z3 : IntKind.u32.wrap (c3.toNat : Int) = c3.toNat := IntWalk.u32_in _ (by have := c3.toNat_lt; omega)
 have z4 : IntKind.u32.wrap (c4.toNat : Int) = c4.toNat := IntWalk.u32_in _ (by have := c4.toNat_lt; omega)
 have z5 : IntKind.u32.wrap (c5.toNat : Int) = c5.toNat := IntWalk.u32_in _ (by have := c5.toNat_lt; omega)
 have z6 : IntKind.u32.wrap (c6.toNat : Int) = c6.toNat := IntWalk.u32_in _ (by have := c6.toNat_lt; omega)
 have z3' : IntKind.u32.wrap ((c3.toNat : Int) * 16777216) = (c3.toNat : Int) * 16777216 := IntWalk.u32_in _ (by have := c3.toNat_lt; omega)
 have z4' : IntKind.u32.wrap ((c4.toNat : Int) * 65536) = (c4.toNat : Int) * 65536 := IntWalk.u32_in _ (by have := c4.toNat_lt; omega)
 have z5' : IntKind.u32.wrap ((c5.toNat : Int) * 256) = (c5.toNat : Int) * 256 := IntWalk.u32_in _ (by have := c5.toNat_lt; omega)
 have HZ := Lib.hid (And.intro o1 (And.intro o2 (And.intro z0 (And.intro z1 (And.intro z2 (And.intro z1' (And.intro z3 (And.intro z4 (And.intro z5 (And.intro z6 (And.intro z3' (And.intro z4' z5'))))))))))))
 clear o1 o2 z0 z1 z2 z1' z3 z4 z5 z6 z3' z4' z5'
 clear hcs hc0 hc1 hc2 hc3 hc4 hc5 hc6 q1 q2 hl0 hR hb h
 have lt0 := c0.toNat_lt
 have hS : ∀ w', Below w0.heap.size w0 w' → (w'.cell? ⟨g, 1, none⟩ = some (.int .u8 (c0.toNat : Int)) ∧ w'.cell? ⟨g, 2, none⟩ = some (.int .u8 (c1.toNat : Int)) ∧ w'.cell? ⟨g, 3, none⟩ = some (.int .u8 (c2.toNat : Int)) ∧ w'.cell? ⟨g, 4, none⟩ = some (.int .u8 (c3.toNat : Int)) ∧ w'.cell? ⟨g, 5, none⟩ = some (.int .u8 (c4.toNat : Int)) ∧ w'.cell? ⟨g, 6, none⟩ = some (.int .u8 (c5.toNat : Int)) ∧ w'.cell? ⟨g, 7, none⟩ = some (.int .u8 (c6.toNat : Int)) ∧ Below w0.heap.size w0 w') :=
  fun w' hb => ⟨grow_cell hb k0, grow_cell hb k1, grow_cell hb k2, grow_cell hb k3, grow_cell hb k4, grow_cell hb k5, grow_cell hb k6, hb⟩
 go_enter Tryz.func194, Tryz.ntmps194
 go_upto_region 3 with (fail)
 rw [← hw0, ← hG]
 clear hw0 hG hw
 go_cut [4] (fun s4 wx => ∃ H, s4 = .pointer (some ⟨H, 0, none⟩) ∧ w0.heap.size ≤ H ∧ Below w0.heap.size w0 wx ∧ objAt wx H = some (.cells #[.int .i64 (c0.toNat : Int), .int .i64 (b.sub 1 2 : Nat), .int .u32 (b.sub 3 4 : Nat)] 66 (0, 0)))
 case first =>
  refine wp_region_held_drew (S := fun w' => w'.cell? ⟨g, 1, none⟩ = some (.int .u8 (c0.toNat : Int)) ∧ w'.cell? ⟨g, 2, none⟩ = some (.int .u8 (c1.toNat : Int)) ∧ w'.cell? ⟨g, 3, none⟩ = some (.int .u8 (c2.toNat : Int)) ∧ w'.cell? ⟨g, 4, none⟩ = some (.int .u8 (c3.toNat : Int)) ∧ w'.cell? ⟨g, 5, none⟩ = some (.int .u8 (c4.toNat : Int)) ∧ w'.cell? ⟨g, 6, none⟩ = some (.int .u8 (c5.toNat : Int)) ∧ w'.cell? ⟨g, 7, none⟩ = some (.int .u8 (c6.toNat : Int)) ∧ Below w0.heap.size w0 w') (by kernel_rfl) (hS _ (Below.refl _ _).drew) (fun hHeld => ?_)
  show wpAnyH _ _ _ _ _ 39 #[false, false, false, false, false, false, false, false, false, false, false, false, false, false, false, false, false, false, false, false, false, false, false, false, false, false, false, false, false, false, false, false, false, false, false, false, false, false, false] _ _
  refine gT (i := 0) (v := ?kv1) rfl ?ky1 ?kr1
  case ky1 => (intro w hSw; (try dsimp only at hSw); go_split_ands; (try simp only [qA, qB]); go_simp; (try with_reducible rfl))
  try simp only [Act.put, qA, qB, qD, qE, qF]
  refine gT (i := 1) (v := ?kv2) rfl ?ky2 ?kr2
  case ky2 => (intro w hSw; (try dsimp only at hSw); go_split_ands; (try simp only [qA, qB, qC]); go_simp; (try with_reducible rfl))
  try simp only [Act.put, qA, qB, qC, qD, qE, qF]
  refine gT (i := 2) (v := ?kv3) rfl ?ky3 ?kr3
  case ky3 => (intro w hSw; (try dsimp only at hSw); go_split_ands; (try simp only [qA, qB, qC]); go_simp; (try with_reducible rfl))
  try simp only [Act.put, qA, qB, qC, qD, qE, qF]
  refine gT (i := 3) (v := ?kv4) rfl ?ky4 ?kr4
  case ky4 => (intro w hSw; (try dsimp only at hSw); go_split_ands; (try simp only [qA, qB, qC]); go_simp; (try with_reducible rfl))
  try simp only [Act.put, qA, qB, qC, qD, qE, qF]
  refine gT (i := 4) (v := ?kv5) rfl ?ky5 ?kr5
  case ky5 => (intro w hSw; (try dsimp only at hSw); go_split_ands; (try simp only [qA, qB, qC]); go_simp; (try with_reducible rfl))
  try simp only [Act.put, qA, qB, qC, qD, qE, qF]
  refine gT (i := 5) (v := ?kv6) rfl ?ky6 ?kr6
  case ky6 => (intro w hSw; (try dsimp only at hSw); go_split_ands; (try simp only [qA, qB, qC]); go_simp; (try with_reducible rfl))
  try simp only [Act.put, qA, qB, qC, qD, qE, qF]
  refine gT (i := 6) (v := ?kv7) rfl ?ky7 ?kr7
  case ky7 => (intro w hSw; (try dsimp only at hSw); go_split_ands; (try simp only [qA, qB, qC]); go_simp; (try with_reducible rfl))
  try simp only [Act.put, qA, qB, qC, qD, qE, qF]
  refine gT (i := 7) (v := ?kv8) rfl ?ky8 ?kr8
  case ky8 => (intro w hSw; (try dsimp only at hSw); go_split_ands; (try simp only [qA, qB, qC]); go_simp; (try with_reducible rfl))
  try simp only [Act.put, qA, qB, qC, qD, qE, qF]
  refine gT (i := 8) (v := ?kv9) rfl ?ky9 ?kr9
  case ky9 => (intro w hSw; (try dsimp only at hSw); go_split_ands; (try simp only [qA, qB, qC]); go_simp; (try with_reducible rfl))
  try simp only [Act.put, qA, qB, qC, qD, qE, qF]
  refine gT (i := 9) (v := ?kv10) rfl ?ky10 ?kr10
  case ky10 => (intro w hSw; (try dsimp only at hSw); go_split_ands; (try simp only [qA, qB, qC]); go_simp; (try with_reducible rfl))
  try simp only [Act.put, qA, qB, qC, qD, qE, qF]
  refine gT (i := 10) (v := ?kv11) rfl ?ky11 ?kr11
  case ky11 => (intro w hSw; (try dsimp only at hSw); go_split_ands; (try simp only [qA, qB, qC]); go_simp; (try with_reducible rfl))
  try simp only [Act.put, qA, qB, qC, qD, qE, qF]
  refine gT (i := 11) (v := ?kv12) rfl ?ky12 ?kr12
  case ky12 => (intro w hSw; (try dsimp only at hSw); go_split_ands; (try simp only [qA, qB, qC]); go_simp; (try with_reducible rfl))
  try simp only [Act.put, qA, qB, qC, qD, qE, qF]
  refine gT (i := 12) (v := ?kv13) rfl ?ky13 ?kr13
  case ky13 => (intro w hSw; (try dsimp only at hSw); go_split_ands; (try simp only [qA, qB, qC]); go_simp; (try with_reducible rfl))
  try simp only [Act.put, qA, qB, qC, qD, qE, qF]
  refine gT (i := 13) (v := ?kv14) rfl ?ky14 ?kr14
  case ky14 => (intro w hSw; (try dsimp only at hSw); go_split_ands; (try simp only [qA, qB, qC]); go_simp; (try with_reducible rfl))
  try simp only [Act.put, qA, qB, qC, qD, qE, qF]
  refine gT (i := 14) (v := ?kv15) rfl ?ky15 ?kr15
  case ky15 => (intro w hSw; (try dsimp only at hSw); go_split_ands; (try simp only [qA, qB, qC]); go_simp; (try with_reducible rfl))
  try simp only [Act.put, qA, qB, qC, qD, qE, qF]
  refine gT (i := 15) (v := ?kv16) rfl ?ky16 ?kr16
  case ky16 => (intro w hSw; (try dsimp only at hSw); go_split_ands; (try simp only [qA, qB, qC]); go_simp; (try with_reducible rfl))
  try simp only [Act.put, qA, qB, qC, qD, qE, qF]
  refine gT (i := 16) (v := ?kv17) rfl ?ky17 ?kr17
  case ky17 => (intro w hSw; (try dsimp only at hSw); go_split_ands; (try simp only [qA, qB, qC]); go_simp; (try with_reducible rfl))
  try simp only [Act.put, qA, qB, qC, qD, qE, qF]
  refine gT (i := 17) (v := ?kv18) rfl ?ky18 ?kr18
  case ky18 => (intro w hSw; (try dsimp only at hSw); go_split_ands; (try simp only [qA, qB, qC]); go_simp; (try with_reducible rfl))
  try simp only [Act.put, qA, qB, qC, qD, qE, qF]
  refine gT (i := 18) (v := ?kv19) rfl ?ky19 ?kr19
  case ky19 => (intro w hSw; (try dsimp only at hSw); go_split_ands; (try simp only [qA, qB, qC]); go_simp; (try with_reducible rfl))
  try simp only [Act.put, qA, qB, qC, qD, qE, qF]
  refine gT (i := 19) (v := ?kv20) rfl ?ky20 ?kr20
  case ky20 => (intro w hSw; (try dsimp only at hSw); go_split_ands; (try simp only [qA, qB, qC]); go_simp; (try with_reducible rfl))
  try simp only [Act.put, qA, qB, qC, qD, qE, qF]
  refine gT (i := 20) (v := ?kv21) rfl ?ky21 ?kr21
  case ky21 => (intro w hSw; (try dsimp only at hSw); go_split_ands; (try simp only [qA, qB, qC]); go_simp; (try with_reducible rfl))
  try simp only [Act.put, qA, qB, qC, qD, qE, qF]
  refine gT (i := 21) (v := ?kv22) rfl ?ky22 ?kr22
  case ky22 => (intro w hSw; (try dsimp only at hSw); go_split_ands; (try simp only [qA, qB, qC]); go_simp; (try with_reducible rfl))
  try simp only [Act.put, qA, qB, qC, qD, qE, qF]
  refine gT (i := 22) (v := ?kv23) rfl ?ky23 ?kr23
  case ky23 => (intro w hSw; (try dsimp only at hSw); go_split_ands; (try simp only [qA, qB, qC]); go_simp; (try with_reducible rfl))
  try simp only [Act.put, qA, qB, qC, qD, qE, qF]
  refine gT (i := 23) (v := ?kv24) rfl ?ky24 ?kr24
  case ky24 => (intro w hSw; (try dsimp only at hSw); go_split_ands; (try simp only [qA, qB, qC]); go_simp; (try with_reducible rfl))
  try simp only [Act.put, qA, qB, qC, qD, qE, qF]
  refine gT (i := 24) (v := ?kv25) rfl ?ky25 ?kr25
  case ky25 => (intro w hSw; (try dsimp only at hSw); go_split_ands; (try simp only [qA, qB, qC]); go_simp; (try with_reducible rfl))
  try simp only [Act.put, qA, qB, qC, qD, qE, qF]
  refine gT (i := 25) (v := ?kv26) rfl ?ky26 ?kr26
  case ky26 => (intro w hSw; (try dsimp only at hSw); go_split_ands; (try simp only [qA, qB, qC]); go_simp; (try with_reducible rfl))
  try simp only [Act.put, qA, qB, qC, qD, qE, qF]
  refine gT (i := 26) (v := ?kv27) rfl ?ky27 ?kr27
  case ky27 => (intro w hSw; (try dsimp only at hSw); go_split_ands; (try simp only [qA, qB, qC]); go_simp; (try with_reducible rfl))
  try simp only [Act.put, qA, qB, qC, qD, qE, qF]
  refine gT (i := 27) (v := ?kv28) rfl ?ky28 ?kr28
  case ky28 => (intro w hSw; (try dsimp only at hSw); go_split_ands; (try simp only [qA, qB, qC]); go_simp; (try with_reducible rfl))
  try simp only [Act.put, qA, qB, qC, qD, qE, qF]
  refine gT (i := 28) (v := ?kv29) rfl ?ky29 ?kr29
  case ky29 => (intro w hSw; (try dsimp only at hSw); go_split_ands; (try simp only [qA, qB, qC]); go_simp; (try with_reducible rfl))
  try simp only [Act.put, qA, qB, qC, qD, qE, qF]
  refine gT (i := 29) (v := ?kv30) rfl ?ky30 ?kr30
  case ky30 => (intro w hSw; (try dsimp only at hSw); go_split_ands; (try simp only [qA, qB, qC]); go_simp; (try with_reducible rfl))
  try simp only [Act.put, qA, qB, qC, qD, qE, qF]
  refine gT (i := 30) (v := ?kv31) rfl ?ky31 ?kr31
  case ky31 => (intro w hSw; (try dsimp only at hSw); go_split_ands; (try simp only [qA, qB, qC]); go_simp; (try with_reducible rfl))
  try simp only [Act.put, qA, qB, qC, qD, qE, qF]
  refine gT (i := 31) (v := ?kv32) rfl ?ky32 ?kr32
  case ky32 => (intro w hSw; (try dsimp only at hSw); go_split_ands; (try simp only [qA, qB, qC]); go_simp; (try with_reducible rfl))
  try simp only [Act.put, qA, qB, qC, qD, qE, qF]
  refine gT (i := 32) (v := ?kv33) rfl ?ky33 ?kr33
  case ky33 => (intro w hSw; (try dsimp only at hSw); go_split_ands; (try simp only [qA, qB, qC]); go_simp; (try with_reducible rfl))
  try simp only [Act.put, qA, qB, qC, qD, qE, qF]
  refine gT (i := 33) (v := ?kv34) rfl ?ky34 ?kr34
  case ky34 => (intro w hSw; (try dsimp only at hSw); go_split_ands; (try simp only [qA, qB, qC]); go_simp; (try with_reducible rfl))
  try simp only [Act.put, qA, qB, qC, qD, qE, qF]
  refine gT (i := 34) (v := ?kv35) rfl ?ky35 ?kr35
  case ky35 => (intro w hSw; (try dsimp only at hSw); go_split_ands; (try simp only [qA, qB, qC]); go_simp; (try with_reducible rfl))
  try simp only [Act.put, qA, qB, qC, qD, qE, qF]
  refine gT (i := 35) (v := ?kv36) rfl ?ky36 ?kr36
  case ky36 => (intro w hSw; (try dsimp only at hSw); go_split_ands; (try simp only [qA, qB, qC]); go_simp; (try with_reducible rfl))
  try simp only [Act.put, qA, qB, qC, qD, qE, qF]
  refine gT (i := 36) (v := ?kv37) rfl ?ky37 ?kr37
  case ky37 => (intro w hSw; (try dsimp only at hSw); go_split_ands; (try simp only [qA, qB, qC]); go_simp; (try with_reducible rfl))
  try simp only [Act.put, qA, qB, qC, qD, qE, qF]
  refine wpAnyH_ready (rs := [37]) (by kernel_rfl) (by simp) ?_
  refine (AllReadyH.cons rfl (fun K hK => ?_) AllReadyH.nil)
  try simp only [qA, qB, qC]
  go_simp
  refine hK.out _ _ (by exact hS _ (grow_alloc hHeld.2.2.2.2.2.2.2 _)) (fun hHeldn => ?_)
  clear hHeld hK K
  have hHeld := hHeldn
  clear hHeldn
  try simp only [qD, qE, qF]
  refine wpAnyH_ready (rs := [38]) (by kernel_rfl) (by simp) ?_
  refine (AllReadyH.cons rfl (fun K hK => ?_) AllReadyH.nil)
  try simp only [qA, qB, qC]
  go_simp
  refine hK.out _ _ (by exact hS _ (by first | exact grow_drew (grow_alloc (Below.refl _ _) _) | exact grow_alloc (grow_drew (Below.refl _ _)) _)) (fun hHeldn => ?_)
  clear hHeld hK K
  have hHeld := hHeldn
  clear hHeldn
  try simp only [qD, qE, qF]
  refine wpAnyH_done (by kernel_rfl) ?_ _
  go_wp2_with fail
  go_meet
  exact ⟨w0.heap.size, rfl, Nat.le_refl _, hHeld.2.2.2.2.2.2.2, by obtain ⟨o1, o2, z0, z1, z2, z1', z3, z4, z5, z6, z3', z4', z5'⟩ := HZ.out; simp only [objAt_alloc, objAt_drew, if_true, z0, z1, z2, z1', z3, z4, z5, z6, z3', z4', z5', o1, o2]⟩
 case rest =>
  obtain ⟨H, rfl, hH, hbel, hobj⟩ := hcut
  have hcx := grow_cell hbel k0
  clear k0 k1 k2 k3 k4 k5 k6
  by_cases h255 : c0 = 255
  · have e255 : ((c0.toNat : Int) == 255) = true := by rw [h255]; rfl
    have hcell0 : wc.cell? ⟨H, 0, none⟩ = some (.int .i64 (c0.toNat : Int)) := cell_obj hobj 0
    have hf0 := free_of_row hobj 0
    go_upto_region 6 with (fail)
    have hB5 : Below w0.heap.size w0 (wc.setCell ⟨H, 0, none⟩ (.int .i64 (-1))) := hbel.setCell (p := ⟨H, 0, none⟩) hH _
    have hO5 : objAt (wc.setCell ⟨H, 0, none⟩ (.int .i64 (-1))) H = some (.cells (idOf b).cells 66 (0, 0)) := by
     have : (idOf b).cells = #[.int .i64 (-1), .int .i64 (b.sub 1 2 : Nat), .int .u32 (b.sub 3 4 : Nat)] := by unfold idOf; rw [← Hc.out, if_pos h255]; rfl
     rw [this]; exact heap_setCell_same hobj 0 _
    have hlo : -1 ≤ (idOf b).label := by unfold idOf; rw [← Hc.out, if_pos h255]; show (-1 : Int) ≤ -1; omega
    have hlo2 : (idOf b).label < 9007199254740992 := by unfold idOf; rw [← Hc.out, if_pos h255]; show (-1 : Int) < 9007199254740992; omega
    clear hcell0 hf0 hobj hbel e255 h255 hcx lt0
    generalize wc.setCell ⟨H, 0, none⟩ (.int .i64 (-1)) = w5 at *
    clear hS
    have H5 := Lib.hid (And.intro hB5 hO5)
    have d0 : w5.cell? ⟨H, 0, none⟩ = some (.int .i64 (idOf b).label) := cell_obj hO5 0
    have d1 : w5.cell? ⟨H, 1, none⟩ = some (.int .i64 (idOf b).at_) := cell_obj hO5 1
    have d2 : w5.cell? ⟨H, 2, none⟩ = some (.int .u32 (idOf b).gen) := cell_obj hO5 2
    clear hB5 hO5
    cases hmy : mayID (idOf b) with
    | false =>
      have hp0 : putID (idOf b) = [] := by unfold putID; rw [hmy]; rfl
      have Ht := Lib.hid (show takeID b = none by unfold takeID; rw [if_neg (by rw [hp0]; intro e; have := congrArg List.length e; rw [List.length_take, b.len] at this; cases this)])
      have HP := Lib.hid (inoPut_any (idOf b) hlo hlo2 (by show -1 ≤ ((b.sub 1 2 : Nat) : Int); omega) (by show ((b.sub 1 2 : Nat) : Int) < _; have := b.sub_lt 1 2; omega) (idOf_wf b) w5)
      have Hm := Lib.hid hmy
      have nil0 : ∀ w', (binOp .eql 22 (.slice none 0 0) (.slice none 0 0)).run Tryz.prog w' = .ok (.bool true) w' := fun w' => eqNil_none w' _ _ Tryz.underlying22
      have nil1 : ∀ a w', (binOp .eql 22 (.slice (some a) 7 7) (.slice none 0 0)).run Tryz.prog w' = .ok (.bool false) w' := fun a w' => eqNil_some w' _ _ Tryz.underlying22 _ _ _
      clear hmy hp0
      rw [show (idOf b).cells = #[.int .i64 (idOf b).label, .int .i64 (idOf b).at_, .int .u32 (idOf b).gen] from rfl] at HP
      go_upto_region 7 with (go_at_call 155; refine HP.out.mono ?_; rintro e w6 ⟨v6, rfl, r6, n6, y6, b6⟩; obtain rfl := n6 Hm.out)
      have hR1 := grow_obj (grow_trans H5.out.1 b6) HX.out.2.2
      have hB1 := grow_trans HX.out.2.1 (grow_trans H5.out.1 b6)
      have hg1 := hasId_obj hR1 rfl
      have HF := Lib.hid (And.intro hR1 hB1)
      clear hR1 hB1
      go_wp2_with fail
      refine bodyPost_ret (results_two rfl (resOne_agg aggId rfl (rowAt_heap (objAt_setRow HF.out.1 _)) rfl) (resOne_tmp _ _ _)) rfl ?_
      exact ⟨by rw [Ht.out]; rfl, HF.out.2.setRow (by rw [HG.out]; exact Nat.le_refl _) _⟩
    | true =>
      have hpl : (putID (idOf b)).length = 7 := by unfold putID; rw [hmy, if_pos rfl]; simp [idBytes, high_length]
      have Hpl := Lib.hid hpl
      have HP := Lib.hid (inoPut_any (idOf b) hlo hlo2 (by show -1 ≤ ((b.sub 1 2 : Nat) : Int); omega) (by show ((b.sub 1 2 : Nat) : Int) < _; have := b.sub_lt 1 2; omega) (idOf_wf b) w5)
      have Hm := Lib.hid hmy
      have nil0 : ∀ w', (binOp .eql 22 (.slice none 0 0) (.slice none 0 0)).run Tryz.prog w' = .ok (.bool true) w' := fun w' => eqNil_none w' _ _ Tryz.underlying22
      have nil1 : ∀ a w', (binOp .eql 22 (.slice (some a) 7 7) (.slice none 0 0)).run Tryz.prog w' = .ok (.bool false) w' := fun a w' => eqNil_some w' _ _ Tryz.underlying22 _ _ _
      clear hmy hpl
      rw [show (idOf b).cells = #[.int .i64 (idOf b).label, .int .i64 (idOf b).at_, .int .u32 (idOf b).gen] from rfl] at HP
      by_cases ht : putID (idOf b) = b.body.take 7
      · have Ht := Lib.hid (show takeID b = some (idOf b) by unfold takeID; rw [if_pos ht])
        have he : (putID (idOf b) == b.body.take 7) = true := by simpa using ht
        have He := Lib.hid he
        clear ht he
        go_upto_region 7 with (go_at_call 155; refine HP.out.mono ?_; rintro e w6 ⟨v6, rfl, r6, n6, y6, b6⟩; obtain ⟨g6, rfl⟩ := y6 Hm.out)
        have e1 := (BRow.bytesAt r6).1
        have e2 := (BlkAt.below HX.out.1 (grow_trans H5.out.1 b6) (block_lt HX.out.1)).seven
        have HQ := Lib.hid (Equal_any (some ⟨g6, 0, none⟩) (some ⟨g, 1, none⟩) (putID (idOf b)) (b.body.take 7) 7 56 w6 e1 e2)
        rw [Hpl.out, show (b.body.take 7).length = 7 by rw [List.length_take, b.len]; rfl, He.out] at HQ
        have hR1 := grow_obj (grow_trans H5.out.1 b6) HX.out.2.2
        have hB1 := grow_trans HX.out.2.1 (grow_trans H5.out.1 b6)
        have hg1 := hasId_obj hR1 rfl
        have HF := Lib.hid (And.intro hR1 hB1)
        have f0 := grow_cell b6 d0
        have f1 := grow_cell b6 d1
        have f2 := grow_cell b6 d2
        clear hR1 hB1 e1 e2 d0 d1 d2
        go_wp2_with (go_at_call 203; refine HQ.out.mono ?_; rintro e w7 ⟨rfl, hw7⟩; obtain rfl := hw7.symm)
        refine bodyPost_ret (results_two rfl (resOne_agg aggId rfl (rowAt_heap (objAt_setRow HF.out.1 _)) rfl) (resOne_tmp _ _ _)) rfl ?_
        exact ⟨by rw [Ht.out]; rfl, HF.out.2.setRow (by rw [HG.out]; exact Nat.le_refl _) _⟩
      · have Ht := Lib.hid (show takeID b = none by unfold takeID; rw [if_neg ht])
        have he : (putID (idOf b) == b.body.take 7) = false := by simpa using ht
        have He := Lib.hid he
        clear ht he
        go_upto_region 7 with (go_at_call 155; refine HP.out.mono ?_; rintro e w6 ⟨v6, rfl, r6, n6, y6, b6⟩; obtain ⟨g6, rfl⟩ := y6 Hm.out)
        have e1 := (BRow.bytesAt r6).1
        have e2 := (BlkAt.below HX.out.1 (grow_trans H5.out.1 b6) (block_lt HX.out.1)).seven
        have HQ := Lib.hid (Equal_any (some ⟨g6, 0, none⟩) (some ⟨g, 1, none⟩) (putID (idOf b)) (b.body.take 7) 7 56 w6 e1 e2)
        rw [Hpl.out, show (b.body.take 7).length = 7 by rw [List.length_take, b.len]; rfl, He.out] at HQ
        have hR1 := grow_obj (grow_trans H5.out.1 b6) HX.out.2.2
        have hB1 := grow_trans HX.out.2.1 (grow_trans H5.out.1 b6)
        have hg1 := hasId_obj hR1 rfl
        have HF := Lib.hid (And.intro hR1 hB1)
        clear hR1 hB1 e1 e2
        go_wp2_with (go_at_call 203; refine HQ.out.mono ?_; rintro e w7 ⟨rfl, hw7⟩; obtain rfl := hw7.symm)
        refine bodyPost_ret (results_two rfl (resOne_agg aggId rfl (rowAt_heap (objAt_setRow HF.out.1 _)) rfl) (resOne_tmp _ _ _)) rfl ?_
        exact ⟨by rw [Ht.out]; rfl, HF.out.2.setRow (by rw [HG.out]; exact Nat.le_refl _) _⟩
  · have n255 : ¬ (c0.toNat = 255) := fun e => h255 (UInt8.toNat_inj.1 e)
    have e255 : ((c0.toNat : Int) == 255) = false := by simpa using by omega
    go_upto_region 6 with (fail)
    have hB5 := hbel
    have hO5 : objAt wc H = some (.cells (idOf b).cells 66 (0, 0)) := by
     have : (idOf b).cells = #[.int .i64 (c0.toNat : Int), .int .i64 (b.sub 1 2 : Nat), .int .u32 (b.sub 3 4 : Nat)] := by unfold idOf; rw [← Hc.out, if_neg h255]; rfl
     rw [this]; exact hobj
    have hlo : -1 ≤ (idOf b).label := by unfold idOf; rw [← Hc.out, if_neg h255]; show -1 ≤ ((c0.toNat : Nat) : Int); omega
    have hlo2 : (idOf b).label < 9007199254740992 := by unfold idOf; rw [← Hc.out, if_neg h255]; show ((c0.toNat : Nat) : Int) < _; omega
    clear hobj hbel e255 n255 h255 hcx lt0
    generalize wc = w5 at *
    clear hS
    have H5 := Lib.hid (And.intro hB5 hO5)
    have d0 : w5.cell? ⟨H, 0, none⟩ = some (.int .i64 (idOf b).label) := cell_obj hO5 0
    have d1 : w5.cell? ⟨H, 1, none⟩ = some (.int .i64 (idOf b).at_) := cell_obj hO5 1
    have d2 : w5.cell? ⟨H, 2, none⟩ = some (.int .u32 (idOf b).gen) := cell_obj hO5 2
    clear hB5 hO5
    cases hmy : mayID (idOf b) with
    | false =>
      have hp0 : putID (idOf b) = [] := by unfold putID; rw [hmy]; rfl
      have Ht := Lib.hid (show takeID b = none by unfold takeID; rw [if_neg (by rw [hp0]; intro e; have := congrArg List.length e; rw [List.length_take, b.len] at this; cases this)])
      have HP := Lib.hid (inoPut_any (idOf b) hlo hlo2 (by show -1 ≤ ((b.sub 1 2 : Nat) : Int); omega) (by show ((b.sub 1 2 : Nat) : Int) < _; have := b.sub_lt 1 2; omega) (idOf_wf b) w5)
      have Hm := Lib.hid hmy
      have nil0 : ∀ w', (binOp .eql 22 (.slice none 0 0) (.slice none 0 0)).run Tryz.prog w' = .ok (.bool true) w' := fun w' => eqNil_none w' _ _ Tryz.underlying22
      have nil1 : ∀ a w', (binOp .eql 22 (.slice (some a) 7 7) (.slice none 0 0)).run Tryz.prog w' = .ok (.bool false) w' := fun a w' => eqNil_some w' _ _ Tryz.underlying22 _ _ _
      clear hmy hp0
      rw [show (idOf b).cells = #[.int .i64 (idOf b).label, .int .i64 (idOf b).at_, .int .u32 (idOf b).gen] from rfl] at HP
      go_upto_region 7 with (go_at_call 155; refine HP.out.mono ?_; rintro e w6 ⟨v6, rfl, r6, n6, y6, b6⟩; obtain rfl := n6 Hm.out)
      have hR1 := grow_obj (grow_trans H5.out.1 b6) HX.out.2.2
      have hB1 := grow_trans HX.out.2.1 (grow_trans H5.out.1 b6)
      have hg1 := hasId_obj hR1 rfl
      have HF := Lib.hid (And.intro hR1 hB1)
      clear hR1 hB1
      go_wp2_with fail
      refine bodyPost_ret (results_two rfl (resOne_agg aggId rfl (rowAt_heap (objAt_setRow HF.out.1 _)) rfl) (resOne_tmp _ _ _)) rfl ?_
      exact ⟨by rw [Ht.out]; rfl, HF.out.2.setRow (by rw [HG.out]; exact Nat.le_refl _) _⟩
    | true =>
      have hpl : (putID (idOf b)).length = 7 := by unfold putID; rw [hmy, if_pos rfl]; simp [idBytes, high_length]
      have Hpl := Lib.hid hpl
      have HP := Lib.hid (inoPut_any (idOf b) hlo hlo2 (by show -1 ≤ ((b.sub 1 2 : Nat) : Int); omega) (by show ((b.sub 1 2 : Nat) : Int) < _; have := b.sub_lt 1 2; omega) (idOf_wf b) w5)
      have Hm := Lib.hid hmy
      have nil0 : ∀ w', (binOp .eql 22 (.slice none 0 0) (.slice none 0 0)).run Tryz.prog w' = .ok (.bool true) w' := fun w' => eqNil_none w' _ _ Tryz.underlying22
      have nil1 : ∀ a w', (binOp .eql 22 (.slice (some a) 7 7) (.slice none 0 0)).run Tryz.prog w' = .ok (.bool false) w' := fun a w' => eqNil_some w' _ _ Tryz.underlying22 _ _ _
      clear hmy hpl
      rw [show (idOf b).cells = #[.int .i64 (idOf b).label, .int .i64 (idOf b).at_, .int .u32 (idOf b).gen] from rfl] at HP
      by_cases ht : putID (idOf b) = b.body.take 7
      · have Ht := Lib.hid (show takeID b = some (idOf b) by unfold takeID; rw [if_pos ht])
        have he : (putID (idOf b) == b.body.take 7) = true := by simpa using ht
        have He := Lib.hid he
        clear ht he
        go_upto_region 7 with (go_at_call 155; refine HP.out.mono ?_; rintro e w6 ⟨v6, rfl, r6, n6, y6, b6⟩; obtain ⟨g6, rfl⟩ := y6 Hm.out)
        have e1 := (BRow.bytesAt r6).1
        have e2 := (BlkAt.below HX.out.1 (grow_trans H5.out.1 b6) (block_lt HX.out.1)).seven
        have HQ := Lib.hid (Equal_any (some ⟨g6, 0, none⟩) (some ⟨g, 1, none⟩) (putID (idOf b)) (b.body.take 7) 7 56 w6 e1 e2)
        rw [Hpl.out, show (b.body.take 7).length = 7 by rw [List.length_take, b.len]; rfl, He.out] at HQ
        have hR1 := grow_obj (grow_trans H5.out.1 b6) HX.out.2.2
        have hB1 := grow_trans HX.out.2.1 (grow_trans H5.out.1 b6)
        have hg1 := hasId_obj hR1 rfl
        have HF := Lib.hid (And.intro hR1 hB1)
        have f0 := grow_cell b6 d0
        have f1 := grow_cell b6 d1
        have f2 := grow_cell b6 d2
        clear hR1 hB1 e1 e2 d0 d1 d2
        go_wp2_with (go_at_call 203; refine HQ.out.mono ?_; rintro e w7 ⟨rfl, hw7⟩; obtain rfl := hw7.symm)
        refine bodyPost_ret (results_two rfl (resOne_agg aggId rfl (rowAt_heap (objAt_setRow HF.out.1 _)) rfl) (resOne_tmp _ _ _)) rfl ?_
        exact ⟨by rw [Ht.out]; rfl, HF.out.2.setRow (by rw [HG.out]; exact Nat.le_refl _) _⟩
      · have Ht := Lib.hid (show takeID b = none by unfold takeID; rw [if_neg ht])
        have he : (putID (idOf b) == b.body.take 7) = false := by simpa using ht
        have He := Lib.hid he
        clear ht he
        go_upto_region 7 with (go_at_call 155; refine HP.out.mono ?_; rintro e w6 ⟨v6, rfl, r6, n6, y6, b6⟩; obtain ⟨g6, rfl⟩ := y6 Hm.out)
        have e1 := (BRow.bytesAt r6).1
        have e2 := (BlkAt.below HX.out.1 (grow_trans H5.out.1 b6) (block_lt HX.out.1)).seven
        have HQ := Lib.hid (Equal_any (some ⟨g6, 0, none⟩) (some ⟨g, 1, none⟩) (putID (idOf b)) (b.body.take 7) 7 56 w6 e1 e2)
        rw [Hpl.out, show (b.body.take 7).length = 7 by rw [List.length_take, b.len]; rfl, He.out] at HQ
        have hR1 := grow_obj (grow_trans H5.out.1 b6) HX.out.2.2
        have hB1 := grow_trans HX.out.2.1 (grow_trans H5.out.1 b6)
        have hg1 := hasId_obj hR1 rfl
        have HF := Lib.hid (And.intro hR1 hB1)
        clear hR1 hB1 e1 e2
        go_wp2_with (go_at_call 203; refine HQ.out.mono ?_; rintro e w7 ⟨rfl, hw7⟩; obtain rfl := hw7.symm)
        refine bodyPost_ret (results_two rfl (resOne_agg aggId rfl (rowAt_heap (objAt_setRow HF.out.1 _)) rfl) (resOne_tmp _ _ _)) rfl ?_
        exact ⟨by rw [Ht.out]; rfl, HF.out.2.setRow (by rw [HG.out]; exact Nat.le_refl _) _⟩
end Go.Proofs.YtbbnejehglonjaaGreat
