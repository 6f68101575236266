/- DERIVED. Contracts and laws that the proofs of this seat share, part 3 of 36: PaB Ref1J Ref1K Ref1L. -/
import Derived.Test.YtbbnejehglonjaaGreatMo00
import Derived.Test.YtbbnejehglonjaaGreatMo02
/- DERIVED. Contracts of area's functions, label.May and Put, block.four. -/
namespace Go.Proofs.YtbbnejehglonjaaGreat
open Go.RowKit
attribute [local irreducible] Calls
/-- A share: its label's level and categories, how many blocks, of the log, frames. -/
structure Sh where
 level : Int
 cats : Int
 blocks : Nat
 log : Nat
 frames : Int
def Sh.cells (s : Sh) : Array Value := #[.int .i64 s.level, .int .i64 s.cats, .int .i64 s.blocks, .int .i64 s.log, .int .i64 s.frames]
structure Sh.Ok (s : Sh) : Prop where
 level : 0 ≤ s.level ∧ s.level ≤ 3
 cats : 0 ≤ s.cats ∧ s.cats ≤ 15
 blocks : s.blocks ≤ 200
 log : s.log ≤ 100
 pos : 0 < s.blocks
/-- How many blocks a region has. -/
def Sh.size (s : Sh) : Nat := 2 + s.log + s.blocks
/-- The label as a byte. -/
def Sh.lb (s : Sh) : UInt8 := UInt8.ofNat (16 * s.level + s.cats).toNat

theorem Size_any (s : Sh) (h : s.Ok) (w : World) :
 Calls Tryz.prog 54 #[.agg s.cells] w fun e w' => e = .returned (.int .i64 (s.size : Nat)) ∧ Below w.heap.size w w' := by
 obtain ⟨lv, ca, bl, lo, fr⟩ := s
 have h1 := h.blocks
 have h2 := h.log
 dsimp only at h1 h2
 unfold Sh.cells Sh.size
 go_enter Tryz.func54, Tryz.ntmps54
 go_wp2_with fail
 go_ret
 exact ⟨by go_num, grow_alloc (Below.refl _ _) _⟩
theorem Anchor_any (e : Nat) (w : World) :
 Calls Tryz.prog 169 #[.int .u32 e] w fun x w' => x = .returned (.int .i64 (e % 2 : Nat)) ∧ w' = w := by
 go_enter Tryz.func169, Tryz.ntmps169
 go_wp2_with fail
 go_ret
 exact ⟨by go_num, rfl⟩
theorem row_any (a b : Int) (w : World) :
 Calls Tryz.prog 180 #[.int .i64 a, .int .i64 b] w fun x w' => x = .returned (cz a b) ∧ w' = w := by
 unfold cz
 go_enter Tryz.func180, Tryz.ntmps180
 go_wp2_with fail
 go_ret
 exact ⟨rfl, rfl⟩
theorem of_any (a b i : Nat) (ha : a ≤ 1000) (hb : b ≤ 1000) (hi : i < b) (w : World) :
 Calls Tryz.prog 181 #[cz a b, .int .i64 i] w fun x w' => x = .returned (.int .i64 (a + i : Nat)) ∧ w' = w := by
 have hA : ∀ w, (convert 240 3 (.float .f64 (floatOfInt .f64 (a : Int)))).run Tryz.prog w = .ok (.int .i64 (a : Int)) w := fun w => fz_i64 w _ _ _ (by rw [Tryz.underlying240]; rfl) Tryz.underlying3 (smallZ_of (by omega) (by omega))
 have hB : ∀ w, (convert 240 3 (.float .f64 (floatOfInt .f64 (b : Int)))).run Tryz.prog w = .ok (.int .i64 (b : Int)) w := fun w => fz_i64 w _ _ _ (by rw [Tryz.underlying240]; rfl) Tryz.underlying3 (smallZ_of (by omega) (by omega))
 have h0 : ¬ ((i : Int) < 0) := by omega
 have h1 : ¬ ((b : Int) ≤ (i : Int)) := by omega
 unfold cz
 go_enter Tryz.func181, Tryz.ntmps181
 go_wp2_with fail
 go_ret
 exact ⟨by go_num, rfl⟩
theorem Log_any (s : Sh) (h : s.Ok) (i : Nat) (hi : i < s.log) (w : World) :
 Calls Tryz.prog 123 #[.agg s.cells, .int .i64 i] w fun e w' => e = .returned (.int .i64 (2 + i : Nat)) ∧ Below w.heap.size w w' := by
 obtain ⟨lv, ca, bl, lo, fr⟩ := s
 have h2 := h.log
 dsimp only at h2 hi
 have hof := Lib.hid (of_any 2 lo i (by omega) (by omega) hi)
 unfold Sh.cells
 go_enter Tryz.func123, Tryz.ntmps123
 go_wp2_with (first | (go_at_call 180; refine (row_any _ _ _).mono ?_; rintro e w1 ⟨rfl, rfl⟩) | (go_at_call 181; refine (hof.out _).mono ?_; rintro e w1 ⟨rfl, rfl⟩))
 go_ret
 exact ⟨rfl, grow_alloc (Below.refl _ _) _⟩
theorem Home_any (s : Sh) (h : s.Ok) (i : Nat) (hi : i < s.blocks) (w : World) :
 Calls Tryz.prog 167 #[.agg s.cells, .int .i64 i] w fun e w' => e = .returned (.int .i64 (2 + s.log + i : Nat)) ∧ Below w.heap.size w w' := by
 obtain ⟨lv, ca, bl, lo, fr⟩ := s
 have h1 := h.blocks
 have h2 := h.log
 dsimp only at h1 h2 hi
 have hof := Lib.hid (of_any (2 + lo) bl i (by omega) (by omega) hi)
 have e1 : (((2 + lo : Nat)) : Int) = 2 + (lo : Int) := by omega
 rw [e1] at hof
 unfold Sh.cells
 go_enter Tryz.func167, Tryz.ntmps167
 go_wp2_with (first | (go_at_call 180; refine (row_any _ _ _).mono ?_; rintro e w1 ⟨rfl, rfl⟩) | (go_at_call 181; refine (hof.out _).mono ?_; rintro e w1 ⟨rfl, rfl⟩))
 go_ret
 exact ⟨by go_num, grow_alloc (Below.refl _ _) _⟩
theorem wrap_byte (n : Nat) : IntKind.u8.wrap (n : Int) = ((UInt8.ofNat n).toNat : Int) := by
 rw [IntKind.wrap_u8]; simp
theorem LabelMay_ok (lv ca : Int) (h1 : 0 ≤ lv ∧ lv ≤ 3) (h2 : 0 ≤ ca ∧ ca ≤ 15) (w : World) :
 Calls Tryz.prog 197 #[.agg #[.int .i64 lv, .int .i64 ca]] w fun e w' => e = .returned (.bool true) ∧ Below w.heap.size w w' := by
 obtain ⟨a1, a2⟩ := h1
 obtain ⟨a3, a4⟩ := h2
 go_enter Tryz.func197, Tryz.ntmps197
 go_wp2_with fail
 go_ret
 exact ⟨rfl, grow_alloc (Below.refl _ _) _⟩
theorem LabelPut_ok (lv ca : Int) (h1 : 0 ≤ lv ∧ lv ≤ 3) (h2 : 0 ≤ ca ∧ ca ≤ 15) (w : World) :
 Calls Tryz.prog 165 #[.agg #[.int .i64 lv, .int .i64 ca]] w fun e w' => e = .returned (.tuple #[.int .u8 ((UInt8.ofNat (16 * lv + ca).toNat).toNat : Int), .bool true]) ∧ Below w.heap.size w w' := by
 have hb : IntKind.u8.wrap (16 * lv + ca) = ((UInt8.ofNat (16 * lv + ca).toNat).toNat : Int) := by
  have := wrap_byte (16 * lv + ca).toNat
  rw [← this]; congr 1; omega
 have Hb := Lib.hid hb
 go_enter Tryz.func165, Tryz.ntmps165
 go_wp2_with (go_at_call 197; refine (LabelMay_ok lv ca h1 h2 _).mono ?_; rintro e w1 ⟨rfl, b1⟩; have c0 : w1.cell? ⟨w.heap.size, 0, none⟩ = some (.int .i64 lv) := grow_cell b1 (by simp); have c1 : w1.cell? ⟨w.heap.size, 1, none⟩ = some (.int .i64 ca) := grow_cell b1 (by simp))
 go_ret2
 refine ⟨?_, grow_trans (grow_alloc (Below.refl _ _) _) b1⟩
 rw [← Hb.out]
 simp only [IntKind.wrap_u8]
 go_num
end Go.Proofs.YtbbnejehglonjaaGreat

/- DERIVED. Contract of clathriref1.TakeID. -/
namespace Go.Proofs.YtbbnejehglonjaaGreat
open Go.RowKit
@[go_sem] theorem drew_setRow (w : World) (n : Nat) (c : Array Value) : w.drew.setRow n c = (w.setRow n c).drew := rfl
attribute [local irreducible] Calls
theorem idOf_wf (b : Blk) : (idOf b).wf := by
 have := b.sub_lt 3 4
 exact ⟨Int.natCast_nonneg _, by simp only [idOf]; omega⟩

attribute [local irreducible] Go.convert
theorem conv_blk (w : World) (g at_ n cap off : Nat) (b : Blk) (h : BlkAt w g b) (ha : at_ = 1 + off) (hn : off + n ≤ 56) :
 (Go.convert 22 9 (.slice (some ⟨g, at_, none⟩) n cap)).run Tryz.prog w = .ok (.string ⟨((b.body.drop off).take n).toArray⟩) w := by
 subst ha
 have hl : ((b.body.drop off).take n).length = n := by rw [List.length_take, List.length_drop, b.len]; omega
 have := run_convert_bytes_back (P := Tryz.prog) w 22 9 5 ⟨g, 1 + off, none⟩ cap ((b.body.drop off).take n) Tryz.underlying22 Tryz.underlying5 Tryz.underlying9 (fun j hj => by
  rw [hl] at hj
  have hc := h.cell (off + j) (by omega)
  have hadd : (⟨g, 1 + off, none⟩ : Addr).add j = ⟨g, 1 + (off + j), none⟩ := by unfold Addr.add; split <;> simp_all [Nat.add_assoc]
  rw [hadd, hc]
  simp only [List.getElem_take, List.getElem_drop])
 rwa [hl] at this

end Go.Proofs.YtbbnejehglonjaaGreat

/- DERIVED. Contracts of clathriref1.MayName, MayEntry, PutEntry. -/
namespace Go.Proofs.YtbbnejehglonjaaGreat
open Go.RowKit
attribute [local irreducible] Calls
theorem eqs (s : ByteArray) (l : List UInt8) : (s.toList == l) = (s.data.toList == l) := by rw [ByteArray.toList_eq]

theorem mayName_parts (l : List UInt8) (h1 : (l == [46]) = false) (h2 : (l == [46, 46]) = false) (h3 : 1 ≤ l.length) (h4 : l.length ≤ 14) :
 mayName l = !(l.any fun c => badName c.toNat) := by
 unfold mayName; rw [h1, h2]; simp [h3, h4]

theorem mayName_long {l : List UInt8} (h : 14 < l.length) : mayName l = false := by
 unfold mayName
 have : decide (l.length ≤ 14) = false := by simp; omega
 rw [this]; simp
theorem mayName_nil {l : List UInt8} (h : l.length < 1) : mayName l = false := by
 obtain rfl : l = [] := List.length_eq_zero_iff.1 (by omega)
 rfl
def Nm.cells (n : Nm) : Array Value := #[.int .i64 n.dir.label, .int .i64 n.dir.at_, .int .u32 n.dir.gen, .string n.name, .int .i64 n.at_, .int .u32 n.gen]
structure Nm.wf (n : Nm) : Prop where
 dir : n.dir.wf
 gen0 : 0 ≤ n.gen
 gen1 : n.gen ≤ 4294967295
 long : n.name.size ≤ 1000000
theorem mayEntry_parts (n : Nm) : mayEntry n = (((mayID n.dir && mayName n.name.data.toList) && okAt n.at_) && decide (1 ≤ n.gen)) := rfl

theorem mayEntry_small {n : Nm} (h : mayEntry n = true) : mayID n.dir = true ∧ 1 ≤ n.name.size ∧ n.name.size ≤ 14 ∧ 1 ≤ n.at_ ∧ n.at_ < 200 ∧ 1 ≤ n.gen := by
 have hl : n.name.data.toList.length = n.name.size := by simp
 simp only [mayEntry, mayName, okAt, Bool.and_eq_true, decide_eq_true_eq] at h
 obtain ⟨⟨⟨h1, ⟨⟨⟨h2, h3⟩, h4⟩, h5⟩, h6⟩, h7, h8⟩, h9⟩ := h
 exact ⟨h1, by omega, by omega, h7, h8, h9⟩

end Go.Proofs.YtbbnejehglonjaaGreat

/- DERIVED. Contract of clathriref1.TakeEntry. -/
namespace Go.Proofs.YtbbnejehglonjaaGreat
open Go.RowKit
attribute [local irreducible] Calls
theorem aggNm : AggOf Tryz.prog 100 6 := ⟨⟨_, Tryz.underlying100, rfl⟩, by kernel_rfl⟩
noncomputable def nmStore (x y : Value) (w : World) : Result Unit := Sem.run Tryz.prog (Instr.storeAt 100 x y) w
def hasNm (w : World) (g : Nat) : Bool := (rowAt w g).any (·.size == 6)
theorem hasNm_some {w : World} {g : Nat} (h : hasNm w g = true) : ∃ c, rowAt w g = some c ∧ c.size = 6 := by
 unfold hasNm at h
 cases hr : rowAt w g with
 | none => rw [hr] at h; cases h
 | some c => rw [hr] at h; exact ⟨c, rfl, by simpa using h⟩
theorem hasNm_obj {w : World} {g : Nat} {c : Array Value} {t : TypeId} (h : objAt w g = some (.cells c t (0, 0))) (hc : c.size = 6) : hasNm w g = true := by
 unfold hasNm; rw [rowAt_heap h]; simp [hc]
@[go_sem] theorem hasNm_new (w : World) (c : Array Value) (t : TypeId) (n : Nat) (hn : n = w.heap.size) (hc : c.size = 6) : hasNm (w.alloc (.cells c t)) n = true := by
 unfold hasNm; rw [rowAt_alloc_at w c t n hn]; simp [hc]
@[go_sem] theorem hasNm_drew (w : World) (n : Nat) : hasNm w.drew n = hasNm w n := rfl
@[go_sem] theorem store_nm (w : World) (gB : Nat) (l a g : Int) (t : ByteArray) (p h : Int) (hB : hasNm w gB = true) :
 nmStore (.pointer (some ⟨gB, 0, none⟩)) (.agg #[.int .i64 l, .int .i64 a, .int .u32 g, .string t, .int .i64 p, .int .u32 h]) w = .ok () (w.setRow gB #[.int .i64 l, .int .i64 a, .int .u32 g, .string t, .int .i64 p, .int .u32 h]) := by
 obtain ⟨c, hc, hs⟩ := hasNm_some hB
 refine run_store_agg aggNm w gB _ hc hs rfl ?_
 simp [Value.oneCell']
@[go_sem ↓] theorem exec_store_nm (ρ : Operand → Value) (w : World) (dst : Option Tmp) (x y : Operand) (ty : TypeId) (pos : String) (after : Array Edge) (gd : Option (Nat × Bool)) :
 (execOp ρ ⟨dst, .store 100 x y, ty, pos, after, gd⟩).run Tryz.prog w = (nmStore (ρ x) (ρ y) w).andThen fun _ w => .ok .skip w := by
 simp only [execOp, nmStore, Sem.run_bind]; rfl
attribute [irreducible] nmStore
def Blk.nlen (b : Blk) : Nat := (b.body.getD 13 0).toNat
theorem takeID_some {b : Blk} {i : Id} (h : takeID b = some i) : i = idOf b := by
 unfold takeID at h
 split at h
 · exact (Option.some.inj h).symm
 · cases h
theorem takeEntry_none {b : Blk} (h : takeID b = none) : takeEntry b = none := by unfold takeEntry; rw [h]
theorem takeEntry_long {b : Blk} {i : Id} (h : takeID b = some i) (hl : 14 < b.nlen) : takeEntry b = none := by unfold takeEntry; rw [h]; exact if_pos hl
theorem takeEntry_get {b : Blk} {i : Id} (h : takeID b = some i) (hl : ¬ 14 < b.nlen) : takeEntry b = if putEntry (nameOf b i) = (b, true) then some (nameOf b i) else none := by unfold takeEntry; rw [h]; exact if_neg hl
theorem nameOf_wf (b : Blk) : (nameOf b (idOf b)).wf := by
 have := b.sub_lt 9 4
 refine ⟨idOf_wf b, Int.natCast_nonneg _, by simp only [nameOf]; omega, ?_⟩
 show ((b.body.drop 14).take (b.body.getD 13 0).toNat).toArray.size ≤ 1000000
 simp [b.len]; omega

end Go.Proofs.YtbbnejehglonjaaGreat
