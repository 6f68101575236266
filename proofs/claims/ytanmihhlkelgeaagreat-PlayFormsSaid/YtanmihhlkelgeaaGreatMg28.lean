/- DERIVED. Contracts and laws that the proofs of this seat share, part 28 of 32: PzI PzC PzD. -/
import Derived.Test.YtanmihhlkelgeaaGreatMg21
import Derived.Test.YtanmihhlkelgeaaGreatMg25
import Derived.Test.YtanmihhlkelgeaaGreatMg26
import Derived.Test.YtanmihhlkelgeaaGreatMg27
/- DERIVED. Contract of store.Open of a new store. -/
namespace Go.Proofs.YtanmihhlkelgeaaGreat
open Go.RowKit
attribute [local irreducible] Calls
set_option maxRecDepth 100000

def dv1 : Dv := makeD ⟨[Reg.new 26], -1⟩ 0 sh0
def reg1 : Reg := (dv1.regs[0]?).getD (Reg.new 1)
theorem dv1_reg : dv1.regs[0]? = some reg1 := by kernel_rfl
theorem dv1_len : dv1.regs.length = 1 := by kernel_rfl
theorem reg1_len : reg1.seen.length = sh0.size := by kernel_rfl
theorem reg1_log : reg1.seen[2]? = some zeros64 := by kernel_rfl
theorem reg1_begins : beginsUpto sh0.lb 0 reg1.seen 2 = (1, true) := by kernel_rfl
theorem reg1_blks : ∀ a b, blks0[a]? = some b → (0 ≤ b.kind ∧ b.kind ≤ 7) ∧ reg1.seen[2 + sh0.log + a]? = some (sealB sh0.lb a b) := by
  intro a b h
  match a, h with
  | 0, h => obtain rfl := Option.some.inj h; exact ⟨by decide, by kernel_rfl⟩
  | 1, h => obtain rfl := Option.some.inj h; exact ⟨by rw [zero_kind]; decide, by kernel_rfl⟩
  | 2, h => obtain rfl := Option.some.inj h; exact ⟨by rw [zero_kind]; decide, by kernel_rfl⟩
  | 3, h => obtain rfl := Option.some.inj h; exact ⟨by rw [zero_kind]; decide, by kernel_rfl⟩
  | 4, h => obtain rfl := Option.some.inj h; exact ⟨by rw [zero_kind]; decide, by kernel_rfl⟩
  | 5, h => obtain rfl := Option.some.inj h; exact ⟨by rw [zero_kind]; decide, by kernel_rfl⟩
  | 6, h => obtain rfl := Option.some.inj h; exact ⟨by rw [zero_kind]; decide, by kernel_rfl⟩
  | 7, h => obtain rfl := Option.some.inj h; exact ⟨by rw [zero_kind]; decide, by kernel_rfl⟩
  | a + 8, h => simp [blks0] at h
theorem blks0_kind : ∀ k, k < 8 → (blks0.getD k Blk.zero).kind ≠ 1 ∧ (blks0.getD k Blk.zero).kind ≠ 2 ∧ (blks0.getD k Blk.zero).kind ≠ 3 := by
  intro k hk
  cases k with
  | zero => exact ⟨by decide, by decide, by decide⟩
  | succ k => rw [blks0_zero k (by omega), zero_kind]; decide
theorem take_none {b : Blk} (h : b.kind ≠ 1 ∧ b.kind ≠ 2 ∧ b.kind ≠ 3) : takeNode b = (Nd.zero, false) := by
  rw [takeNode_eq, if_neg]
  intro e
  have hm := mayNode_no (kind := b.kind) (n := nodeCut b) (.inr (.inr (.inr h)))
  unfold putNode at e
  rw [hm] at e
  cases e
theorem nTake_none (b : Blk) (h : b.kind ≠ 1 ∧ b.kind ≠ 2 ∧ b.kind ≠ 3) (w : World) : Calls Tryz.prog 57 #[.agg b.cells] w fun e w' => e = .returned (.tuple #[.agg #[.int .u32 0, .int .i64 0, .int .i64 0, .int .i64 0, .int .i64 0, .int .i64 0, .int .i64 0, .int .i64 0, .string ⟨#[]⟩], .bool false]) ∧ Below w.heap.size w w' := by
  have := nTake_any b w (nPutSays_no h)
  rw [take_none h] at this
  exact this
set_option maxHeartbeats 8000000 in
theorem Open_ok {w : World} {Sd : Nat → Prop} {d c : Nat} (hd : DevAt w Sd d dv1 c) (hc : c < 600000) : Calls Tryz.prog 40 #[.pointer (some ⟨d, 0, none⟩), .int .i64 0, .agg #[.int .i64 0, .int .i64 0, .int .i64 8, .int .i64 16, .int .i64 1]] w fun e w' => ∃ so, e = .returned (.tuple #[.pointer (some ⟨so, 0, none⟩), .int .i64 0]) ∧ Keeps Sd w w' := by
  have hB0 : Below w.heap.size w (w.alloc (.cells #[.int .i64 0, .int .i64 0, .int .i64 8, .int .i64 16, .int .i64 1] 41)) := grow_alloc (Below.refl _ _) _
  have HM := Lib.hid (Mount_new (hb := blks0) sh0_ok (hd.below hB0) hc dv1_reg reg1_len (by decide) reg1_log (by kernel_rfl) reg1_begins (by decide) (by kernel_rfl) reg1_blks)
  have H0 := Lib.hid (And.intro hd hB0)
  clear hd hB0
  go_enter Tryz.func40, Tryz.ntmps40
  go_upto_region 5 with (go_at_call 54; refine HM.out.mono ?_; rintro e w1 ⟨v, gb, cap, m, S', rfl, hV, hS', hv, hgb, hm, k1⟩; have H1 := Lib.hid (And.intro hV k1); clear hV hS' hv hgb hm k1)
  obtain ⟨so, hso⟩ : ∃ so, so = w1.heap.size := ⟨_, rfl⟩
  obtain ⟨w2, hw2⟩ : ∃ w2, w2 = w1.alloc (.cells #[.pointer (some ⟨v, 0, none⟩), .int .i64 0] 133) := ⟨_, rfl⟩
  have hB2 : Below w1.heap.size w1 w2 := below_alloc hw2
  have hoS : objAt w2 so = some (.cells #[.pointer (some ⟨v, 0, none⟩), .int .i64 0] 133 (0, 0)) := by rw [hso]; exact obj_alloc hw2
  have hV2 := H1.out.1.below hB2
  rw [← hw2, ← hso]
  have HBk := Lib.hid (hV2.blocksOf hoS)
  have H2 := Lib.hid (And.intro hB2 (And.intro hoS hV2))
  clear hw2 hso hB2 hoS hV2
  go_upto_region 7 with (first
    | (go_at_call 56; refine HBk.out.mono ?_; rintro e w3 ⟨V, rfl, hr3, b3⟩; obtain ⟨g3, cap3, rfl, hg3, _⟩ := hr3.form (by decide); have hcap3 : 8 ≤ cap3 := hr3.obj.choose_spec.2.1; have HW := Lib.hid (Whole_ok (hr3.mono (Nat.zero_le _)) hcap3); clear hr3 hg3 hcap3)
    | (go_at_call 55; refine HW.out.mono ?_; rintro e w4 ⟨rfl, b4⟩))
  have hB4 := grow_trans b3 b4
  have HBk2 := Lib.hid ((H2.out.2.2.below hB4).blocksOf (grow_obj hB4 H2.out.2.1))
  have H4 := Lib.hid hB4
  clear b3 b4 hB4
  go_wp2_with (go_at_call 56; refine HBk2.out.mono ?_; rintro e w5 ⟨V5, rfl, hr5, b5⟩; obtain ⟨g5, cap5, rfl, hg5, _⟩ := hr5.form (by decide); have H5 := Lib.hid (And.intro hr5 b5); clear hr5 hg5 b5)
  go_loopw [38] (fun i wr => ∃ k : Nat, k ≤ 8 ∧ i = .int .i64 k ∧ Below w5.heap.size w5 wr) (fun i _ => 8 - (Go.RowKit.intOf i).toNat)
  case atStart => exact ⟨0, Nat.zero_le _, rfl, Below.refl _ _⟩
  case round =>
    obtain ⟨k, hk, rfl, hb⟩ := hrel
    by_cases hlt : k < 8
    · have hlt' : (k : Int) < 8 := by omega
      have hr := H5.out.1.below hb
      have hb2 : Below wr.heap.size wr (wr.alloc (.cells Blk.zero.cells 139)) := grow_alloc (Below.refl _ _) _
      have hs1 := hr.has k hlt
      have hr1 := hr.row k hlt
      have hs2 := (hr.below hb2).has k hlt
      have hr2 := (hr.below hb2).row k hlt
      have hkd := blks0_kind k hlt
      generalize blks0.getD k Blk.zero = b at *
      have HT := Lib.hid (nTake_none b hkd)
      have HB := Lib.hid hb
      have hX : BlkAt (wr.alloc (.cells Blk.zero.cells 139)) wr.heap.size Blk.zero := BlkAt.alloc_new wr _
      have hbx := hX.has
      have hrx := hX.row
      clear hr hb hb2 hkd hX
      go_upto_region 10 with fail
      have hX4 : BlkAt (wr.alloc (.cells b.cells 139)) wr.heap.size b := BlkAt.alloc_new wr b
      obtain ⟨w6, hw6⟩ : ∃ w6, w6 = wr.alloc (.cells b.cells 139) := ⟨_, rfl⟩
      have hB6 : Below wr.heap.size wr w6 := below_alloc hw6
      rw [← hw6] at hX4
      rw [← hw6]
      have hb6 := hX4.has
      have hr6 := hX4.row
      have H6 := Lib.hid hB6
      clear hw6 hX4 hB6 hs1 hr1 hs2 hr2 hbx hrx
      go_wp2_with (go_at_call 57; refine (HT.out _).mono ?_; rintro e w7 ⟨rfl, b7⟩)
      go_roundw
      case rel => exact ⟨k + 1, by omega, by go_num, grow_alloc (grow_trans (grow_trans HB.out H6.out) b7) _⟩
      case measure => simp [Go.RowKit.intOf]; omega
    · obtain rfl : k = 8 := by omega
      have HB := Lib.hid hb
      clear hb
      go_wp2_with fail
      go_ret2
      exact ⟨so, rfl, ((Keeps.of_below H0.out.2).chain H1.out.2 (fun q _ e => e)).trans (Keeps.of_below (grow_trans (grow_trans (grow_trans H2.out.1 H4.out) H5.out.2) HB.out))⟩
end Go.Proofs.YtanmihhlkelgeaaGreat

/- DERIVED. A system with nothing in its rows: contracts of queue's there, Len, Pop, of sys's there, Pick, of trial's does, Do at a pick. -/
namespace Go.Proofs.YtanmihhlkelgeaaGreat
open Go.RowKit
attribute [local go_sem] hasBlk
attribute [local irreducible] Calls
set_option maxRecDepth 100000

theorem aggReply : AggOf Tryz.prog 56 10 := ⟨⟨_, Tryz.underlying56, rfl⟩, by kernel_rfl⟩
noncomputable def replyStore (x y : Value) (w : World) : Result Unit := Sem.run Tryz.prog (Instr.storeAt 56 x y) w
def hasReply (w : World) (g : Nat) : Bool := (rowAt w g).any (·.size == 10)
theorem hasReply_some {w : World} {g : Nat} (h : hasReply w g = true) : ∃ c, rowAt w g = some c ∧ c.size = 10 := by
  unfold hasReply at h
  cases hr : rowAt w g with
  | none => rw [hr] at h; cases h
  | some c => rw [hr] at h; exact ⟨c, rfl, by simpa using h⟩
theorem hasReply_obj {w : World} {g : Nat} {c : Array Value} {t : TypeId} (h : objAt w g = some (.cells c t (0, 0))) (hc : c.size = 10) : hasReply w g = true := by
  unfold hasReply; rw [rowAt_heap h]; simp [hc]
@[go_sem] theorem hasReply_new (w : World) (c : Array Value) (t : TypeId) (n : Nat) (hn : n = w.heap.size) (hc : c.size = 10) : hasReply (w.alloc (.cells c t)) n = true := by
  unfold hasReply; rw [rowAt_alloc_at w c t n hn]; simp [hc]
@[go_sem] theorem hasReply_drew (w : World) (n : Nat) : hasReply w.drew n = hasReply w n := rfl
@[go_sem] theorem store_reply (w : World) (gB : Nat) (a n : Int) (ad : Option Addr) (dn dc : Nat) (y1 y2 y3 y4 y5 y6 : Int) (ka : Option Addr) (kn kc : Nat) (hB : hasReply w gB = true) :
    replyStore (.pointer (some ⟨gB, 0, none⟩)) (.agg #[.int .i64 a, .int .i64 n, .slice ad dn dc, .int .i64 y1, .int .i64 y2, .int .u32 y3, .int .i64 y4, .int .i64 y5, .int .i64 y6, .slice ka kn kc]) w = .ok () (w.setRow gB #[.int .i64 a, .int .i64 n, .slice ad dn dc, .int .i64 y1, .int .i64 y2, .int .u32 y3, .int .i64 y4, .int .i64 y5, .int .i64 y6, .slice ka kn kc]) := by
  obtain ⟨c, hc, hs⟩ := hasReply_some hB
  refine run_store_agg aggReply w gB _ hc hs rfl ?_
  simp [Value.oneCell']
@[go_sem ↓] theorem exec_store_reply (ρ : Operand → Value) (w : World) (dst : Option Tmp) (x y : Operand) (ty : TypeId) (pos : String) (after : Array Edge) (gd : Option (Nat × Bool)) :
    (execOp ρ ⟨dst, .store 56 x y, ty, pos, after, gd⟩).run Tryz.prog w = (replyStore (ρ x) (ρ y) w).andThen fun _ w => .ok .skip w := by
  simp only [execOp, replyStore, Sem.run_bind]; rfl
attribute [irreducible] replyStore
theorem aggTold : AggOf Tryz.prog 58 13 := ⟨⟨_, Tryz.underlying58, rfl⟩, by kernel_rfl⟩
noncomputable def toldStore (x y : Value) (w : World) : Result Unit := Sem.run Tryz.prog (Instr.storeAt 58 x y) w
def hasTold (w : World) (g : Nat) : Bool := (rowAt w g).any (·.size == 13)
theorem hasTold_some {w : World} {g : Nat} (h : hasTold w g = true) : ∃ c, rowAt w g = some c ∧ c.size = 13 := by
  unfold hasTold at h
  cases hr : rowAt w g with
  | none => rw [hr] at h; cases h
  | some c => rw [hr] at h; exact ⟨c, rfl, by simpa using h⟩
theorem hasTold_obj {w : World} {g : Nat} {c : Array Value} {t : TypeId} (h : objAt w g = some (.cells c t (0, 0))) (hc : c.size = 13) : hasTold w g = true := by
  unfold hasTold; rw [rowAt_heap h]; simp [hc]
@[go_sem] theorem hasTold_new (w : World) (c : Array Value) (t : TypeId) (n : Nat) (hn : n = w.heap.size) (hc : c.size = 13) : hasTold (w.alloc (.cells c t)) n = true := by
  unfold hasTold; rw [rowAt_alloc_at w c t n hn]; simp [hc]
@[go_sem] theorem hasTold_drew (w : World) (n : Nat) : hasTold w.drew n = hasTold w n := rfl
@[go_sem] theorem store_told (w : World) (gB : Nat) (e m s a n : Int) (ad : Option Addr) (dn dc : Nat) (y1 y2 y3 y4 y5 y6 : Int) (ka : Option Addr) (kn kc : Nat) (hB : hasTold w gB = true) :
    toldStore (.pointer (some ⟨gB, 0, none⟩)) (.agg #[.int .i64 e, .int .i64 m, .int .i64 s, .int .i64 a, .int .i64 n, .slice ad dn dc, .int .i64 y1, .int .i64 y2, .int .u32 y3, .int .i64 y4, .int .i64 y5, .int .i64 y6, .slice ka kn kc]) w = .ok () (w.setRow gB #[.int .i64 e, .int .i64 m, .int .i64 s, .int .i64 a, .int .i64 n, .slice ad dn dc, .int .i64 y1, .int .i64 y2, .int .u32 y3, .int .i64 y4, .int .i64 y5, .int .i64 y6, .slice ka kn kc]) := by
  obtain ⟨c, hc, hs⟩ := hasTold_some hB
  refine run_store_agg aggTold w gB _ hc hs rfl ?_
  simp [Value.oneCell']
@[go_sem ↓] theorem exec_store_told (ρ : Operand → Value) (w : World) (dst : Option Tmp) (x y : Operand) (ty : TypeId) (pos : String) (after : Array Edge) (gd : Option (Nat × Bool)) :
    (execOp ρ ⟨dst, .store 58 x y, ty, pos, after, gd⟩).run Tryz.prog w = (toldStore (ρ x) (ρ y) w).andThen fun _ w => .ok .skip w := by
  simp only [execOp, toldStore, Sem.run_bind]; rfl
attribute [irreducible] toldStore
structure QAt (w : World) (q : Nat) : Prop where
  ex : ∃ g, objAt w q = some (.cells #[.slice (some ⟨g, 0, none⟩) 1 1] 128 (0, 0)) ∧ w.cell? ⟨g, 0, none⟩ = some (.slice none 0 0)
theorem QAt.below {w w' : World} {q : Nat} (h : QAt w q) (hb : Below w.heap.size w w') : QAt w' q := by
  obtain ⟨g, h1, h2⟩ := h.ex
  exact ⟨g, grow_obj hb h1, grow_cell hb h2⟩
theorem QAt.keeps {S : Nat → Prop} {w w' : World} {q : Nat} (h : QAt w q) (hk : Keeps S w w') (hS : ∀ k, S k → False) : QAt w' q := by
  obtain ⟨g, h1, h2⟩ := h.ex
  exact ⟨g, hk.obj h1 (hS _), (World.cell?_of_block (hk.block g (World.block_lt_of_cell? _ _ h2) (hS _))).trans h2⟩
theorem qThere_ok (q : Nat) (w : World) (h : QAt w q) : Calls Tryz.prog 100 #[.pointer (some ⟨q, 0, none⟩), .int .i64 0] w fun e w' => e = .returned (.bool true) ∧ w' = w := by
  obtain ⟨g, h1, h2⟩ := h.ex
  have c0 := cell_obj h1 0
  clear h h1 h2
  go_enter Tryz.func100, Tryz.ntmps100
  go_wp2_with fail
  go_ret
  exact ⟨rfl, rfl⟩
theorem qLen_ok (q : Nat) (w : World) (h : QAt w q) : Calls Tryz.prog 101 #[.pointer (some ⟨q, 0, none⟩), .int .i64 0] w fun e w' => e = .returned (.int .i64 0) ∧ w' = w := by
  have HT := Lib.hid (qThere_ok q w h)
  obtain ⟨g, h1, h2⟩ := h.ex
  have c0 := cell_obj h1 0
  clear h h1
  go_enter Tryz.func101, Tryz.ntmps101
  go_wp2_with (go_at_call 100; refine HT.out.mono ?_; rintro e wx ⟨rfl, hwx⟩; obtain rfl := hwx.symm)
  go_ret
  exact ⟨rfl, rfl⟩
set_option maxHeartbeats 1000000 in
theorem qPop_ok (q : Nat) (w : World) (h : QAt w q) : Calls Tryz.prog 67 #[.pointer (some ⟨q, 0, none⟩), .int .i64 0] w fun e w' => e = .returned (.tuple #[.int .i64 0, .agg #[.int .i64 0, .string ⟨#[]⟩, .string ⟨#[]⟩, .int .i64 0, .int .i64 0, .int .i64 0, .slice none 0 0], .bool false]) ∧ Below w.heap.size w w' := by
  have HT := Lib.hid (qLen_ok q _ (h.below (grow_alloc (Below.refl _ _) (.cells #[.int .i64 0, .string ⟨#[]⟩, .string ⟨#[]⟩, .int .i64 0, .int .i64 0, .int .i64 0, .slice none 0 0] 32))))
  clear h
  go_enter Tryz.func67, Tryz.ntmps67
  go_wp2_with (go_at_call 101; refine HT.out.mono ?_; rintro e wx ⟨rfl, hwx⟩; obtain rfl := hwx.symm)
  refine bodyPost_ret (results_three rfl (resOne_tmp _ _ _) (resOne_agg aggReq rfl (rowAt_heap (show objAt (w.alloc (.cells #[.int .i64 0, .string ⟨#[]⟩, .string ⟨#[]⟩, .int .i64 0, .int .i64 0, .int .i64 0, .slice none 0 0] 32)) w.heap.size = some (.cells #[.int .i64 0, .string ⟨#[]⟩, .string ⟨#[]⟩, .int .i64 0, .int .i64 0, .int .i64 0, .slice none 0 0] 32 (0, 0)) by rw [objAt_alloc, if_pos rfl])) rfl) (resOne_tmp _ _ _)) rfl ?_
  exact ⟨rfl, grow_alloc (Below.refl _ _) _⟩
structure SysAt (w : World) (p : Nat) : Prop where
  ex : ∃ f q g1 c1, objAt w p = some (.cells #[f, .pointer (some ⟨q, 0, none⟩), .slice (some ⟨g1, 0, none⟩) 1 c1] 104 (0, 0)) ∧ QAt w q
theorem SysAt.below {w w' : World} {p : Nat} (h : SysAt w p) (hb : Below w.heap.size w w') : SysAt w' p := by
  obtain ⟨f, q, g1, c1, h1, h2⟩ := h.ex
  exact ⟨f, q, g1, c1, grow_obj hb h1, h2.below hb⟩
theorem sThere_ok (p : Nat) (w : World) (h : SysAt w p) : Calls Tryz.prog 66 #[.pointer (some ⟨p, 0, none⟩), .int .i64 0] w fun e w' => e = .returned (.bool true) ∧ w' = w := by
  obtain ⟨f, q, g1, c1, h1, h2⟩ := h.ex
  have c2 := cell_obj h1 2
  clear h h1 h2
  go_enter Tryz.func66, Tryz.ntmps66
  go_wp2_with fail
  go_ret
  exact ⟨rfl, rfl⟩
def noReply : Array Value := #[.int .i64 0, .int .i64 0, .slice none 0 0, .int .i64 0, .int .i64 0, .int .u32 0, .int .i64 0, .int .i64 0, .int .i64 0, .slice none 0 0]
set_option maxHeartbeats 2000000 in
theorem sPick_ok (p : Nat) (w : World) (h : SysAt w p) : Calls Tryz.prog 44 #[.pointer (some ⟨p, 0, none⟩), .int .i64 0] w fun e w' => e = .returned (.tuple #[.int .i64 0, .agg noReply, .int .i64 2]) ∧ Below w.heap.size w w' := by
  have hB : Below w.heap.size w (w.alloc (.cells noReply 56)) := grow_alloc (Below.refl _ _) _
  have h' := h.below hB
  have ho : objAt (w.alloc (.cells noReply 56)) w.heap.size = some (.cells noReply 56 (0, 0)) := by rw [objAt_alloc, if_pos rfl]
  unfold noReply at h' hB ho ⊢
  have HT := Lib.hid (sThere_ok p _ h')
  obtain ⟨f, q, g1, c1, h1, h2⟩ := h'.ex
  have HP := Lib.hid (qPop_ok q _ h2)
  have HB := Lib.hid (And.intro hB ho)
  have d1 := cell_obj h1 1
  clear h h' h1 h2 ho hB
  go_enter Tryz.func44, Tryz.ntmps44
  go_wp2_with (first | (go_at_call 66; refine HT.out.mono ?_; rintro e wx ⟨rfl, hwx⟩; obtain rfl := hwx.symm) | (go_at_call 67; refine HP.out.mono ?_; rintro e w2 ⟨rfl, b2⟩; have ho2 := grow_obj b2 HB.out.2; have ho3 := grow_obj (grow_alloc (Below.refl w2.heap.size w2) (.cells #[.int .i64 0, .string ⟨#[]⟩, .string ⟨#[]⟩, .int .i64 0, .int .i64 0, .int .i64 0, .slice none 0 0] 32)) ho2; have hr3 := hasReply_obj ho3 rfl))
  refine bodyPost_ret (results_three rfl (resOne_tmp _ _ _) (resOne_agg aggReply rfl (rowAt_heap (objAt_setRow ho3 _)) rfl) (resOne_tmp _ _ _)) rfl ?_
  exact ⟨rfl, Below.setRow (grow_alloc (grow_trans HB.out.1 b2) _) (Nat.le_refl _) _⟩
end Go.Proofs.YtanmihhlkelgeaaGreat

/- DERIVED. Contracts of trial's does, Do at a pick of a row with nothing in it. -/
namespace Go.Proofs.YtanmihhlkelgeaaGreat
open Go.RowKit
attribute [local go_sem] hasBlk
attribute [local irreducible] Calls
set_option maxRecDepth 100000

theorem run_storeOff {t : TypeId} {n : Nat} (A : AggOf Tryz.prog t n) (w : World) (g j : Nat) (ty : TypeId) {c c' : Array Value} (h : objAt w g = some (.cells c ty (0, 0))) (hc' : c'.size = n) (hj : j + n ≤ c.size) (h1 : ∀ v ∈ c'.toList, v.oneCell' = true) :
    (Instr.storeAt t (.pointer (some ⟨g, j, none⟩)) (.agg c')).run Tryz.prog w = .ok () (w.setRow g (c.toList.take j ++ c'.toList ++ c.toList.drop (j + n)).toArray) := by
  have hs : (sizeOf t).run Tryz.prog w = .ok n w := by
    obtain ⟨i, hi, hsz⟩ := Option.map_eq_some_iff.1 A.size
    simp [sizeOf, typeInfo, hi, hsz]
  have hst := run_storeCells_at Tryz.prog g j ty c'.toList 0 c w h (by simp; omega) h1
  simp only [Instr.storeAt, Instr.sureAddr, Sem.run_bind, Sem.run_pure, Result.andThen_ok, storeVar, hs, Value.cells, ne_eq]
  simp only [hc', not_true_eq_false, if_false]
  rw [hst]
  simp [hc']
theorem step_storeOff {t : TypeId} {n : Nat} (E : AggOf Tryz.prog t n) {ops : Array Oper} {o : Oper} {a b0 : Act} {w : World} {K : Act → World → Prop} {Q : Exit → Act → World → Prop} {F : Prop} (hgd : o.guard = none) (x y : Operand) (ho : o.op = .store t x y) {g j : Nat} {c c' : Array Value} {ty : TypeId}
    (hx : a.eval x = .pointer (some ⟨g, j, none⟩)) (hy : a.eval y = .agg c') (hg : objAt w g = some (.cells c ty (0, 0))) (hs' : c'.size = n) (hj : j + n ≤ c.size) (h1 : ∀ v ∈ c'.toList, v.oneCell' = true)
    (h : ∀ w', w' = w.setRow g (c.toList.take j ++ c'.toList ++ c.toList.drop (j + n)).toArray → K (a.put o.dst undef) w') :
    if Region.wanted o (yielded ops b0.tmps) = true then Oper.wp Tryz.prog o a w K Q else F := by
  have hw : Region.wanted o (yielded ops b0.tmps) = true := by simp [Region.wanted, hgd]
  rw [if_pos hw]
  have hr := run_storeOff E w g j ty hg hs' hj h1
  unfold Oper.wp execOp
  simp only [ho, hx, hy, Sem.run_bind]
  rw [hr]
  simp only [Result.andThen_ok, Sem.run_pure]
  exact h _ rfl
def toldNone : Array Value := #[.int .i64 2, .int .i64 0, .int .i64 0, .int .i64 0, .int .i64 0, .slice none 0 0, .int .i64 0, .int .i64 0, .int .u32 0, .int .i64 0, .int .i64 0, .int .i64 0, .slice none 0 0]
structure TrAt (w : World) (t p : Nat) : Prop where
  ex : ∃ c d, objAt w t = some (.cells #[c, d, .pointer (some ⟨p, 0, none⟩), .pointer none] 86 (0, 0))
  sys : SysAt w p
theorem TrAt.below {w w' : World} {t p : Nat} (h : TrAt w t p) (hb : Below w.heap.size w w') : TrAt w' t p := by
  obtain ⟨c, d, h1⟩ := h.ex
  exact ⟨⟨c, d, grow_obj hb h1⟩, h.sys.below hb⟩
set_option maxHeartbeats 4000000 in
theorem does_ok (t p : Nat) (ad ka : Option Addr) (dc kc : Nat) (w : World) (h : TrAt w t p) : Calls Tryz.prog 30 #[.pointer (some ⟨t, 0, none⟩), .agg #[.int .i64 3, .int .i64 0, .int .i64 0, .string ⟨#[]⟩, .string ⟨#[]⟩, .int .i64 0, .int .i64 0, .int .i64 0, .slice ad 0 dc, .int .i64 0, .slice ka 0 kc]] w fun e w' => e = .returned (.agg #[.int .i64 2, .int .i64 0, .int .i64 0, .int .i64 0, .int .i64 0, .slice none 0 0, .int .i64 0, .int .i64 0, .int .u32 0, .int .i64 0, .int .i64 0, .int .i64 0, .slice none 0 0]) ∧ Below w.heap.size w w' := by
  have hB1 : Below w.heap.size w (w.alloc (.cells #[.int .i64 3, .int .i64 0, .int .i64 0, .string ⟨#[]⟩, .string ⟨#[]⟩, .int .i64 0, .int .i64 0, .int .i64 0, .slice ad 0 dc, .int .i64 0, .slice ka 0 kc] 35)) := grow_alloc (Below.refl _ _) _
  have hB : Below w.heap.size w ((w.alloc (.cells #[.int .i64 3, .int .i64 0, .int .i64 0, .string ⟨#[]⟩, .string ⟨#[]⟩, .int .i64 0, .int .i64 0, .int .i64 0, .slice ad 0 dc, .int .i64 0, .slice ka 0 kc] 35)).alloc (.cells #[.int .i64 0, .int .i64 0, .int .i64 0, .int .i64 0, .int .i64 0, .slice none 0 0, .int .i64 0, .int .i64 0, .int .u32 0, .int .i64 0, .int .i64 0, .int .i64 0, .slice none 0 0] 58)) := grow_alloc hB1 _
  have ho3 : objAt ((w.alloc (.cells #[.int .i64 3, .int .i64 0, .int .i64 0, .string ⟨#[]⟩, .string ⟨#[]⟩, .int .i64 0, .int .i64 0, .int .i64 0, .slice ad 0 dc, .int .i64 0, .slice ka 0 kc] 35)).alloc (.cells #[.int .i64 0, .int .i64 0, .int .i64 0, .int .i64 0, .int .i64 0, .slice none 0 0, .int .i64 0, .int .i64 0, .int .u32 0, .int .i64 0, .int .i64 0, .int .i64 0, .slice none 0 0] 58)) w.heap.size = some (.cells #[.int .i64 3, .int .i64 0, .int .i64 0, .string ⟨#[]⟩, .string ⟨#[]⟩, .int .i64 0, .int .i64 0, .int .i64 0, .slice ad 0 dc, .int .i64 0, .slice ka 0 kc] 35 (0, 0)) := by rw [objAt_alloc, if_neg (by rw [size_alloc]; omega), objAt_alloc, if_pos rfl]
  have ho4 : objAt ((w.alloc (.cells #[.int .i64 3, .int .i64 0, .int .i64 0, .string ⟨#[]⟩, .string ⟨#[]⟩, .int .i64 0, .int .i64 0, .int .i64 0, .slice ad 0 dc, .int .i64 0, .slice ka 0 kc] 35)).alloc (.cells #[.int .i64 0, .int .i64 0, .int .i64 0, .int .i64 0, .int .i64 0, .slice none 0 0, .int .i64 0, .int .i64 0, .int .u32 0, .int .i64 0, .int .i64 0, .int .i64 0, .slice none 0 0] 58)) (w.heap.size + 1) = some (.cells #[.int .i64 0, .int .i64 0, .int .i64 0, .int .i64 0, .int .i64 0, .slice none 0 0, .int .i64 0, .int .i64 0, .int .u32 0, .int .i64 0, .int .i64 0, .int .i64 0, .slice none 0 0] 58 (0, 0)) := by rw [objAt_alloc, size_alloc, if_pos rfl]
  have h' := h.below hB
  obtain ⟨N, hN⟩ : ∃ N, N = w.heap.size := ⟨_, rfl⟩
  obtain ⟨w0, hw0⟩ : ∃ w0, w0 = (w.alloc (.cells #[.int .i64 3, .int .i64 0, .int .i64 0, .string ⟨#[]⟩, .string ⟨#[]⟩, .int .i64 0, .int .i64 0, .int .i64 0, .slice ad 0 dc, .int .i64 0, .slice ka 0 kc] 35)).alloc (.cells #[.int .i64 0, .int .i64 0, .int .i64 0, .int .i64 0, .int .i64 0, .slice none 0 0, .int .i64 0, .int .i64 0, .int .u32 0, .int .i64 0, .int .i64 0, .int .i64 0, .slice none 0 0] 58) := ⟨_, rfl⟩
  rw [← hw0] at hB ho3 ho4 h'
  rw [← hN] at ho3 ho4
  obtain ⟨c, d, h1⟩ := h'.ex
  have a2 := cell_obj h1 2
  have b0 := cell_obj ho3 0
  have b1 := cell_obj ho3 1
  have HP := Lib.hid (sPick_ok p w0.drew (h'.sys.below (Below.refl _ _).drew))
  have HB := Lib.hid (And.intro hB (And.intro ho4 (And.intro hw0 hN)))
  clear h h' h1 hB hB1 ho3 ho4 hw0 hN
  unfold noReply at HP
  go_enter Tryz.func30, Tryz.ntmps30
  go_upto_region 3 with fail
  rw [← HB.out.2.2.1, ← HB.out.2.2.2]
  go_upto_region 8 with fail
  refine wp_region_F [6] (S := fun w' => w'.cell? ⟨t, 2, none⟩ = some (.pointer (some ⟨p, 0, none⟩)) ∧ w'.cell? ⟨N, 1, none⟩ = some (.int .i64 0) ∧ True) (by kernel_rfl) (⟨a2, b1, trivial⟩) (fun hHeld => ?_)
  show wpAnyF _ _ _ _ _ _ 17 #[false, false, false, false, false, false, false, false, false, false, false, false, false, false, false, false, false] _ _
  refine wpAnyF_take [0, 1, 2, 3, 6, 7, 8, 9, 10, 11, 12, 13, 14, 15, 16] (i := 0) (v := ?kv1) rfl (by kernel_rfl) (by kernel_rfl) (by kernel_rfl) (by kernel_rfl) (fun _ _ _ h => h) (Or.inl ⟨by rfl, ?ky1⟩) (by assumption) ?kr1
  case ky1 => (intro w hSw; (try dsimp only at hSw); go_split_ands; (try simp only [List.getElem_toArray, List.getElem_cons_zero]); go_simp; (try with_reducible rfl))
  try simp only [Act.put, List.getElem_toArray, List.getElem_cons_zero, List.setIfInBounds_toArray, List.set_cons_zero, List.set_cons_succ]
  refine wpAnyF_take [1, 2, 3, 6, 7, 8, 9, 10, 11, 12, 13, 14, 15, 16] (i := 1) (v := ?kv2) rfl (by kernel_rfl) (by kernel_rfl) (by kernel_rfl) (by kernel_rfl) (fun _ _ _ h => h) (Or.inl ⟨by rfl, ?ky2⟩) (by assumption) ?kr2
  case ky2 => (intro w hSw; (try dsimp only at hSw); go_split_ands; (try simp only [List.getElem_toArray, List.getElem_cons_zero, List.getElem_cons_succ]); go_simp; (try with_reducible rfl))
  try simp only [Act.put, List.getElem_toArray, List.getElem_cons_zero, List.getElem_cons_succ, List.setIfInBounds_toArray, List.set_cons_zero, List.set_cons_succ]
  refine wpAnyF_take [2, 3, 6, 7, 8, 9, 10, 11, 12, 13, 14, 15, 16] (i := 2) (v := ?kv3) rfl (by kernel_rfl) (by kernel_rfl) (by kernel_rfl) (by kernel_rfl) (fun _ _ _ h => h) (Or.inl ⟨by rfl, ?ky3⟩) (by assumption) ?kr3
  case ky3 => (intro w hSw; (try dsimp only at hSw); go_split_ands; (try simp only [List.getElem_toArray, List.getElem_cons_zero, List.getElem_cons_succ]); go_simp; (try with_reducible rfl))
  try simp only [Act.put, List.getElem_toArray, List.getElem_cons_zero, List.getElem_cons_succ, List.setIfInBounds_toArray, List.set_cons_zero, List.set_cons_succ]
  refine wpAnyF_take [3, 6, 7, 8, 9, 10, 11, 12, 13, 14, 15, 16] (i := 3) (v := ?kv4) rfl (by kernel_rfl) (by kernel_rfl) (by kernel_rfl) (by kernel_rfl) (fun _ _ _ h => h) (Or.inl ⟨by rfl, ?ky4⟩) (by assumption) ?kr4
  case ky4 => (intro w hSw; (try dsimp only at hSw); go_split_ands; (try simp only [List.getElem_toArray, List.getElem_cons_zero, List.getElem_cons_succ]); go_simp; (try with_reducible rfl))
  try simp only [Act.put, List.getElem_toArray, List.getElem_cons_zero, List.getElem_cons_succ, List.setIfInBounds_toArray, List.set_cons_zero, List.set_cons_succ]
  refine wpAnyF_take [4, 5, 6, 7, 8, 9, 10, 11, 12, 13, 14, 15, 16] (i := 4) (v := ?kv5) rfl (by kernel_rfl) (by kernel_rfl) (by kernel_rfl) (by kernel_rfl) (fun _ _ _ h => h) (Or.inl ⟨by rfl, ?ky5⟩) (by assumption) ?kr5
  case ky5 => (intro w hSw; (try dsimp only at hSw); go_split_ands; (try simp only [List.getElem_toArray, List.getElem_cons_zero, List.getElem_cons_succ]); go_simp; (try with_reducible rfl))
  try simp only [Act.put, List.getElem_toArray, List.getElem_cons_zero, List.getElem_cons_succ, List.setIfInBounds_toArray, List.set_cons_zero, List.set_cons_succ]
  refine wpAnyF_take [5, 6, 7, 8, 9, 10, 11, 12, 13, 14, 15, 16] (i := 5) (v := ?kv6) rfl (by kernel_rfl) (by kernel_rfl) (by kernel_rfl) (by kernel_rfl) (fun _ _ _ h => h) (Or.inl ⟨by rfl, ?ky6⟩) (by assumption) ?kr6
  case ky6 => (intro w hSw; (try dsimp only at hSw); go_split_ands; (try simp only [List.getElem_toArray, List.getElem_cons_zero, List.getElem_cons_succ]); go_simp; (try with_reducible rfl))
  try simp only [Act.put, List.getElem_toArray, List.getElem_cons_zero, List.getElem_cons_succ, List.setIfInBounds_toArray, List.set_cons_zero, List.set_cons_succ]
  refine wpAnyF_ready (rs := [6]) (by kernel_rfl) (by simp) ?_
  refine (AllReadyF.last rfl (by kernel_rfl) (fun K hK => ?_) AllReadyF.nil)
  try simp only [List.getElem_toArray, List.getElem_cons_zero, List.getElem_cons_succ]
  go_simp
  go_at_call 44; refine HP.out.mono ?_; rintro e w2 ⟨rfl, b2⟩; have o4 : objAt w2 (N + 1) = some (.cells #[.int .i64 0, .int .i64 0, .int .i64 0, .int .i64 0, .int .i64 0, .slice none 0 0, .int .i64 0, .int .i64 0, .int .u32 0, .int .i64 0, .int .i64 0, .int .i64 0, .slice none 0 0] 58 (0, 0)) := grow_obj b2 (show objAt w0.drew (N + 1) = _ from HB.out.2.1); have hB2 : Below w.heap.size w w2 := grow_trans (HB.out.1.drew) b2; have q2 := cell_obj o4 2; have f2 := free_obj o4 2; have o12 : objAt (w2.setCell ⟨N + 1, 2, none⟩ (.int .i64 0)) (N + 1) = some (.cells #[.int .i64 0, .int .i64 0, .int .i64 0, .int .i64 0, .int .i64 0, .slice none 0 0, .int .i64 0, .int .i64 0, .int .u32 0, .int .i64 0, .int .i64 0, .int .i64 0, .slice none 0 0] 58 (0, 0)) := (by rw [objAt_setCell o4 2]; rfl); have HS := Lib.hid (And.intro o4 (And.intro hB2 o12)); clear o4 hB2 o12
  refine hK.out _ _ (trivial) (fun hHeldn => ?_)
  clear hHeld hK K
  have hHeld := hHeldn
  clear hHeldn
  try simp only [List.setIfInBounds_toArray, List.set_cons_zero, List.set_cons_succ]
  refine wpAnyF_pure (i := 7) (v := ?kv8) rfl (by kernel_rfl) (by kernel_rfl) (by kernel_rfl) (by kernel_rfl) (fun _ _ _ h => h) (Or.inl ⟨by rfl, ?ky8⟩) (by first | (intro _; assumption) | (intro h; exact absurd h (by decide))) ?kr8
  case ky8 => (intro w hSw; clear hSw; (try simp only [List.getElem_toArray, List.getElem_cons_zero, List.getElem_cons_succ]); go_simp; (try with_reducible rfl))
  try simp only [Act.put, List.getElem_toArray, List.getElem_cons_zero, List.getElem_cons_succ, List.setIfInBounds_toArray, List.set_cons_zero, List.set_cons_succ]
  refine wpAnyF_pure (i := 8) (v := ?kv9) rfl (by kernel_rfl) (by kernel_rfl) (by kernel_rfl) (by kernel_rfl) (fun _ _ _ h => h) (Or.inl ⟨by rfl, ?ky9⟩) (by first | (intro _; assumption) | (intro h; exact absurd h (by decide))) ?kr9
  case ky9 => (intro w hSw; clear hSw; (try simp only [List.getElem_toArray, List.getElem_cons_zero, List.getElem_cons_succ]); go_simp; (try with_reducible rfl))
  try simp only [Act.put, List.getElem_toArray, List.getElem_cons_zero, List.getElem_cons_succ, List.setIfInBounds_toArray, List.set_cons_zero, List.set_cons_succ]
  refine wpAnyF_pure (i := 9) (v := ?kv10) rfl (by kernel_rfl) (by kernel_rfl) (by kernel_rfl) (by kernel_rfl) (fun _ _ _ h => h) (Or.inl ⟨by rfl, ?ky10⟩) (by first | (intro _; assumption) | (intro h; exact absurd h (by decide))) ?kr10
  case ky10 => (intro w hSw; clear hSw; (try simp only [List.getElem_toArray, List.getElem_cons_zero, List.getElem_cons_succ]); go_simp; (try with_reducible rfl))
  try simp only [Act.put, List.getElem_toArray, List.getElem_cons_zero, List.getElem_cons_succ, List.setIfInBounds_toArray, List.set_cons_zero, List.set_cons_succ]
  refine wpAnyF_pure (i := 10) (v := ?kv11) rfl (by kernel_rfl) (by kernel_rfl) (by kernel_rfl) (by kernel_rfl) (fun _ _ _ h => h) (Or.inl ⟨by rfl, ?ky11⟩) (by first | (intro _; assumption) | (intro h; exact absurd h (by decide))) ?kr11
  case ky11 => (intro w hSw; clear hSw; (try simp only [List.getElem_toArray, List.getElem_cons_zero, List.getElem_cons_succ]); go_simp; (try with_reducible rfl))
  try simp only [Act.put, List.getElem_toArray, List.getElem_cons_zero, List.getElem_cons_succ, List.setIfInBounds_toArray, List.set_cons_zero, List.set_cons_succ]
  refine wpAnyF_pure (i := 11) (v := ?kv12) rfl (by kernel_rfl) (by kernel_rfl) (by kernel_rfl) (by kernel_rfl) (fun _ _ _ h => h) (Or.inl ⟨by rfl, ?ky12⟩) (by first | (intro _; assumption) | (intro h; exact absurd h (by decide))) ?kr12
  case ky12 => (intro w hSw; clear hSw; (try simp only [List.getElem_toArray, List.getElem_cons_zero, List.getElem_cons_succ]); go_simp; (try with_reducible rfl))
  try simp only [Act.put, List.getElem_toArray, List.getElem_cons_zero, List.getElem_cons_succ, List.setIfInBounds_toArray, List.set_cons_zero, List.set_cons_succ]
  refine wpAnyF_ready (rs := [12]) (by kernel_rfl) (by simp) ?_
  refine (AllReadyF.last rfl (by kernel_rfl) (fun K hK => ?_) AllReadyF.nil)
  try simp only [List.getElem_toArray, List.getElem_cons_zero, List.getElem_cons_succ]
  go_simp
  refine hK.out _ _ (trivial) (fun hHeldn => ?_)
  clear hHeld hK K
  have hHeld := hHeldn
  clear hHeldn
  try simp only [List.setIfInBounds_toArray, List.set_cons_zero, List.set_cons_succ]
  refine wpAnyF_pure (i := 13) (v := ?kv14) rfl (by kernel_rfl) (by kernel_rfl) (by kernel_rfl) (by kernel_rfl) (fun _ _ _ h => h) (Or.inl ⟨by rfl, ?ky14⟩) (by first | (intro _; assumption) | (intro h; exact absurd h (by decide))) ?kr14
  case ky14 => (intro w hSw; clear hSw; (try simp only [List.getElem_toArray, List.getElem_cons_zero, List.getElem_cons_succ]); go_simp; (try with_reducible rfl))
  try simp only [Act.put, List.getElem_toArray, List.getElem_cons_zero, List.getElem_cons_succ, List.setIfInBounds_toArray, List.set_cons_zero, List.set_cons_succ]
  refine wpAnyF_ready (rs := [14]) (by kernel_rfl) (by simp) ?_
  refine (AllReadyF.last rfl (by kernel_rfl) (fun K hK => ?_) AllReadyF.nil)
  refine step_storeOff aggReply rfl (.tmp 48) (.tmp 45) rfl rfl rfl HS.out.2.2 rfl (by decide) (by simp [Value.oneCell']) ?_; intro x14 hx14; have o14 : objAt x14 (N + 1) = some (.cells #[.int .i64 0, .int .i64 0, .int .i64 0, .int .i64 0, .int .i64 0, .slice none 0 0, .int .i64 0, .int .i64 0, .int .u32 0, .int .i64 0, .int .i64 0, .int .i64 0, .slice none 0 0] 58 (0, 0)) := (by rw [hx14]; exact objAt_setRow HS.out.2.2 _); have q0 := cell_obj o14 0; have f0 := free_obj o14 0; have H14 := Lib.hid (And.intro o14 hx14); clear o14 hx14
  refine hK.out _ _ (trivial) (fun hHeldn => ?_)
  clear hHeld hK K
  have hHeld := hHeldn
  clear hHeldn
  try simp only [Act.put, List.getElem_toArray, List.getElem_cons_zero, List.getElem_cons_succ, List.setIfInBounds_toArray, List.set_cons_zero, List.set_cons_succ]
  refine wpAnyF_pure (i := 15) (v := ?kv16) rfl (by kernel_rfl) (by kernel_rfl) (by kernel_rfl) (by kernel_rfl) (fun _ _ _ h => h) (Or.inl ⟨by rfl, ?ky16⟩) (by first | (intro _; assumption) | (intro h; exact absurd h (by decide))) ?kr16
  case ky16 => (intro w hSw; clear hSw; (try simp only [List.getElem_toArray, List.getElem_cons_zero, List.getElem_cons_succ]); go_simp; (try with_reducible rfl))
  try simp only [Act.put, List.getElem_toArray, List.getElem_cons_zero, List.getElem_cons_succ, List.setIfInBounds_toArray, List.set_cons_zero, List.set_cons_succ]
  refine wpAnyF_ready (rs := [16]) (by kernel_rfl) (by simp) ?_
  refine (AllReadyF.last rfl (by kernel_rfl) (fun K hK => ?_) AllReadyF.nil)
  try simp only [List.getElem_toArray, List.getElem_cons_zero, List.getElem_cons_succ]
  go_simp
  refine hK.out _ _ (trivial) (fun hHeldn => ?_)
  clear hHeld hK K
  have hHeld := hHeldn
  clear hHeldn
  try simp only [List.setIfInBounds_toArray, List.set_cons_zero, List.set_cons_succ]
  refine wpAnyF_done (by kernel_rfl) ?_ _
  have o16 : objAt (x14.setCell ⟨N + 1, 0, none⟩ (.int .i64 2)) (N + 1) = some (.cells #[.int .i64 2, .int .i64 0, .int .i64 0, .int .i64 0, .int .i64 0, .slice none 0 0, .int .i64 0, .int .i64 0, .int .u32 0, .int .i64 0, .int .i64 0, .int .i64 0, .slice none 0 0] 58 (0, 0)) := by rw [objAt_setCell H14.out.1 0]; rfl
  have hB5 : Below w.heap.size w (x14.setCell ⟨N + 1, 0, none⟩ (.int .i64 2)) := by
    have hN := HB.out.2.2.2
    rw [H14.out.2]
    exact ((Below.setRow (HS.out.2.1.trans ((Keeps.setCell (S := fun q => q = N + 1) w2 ⟨N + 1, 2, none⟩ (.int .i64 0) rfl).below HS.out.2.1.size (fun q e => by omega))) (by omega) _).trans ((Keeps.setCell (S := fun q => q = N + 1) _ ⟨N + 1, 0, none⟩ (.int .i64 2) rfl).below (by rw [size_setRow, size_setCell]; exact HS.out.2.1.size) (fun q e => by omega)))
  obtain ⟨w5, hw5⟩ : ∃ w5, w5 = x14.setCell ⟨N + 1, 0, none⟩ (.int .i64 2) := ⟨_, rfl⟩
  rw [← hw5] at o16 hB5 ⊢
  have t0 := cell_obj o16 0
  have t1 := cell_obj o16 1
  have t2 := cell_obj o16 2
  have t3 := cell_obj o16 3
  have t4 := cell_obj o16 4
  have t5 := cell_obj o16 5
  have t6 := cell_obj o16 6
  have t7 := cell_obj o16 7
  have t8 := cell_obj o16 8
  have t9 := cell_obj o16 9
  have t10 := cell_obj o16 10
  have t11 := cell_obj o16 11
  have t12 := cell_obj o16 12
  have hto := hasTold_obj o16 rfl
  have H16 := Lib.hid (And.intro o16 hB5)
  clear o16 hB5 hw5 q0 f0 q2 f2
  go_wp2_with fail
  refine bodyPost_ret (results_one rfl (resOne_agg aggTold rfl (rowAt_heap (objAt_setRow H16.out.1 _)) rfl)) rfl ?_
  exact ⟨rfl, Below.setRow H16.out.2 (by have := HB.out.2.2.2; omega) _⟩
set_option maxHeartbeats 4000000 in
theorem Do_ok (t p : Nat) (ad ka : Option Addr) (dc kc : Nat) (w : World) (h : TrAt w t p) : Calls Tryz.prog 18 #[.pointer (some ⟨t, 0, none⟩), .agg #[.int .i64 3, .int .i64 0, .int .i64 0, .string ⟨#[]⟩, .string ⟨#[]⟩, .int .i64 0, .int .i64 0, .int .i64 0, .slice ad 0 dc, .int .i64 0, .slice ka 0 kc]] w fun e w' => e = .returned (.agg #[.int .i64 2, .int .i64 0, .int .i64 0, .int .i64 0, .int .i64 0, .slice none 0 0, .int .i64 0, .int .i64 0, .int .u32 0, .int .i64 0, .int .i64 0, .int .i64 0, .slice none 0 0]) ∧ Below w.heap.size w w' := by
  have hB1 : Below w.heap.size w (w.alloc (.cells #[.int .i64 3, .int .i64 0, .int .i64 0, .string ⟨#[]⟩, .string ⟨#[]⟩, .int .i64 0, .int .i64 0, .int .i64 0, .slice ad 0 dc, .int .i64 0, .slice ka 0 kc] 35)) := grow_alloc (Below.refl _ _) _
  have hB : Below w.heap.size w ((w.alloc (.cells #[.int .i64 3, .int .i64 0, .int .i64 0, .string ⟨#[]⟩, .string ⟨#[]⟩, .int .i64 0, .int .i64 0, .int .i64 0, .slice ad 0 dc, .int .i64 0, .slice ka 0 kc] 35)).alloc (.cells #[.int .i64 0, .int .i64 0, .int .i64 0, .int .i64 0, .int .i64 0, .slice none 0 0, .int .i64 0, .int .i64 0, .int .u32 0, .int .i64 0, .int .i64 0, .int .i64 0, .slice none 0 0] 58)) := grow_alloc hB1 _
  have ho3 : objAt ((w.alloc (.cells #[.int .i64 3, .int .i64 0, .int .i64 0, .string ⟨#[]⟩, .string ⟨#[]⟩, .int .i64 0, .int .i64 0, .int .i64 0, .slice ad 0 dc, .int .i64 0, .slice ka 0 kc] 35)).alloc (.cells #[.int .i64 0, .int .i64 0, .int .i64 0, .int .i64 0, .int .i64 0, .slice none 0 0, .int .i64 0, .int .i64 0, .int .u32 0, .int .i64 0, .int .i64 0, .int .i64 0, .slice none 0 0] 58)) w.heap.size = some (.cells #[.int .i64 3, .int .i64 0, .int .i64 0, .string ⟨#[]⟩, .string ⟨#[]⟩, .int .i64 0, .int .i64 0, .int .i64 0, .slice ad 0 dc, .int .i64 0, .slice ka 0 kc] 35 (0, 0)) := by rw [objAt_alloc, if_neg (by rw [size_alloc]; omega), objAt_alloc, if_pos rfl]
  have ho4 : objAt ((w.alloc (.cells #[.int .i64 3, .int .i64 0, .int .i64 0, .string ⟨#[]⟩, .string ⟨#[]⟩, .int .i64 0, .int .i64 0, .int .i64 0, .slice ad 0 dc, .int .i64 0, .slice ka 0 kc] 35)).alloc (.cells #[.int .i64 0, .int .i64 0, .int .i64 0, .int .i64 0, .int .i64 0, .slice none 0 0, .int .i64 0, .int .i64 0, .int .u32 0, .int .i64 0, .int .i64 0, .int .i64 0, .slice none 0 0] 58)) (w.heap.size + 1) = some (.cells #[.int .i64 0, .int .i64 0, .int .i64 0, .int .i64 0, .int .i64 0, .slice none 0 0, .int .i64 0, .int .i64 0, .int .u32 0, .int .i64 0, .int .i64 0, .int .i64 0, .slice none 0 0] 58 (0, 0)) := by rw [objAt_alloc, size_alloc, if_pos rfl]
  have h' := h.below hB
  obtain ⟨N, hN⟩ : ∃ N, N = w.heap.size := ⟨_, rfl⟩
  obtain ⟨w0, hw0⟩ : ∃ w0, w0 = (w.alloc (.cells #[.int .i64 3, .int .i64 0, .int .i64 0, .string ⟨#[]⟩, .string ⟨#[]⟩, .int .i64 0, .int .i64 0, .int .i64 0, .slice ad 0 dc, .int .i64 0, .slice ka 0 kc] 35)).alloc (.cells #[.int .i64 0, .int .i64 0, .int .i64 0, .int .i64 0, .int .i64 0, .slice none 0 0, .int .i64 0, .int .i64 0, .int .u32 0, .int .i64 0, .int .i64 0, .int .i64 0, .slice none 0 0] 58) := ⟨_, rfl⟩
  rw [← hw0] at hB ho3 ho4 h'
  rw [← hN] at ho3 ho4
  have HD := Lib.hid (does_ok t p ad ka dc kc w0 h')
  obtain ⟨c, d, h1⟩ := h'.ex
  have a3 := cell_obj h1 3
  have b0 := cell_obj ho3 0
  have b1 := cell_obj ho3 1
  have b2 := cell_obj ho3 2
  have b3 := cell_obj ho3 3
  have b4 := cell_obj ho3 4
  have b5 := cell_obj ho3 5
  have b6 := cell_obj ho3 6
  have b7 := cell_obj ho3 7
  have b8 := cell_obj ho3 8
  have b9 := cell_obj ho3 9
  have b10 := cell_obj ho3 10
  have HB := Lib.hid (And.intro hB (And.intro ho4 (And.intro hw0 hN)))
  clear h h' h1 hB hB1 ho3 ho4 hw0 hN
  go_enter Tryz.func18, Tryz.ntmps18
  go_upto_region 1 with fail
  rw [← HB.out.2.2.1, ← HB.out.2.2.2]
  go_upto_region 5 with fail
  go_wp2_with (go_at_call 30; refine HD.out.mono ?_; rintro e w2 ⟨rfl, b2⟩; have o4 : objAt w2 (N + 1) = some (.cells #[.int .i64 0, .int .i64 0, .int .i64 0, .int .i64 0, .int .i64 0, .slice none 0 0, .int .i64 0, .int .i64 0, .int .u32 0, .int .i64 0, .int .i64 0, .int .i64 0, .slice none 0 0] 58 (0, 0)) := grow_obj b2 HB.out.2.1; have hto := hasTold_obj o4 rfl)
  refine bodyPost_ret (results_one rfl (resOne_agg aggTold rfl (rowAt_heap (objAt_setRow o4 _)) rfl)) rfl ?_
  exact ⟨rfl, Below.setRow (grow_trans HB.out.1 b2) (by have := HB.out.2.2.2; omega) _⟩
end Go.Proofs.YtanmihhlkelgeaaGreat
