/- DERIVED. Contracts and laws that the proofs of this seat share, part 5 of 36: Ref1G Ref1I Ref1J Ref1K. -/
import Derived.Test.YtbbnejehglonjaaGreatMh00
import Derived.Test.YtbbnejehglonjaaGreatMh04
namespace Go.Proofs.YtbbnejehglonjaaGreat
set_option maxHeartbeats 8000000
set_option maxRecDepth 100000
set_option linter.unusedSimpArgs false
set_option linter.unusedVariables false
section
open Go.RowKit
attribute [local go_sem] hasBlk
attribute [local irreducible] Calls
def Id.cells (i : Id) : Array Value := #[.int .i64 i.label, .int .i64 i.at_, .int .u32 i.gen]
theorem aggId : AggOf Tryz.prog 66 3 := ⟨⟨_, Tryz.underlying66, rfl⟩, by kernel_rfl⟩
noncomputable def idStore (x y : Value) (w : World) : Result Unit := Sem.run Tryz.prog (Instr.storeAt 66 x y) w
def hasId (w : World) (g : Nat) : Bool := (rowAt w g).any (·.size == 3)
theorem hasId_some {w : World} {g : Nat} (h : hasId w g = true) : ∃ c, rowAt w g = some c ∧ c.size = 3 := by
 unfold hasId at h
 cases hr : rowAt w g with
 | none => rw [hr] at h; cases h
 | some c => rw [hr] at h; exact ⟨c, rfl, by simpa using h⟩
theorem hasId_obj {w : World} {g : Nat} {c : Array Value} {t : TypeId} (h : objAt w g = some (.cells c t (0, 0))) (hc : c.size = 3) : hasId w g = true := by
 unfold hasId; rw [rowAt_heap h]; simp [hc]
@[go_sem] theorem hasId_new (w : World) (c : Array Value) (t : TypeId) (n : Nat) (hn : n = w.heap.size) (hc : c.size = 3) : hasId (w.alloc (.cells c t)) n = true := by
 unfold hasId; rw [rowAt_alloc_at w c t n hn]; simp [hc]
@[go_sem] theorem hasId_drew (w : World) (n : Nat) : hasId w.drew n = hasId w n := rfl
@[go_sem] theorem store_id (w : World) (gB : Nat) (l a g : Int) (hB : hasId w gB = true) :
 idStore (.pointer (some ⟨gB, 0, none⟩)) (.agg #[.int .i64 l, .int .i64 a, .int .u32 g]) w = .ok () (w.setRow gB #[.int .i64 l, .int .i64 a, .int .u32 g]) := by
 obtain ⟨c, hc, hs⟩ := hasId_some hB
 refine run_store_agg aggId w gB _ hc hs rfl ?_
 simp [Value.oneCell']
@[go_sem ↓] theorem exec_store_id (ρ : Operand → Value) (w : World) (dst : Option Tmp) (x y : Operand) (ty : TypeId) (pos : String) (after : Array Edge) (gd : Option (Nat × Bool)) :
 (execOp ρ ⟨dst, .store 66 x y, ty, pos, after, gd⟩).run Tryz.prog w = (idStore (ρ x) (ρ y) w).andThen fun _ w => .ok .skip w := by
 simp only [execOp, idStore, Sem.run_bind]; rfl
attribute [irreducible] idStore
theorem Root_any (w : World) : Calls Tryz.prog 34 #[] w fun e w' => e = .returned (.agg Id.root.cells) ∧ Below w.heap.size w w' := by
 go_enter Tryz.func34, Tryz.ntmps34
 go_wp2_with fail
 refine bodyPost_ret (results_one rfl (resOne_agg aggId rfl (rowAt_alloc_at w _ _ _ rfl) rfl)) rfl ?_
 exact ⟨rfl, (Below.refl _ _).alloc (Nat.le_refl _) _⟩
theorem Root_lit (w : World) : Calls Tryz.prog 34 #[] w fun e w' => e = .returned (.agg #[.int .i64 (-1), .int .i64 0, .int .u32 0]) ∧ Below w.heap.size w w' := Root_any w
end
section
open Go.RowKit
attribute [local go_sem] hasBlk
attribute [local irreducible] Calls
structure Id.wf (i : Id) : Prop where
 gen0 : 0 ≤ i.gen
 gen1 : i.gen ≤ 4294967295
theorem lit_row (x : World) (B : Nat) (v : Int) (c : UInt8) (hv : v = (c.toNat : Int)) (hb : B ≤ x.heap.size) : BRow (x.alloc (.cells #[.int .u8 v] 5)) B (.slice (some ⟨x.heap.size, 0, none⟩) 1 1) [c] :=
 BRow.lit c hv (by rw [objAt_alloc, if_pos rfl]) hb
theorem mayID_small {i : Id} (h : mayID i = true) : -1 ≤ i.label ∧ i.label < 8 ∧ 0 ≤ i.at_ ∧ i.at_ < 200 ∧ 0 ≤ i.gen := by
 obtain ⟨l, a, g⟩ := i
 simp only [mayID, Id.root, Bool.or_eq_true, Bool.and_eq_true, decide_eq_true_eq, Id.mk.injEq] at h
 dsimp only
 omega
theorem label_byte (l : Int) (h0 : -1 ≤ l) (h1 : l < 8) : IntKind.u8.wrap l = ((UInt8.ofNat (l % 256).toNat).toNat : Int) := by
 obtain rfl | rfl | rfl | rfl | rfl | rfl | rfl | rfl | rfl : l = -1 ∨ l = 0 ∨ l = 1 ∨ l = 2 ∨ l = 3 ∨ l = 4 ∨ l = 5 ∨ l = 6 ∨ l = 7 := by omega
 all_goals decide

theorem PutID_of (i : Id) (w : World) (hi : i.wf) (hm : ∀ w, Calls Tryz.prog 77 #[.agg i.cells] w fun e w' => e = .returned (.bool (mayID i)) ∧ Below w.heap.size w w') : Calls Tryz.prog 162 #[.agg i.cells] w fun e w' => ∃ v, e = .returned v ∧ BRow w' w.heap.size v (putID i) ∧ Below w.heap.size w w' := by
 obtain ⟨l, at_, gen⟩ := i
 obtain ⟨g0, g1⟩ := hi
 dsimp only at g0 g1
 rw [show (⟨l, at_, gen⟩ : Id).cells = #[.int .i64 l, .int .i64 at_, .int .u32 gen] from rfl] at hm ⊢
 have hc : objAt (w.alloc (.cells #[.int .i64 l, .int .i64 at_, .int .u32 gen] 66)) w.heap.size = some (.cells #[.int .i64 l, .int .i64 at_, .int .u32 gen] 66 (0, 0)) := by rw [objAt_alloc, if_pos rfl]
 have hw : Below w.heap.size w (w.alloc (.cells #[.int .i64 l, .int .i64 at_, .int .u32 gen] 66)) := (Below.refl _ _).alloc (Nat.le_refl _) _
 obtain ⟨G, hG⟩ : ∃ G, G = w.heap.size := ⟨_, rfl⟩
 rw [← hG] at hc
 have HG := Lib.hid hG
 generalize hmm : mayID ⟨l, at_, gen⟩ = mm at hm
 have Hmm := Lib.hid hmm
 clear hmm
 have Hm := Lib.hid hm
 clear hm
 go_enter Tryz.func162, Tryz.ntmps162
 cases mm
 · have Hp := Lib.hid (show putID ⟨l, at_, gen⟩ = [] by unfold putID; rw [Hmm.out]; rfl)
   go_wp2_with fail
   rw [← hG]
   clear hG
   generalize w.alloc (.cells #[.int .i64 l, .int .i64 at_, .int .u32 gen] 66) = w0 at *
   go_wp2_with (go_at_call 77; refine (Hm.out _).mono ?_; rintro e w1 ⟨rfl, be1⟩)
   go_ret
   refine ⟨_, rfl, ?_, hw.trans (be1.mono hw.size)⟩
   rw [Hp.out]; exact BRow.nil _ _
 · have Hp := Lib.hid (show putID ⟨l, at_, gen⟩ = [UInt8.ofNat (l % 256).toNat] ++ high at_.toNat 2 ++ high gen.toNat 4 by unfold putID; rw [Hmm.out]; rfl)
   obtain ⟨s0, s1, s2, s3, s4⟩ := mayID_small Hmm.out
   dsimp only at s0 s1 s2 s3 s4
   have Hl := Lib.hid (label_byte l s0 s1)
   have ul : IntKind.u8.wrap l = ((UInt8.ofNat (l % 256).toNat).toNat : Int) := Hl.out
   generalize UInt8.ofNat (l % 256).toNat = c at *
   have ua : IntKind.u64.wrap at_ = at_ := IntWalk.u64_in _ (by omega)
   have ug : IntKind.u64.wrap gen = gen := IntWalk.u64_in _ (by omega)
   go_wp2_with fail
   rw [← hG]
   clear hG
   generalize w.alloc (.cells #[.int .i64 l, .int .i64 at_, .int .u32 gen] 66) = w0 at *
   go_upto_region 3 with (first | (go_at_call 77; refine (Hm.out _).mono ?_; rintro e w1 ⟨rfl, be1⟩))
   have hO1 := grow_obj be1 hc
   have hc0 : w1.cell? ⟨G, 0, none⟩ = some (.int .i64 l) := by rw [cell_of_row w1 G 0 _ _ _ hO1]; rfl
   have hc1 : w1.cell? ⟨G, 1, none⟩ = some (.int .i64 at_) := by rw [cell_of_row w1 G 1 _ _ _ hO1]; rfl
   have hc2 : w1.cell? ⟨G, 2, none⟩ = some (.int .u32 gen) := by rw [cell_of_row w1 G 2 _ _ _ hO1]; rfl
   have HW := Lib.hid (And.intro hw (And.intro be1 (hw.trans (be1.mono hw.size))))
   clear hO1 hc hw be1
   have hS : ∀ w', Below w1.heap.size w1 w' → (w'.cell? ⟨G, 0, none⟩ = some (.int .i64 l) ∧ w'.cell? ⟨G, 1, none⟩ = some (.int .i64 at_) ∧ w'.cell? ⟨G, 2, none⟩ = some (.int .u32 gen) ∧ Below w1.heap.size w1 w') :=
    fun w' hb => ⟨grow_cell hb hc0, grow_cell hb hc1, grow_cell hb hc2, hb⟩
   refine wp_region_held_drew (S := fun w' => w'.cell? ⟨G, 0, none⟩ = some (.int .i64 l) ∧ w'.cell? ⟨G, 1, none⟩ = some (.int .i64 at_) ∧ w'.cell? ⟨G, 2, none⟩ = some (.int .u32 gen) ∧ Below w1.heap.size w1 w') (by kernel_rfl) (hS _ (Below.refl _ _).drew) (fun hHeld => ?_)
   show wpAnyH _ _ _ _ _ 15 #[false, false, false, false, false, false, false, false, false, false, false, false, false, false, false] _ _
   refine gT 0 ?_; try simp only [Act.put, qs]
   refine gT 1 ?_; try simp only [Act.put, qs]
   refine gT 2 ?_; try simp only [Act.put, qs]
   refine gT 4 ?_; try simp only [Act.put, qs]
   refine gT 5 ?_; try simp only [Act.put, qs]
   refine gT 6 ?_; try simp only [Act.put, qs]
   refine gT 9 ?_; try simp only [Act.put, qs]
   refine gT 10 ?_; try simp only [Act.put, qs]
   refine gT 11 ?_; try simp only [Act.put, qs]
   refine wpAnyH_ready (rs := [3, 7]) (by kernel_rfl) (by simp) ?_
   refine (AllReadyH.cons rfl (fun K hK => ?kb10x0) (AllReadyH.cons rfl (fun K hK => ?kb10x1) AllReadyH.nil))
   case kb10x0 =>
    try simp only [qs]
    go_simp
    refine hK.out _ _ (by exact hS _ (grow_alloc hHeld.2.2.2 _)) (fun hN => ?_); replace hHeld := hN; clear hK K hN
    try simp only [qs]
    refine gY 7 fun K hK => ?_
    try simp only [qs]
    go_simp
    go_at_call 141; refine (High_lit at_ 2 2 _ rfl (by decide) (by decide) (by omega) (by omega)).mono ?_; rintro e x1 ⟨⟨p1, q1, rfl, r1⟩, b1⟩
    refine hK.out _ _ (by exact hS _ (grow_trans hHeld.2.2.2 b1)) (fun hN => ?_); replace hHeld := hN; clear hK K hN
    try simp only [qs]
    refine gY 8 fun K hK => ?_
    refine step_appB (by rfl) (.tmp 9) (.tmp 13) (by rfl) (base := w1.heap.size) (xs := [c]) (ys := high at_.toNat 2) (by rfl) (by first | exact (lit_row w1 w1.heap.size _ c rfl (Nat.le_refl _)).drew.below b1 | exact (lit_row w1 w1.heap.size _ c rfl (Nat.le_refl _)).below b1 | exact lit_row x1 w1.heap.size _ c rfl b1.size) (by rfl) (by first | exact r1 | exact r1.alloc _) (by simp [high_length]) 3 (by simp [high_length]) (by decide) hHeld.2.2.2.size ?_; intro p3 q3 x3 r3 h3 b3
    refine hK.out _ _ (by exact hS _ (hHeld.2.2.2.trans b3)) (fun hN => ?_); replace hHeld := hN; clear hK K hN
    try simp only [Act.put, qs]
    refine gY 12 fun K hK => ?_
    try simp only [qs]
    go_simp
    go_at_call 141; refine (High_lit gen 4 4 _ rfl (by decide) (by decide) (by omega) (by omega)).mono ?_; rintro e x2 ⟨⟨p2, q2, rfl, r2⟩, b2⟩
    refine hK.out _ _ (by exact hS _ (grow_trans hHeld.2.2.2 b2)) (fun hN => ?_); replace hHeld := hN; clear hK K hN
    try simp only [qs]
    refine gY 13 fun K hK => ?_
    refine step_appB (by rfl) (.tmp 14) (.tmp 18) (by rfl) (base := w1.heap.size) (xs := [c] ++ high at_.toNat 2) (ys := high gen.toNat 4) (by rfl) (r3.below b2) (by rfl) r2 (by simp [high_length]) 7 (by simp [high_length]) (by decide) hHeld.2.2.2.size ?_; intro p4 q4 x4 r4 h4 b4
    refine hK.out _ _ (by exact hS _ (hHeld.2.2.2.trans b4)) (fun hN => ?_); replace hHeld := hN; clear hK K hN
    try simp only [Act.put, qs]
    refine gT 14 ?_; try simp only [Act.put, qs]
    refine wpAnyH_done (by kernel_rfl) ?_ _
    go_wp2_with fail
    go_ret
    refine ⟨_, rfl, ?_, grow_trans HW.out.2.2 hHeld.2.2.2⟩
    rw [Hp.out]; exact r4.mono HW.out.2.2.size
   case kb10x1 =>
    try simp only [qs]
    go_simp
    go_at_call 141; refine (High_lit at_ 2 2 _ rfl (by decide) (by decide) (by omega) (by omega)).mono ?_; rintro e x1 ⟨⟨p1, q1, rfl, r1⟩, b1⟩
    refine hK.out _ _ (by exact hS _ (grow_trans hHeld.2.2.2 b1)) (fun hN => ?_); replace hHeld := hN; clear hK K hN
    try simp only [qs]
    refine gY 3 fun K hK => ?_
    try simp only [qs]
    go_simp
    refine hK.out _ _ (by exact hS _ (grow_alloc hHeld.2.2.2 _)) (fun hN => ?_); replace hHeld := hN; clear hK K hN
    try simp only [qs]
    refine gY 8 fun K hK => ?_
    refine step_appB (by rfl) (.tmp 9) (.tmp 13) (by rfl) (base := w1.heap.size) (xs := [c]) (ys := high at_.toNat 2) (by rfl) (by first | exact (lit_row w1 w1.heap.size _ c rfl (Nat.le_refl _)).drew.below b1 | exact (lit_row w1 w1.heap.size _ c rfl (Nat.le_refl _)).below b1 | exact lit_row x1 w1.heap.size _ c rfl b1.size) (by rfl) (by first | exact r1 | exact r1.alloc _) (by simp [high_length]) 3 (by simp [high_length]) (by decide) hHeld.2.2.2.size ?_; intro p3 q3 x3 r3 h3 b3
    refine hK.out _ _ (by exact hS _ (hHeld.2.2.2.trans b3)) (fun hN => ?_); replace hHeld := hN; clear hK K hN
    try simp only [Act.put, qs]
    refine gY 12 fun K hK => ?_
    try simp only [qs]
    go_simp
    go_at_call 141; refine (High_lit gen 4 4 _ rfl (by decide) (by decide) (by omega) (by omega)).mono ?_; rintro e x2 ⟨⟨p2, q2, rfl, r2⟩, b2⟩
    refine hK.out _ _ (by exact hS _ (grow_trans hHeld.2.2.2 b2)) (fun hN => ?_); replace hHeld := hN; clear hK K hN
    try simp only [qs]
    refine gY 13 fun K hK => ?_
    refine step_appB (by rfl) (.tmp 14) (.tmp 18) (by rfl) (base := w1.heap.size) (xs := [c] ++ high at_.toNat 2) (ys := high gen.toNat 4) (by rfl) (r3.below b2) (by rfl) r2 (by simp [high_length]) 7 (by simp [high_length]) (by decide) hHeld.2.2.2.size ?_; intro p4 q4 x4 r4 h4 b4
    refine hK.out _ _ (by exact hS _ (hHeld.2.2.2.trans b4)) (fun hN => ?_); replace hHeld := hN; clear hK K hN
    try simp only [Act.put, qs]
    refine gT 14 ?_; try simp only [Act.put, qs]
    refine wpAnyH_done (by kernel_rfl) ?_ _
    go_wp2_with fail
    go_ret
    refine ⟨_, rfl, ?_, grow_trans HW.out.2.2 hHeld.2.2.2⟩
    rw [Hp.out]; exact r4.mono HW.out.2.2.size
end
section
open Go.RowKit
@[go_sem] theorem drew_setRow (w : World) (n : Nat) (c : Array Value) : w.drew.setRow n c = (w.setRow n c).drew := rfl
attribute [local irreducible] Calls
attribute [local irreducible] Go.convert
end
section
open Go.RowKit
attribute [local irreducible] Calls
theorem eqs (s : ByteArray) (l : List UInt8) : (s.toList == l) = (s.data.toList == l) := by rw [ByteArray.toList_eq]

theorem mayName_parts (l : List UInt8) (h1 : (l == [46]) = false) (h2 : (l == [46, 46]) = false) (h3 : 1 ≤ l.length) (h4 : l.length ≤ 14) :
 mayName l = !(l.any fun c => badName c.toNat) := by
 unfold mayName; rw [h1, h2]; simp [h3, h4]

theorem mayName_long {l : List UInt8} (h : 14 < l.length) : mayName l = false := by
 unfold mayName
 have : decide (l.length ≤ 14) = false := by simp; omega
 rw [this]; simp
theorem mayName_nil {l : List UInt8} (h : l.length < 1) : mayName l = false := by
 obtain rfl : l = [] := List.length_eq_zero_iff.1 (by omega)
 rfl
theorem mayName_bad {l : List UInt8} (h : (l.any fun c => badName c.toNat) = true) : mayName l = false := by
 unfold mayName; rw [h]; simp
theorem any_bad_at {l : List UInt8} {k : Nat} (h : k < l.length) (hb : badName (l[k]).toNat = true) : (l.any fun c => badName c.toNat) = true :=
 List.any_eq_true.2 ⟨l[k], List.getElem_mem h, hb⟩
theorem badName_cases (r : Nat) : (badName r = true ∧ r < 33) ∨ (badName r = true ∧ 33 ≤ r ∧ 126 < r) ∨ (badName r = true ∧ 33 ≤ r ∧ r ≤ 126 ∧ r = 47) ∨ (badName r = false ∧ 33 ≤ r ∧ r ≤ 126 ∧ r ≠ 47) := by
 unfold badName
 by_cases h1 : r < 33
 · left; simp [h1]
 · by_cases h2 : 126 < r
   · right; left; simp [h2]; omega
   · by_cases h3 : r = 47
     · right; right; left; subst h3; simp
     · right; right; right; simp [h1, h2, h3]; omega

theorem any_bad_false {l : List UInt8} {k : Nat} : (l.take k).any (fun c => badName c.toNat) = false → ∀ h : k < l.length, badName (l[k]).toNat = false → (l.take (k + 1)).any (fun c => badName c.toNat) = false := by
 intro h1 h h2
 rw [List.take_succ_eq_append_getElem h, List.any_append, h1]
 simp [h2]

theorem refMayName (s : ByteArray) (w : World) (hs : s.size ≤ 9223372036854775807) :
 Calls Tryz.prog 76 #[.string s] w fun e w' => e = .returned (.bool (mayName s.data.toList)) ∧ w = w' := by
 have hlen : s.data.toList.length = s.size := by simp
 have Hlen := Lib.hid hlen
 clear hlen
 go_enter Tryz.func76, Tryz.ntmps76
 go_wp2_with fail
 go_loop [3] (fun i => ∃ k : Nat, k ≤ s.size ∧ i = .int .i64 k ∧ (s.data.toList.take k).any (fun c => badName c.toNat) = false) (fun i => s.size - (intOf i).toNat)
 case atStart => exact ⟨0, Nat.zero_le _, rfl, rfl⟩
 case round =>
  obtain ⟨k, hk, rfl, hnb⟩ := hrel
  have Hnb := Lib.hid hnb
  clear hnb
  by_cases hlt : k < s.size
  · have hget : s.data.toList[k]'(by rw [Hlen.out]; exact hlt) = s[k] := rfl
    rcases badName_cases (s[k]).toNat with ⟨hb, h1⟩ | ⟨hb, h1, h2⟩ | ⟨hb, h1, h2, h3⟩ | ⟨hb, h1, h2, h3⟩
    · have Hbad := Lib.hid (mayName_bad (any_bad_at (l := s.data.toList) (by rw [Hlen.out]; exact hlt) (by rw [hget]; exact hb)))
      clear hget hb
      go_wp2_with fail
      go_ret
      exact ⟨by rw [Hbad.out]; rfl, rfl⟩
    · have Hbad := Lib.hid (mayName_bad (any_bad_at (l := s.data.toList) (by rw [Hlen.out]; exact hlt) (by rw [hget]; exact hb)))
      clear hget hb
      go_wp2_with fail
      go_ret
      exact ⟨by rw [Hbad.out]; rfl, rfl⟩
    · have Hbad := Lib.hid (mayName_bad (any_bad_at (l := s.data.toList) (by rw [Hlen.out]; exact hlt) (by rw [hget]; exact hb)))
      have d3 : (((s[k]).toNat : Int) == 47) = true := by rw [h3]; rfl
      clear hget hb h3
      go_wp2_with fail
      go_ret
      exact ⟨by rw [Hbad.out]; rfl, rfl⟩
    · have Hstep := Lib.hid (any_bad_false (l := s.data.toList) Hnb.out (by rw [Hlen.out]; exact hlt) (by rw [hget]; exact hb))
      have d3 : (((s[k]).toNat : Int) == 47) = false := by simpa using by omega
      clear hget hb h3
      go_wp2_with fail
      go_round
      case rel => exact ⟨k + 1, by omega, by go_num, Hstep.out⟩
      case measure => simp [intOf]; omega
  · have hall := Hnb.out
    rw [List.take_of_length_le (by rw [Hlen.out]; omega)] at hall
    have Hr := Lib.hid hall
    clear hall
    by_cases h3 : 1 ≤ s.size
    · by_cases h4 : s.size ≤ 14
      · by_cases h1 : s.data.toList = [46]
        · have d1 : (s.toList == [46]) = true := by rw [eqs, h1]; rfl
          have d1' : (s.toList != [46]) = false := by rw [bne, d1]; rfl
          have Hf := Lib.hid (show mayName s.data.toList = false by rw [h1]; rfl)
          clear h1
          go_wp2_with fail
          go_ret
          exact ⟨by rw [Hf.out]; rfl, rfl⟩
        · have d1 : (s.toList == [46]) = false := by rw [eqs]; simpa using h1
          have d1' : (s.toList != [46]) = true := by rw [bne, d1]; rfl
          by_cases h2 : s.data.toList = [46, 46]
          · have d2 : (s.toList == [46, 46]) = true := by rw [eqs, h2]; rfl
            have d2' : (s.toList != [46, 46]) = false := by rw [bne, d2]; rfl
            have Hf := Lib.hid (show mayName s.data.toList = false by rw [h2]; rfl)
            clear h1 h2
            go_wp2_with fail
            go_ret
            exact ⟨by rw [Hf.out]; rfl, rfl⟩
          · have d2 : (s.toList == [46, 46]) = false := by rw [eqs]; simpa using h2
            have d2' : (s.toList != [46, 46]) = true := by rw [bne, d2]; rfl
            have Hf := Lib.hid (mayName_parts s.data.toList (by rw [← eqs]; exact d1) (by rw [← eqs]; exact d2) (by rw [Hlen.out]; exact h3) (by rw [Hlen.out]; exact h4))
            clear h1 h2
            go_wp2_with fail
            go_ret
            exact ⟨by rw [Hf.out, Hr.out]; rfl, rfl⟩
      · have Hf := Lib.hid (mayName_long (l := s.data.toList) (by rw [Hlen.out]; omega))
        go_wp2_with fail
        go_ret
        exact ⟨by rw [Hf.out]; rfl, rfl⟩
    · have Hf := Lib.hid (mayName_nil (l := s.data.toList) (by rw [Hlen.out]; omega))
      go_wp2_with fail
      go_ret
      exact ⟨by rw [Hf.out]; rfl, rfl⟩


def Nm.cells (n : Nm) : Array Value := #[.int .i64 n.dir.label, .int .i64 n.dir.at_, .int .u32 n.dir.gen, .string n.name, .int .i64 n.at_, .int .u32 n.gen]
structure Nm.wf (n : Nm) : Prop where
 dir : n.dir.wf
 gen0 : 0 ≤ n.gen
 gen1 : n.gen ≤ 4294967295
 long : n.name.size ≤ 1000000
theorem mayEntry_parts (n : Nm) : mayEntry n = (((mayID n.dir && mayName n.name.data.toList) && okAt n.at_) && decide (1 ≤ n.gen)) := rfl

theorem MayEntry_of (n : Nm) (w : World) (hn : n.wf) (h1 : ∀ w, Calls Tryz.prog 77 #[.agg n.dir.cells] w fun e w' => e = .returned (.bool (mayID n.dir)) ∧ Below w.heap.size w w') : Calls Tryz.prog 161 #[.agg n.cells] w fun e w' => e = .returned (.bool (mayEntry n)) ∧ Below w.heap.size w w' := by
 rw [mayEntry_parts]
 have h2 := fun w' => refMayName n.name w' (by have := hn.long; omega)
 have h3 := fun w' => mayAt_any n.at_ w'
 obtain ⟨⟨l, a, g⟩, t, at_, gen⟩ := n
 rw [show (⟨l, a, g⟩ : Id).cells = #[.int .i64 l, .int .i64 a, .int .u32 g] from rfl] at h1
 rw [show (⟨⟨l, a, g⟩, t, at_, gen⟩ : Nm).cells = #[.int .i64 l, .int .i64 a, .int .u32 g, .string t, .int .i64 at_, .int .u32 gen] from rfl]
 dsimp only at h2 h3 ⊢
 generalize mayID ⟨l, a, g⟩ = m1 at *
 generalize mayName t.data.toList = m2 at *
 generalize okAt at_ = m3 at *
 have H1 := Lib.hid h1
 have H2 := Lib.hid h2
 have H3 := Lib.hid h3
 have hb : Below w.heap.size w (w.alloc (.cells #[.int .i64 l, .int .i64 a, .int .u32 g, .string t, .int .i64 at_, .int .u32 gen] 100)) := (Below.refl _ _).alloc (Nat.le_refl _) _
 have hO : objAt (w.alloc (.cells #[.int .i64 l, .int .i64 a, .int .u32 g, .string t, .int .i64 at_, .int .u32 gen] 100)) w.heap.size = some (.cells #[.int .i64 l, .int .i64 a, .int .u32 g, .string t, .int .i64 at_, .int .u32 gen] 100 (0, 0)) := by rw [objAt_alloc, if_pos rfl]
 obtain ⟨G, hG⟩ : ∃ G, G = w.heap.size := ⟨_, rfl⟩
 rw [← hG] at hO
 clear h1 h2 h3 hn
 go_enter Tryz.func161, Tryz.ntmps161
 go_upto_region 1 with (fail)
 rw [← hG]
 have HG := Lib.hid hG
 clear hG
 generalize w.alloc (.cells #[.int .i64 l, .int .i64 a, .int .u32 g, .string t, .int .i64 at_, .int .u32 gen] 100) = w0 at *
 have d0 : w0.cell? ⟨G, 0, none⟩ = some (.int .i64 l) := by rw [cell_of_row w0 G 0 _ _ _ hO]; rfl
 have d1 : w0.cell? ⟨G, 1, none⟩ = some (.int .i64 a) := by rw [cell_of_row w0 G 1 _ _ _ hO]; rfl
 have d2 : w0.cell? ⟨G, 2, none⟩ = some (.int .u32 g) := by rw [cell_of_row w0 G 2 _ _ _ hO]; rfl
 cases m1
 · go_wp2_with (first | (go_at_call 77; refine (H1.out _).mono ?_; rintro e w1 ⟨rfl, be1⟩))
   go_ret
   exact ⟨rfl, hb.trans (be1.mono hb.size)⟩
 · cases m2
   · go_wp2_with (first | (go_at_call 77; refine (H1.out _).mono ?_; rintro e w1 ⟨rfl, be1⟩; have c3 : w1.cell? ⟨G, 3, none⟩ = some (.string t) := by rw [cell_of_row w1 G 3 _ _ _ (grow_obj be1 hO)]; rfl) | (go_at_call 76; refine (H2.out _).mono ?_; rintro e w2 ⟨rfl, rfl⟩))
     go_ret
     exact ⟨rfl, hb.trans (be1.mono hb.size)⟩
   · go_wp2_with (first | (go_at_call 77; refine (H1.out _).mono ?_; rintro e w1 ⟨rfl, be1⟩; have hO1 := grow_obj be1 hO; have c3 : w1.cell? ⟨G, 3, none⟩ = some (.string t) := by {rw [cell_of_row w1 G 3 _ _ _ hO1]; rfl}; have c4 : w1.cell? ⟨G, 4, none⟩ = some (.int .i64 at_) := by {rw [cell_of_row w1 G 4 _ _ _ hO1]; rfl}; have c5 : w1.cell? ⟨G, 5, none⟩ = some (.int .u32 gen) := by {rw [cell_of_row w1 G 5 _ _ _ hO1]; rfl}; clear hO1) | (go_at_call 76; refine (H2.out _).mono ?_; rintro e w2 ⟨rfl, rfl⟩) | (go_at_call 152; refine (H3.out _).mono ?_; rintro e w2 ⟨rfl, rfl⟩))
     all_goals go_ret
     all_goals exact ⟨by simp [*], hb.trans (be1.mono hb.size)⟩
theorem mayEntry_small {n : Nm} (h : mayEntry n = true) : mayID n.dir = true ∧ 1 ≤ n.name.size ∧ n.name.size ≤ 14 ∧ 1 ≤ n.at_ ∧ n.at_ < 200 ∧ 1 ≤ n.gen := by
 have hl : n.name.data.toList.length = n.name.size := by simp
 simp only [mayEntry, mayName, okAt, Bool.and_eq_true, decide_eq_true_eq] at h
 obtain ⟨⟨⟨h1, ⟨⟨⟨h2, h3⟩, h4⟩, h5⟩, h6⟩, h7, h8⟩, h9⟩ := h
 exact ⟨h1, by omega, by omega, h7, h8, h9⟩

theorem PutEntry_of (n : Nm) (w : World) (hn : n.wf) (hi : ∀ w, Calls Tryz.prog 77 #[.agg n.dir.cells] w fun e w' => e = .returned (.bool (mayID n.dir)) ∧ Below w.heap.size w w') : Calls Tryz.prog 106 #[.agg n.cells] w fun e w' => e = .returned (.tuple #[.agg (putEntry n).1.cells, .bool (putEntry n).2]) ∧ Below w.heap.size w w' := by
 have h1 := fun w' => MayEntry_of n w' hn hi
 have h2 := fun w' => PutID_of n.dir w' hn.dir hi
 clear hi
 have hsm := fun h => mayEntry_small (n := n) h
 obtain ⟨N, hN⟩ : ∃ N, N = n := ⟨n, rfl⟩
 have hgen1 := hn.gen1
 rw [← hN] at hsm ⊢
 have HN := Lib.hid hN
 clear hN
 obtain ⟨⟨l, a, g⟩, t, at_, gen⟩ := n
 rw [show N.cells = #[.int .i64 l, .int .i64 a, .int .u32 g, .string t, .int .i64 at_, .int .u32 gen] by rw [HN.out]; rfl]
 rw [show (⟨⟨l, a, g⟩, t, at_, gen⟩ : Nm).cells = #[.int .i64 l, .int .i64 a, .int .u32 g, .string t, .int .i64 at_, .int .u32 gen] from rfl, ← HN.out] at h1
 rw [show (⟨l, a, g⟩ : Id).cells = #[.int .i64 l, .int .i64 a, .int .u32 g] from rfl] at h2
 dsimp only at h2 hgen1
 generalize hm : mayEntry N = m at h1
 have Hm := Lib.hid hm
 have Hsm := Lib.hid hsm
 have H1 := Lib.hid h1
 have H2 := Lib.hid h2
 have hA : BlkAt ((w.alloc (.cells #[.int .i64 l, .int .i64 a, .int .u32 g, .string t, .int .i64 at_, .int .u32 gen] 100)).alloc (.cells Blk.zero.cells 37)) (w.heap.size + 1) Blk.zero := by
  have := BlkAt.alloc_new (w.alloc (.cells #[.int .i64 l, .int .i64 a, .int .u32 g, .string t, .int .i64 at_, .int .u32 gen] 100)) Blk.zero
  rwa [size_alloc] at this
 have hO : objAt ((w.alloc (.cells #[.int .i64 l, .int .i64 a, .int .u32 g, .string t, .int .i64 at_, .int .u32 gen] 100)).alloc (.cells Blk.zero.cells 37)) w.heap.size = some (.cells #[.int .i64 l, .int .i64 a, .int .u32 g, .string t, .int .i64 at_, .int .u32 gen] 100 (0, 0)) := by
  rw [objAt_alloc, if_neg (by simp), objAt_alloc, if_pos rfl]
 have hB : Below w.heap.size w ((w.alloc (.cells #[.int .i64 l, .int .i64 a, .int .u32 g, .string t, .int .i64 at_, .int .u32 gen] 100)).alloc (.cells Blk.zero.cells 37)) :=
  ((Below.refl _ _).alloc (Nat.le_refl _) _).alloc (by rw [size_alloc]; omega) _
 obtain ⟨G, hG⟩ : ∃ G, G = w.heap.size := ⟨_, rfl⟩
 rw [← hG] at hA hO
 clear h1 h2 hn hm hsm
 go_enter Tryz.func106, Tryz.ntmps106
 go_upto_region 1 with (fail)
 generalize (w.alloc (.cells #[.int .i64 l, .int .i64 a, .int .u32 g, .string t, .int .i64 at_, .int .u32 gen] 100)).alloc (.cells Blk.zero.cells 37) = wa at *
 rw [← hG]
 have HG := Lib.hid (And.intro hG (And.intro hA (And.intro hO hB)))
 have hA1 : ∀ w1, Below wa.heap.size wa w1 → rowAt w1 (G + 1) = some Blk.zero.cells ∧ hasBlk w1 (G + 1) = true := fun w1 hb =>
  have h := BlkAt.below HG.out.2.1 hb (block_lt HG.out.2.1)
  ⟨h.row, h.has⟩
 have hc0 : wa.cell? ⟨G, 0, none⟩ = some (.int .i64 l) := by rw [cell_of_row wa G 0 _ _ _ hO]; rfl
 have hc1 : wa.cell? ⟨G, 1, none⟩ = some (.int .i64 a) := by rw [cell_of_row wa G 1 _ _ _ hO]; rfl
 have hc2 : wa.cell? ⟨G, 2, none⟩ = some (.int .u32 g) := by rw [cell_of_row wa G 2 _ _ _ hO]; rfl
 have hc3 : wa.cell? ⟨G, 3, none⟩ = some (.string t) := by rw [cell_of_row wa G 3 _ _ _ hO]; rfl
 have hc4 : wa.cell? ⟨G, 4, none⟩ = some (.int .i64 at_) := by rw [cell_of_row wa G 4 _ _ _ hO]; rfl
 have hc5 : wa.cell? ⟨G, 5, none⟩ = some (.int .u32 gen) := by rw [cell_of_row wa G 5 _ _ _ hO]; rfl
 clear hG hA hO hB
 cases m
 · have Hp := Lib.hid (show putEntry N = (Blk.zero, false) by unfold putEntry; rw [Hm.out]; rfl)
   go_wp2_with (go_at_call 161; refine (H1.out _).mono ?_; rintro e w1 ⟨rfl, be1⟩; obtain ⟨hr, hh⟩ := hA1 w1 be1)
   have Hrow := (BlkAt.setRow (BlkAt.below HG.out.2.1 be1 (block_lt HG.out.2.1)) Blk.zero).row
   refine bodyPost_ret (results_two rfl (resOne_blk rfl Hrow) (resOne_tmp _ _ _)) rfl ?_
   exact ⟨by rw [Hp.out]; rfl, (grow_trans HG.out.2.2.2 be1).setRow (by rw [HG.out.1]; exact Nat.le_succ _) _⟩
 · have Hp := Lib.hid (show putEntry N = (Blk.of 6 (entryBytes N), true) by unfold putEntry; rw [Hm.out]; rfl)
   obtain ⟨s1, s2, s3, s4, s5, s6⟩ := Hsm.out Hm.out
   rw [HN.out] at s1 s2 s3 s4 s5 s6
   dsimp only at s1 s2 s3 s4 s5 s6
   have Hid := Lib.hid (show putID ⟨l, a, g⟩ = idBytes ⟨l, a, g⟩ by unfold putID; rw [s1]; rfl)
   have Hil := Lib.hid (show (idBytes ⟨l, a, g⟩).length = 7 by simp [idBytes, high_length])
   have Heb := Lib.hid (show entryBytes N = idBytes ⟨l, a, g⟩ ++ high at_.toNat 2 ++ high gen.toNat 4 ++ UInt8.ofNat t.size :: t.data.toList by rw [HN.out]; unfold entryBytes; rw [List.append_assoc _ [UInt8.ofNat _], List.singleton_append])
   generalize idBytes ⟨l, a, g⟩ = I at *
   have ua : IntKind.u64.wrap at_ = at_ := IntWalk.u64_in _ (by omega)
   have ug : IntKind.u64.wrap gen = gen := IntWalk.u64_in _ (by omega)
   go_upto_region 3 with (first | (go_at_call 161; refine (H1.out _).mono ?_; rintro e w1 ⟨rfl, be1⟩))
   have hS : ∀ w', Below wa.heap.size wa w' → (w'.cell? ⟨G, 0, none⟩ = some (.int .i64 l) ∧ w'.cell? ⟨G, 1, none⟩ = some (.int .i64 a) ∧ w'.cell? ⟨G, 2, none⟩ = some (.int .u32 g) ∧ w'.cell? ⟨G, 3, none⟩ = some (.string t) ∧ w'.cell? ⟨G, 4, none⟩ = some (.int .i64 at_) ∧ w'.cell? ⟨G, 5, none⟩ = some (.int .u32 gen) ∧ Below wa.heap.size wa w') :=
    fun w' hb => ⟨grow_cell hb hc0, grow_cell hb hc1, grow_cell hb hc2, grow_cell hb hc3, grow_cell hb hc4, grow_cell hb hc5, hb⟩
   refine wp_region_held_drew (S := fun w' => w'.cell? ⟨G, 0, none⟩ = some (.int .i64 l) ∧ w'.cell? ⟨G, 1, none⟩ = some (.int .i64 a) ∧ w'.cell? ⟨G, 2, none⟩ = some (.int .u32 g) ∧ w'.cell? ⟨G, 3, none⟩ = some (.string t) ∧ w'.cell? ⟨G, 4, none⟩ = some (.int .i64 at_) ∧ w'.cell? ⟨G, 5, none⟩ = some (.int .u32 gen) ∧ Below wa.heap.size wa w') (by kernel_rfl) (hS _ be1.drew) (fun hHeld => ?_)
   show wpAnyH _ _ _ _ _ 14 #[false, false, false, false, false, false, false, false, false, false, false, false, false, false] _ _
   refine gT 0 ?_; try simp only [Act.put, qs]
   refine gT 1 ?_; try simp only [Act.put, qs]
   refine gT 3 ?_; try simp only [Act.put, qs]
   refine gT 4 ?_; try simp only [Act.put, qs]
   refine gT 5 ?_; try simp only [Act.put, qs]
   refine gT 8 ?_; try simp only [Act.put, qs]
   refine gT 9 ?_; try simp only [Act.put, qs]
   refine gT 10 ?_; try simp only [Act.put, qs]
   refine gY 2 fun K hK => ?_
   try simp only [qs]
   go_simp
   go_at_call 162; refine (H2.out _).mono ?_; rintro e x0 ⟨v0, rfl, r0, b0⟩; rw [Hid.out] at r0; replace r0 := r0.mono (B' := wa.heap.size) be1.size
   refine hK.out _ _ (by exact hS _ (grow_trans hHeld.2.2.2.2.2.2 b0)) (fun hN => ?_); replace hHeld := hN; clear hK K hN
   try simp only [qs]
   refine gY 6 fun K hK => ?_
   try simp only [qs]
   go_simp
   go_at_call 141; refine (High_lit at_ 2 2 _ rfl (by decide) (by decide) (by omega) (by omega)).mono ?_; rintro e x1 ⟨⟨p1, q1, rfl, r1⟩, b1⟩
   refine hK.out _ _ (by exact hS _ (grow_trans hHeld.2.2.2.2.2.2 b1)) (fun hN => ?_); replace hHeld := hN; clear hK K hN
   try simp only [qs]
   refine gY 7 fun K hK => ?_
   refine step_appB (by rfl) (.tmp 11) (.tmp 15) (by rfl) (base := wa.heap.size) (xs := I) (ys := high at_.toNat 2) (by rfl) (r0.below b1) (by rfl) r1 (by simp [high_length]) 9 (by rw [Hil.out, high_length]) (by decide) hHeld.2.2.2.2.2.2.size ?_; intro p3 q3 x3 r3 h3 b3
   refine hK.out _ _ (by exact hS _ (hHeld.2.2.2.2.2.2.trans b3)) (fun hN => ?_); replace hHeld := hN; clear hK K hN
   try simp only [Act.put, qs]
   refine gY 11 fun K hK => ?_
   try simp only [qs]
   go_simp
   go_at_call 141; refine (High_lit gen 4 4 _ rfl (by decide) (by decide) (by omega) (by omega)).mono ?_; rintro e x2 ⟨⟨p2, q2, rfl, r2⟩, b2⟩
   refine hK.out _ _ (by exact hS _ (grow_trans hHeld.2.2.2.2.2.2 b2)) (fun hN => ?_); replace hHeld := hN; clear hK K hN
   try simp only [qs]
   refine gY 12 fun K hK => ?_
   refine step_appB (by rfl) (.tmp 16) (.tmp 20) (by rfl) (base := wa.heap.size) (xs := I ++ high at_.toNat 2) (ys := high gen.toNat 4) (by rfl) (r3.below b2) (by rfl) r2 (by simp [high_length]) 13 (by rw [List.length_append, Hil.out, high_length, high_length]) (by decide) hHeld.2.2.2.2.2.2.size ?_; intro p4 q4 x4 r4 h4 b4
   refine hK.out _ _ (by exact hS _ (hHeld.2.2.2.2.2.2.trans b4)) (fun hN => ?_); replace hHeld := hN; clear hK K hN
   try simp only [Act.put, qs]
   refine gT 13 ?_; try simp only [Act.put, qs]
   refine wpAnyH_done (by kernel_rfl) ?_ _
   have hba := hHeld.2.2.2.2.2.2
   have hh4 := (BlkAt.below HG.out.2.1 hba (block_lt HG.out.2.1)).has
   have u8 : IntKind.u8.wrap (t.size : Int) = ((UInt8.ofNat t.size).toNat : Int) := by
    rw [IntWalk.u8_in _ (by omega)]; simp; omega
   have Hbx := Lib.hid (And.intro hba hh4)
   have hl13 : (I ++ high at_.toNat 2 ++ high gen.toNat 4).length = 13 := by rw [List.length_append, List.length_append, Hil.out, high_length, high_length]
   have Hl := Lib.hid hl13
   have Hr4 := Lib.hid r4
   have hk3 := hHeld.2.2.2.1
   clear r0 r1 r2 r3 h3 h4 b0 b1 b2 b3 b4 hba hh4 hHeld hS hl13 r4 hc0 hc1 hc2 hc3 hc4 hc5
   generalize I ++ high at_.toNat 2 ++ high gen.toNat 4 = L at *
   go_upto_region 4 with (fail)
   have hGa : G + 1 < wa.heap.size := block_lt HG.out.2.1
   have hG1 : G + 1 < x4.heap.size := Nat.lt_of_lt_of_le (block_lt HG.out.2.1) Hbx.out.1.size
   have hS : ∀ w', Below (G + 1) x4 w' → hasBlk w' (G + 1) = true → (w'.cell? ⟨G, 3, none⟩ = some (.string t) ∧ hasBlk w' (G + 1) = true ∧ Below (G + 1) x4 w') :=
    fun w' hb hh => ⟨(hb.cell (Nat.lt_succ_self G)).trans hk3, hh, hb⟩
   refine wp_region_held_drew (S := fun w' => w'.cell? ⟨G, 3, none⟩ = some (.string t) ∧ hasBlk w' (G + 1) = true ∧ Below (G + 1) x4 w') (by kernel_rfl) (hS _ (Below.refl _ _).drew Hbx.out.2) (fun hHeld => ?_)
   show wpAnyH _ _ _ _ _ 13 #[false, false, false, false, false, false, false, false, false, false, false, false, false] _ _
   refine gT 0 ?_; try simp only [Act.put, qs]
   refine gT 1 ?_; try simp only [Act.put, qs]
   refine gT 2 ?_; try simp only [Act.put, qs]
   refine gT 7 ?_; try simp only [Act.put, qs]
   refine gT 8 ?_; try simp only [Act.put, qs]
   refine gY 3 fun K hK => ?_
   try simp only [qs]
   go_simp
   refine hK.out _ _ (by exact hHeld) (fun hN => ?_); replace hHeld := hN; clear hK K hN
   try simp only [qs]
   refine gT 4 ?_; try simp only [Act.put, qs]
   refine gY 5 fun K hK => ?_
   try simp only [qs]
   go_simp
   refine hK.out _ _ (by exact hS _ (keep_alloc hHeld.2.2 (Nat.le_of_lt hG1) _) (hasBlk_alloc hHeld.2.1 _)) (fun hN => ?_); replace hHeld := hN; clear hK K hN
   try simp only [qs]
   refine gY 6 fun K hK => ?_
   refine step_appB (by rfl) (.tmp 22) (.tmp 27) (by rfl) (base := wa.heap.size) (xs := L) (ys := [UInt8.ofNat t.size]) (by rfl) (by first | exact (Hr4.out.drew).alloc _ | exact (Hr4.out.alloc _).drew) (by rfl) (by first | exact (lit_row x4 0 _ (UInt8.ofNat t.size) rfl (Nat.zero_le _)) | exact (lit_row x4 0 _ (UInt8.ofNat t.size) rfl (Nat.zero_le _)).drew) (by simp) 14 (by rw [Hl.out]; rfl) (by decide) (Nat.le_trans Hbx.out.1.size hHeld.2.2.size) ?_; intro p3 q3 x5 r5 h5 b5
   refine hK.out _ _ (by exact hS _ (keep_trans hHeld.2.2 b5 (Nat.le_of_lt hGa)) (hasBlk_keep hHeld.2.1 b5 hGa)) (fun hN => ?_); replace hHeld := hN; clear hK K hN
   try simp only [Act.put, qs]
   refine gY 9 fun K hK => ?_
   refine step_appS (by rfl) (.tmp 28) (.tmp 30) (by rfl) (base := wa.heap.size) (by rfl) r5 t (by rfl) (by simp) (14 + t.size) (by rw [List.length_append, Hl.out]; rfl) (by omega) (Nat.le_trans Hbx.out.1.size hHeld.2.2.size) ?_; intro p6 q6 x6 r6 h6 b6
   refine hK.out _ _ (by exact hS _ (keep_trans hHeld.2.2 b6 (Nat.le_of_lt hGa)) (hasBlk_keep hHeld.2.1 b6 hGa)) (fun hN => ?_); replace hHeld := hN; clear hK K hN
   try simp only [Act.put, qs]
   refine gY 10 fun K hK => ?_
   try simp only [qs]
   go_simp
   go_at_call 142; refine (body_row 6 r6 (by rw [List.length_append, List.length_append, Hl.out]; simp; omega)).mono ?_; rintro e x7 ⟨rfl, b7⟩; have hfin := hasBlk_call hHeld.2.1 b7
   refine hK.out _ _ (by exact hS _ (keep_call hHeld.2.2 b7 (Nat.le_of_lt hG1)) (hasBlk_call hHeld.2.1 b7)) (fun hN => ?_); replace hHeld := hN; clear hK K hN
   try simp only [qs]
   refine gY 11 fun K hK => ?_
   have hh11 := hHeld.2.1
   try simp only [qs]
   go_simp
   refine hK.out _ _ (by exact hS _ (hHeld.2.2.setRow (Nat.le_refl _) _) (hasBlk_setRow hHeld.2.1 _)) (fun hN => ?_); replace hHeld := hN; clear hK K hN
   try simp only [qs]
   refine gT 12 ?_; try simp only [Act.put, qs]
   refine wpAnyH_done (by kernel_rfl) ?_ _
   have hk := hHeld.2.1
   go_wp2_with fail
   refine bodyPost_ret (results_two rfl (resOne_blk rfl (rowAt_setRow hfin _)) (resOne_tmp _ _ _)) rfl ?_
   refine ⟨by rw [Hp.out, Heb.out]; rfl, ?_⟩
   have := (grow_trans HG.out.2.2.2 Hbx.out.1).trans (hHeld.2.2.mono (show w.heap.size ≤ G + 1 by rw [HG.out.1]; exact Nat.le_succ _))
   exact this
end
end Go.Proofs.YtbbnejehglonjaaGreat
