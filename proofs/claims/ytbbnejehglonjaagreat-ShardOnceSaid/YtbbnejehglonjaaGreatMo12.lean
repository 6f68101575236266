/- DERIVED. Contracts and laws that the proofs of this seat share, part 12 of 36: WrA. -/
import Derived.Test.YtbbnejehglonjaaGreatMo00
import Derived.Test.YtbbnejehglonjaaGreatMo05
import Derived.Test.YtbbnejehglonjaaGreatMo06
/- DERIVED. A writer of bytes as it lies; contract of node's writer.num. -/
namespace Go.Proofs.YtbbnejehglonjaaGreat
open Go.RowKit
attribute [local irreducible] Calls
set_option maxRecDepth 100000

theorem step_appOwn {ops : Array Oper} {o : Oper} {a b0 : Act} {w : World} {K : Act → World → Prop} {Q : Exit → Act → World → Prop} {F : Prop} (hgd : o.guard = none) (s x : Operand) (ho : o.op = .call { callee := .builtin .append, args := #[s, x], argTypes := #[22, 22] })
 {base : Nat} {v : Value} {xs : List UInt8} (hs : a.eval s = v) (hown : BRow w base v xs) {b2 : Nat} {u : Value} {ys : List UInt8} (hx : a.eval x = u) (hu : BRow w b2 u ys) (hys : 0 < ys.length) (hsz : xs.length + ys.length < 2000000000) (hbase : base ≤ w.heap.size)
 (h : ∀ g cap w', BRow w' base (.slice (some ⟨g, 0, none⟩) (xs.length + ys.length) cap) (xs ++ ys) → Below base w w' → Keeps (fun q => v.ownBlock = some q) w w' → (v.ownBlock = some g ∨ g = w.heap.size) → K (a.put o.dst (.slice (some ⟨g, 0, none⟩) (xs.length + ys.length) cap)) w') :
 if Region.wanted o (yielded ops b0.tmps) = true then Oper.wp Tryz.prog o a w K Q else F := by
 have hw : Region.wanted o (yielded ops b0.tmps) = true := by simp [Region.wanted, hgd]
 rw [if_pos hw]
 obtain ⟨g2, cap2, rfl, _, _⟩ := hu.form hys
 obtain ⟨i, z, hi, hz, hsi, hby, hzs⟩ := infoByte
 refine wp_append_lies (P := Tryz.prog) w s x 22 ho base 5 i z 1 1 Tryz.underlying22 hi hz hsi hby hzs (by decide) v xs.length _ hs hown ⟨g2, 0, none⟩ ys.length cap2 (ys.map fun c => Value.int .u8 c.toNat) hx
  (by simp) (World.ownsRow.cells hu (g := g2) rfl) (by intro x hx; simp only [List.mem_map] at hx; obtain ⟨c, _, rfl⟩ := hx; rfl) hys (by unfold maxLen; omega) (by omega) hbase w.heap.size rfl ?_
 intro g cap w' h2 h3 h4 _
 refine h g cap w' ?_ ((Below.refl base w).grown h3 hbase (fun k hk => (World.ownsRow.lt hown k hk).1)) ⟨h3.os, h3.tape, h3.output, h3.size, fun k' hk' hn' => h3.block k' hk' (fun e => hn' e.symm)⟩ h4
 unfold BRow
 rw [List.length_append, List.map_append]; exact h2

/-- A writer: one cell, which has the bytes. -/
structure WtrAt (w : World) (t : TypeId) (W : Nat) (v : Value) (xs : List UInt8) : Prop where
 obj : objAt w W = some (.cells #[v] t (0, 0))
 row : BRow w 0 v xs
/-- What a writer may turn. -/
def Wt (W : Nat) (v : Value) : Nat → Prop := fun q => q = W ∨ v.ownBlock = some q
/-- One step of a writer. -/
structure WtrStep (w w' : World) (t : TypeId) (W : Nat) (v v' : Value) (xs : List UInt8) : Prop where
 at_ : WtrAt w' t W v' xs
 keeps : Keeps (Wt W v) w w'
 own : ∀ g, v'.ownBlock = some g → v.ownBlock = some g ∨ w.heap.size ≤ g
section
variable {w w' w2 : World} {t : TypeId} {W : Nat} {v v' v2 : Value} {xs ys : List UInt8}
theorem BRow.ownObj {B : Nat} (h : BRow w B v xs) {g : Nat} (hg : v.ownBlock = some g) : B ≤ g ∧ ∃ q, objAt w g = some (.cells q 5 (0, 0)) := by
 rcases h.2 with ⟨h', _⟩ | ⟨g', cap', cur, h', hb, hg', _⟩
 · subst h'; cases hg
 · subst h'
   obtain rfl := Option.some.inj hg
   exact ⟨hb, cur, hg'⟩
theorem WtrAt.c0 (h : WtrAt w t W v xs) : w.cell? ⟨W, 0, none⟩ = some v := cell_obj h.obj 0
theorem WtrAt.free (h : WtrAt w t W v xs) : w.frozen? ⟨W, 0, none⟩ = false := free_obj h.obj 0
theorem WtrAt.ne (h : WtrAt w t W v xs) (ht : t ≠ 5) : v.ownBlock ≠ some W := fun e => by
 obtain ⟨_, q, hq⟩ := BRow.ownObj h.row e
 exact ne_of_obj hq h.obj (fun e => ht e.symm) rfl
theorem WtrAt.below (h : WtrAt w t W v xs) (hb : Below w.heap.size w w') : WtrAt w' t W v xs :=
 ⟨grow_obj hb h.obj, owns_keeps h.row (Keeps.of_below_size hb) (fun g hg e => by obtain ⟨_, q, hq⟩ := BRow.ownObj h.row hg; have := block_lt hq; omega)⟩
theorem WtrAt.lt (h : WtrAt w t W v xs) : ∀ q, Wt W v q → q < w.heap.size := fun q hq => by
 rcases hq with rfl | hq
 · exact block_lt h.obj
 · obtain ⟨_, c, hc⟩ := BRow.ownObj h.row hq; exact block_lt hc
/-- What is no writer's, and no bytes, is kept. -/
theorem WtrStep.obj (h : WtrStep w w' t W v v' ys) (h0 : WtrAt w t W v xs) {g : Nat} {c : Array Value} {t' : TypeId} (hg : objAt w g = some (.cells c t' (0, 0))) (h1 : t' ≠ t) (h2 : t' ≠ 5) : objAt w' g = some (.cells c t' (0, 0)) :=
 h.keeps.obj hg (fun e => by
  rcases e with rfl | e
  · exact ne_of_obj hg h0.obj h1 rfl
  · obtain ⟨_, q, hq⟩ := BRow.ownObj h0.row e
    exact ne_of_obj hg hq h2 rfl)
theorem WtrStep.trans (h : WtrStep w w' t W v v' xs) (h2 : WtrStep w' w2 t W v' v2 ys) : WtrStep w w2 t W v v2 ys :=
 ⟨h2.at_, h.keeps.chain h2.keeps (fun k hk e => by
  rcases e with e | e
  · exact .inl e
  · exact .inr ((h.own k e).resolve_right (by omega))), fun g hg => (h2.own g hg).elim (h.own g) (fun e => .inr (Nat.le_trans h.keeps.size e))⟩
theorem WtrStep.same (h : WtrAt w t W v xs) : WtrStep w w t W v v xs := ⟨h, Keeps.refl _ _, fun _ hg => .inl hg⟩
theorem WtrStep.pre (hb : Below w.heap.size w w') (h : WtrStep w' w2 t W v v2 xs) : WtrStep w w2 t W v v2 xs := ⟨h.at_, (Keeps.of_below hb).trans h.keeps, fun g hg => (h.own g hg).imp id (Nat.le_trans hb.size)⟩
theorem WtrAt.mid (h0 : WtrAt w t W v xs) (ht : t ≠ 5) {x : World} (hb : Below w.heap.size w x) {y : World} (hk : Keeps (fun q => v.ownBlock = some q) x y) : objAt y W = some (.cells #[v] t (0, 0)) := hk.obj (h0.below hb).obj (fun e => h0.ne ht e)
/-- Bytes are appended, and kept. -/
theorem WtrStep.app {g cap n : Nat} (h0 : WtrAt w t W v xs) (ht : t ≠ 5) {x : World} (hb : Below w.heap.size w x) {y : World} (hr : BRow y 0 (.slice (some ⟨g, 0, none⟩) n cap) ys) (hk : Keeps (fun q => v.ownBlock = some q) x y) (ho : v.ownBlock = some g ∨ g = x.heap.size) : WtrStep w (y.setCell ⟨W, 0, none⟩ (.slice (some ⟨g, 0, none⟩) n cap)) t W v (.slice (some ⟨g, 0, none⟩) n cap) ys := by
 have h1 := h0.below hb
 have hy : objAt y W = some (.cells #[v] t (0, 0)) := hk.obj h1.obj (fun e => h0.ne ht e)
 have hgW : g ≠ W := fun e => by
  obtain ⟨_, q, hq⟩ := BRow.ownObj hr rfl
  exact ne_of_obj hq hy (fun e => ht e.symm) e
 have hks : Keeps (fun q => q = W) y (y.setCell ⟨W, 0, none⟩ (.slice (some ⟨g, 0, none⟩) n cap)) := Keeps.setCell _ _ _ rfl
 refine ⟨⟨by rw [objAt_setCell hy]; rfl, owns_keeps hr hks (fun q hq e => by obtain rfl := Option.some.inj hq; exact hgW e)⟩, ?_, fun q hq => ?_⟩
 · exact ((Keeps.of_below hb).trans (hk.mono fun q _ e => .inr e)).trans (hks.mono fun q _ e => .inl e)
 · obtain rfl := Option.some.inj hq
   rcases ho with e | e
   · exact .inl e
   · exact .inr (by rw [e]; exact hb.size)
end
set_option maxHeartbeats 4000000 in
theorem wnum_any (W : Nat) (v : Value) (xs : List UInt8) (x n : Nat) (w : World) (h : WtrAt w 281 W v xs) (_ : x < 4294967296) (hn : n ≤ 4) (hl : xs.length ≤ 1000) :
 Calls Tryz.prog 189 #[.pointer (some ⟨W, 0, none⟩), .int .u32 x, .int .i64 n] w fun e w' => e = .returned (.tuple #[]) ∧ ∃ v', WtrStep w w' 281 W v v' (xs ++ high x n) := by
 go_enter Tryz.func189, Tryz.ntmps189
 go_wp2_with fail
 go_loopw [6] (fun i wr => ∃ (k : Nat) (V : Value), k ≤ n ∧ i = .int .i64 ((n : Int) - 1 - k) ∧ WtrStep w wr 281 W v V (xs ++ (high x n).take k)) (fun i _ => (Go.RowKit.intOf i + 1).toNat)
 case atStart => exact ⟨0, v, Nat.zero_le _, by simp, by rw [List.take_zero, List.append_nil]; exact WtrStep.same h⟩
 case round =>
  obtain ⟨k, V, hk, rfl, hV⟩ := hrel
  have HV := Lib.hid (And.intro hV h)
  clear hV h
  by_cases hlt : k < n
  · have Hs := Lib.hid (high_take_succ x n k hlt)
    have hlen : (xs ++ (high x n).take k).length ≤ 1004 := by rw [List.length_append, List.length_take, high_length]; omega
    have h4 : n - 1 - k < 4 := by omega
    obtain ⟨j, hj⟩ : ∃ j, j = n - 1 - k := ⟨_, rfl⟩
    have hji : (n : Int) - 1 - k = (j : Int) := by omega
    rw [hji]
    rw [← hj] at Hs h4
    have Hj := Lib.hid (And.intro hj hji)
    generalize hy : xs ++ (high x n).take k = ys at *
    have HY := Lib.hid hy
    clear hj hji hy
    obtain ⟨c, hc⟩ : ∃ c, c = UInt8.ofNat (x / 256 ^ j % 256) := ⟨_, rfl⟩
    rw [← hc] at Hs
    have c0 := HV.out.1.at_.c0
    have hB2 : Below wr.heap.size wr (wr.alloc (.cells #[.int .u8 (c.toNat : Int)] 5)).drew := (grow_alloc (Below.refl _ _) _).drew
    have f0 := (HV.out.1.at_.below hB2).c0
    have hr1 := (HV.out.1.at_.below hB2).row
    have hlit : BRow (wr.alloc (.cells #[.int .u8 (c.toNat : Int)] 5)).drew 0 (.slice (some ⟨wr.heap.size, 0, none⟩) 1 1) [c] := BRow.lit (B := 0) c rfl (by show objAt (wr.alloc _) _ = _; rw [objAt_alloc, if_pos rfl]) (Nat.zero_le _)
    have HR := Lib.hid (And.intro hr1 (And.intro hlit hB2))
    clear hr1 hlit hB2
    have hcase : j = 0 ∨ j = 1 ∨ j = 2 ∨ j = 3 := by omega
    rcases hcase with rfl | rfl | rfl | rfl
    · have hv : IntKind.u8.wrap (x : Int) = (c.toNat : Int) := by rw [IntKind.wrap_u8, hc, ofNat_mod]; omega
      have hw : IntKind.i64.wrap 0 = 0 := by decide
      clear hc
      go_upto_region 3 with fail
      refine wp_region_F [11, 14] (S := fun w' => w'.cell? ⟨W, 0, none⟩ = some V ∧ True) (by kernel_rfl) (⟨c0, trivial⟩) (fun hHeld => ?_)
      show wpAnyF _ _ _ _ _ _ 15 #[false, false, false, false, false, false, false, false, false, false, false, false, false, false, false] _ _
      refine gP (i := 0) (v := ?kv1) rfl ?ky1 ?kr1
      case ky1 => (intro w hSw; clear hSw; (try simp only [qA, qB]); go_simp; (try with_reducible rfl))
      try simp only [Act.put, qA, qB, qD, qE, qF]
      refine gF [1, 2, 3, 4, 11, 12, 13, 14] (i := 1) (v := ?kv2) rfl ?ky2 ?kr2
      case ky2 => (intro w hSw; (try dsimp only at hSw); go_split_ands; (try simp only [qA, qB, qC]); go_simp; (try with_reducible rfl))
      try simp only [Act.put, qA, qB, qC, qD, qE, qF]
      refine gF [2, 3, 4, 11, 12, 13, 14] (i := 2) (v := ?kv3) rfl ?ky3 ?kr3
      case ky3 => (intro w hSw; (try dsimp only at hSw); go_split_ands; (try simp only [qA, qB, qC]); go_simp; (try with_reducible rfl))
      try simp only [Act.put, qA, qB, qC, qD, qE, qF]
      refine gF [3, 4, 11, 12, 13, 14] (i := 3) (v := ?kv4) rfl ?ky4 ?kr4
      case ky4 => (intro w hSw; (try dsimp only at hSw); go_split_ands; (try simp only [qA, qB, qC]); go_simp; (try with_reducible rfl))
      try simp only [Act.put, qA, qB, qC, qD, qE, qF]
      refine gF [4, 11, 12, 13, 14] (i := 4) (v := ?kv5) rfl ?ky5 ?kr5
      case ky5 => (intro w hSw; (try dsimp only at hSw); go_split_ands; (try simp only [qA, qB, qC]); go_simp; (try with_reducible rfl))
      try simp only [Act.put, qA, qB, qC, qD, qE, qF]
      refine gF [5, 8, 9, 10, 11, 12, 13, 14] (i := 5) (v := ?kv6) rfl ?ky6 ?kr6
      case ky6 => (intro w hSw; (try dsimp only at hSw); go_split_ands; (try simp only [qA, qB, qC]); go_simp; (try with_reducible rfl))
      try simp only [Act.put, qA, qB, qC, qD, qE, qF]
      refine gF [6, 7, 8, 9, 10, 11, 12, 13, 14] (i := 6) (v := ?kv7) rfl ?ky7 ?kr7
      case ky7 => (intro w hSw; (try dsimp only at hSw); go_split_ands; (try simp only [qA, qB, qC]); go_simp; (try with_reducible rfl))
      try simp only [Act.put, qA, qB, qC, qD, qE, qF]
      refine gF [7, 8, 9, 10, 11, 12, 13, 14] (i := 7) (v := ?kv8) rfl ?ky8 ?kr8
      case ky8 => (intro w hSw; (try dsimp only at hSw); go_split_ands; (try simp only [qA, qB, qC]); go_simp; (try with_reducible rfl))
      try simp only [Act.put, qA, qB, qC, qD, qE, qF]
      refine gF [8, 9, 10, 11, 12, 13, 14] (i := 8) (v := ?kv9) rfl ?ky9 ?kr9
      case ky9 => (intro w hSw; (try dsimp only at hSw); go_split_ands; (try simp only [qA, qB, qC]); go_simp; (try with_reducible rfl))
      try simp only [Act.put, qA, qB, qC, qD, qE, qF]
      refine gF [9, 10, 11, 12, 13, 14] (i := 9) (v := ?kv10) rfl ?ky10 ?kr10
      case ky10 => (intro w hSw; (try dsimp only at hSw); go_split_ands; (try simp only [qA, qB, qC]); go_simp; (try with_reducible rfl))
      try simp only [Act.put, qA, qB, qC, qD, qE, qF]
      refine wpAnyF_ready (rs := [10]) (by kernel_rfl) (by simp) ?_
      refine (AllReadyF.cons rfl (fun K hK => ?_) AllReadyF.nil)
      try simp only [qA, qB, qC]
      go_simp
      refine hK.out _ _ (by exact ⟨f0, trivial⟩) (fun hHeldn => ?_)
      clear hHeld hK K
      have hHeld := hHeldn
      clear hHeldn
      try simp only [qD, qE, qF]
      refine wpAnyF_ready (rs := [11]) (by kernel_rfl) (by simp) ?_
      refine (AllReadyF.last rfl (by kernel_rfl) (fun K hK => ?_) AllReadyF.nil)
      refine step_appOwn rfl _ _ rfl rfl HR.out.1 rfl HR.out.2.1 (by simp) (by show ys.length + 1 < 2000000000; omega) (Nat.zero_le _) ?_; intro g2 cap2 w2 hr2 _ k2 o2; have hst := WtrStep.app HV.out.1.at_ (by decide) HR.out.2.2 hr2 k2 o2; have hmid := HV.out.1.at_.mid (by decide) HR.out.2.2 k2; have q0 := cell_obj hmid 0; have fz := free_obj hmid 0; clear hmid; have hW := HV.out.1.trans hst; have HW := Lib.hid hW; clear hW hst
      refine hK.out _ _ (trivial) (fun hHeldn => ?_)
      clear hHeld hK K
      have hHeld := hHeldn
      clear hHeldn
      try simp only [Act.put, qA, qB, qC, qD, qE, qF]
      refine gP (i := 12) (v := ?kv13) rfl ?ky13 ?kr13
      case ky13 => (intro w hSw; clear hSw; (try simp only [qA, qB, qC]); go_simp; (try with_reducible rfl))
      try simp only [Act.put, qA, qB, qC, qD, qE, qF]
      refine gP (i := 13) (v := ?kv14) rfl ?ky14 ?kr14
      case ky14 => (intro w hSw; clear hSw; (try simp only [qA, qB, qC]); go_simp; (try with_reducible rfl))
      try simp only [Act.put, qA, qB, qC, qD, qE, qF]
      refine wpAnyF_ready (rs := [14]) (by kernel_rfl) (by simp) ?_
      refine (AllReadyF.last rfl (by kernel_rfl) (fun K hK => ?_) AllReadyF.nil)
      try simp only [qA, qB, qC]
      go_simp
      refine hK.out _ _ (trivial) (fun hHeldn => ?_)
      clear hHeld hK K
      have hHeld := hHeldn
      clear hHeldn
      try simp only [qD, qE, qF]
      refine wpAnyF_done (by kernel_rfl) ?_ _
      have e9 : ys ++ [c] = xs ++ (high x n).take (k + 1) := by rw [← HY.out, List.append_assoc, ← Hs.out]
      rw [e9] at HW
      go_wp2_with fail
      have hjj := Hj.out
      go_roundw
      case rel => exact ⟨k + 1, _, by omega, by congr 1; omega, HW.out⟩
      case measure => simp [Go.RowKit.intOf]
    · have hv : IntKind.u8.wrap ((x : Int) / 256) = (c.toNat : Int) := by rw [IntKind.wrap_u8, hc, ofNat_mod]; omega
      have hw : IntKind.i64.wrap 8 = 8 := by decide
      clear hc
      go_upto_region 3 with fail
      refine wp_region_F [11, 14] (S := fun w' => w'.cell? ⟨W, 0, none⟩ = some V ∧ True) (by kernel_rfl) (⟨c0, trivial⟩) (fun hHeld => ?_)
      show wpAnyF _ _ _ _ _ _ 15 #[false, false, false, false, false, false, false, false, false, false, false, false, false, false, false] _ _
      refine gP (i := 0) (v := ?kv16) rfl ?ky16 ?kr16
      case ky16 => (intro w hSw; clear hSw; (try simp only [qA, qB]); go_simp; (try with_reducible rfl))
      try simp only [Act.put, qA, qB, qD, qE, qF]
      refine gF [1, 2, 3, 4, 11, 12, 13, 14] (i := 1) (v := ?kv17) rfl ?ky17 ?kr17
      case ky17 => (intro w hSw; (try dsimp only at hSw); go_split_ands; (try simp only [qA, qB, qC]); go_simp; (try with_reducible rfl))
      try simp only [Act.put, qA, qB, qC, qD, qE, qF]
      refine gF [2, 3, 4, 11, 12, 13, 14] (i := 2) (v := ?kv18) rfl ?ky18 ?kr18
      case ky18 => (intro w hSw; (try dsimp only at hSw); go_split_ands; (try simp only [qA, qB, qC]); go_simp; (try with_reducible rfl))
      try simp only [Act.put, qA, qB, qC, qD, qE, qF]
      refine gF [3, 4, 11, 12, 13, 14] (i := 3) (v := ?kv19) rfl ?ky19 ?kr19
      case ky19 => (intro w hSw; (try dsimp only at hSw); go_split_ands; (try simp only [qA, qB, qC]); go_simp; (try with_reducible rfl))
      try simp only [Act.put, qA, qB, qC, qD, qE, qF]
      refine gF [4, 11, 12, 13, 14] (i := 4) (v := ?kv20) rfl ?ky20 ?kr20
      case ky20 => (intro w hSw; (try dsimp only at hSw); go_split_ands; (try simp only [qA, qB, qC]); go_simp; (try with_reducible rfl))
      try simp only [Act.put, qA, qB, qC, qD, qE, qF]
      refine gF [5, 8, 9, 10, 11, 12, 13, 14] (i := 5) (v := ?kv21) rfl ?ky21 ?kr21
      case ky21 => (intro w hSw; (try dsimp only at hSw); go_split_ands; (try simp only [qA, qB, qC]); go_simp; (try with_reducible rfl))
      try simp only [Act.put, qA, qB, qC, qD, qE, qF]
      refine gF [6, 7, 8, 9, 10, 11, 12, 13, 14] (i := 6) (v := ?kv22) rfl ?ky22 ?kr22
      case ky22 => (intro w hSw; (try dsimp only at hSw); go_split_ands; (try simp only [qA, qB, qC]); go_simp; (try with_reducible rfl))
      try simp only [Act.put, qA, qB, qC, qD, qE, qF]
      refine gF [7, 8, 9, 10, 11, 12, 13, 14] (i := 7) (v := ?kv23) rfl ?ky23 ?kr23
      case ky23 => (intro w hSw; (try dsimp only at hSw); go_split_ands; (try simp only [qA, qB, qC]); go_simp; (try with_reducible rfl))
      try simp only [Act.put, qA, qB, qC, qD, qE, qF]
      refine gF [8, 9, 10, 11, 12, 13, 14] (i := 8) (v := ?kv24) rfl ?ky24 ?kr24
      case ky24 => (intro w hSw; (try dsimp only at hSw); go_split_ands; (try simp only [qA, qB, qC]); go_simp; (try with_reducible rfl))
      try simp only [Act.put, qA, qB, qC, qD, qE, qF]
      refine gF [9, 10, 11, 12, 13, 14] (i := 9) (v := ?kv25) rfl ?ky25 ?kr25
      case ky25 => (intro w hSw; (try dsimp only at hSw); go_split_ands; (try simp only [qA, qB, qC]); go_simp; (try with_reducible rfl))
      try simp only [Act.put, qA, qB, qC, qD, qE, qF]
      refine wpAnyF_ready (rs := [10]) (by kernel_rfl) (by simp) ?_
      refine (AllReadyF.cons rfl (fun K hK => ?_) AllReadyF.nil)
      try simp only [qA, qB, qC]
      go_simp
      refine hK.out _ _ (by exact ⟨f0, trivial⟩) (fun hHeldn => ?_)
      clear hHeld hK K
      have hHeld := hHeldn
      clear hHeldn
      try simp only [qD, qE, qF]
      refine wpAnyF_ready (rs := [11]) (by kernel_rfl) (by simp) ?_
      refine (AllReadyF.last rfl (by kernel_rfl) (fun K hK => ?_) AllReadyF.nil)
      refine step_appOwn rfl _ _ rfl rfl HR.out.1 rfl HR.out.2.1 (by simp) (by show ys.length + 1 < 2000000000; omega) (Nat.zero_le _) ?_; intro g2 cap2 w2 hr2 _ k2 o2; have hst := WtrStep.app HV.out.1.at_ (by decide) HR.out.2.2 hr2 k2 o2; have hmid := HV.out.1.at_.mid (by decide) HR.out.2.2 k2; have q0 := cell_obj hmid 0; have fz := free_obj hmid 0; clear hmid; have hW := HV.out.1.trans hst; have HW := Lib.hid hW; clear hW hst
      refine hK.out _ _ (trivial) (fun hHeldn => ?_)
      clear hHeld hK K
      have hHeld := hHeldn
      clear hHeldn
      try simp only [Act.put, qA, qB, qC, qD, qE, qF]
      refine gP (i := 12) (v := ?kv28) rfl ?ky28 ?kr28
      case ky28 => (intro w hSw; clear hSw; (try simp only [qA, qB, qC]); go_simp; (try with_reducible rfl))
      try simp only [Act.put, qA, qB, qC, qD, qE, qF]
      refine gP (i := 13) (v := ?kv29) rfl ?ky29 ?kr29
      case ky29 => (intro w hSw; clear hSw; (try simp only [qA, qB, qC]); go_simp; (try with_reducible rfl))
      try simp only [Act.put, qA, qB, qC, qD, qE, qF]
      refine wpAnyF_ready (rs := [14]) (by kernel_rfl) (by simp) ?_
      refine (AllReadyF.last rfl (by kernel_rfl) (fun K hK => ?_) AllReadyF.nil)
      try simp only [qA, qB, qC]
      go_simp
      refine hK.out _ _ (trivial) (fun hHeldn => ?_)
      clear hHeld hK K
      have hHeld := hHeldn
      clear hHeldn
      try simp only [qD, qE, qF]
      refine wpAnyF_done (by kernel_rfl) ?_ _
      have e9 : ys ++ [c] = xs ++ (high x n).take (k + 1) := by rw [← HY.out, List.append_assoc, ← Hs.out]
      rw [e9] at HW
      go_wp2_with fail
      have hjj := Hj.out
      go_roundw
      case rel => exact ⟨k + 1, _, by omega, by congr 1; omega, HW.out⟩
      case measure => simp [Go.RowKit.intOf]
    · have hv : IntKind.u8.wrap ((x : Int) / 65536) = (c.toNat : Int) := by rw [IntKind.wrap_u8, hc, ofNat_mod]; omega
      have hw : IntKind.i64.wrap 16 = 16 := by decide
      clear hc
      go_upto_region 3 with fail
      refine wp_region_F [11, 14] (S := fun w' => w'.cell? ⟨W, 0, none⟩ = some V ∧ True) (by kernel_rfl) (⟨c0, trivial⟩) (fun hHeld => ?_)
      show wpAnyF _ _ _ _ _ _ 15 #[false, false, false, false, false, false, false, false, false, false, false, false, false, false, false] _ _
      refine gP (i := 0) (v := ?kv31) rfl ?ky31 ?kr31
      case ky31 => (intro w hSw; clear hSw; (try simp only [qA, qB]); go_simp; (try with_reducible rfl))
      try simp only [Act.put, qA, qB, qD, qE, qF]
      refine gF [1, 2, 3, 4, 11, 12, 13, 14] (i := 1) (v := ?kv32) rfl ?ky32 ?kr32
      case ky32 => (intro w hSw; (try dsimp only at hSw); go_split_ands; (try simp only [qA, qB, qC]); go_simp; (try with_reducible rfl))
      try simp only [Act.put, qA, qB, qC, qD, qE, qF]
      refine gF [2, 3, 4, 11, 12, 13, 14] (i := 2) (v := ?kv33) rfl ?ky33 ?kr33
      case ky33 => (intro w hSw; (try dsimp only at hSw); go_split_ands; (try simp only [qA, qB, qC]); go_simp; (try with_reducible rfl))
      try simp only [Act.put, qA, qB, qC, qD, qE, qF]
      refine gF [3, 4, 11, 12, 13, 14] (i := 3) (v := ?kv34) rfl ?ky34 ?kr34
      case ky34 => (intro w hSw; (try dsimp only at hSw); go_split_ands; (try simp only [qA, qB, qC]); go_simp; (try with_reducible rfl))
      try simp only [Act.put, qA, qB, qC, qD, qE, qF]
      refine gF [4, 11, 12, 13, 14] (i := 4) (v := ?kv35) rfl ?ky35 ?kr35
      case ky35 => (intro w hSw; (try dsimp only at hSw); go_split_ands; (try simp only [qA, qB, qC]); go_simp; (try with_reducible rfl))
      try simp only [Act.put, qA, qB, qC, qD, qE, qF]
      refine gF [5, 8, 9, 10, 11, 12, 13, 14] (i := 5) (v := ?kv36) rfl ?ky36 ?kr36
      case ky36 => (intro w hSw; (try dsimp only at hSw); go_split_ands; (try simp only [qA, qB, qC]); go_simp; (try with_reducible rfl))
      try simp only [Act.put, qA, qB, qC, qD, qE, qF]
      refine gF [6, 7, 8, 9, 10, 11, 12, 13, 14] (i := 6) (v := ?kv37) rfl ?ky37 ?kr37
      case ky37 => (intro w hSw; (try dsimp only at hSw); go_split_ands; (try simp only [qA, qB, qC]); go_simp; (try with_reducible rfl))
      try simp only [Act.put, qA, qB, qC, qD, qE, qF]
      refine gF [7, 8, 9, 10, 11, 12, 13, 14] (i := 7) (v := ?kv38) rfl ?ky38 ?kr38
      case ky38 => (intro w hSw; (try dsimp only at hSw); go_split_ands; (try simp only [qA, qB, qC]); go_simp; (try with_reducible rfl))
      try simp only [Act.put, qA, qB, qC, qD, qE, qF]
      refine gF [8, 9, 10, 11, 12, 13, 14] (i := 8) (v := ?kv39) rfl ?ky39 ?kr39
      case ky39 => (intro w hSw; (try dsimp only at hSw); go_split_ands; (try simp only [qA, qB, qC]); go_simp; (try with_reducible rfl))
      try simp only [Act.put, qA, qB, qC, qD, qE, qF]
      refine gF [9, 10, 11, 12, 13, 14] (i := 9) (v := ?kv40) rfl ?ky40 ?kr40
      case ky40 => (intro w hSw; (try dsimp only at hSw); go_split_ands; (try simp only [qA, qB, qC]); go_simp; (try with_reducible rfl))
      try simp only [Act.put, qA, qB, qC, qD, qE, qF]
      refine wpAnyF_ready (rs := [10]) (by kernel_rfl) (by simp) ?_
      refine (AllReadyF.cons rfl (fun K hK => ?_) AllReadyF.nil)
      try simp only [qA, qB, qC]
      go_simp
      refine hK.out _ _ (by exact ⟨f0, trivial⟩) (fun hHeldn => ?_)
      clear hHeld hK K
      have hHeld := hHeldn
      clear hHeldn
      try simp only [qD, qE, qF]
      refine wpAnyF_ready (rs := [11]) (by kernel_rfl) (by simp) ?_
      refine (AllReadyF.last rfl (by kernel_rfl) (fun K hK => ?_) AllReadyF.nil)
      refine step_appOwn rfl _ _ rfl rfl HR.out.1 rfl HR.out.2.1 (by simp) (by show ys.length + 1 < 2000000000; omega) (Nat.zero_le _) ?_; intro g2 cap2 w2 hr2 _ k2 o2; have hst := WtrStep.app HV.out.1.at_ (by decide) HR.out.2.2 hr2 k2 o2; have hmid := HV.out.1.at_.mid (by decide) HR.out.2.2 k2; have q0 := cell_obj hmid 0; have fz := free_obj hmid 0; clear hmid; have hW := HV.out.1.trans hst; have HW := Lib.hid hW; clear hW hst
      refine hK.out _ _ (trivial) (fun hHeldn => ?_)
      clear hHeld hK K
      have hHeld := hHeldn
      clear hHeldn
      try simp only [Act.put, qA, qB, qC, qD, qE, qF]
      refine gP (i := 12) (v := ?kv43) rfl ?ky43 ?kr43
      case ky43 => (intro w hSw; clear hSw; (try simp only [qA, qB, qC]); go_simp; (try with_reducible rfl))
      try simp only [Act.put, qA, qB, qC, qD, qE, qF]
      refine gP (i := 13) (v := ?kv44) rfl ?ky44 ?kr44
      case ky44 => (intro w hSw; clear hSw; (try simp only [qA, qB, qC]); go_simp; (try with_reducible rfl))
      try simp only [Act.put, qA, qB, qC, qD, qE, qF]
      refine wpAnyF_ready (rs := [14]) (by kernel_rfl) (by simp) ?_
      refine (AllReadyF.last rfl (by kernel_rfl) (fun K hK => ?_) AllReadyF.nil)
      try simp only [qA, qB, qC]
      go_simp
      refine hK.out _ _ (trivial) (fun hHeldn => ?_)
      clear hHeld hK K
      have hHeld := hHeldn
      clear hHeldn
      try simp only [qD, qE, qF]
      refine wpAnyF_done (by kernel_rfl) ?_ _
      have e9 : ys ++ [c] = xs ++ (high x n).take (k + 1) := by rw [← HY.out, List.append_assoc, ← Hs.out]
      rw [e9] at HW
      go_wp2_with fail
      have hjj := Hj.out
      go_roundw
      case rel => exact ⟨k + 1, _, by omega, by congr 1; omega, HW.out⟩
      case measure => simp [Go.RowKit.intOf]
    · have hv : IntKind.u8.wrap ((x : Int) / 16777216) = (c.toNat : Int) := by rw [IntKind.wrap_u8, hc, ofNat_mod]; omega
      have hw : IntKind.i64.wrap 24 = 24 := by decide
      clear hc
      go_upto_region 3 with fail
      refine wp_region_F [11, 14] (S := fun w' => w'.cell? ⟨W, 0, none⟩ = some V ∧ True) (by kernel_rfl) (⟨c0, trivial⟩) (fun hHeld => ?_)
      show wpAnyF _ _ _ _ _ _ 15 #[false, false, false, false, false, false, false, false, false, false, false, false, false, false, false] _ _
      refine gP (i := 0) (v := ?kv46) rfl ?ky46 ?kr46
      case ky46 => (intro w hSw; clear hSw; (try simp only [qA, qB]); go_simp; (try with_reducible rfl))
      try simp only [Act.put, qA, qB, qD, qE, qF]
      refine gF [1, 2, 3, 4, 11, 12, 13, 14] (i := 1) (v := ?kv47) rfl ?ky47 ?kr47
      case ky47 => (intro w hSw; (try dsimp only at hSw); go_split_ands; (try simp only [qA, qB, qC]); go_simp; (try with_reducible rfl))
      try simp only [Act.put, qA, qB, qC, qD, qE, qF]
      refine gF [2, 3, 4, 11, 12, 13, 14] (i := 2) (v := ?kv48) rfl ?ky48 ?kr48
      case ky48 => (intro w hSw; (try dsimp only at hSw); go_split_ands; (try simp only [qA, qB, qC]); go_simp; (try with_reducible rfl))
      try simp only [Act.put, qA, qB, qC, qD, qE, qF]
      refine gF [3, 4, 11, 12, 13, 14] (i := 3) (v := ?kv49) rfl ?ky49 ?kr49
      case ky49 => (intro w hSw; (try dsimp only at hSw); go_split_ands; (try simp only [qA, qB, qC]); go_simp; (try with_reducible rfl))
      try simp only [Act.put, qA, qB, qC, qD, qE, qF]
      refine gF [4, 11, 12, 13, 14] (i := 4) (v := ?kv50) rfl ?ky50 ?kr50
      case ky50 => (intro w hSw; (try dsimp only at hSw); go_split_ands; (try simp only [qA, qB, qC]); go_simp; (try with_reducible rfl))
      try simp only [Act.put, qA, qB, qC, qD, qE, qF]
      refine gF [5, 8, 9, 10, 11, 12, 13, 14] (i := 5) (v := ?kv51) rfl ?ky51 ?kr51
      case ky51 => (intro w hSw; (try dsimp only at hSw); go_split_ands; (try simp only [qA, qB, qC]); go_simp; (try with_reducible rfl))
      try simp only [Act.put, qA, qB, qC, qD, qE, qF]
      refine gF [6, 7, 8, 9, 10, 11, 12, 13, 14] (i := 6) (v := ?kv52) rfl ?ky52 ?kr52
      case ky52 => (intro w hSw; (try dsimp only at hSw); go_split_ands; (try simp only [qA, qB, qC]); go_simp; (try with_reducible rfl))
      try simp only [Act.put, qA, qB, qC, qD, qE, qF]
      refine gF [7, 8, 9, 10, 11, 12, 13, 14] (i := 7) (v := ?kv53) rfl ?ky53 ?kr53
      case ky53 => (intro w hSw; (try dsimp only at hSw); go_split_ands; (try simp only [qA, qB, qC]); go_simp; (try with_reducible rfl))
      try simp only [Act.put, qA, qB, qC, qD, qE, qF]
      refine gF [8, 9, 10, 11, 12, 13, 14] (i := 8) (v := ?kv54) rfl ?ky54 ?kr54
      case ky54 => (intro w hSw; (try dsimp only at hSw); go_split_ands; (try simp only [qA, qB, qC]); go_simp; (try with_reducible rfl))
      try simp only [Act.put, qA, qB, qC, qD, qE, qF]
      refine gF [9, 10, 11, 12, 13, 14] (i := 9) (v := ?kv55) rfl ?ky55 ?kr55
      case ky55 => (intro w hSw; (try dsimp only at hSw); go_split_ands; (try simp only [qA, qB, qC]); go_simp; (try with_reducible rfl))
      try simp only [Act.put, qA, qB, qC, qD, qE, qF]
      refine wpAnyF_ready (rs := [10]) (by kernel_rfl) (by simp) ?_
      refine (AllReadyF.cons rfl (fun K hK => ?_) AllReadyF.nil)
      try simp only [qA, qB, qC]
      go_simp
      refine hK.out _ _ (by exact ⟨f0, trivial⟩) (fun hHeldn => ?_)
      clear hHeld hK K
      have hHeld := hHeldn
      clear hHeldn
      try simp only [qD, qE, qF]
      refine wpAnyF_ready (rs := [11]) (by kernel_rfl) (by simp) ?_
      refine (AllReadyF.last rfl (by kernel_rfl) (fun K hK => ?_) AllReadyF.nil)
      refine step_appOwn rfl _ _ rfl rfl HR.out.1 rfl HR.out.2.1 (by simp) (by show ys.length + 1 < 2000000000; omega) (Nat.zero_le _) ?_; intro g2 cap2 w2 hr2 _ k2 o2; have hst := WtrStep.app HV.out.1.at_ (by decide) HR.out.2.2 hr2 k2 o2; have hmid := HV.out.1.at_.mid (by decide) HR.out.2.2 k2; have q0 := cell_obj hmid 0; have fz := free_obj hmid 0; clear hmid; have hW := HV.out.1.trans hst; have HW := Lib.hid hW; clear hW hst
      refine hK.out _ _ (trivial) (fun hHeldn => ?_)
      clear hHeld hK K
      have hHeld := hHeldn
      clear hHeldn
      try simp only [Act.put, qA, qB, qC, qD, qE, qF]
      refine gP (i := 12) (v := ?kv58) rfl ?ky58 ?kr58
      case ky58 => (intro w hSw; clear hSw; (try simp only [qA, qB, qC]); go_simp; (try with_reducible rfl))
      try simp only [Act.put, qA, qB, qC, qD, qE, qF]
      refine gP (i := 13) (v := ?kv59) rfl ?ky59 ?kr59
      case ky59 => (intro w hSw; clear hSw; (try simp only [qA, qB, qC]); go_simp; (try with_reducible rfl))
      try simp only [Act.put, qA, qB, qC, qD, qE, qF]
      refine wpAnyF_ready (rs := [14]) (by kernel_rfl) (by simp) ?_
      refine (AllReadyF.last rfl (by kernel_rfl) (fun K hK => ?_) AllReadyF.nil)
      try simp only [qA, qB, qC]
      go_simp
      refine hK.out _ _ (trivial) (fun hHeldn => ?_)
      clear hHeld hK K
      have hHeld := hHeldn
      clear hHeldn
      try simp only [qD, qE, qF]
      refine wpAnyF_done (by kernel_rfl) ?_ _
      have e9 : ys ++ [c] = xs ++ (high x n).take (k + 1) := by rw [← HY.out, List.append_assoc, ← Hs.out]
      rw [e9] at HW
      go_wp2_with fail
      have hjj := Hj.out
      go_roundw
      case rel => exact ⟨k + 1, _, by omega, by congr 1; omega, HW.out⟩
      case measure => simp [Go.RowKit.intOf]
  · have hkn : k = n := by omega
    subst hkn
    have hneg : ¬ ((0 : Int) ≤ (k : Int) - 1 - (k : Int)) := by omega
    go_wp2_with fail
    go_end0
    have := HV.out.1
    rw [List.take_of_length_le (by rw [high_length]; exact Nat.le_refl _)] at this
    exact ⟨rfl, V, this⟩
end Go.Proofs.YtbbnejehglonjaaGreat
