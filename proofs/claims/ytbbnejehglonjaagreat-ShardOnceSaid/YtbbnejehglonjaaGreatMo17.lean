/- DERIVED. Contracts and laws that the proofs of this seat share, part 17 of 36: PvA. -/
import Derived.Test.YtbbnejehglonjaaGreatMo00
import Derived.Test.YtbbnejehglonjaaGreatMo09
/- DERIVED. A label's blocks as they lie (vol.Vol); home, anchors. -/
namespace Go.Proofs.YtbbnejehglonjaaGreat
open Go.RowKit
attribute [local irreducible] Calls
set_option maxRecDepth 100000

def volCells (d reg : Nat) (s : Sh) (epoch seq : Nat) (used : Int) (bv : Value) (m : Nat) : Array Value :=
 #[.pointer (some ⟨d, 0, none⟩), .int .i64 reg, .int .i64 s.level, .int .i64 s.cats, .int .i64 s.blocks, .int .i64 s.log, .int .i64 s.frames, .int .u8 (s.lb.toNat : Int), .int .u32 epoch, .int .u32 seq, .int .i64 used, bv, .map (some m)]
def VolO (w : World) (v d reg : Nat) (s : Sh) (epoch seq : Nat) (used : Int) (bv : Value) (m : Nat) : Prop := objAt w v = some (.cells (volCells d reg s epoch seq used bv m) 140 (0, 0))

section
variable {w : World} {v d reg : Nat} {s : Sh} {epoch seq : Nat} {used : Int} {bv : Value} {m : Nat}
theorem VolO.c0 (h : VolO w v d reg s epoch seq used bv m) : w.cell? ⟨v, 0, none⟩ = some (.pointer (some ⟨d, 0, none⟩)) := cell_obj h 0
theorem VolO.c1 (h : VolO w v d reg s epoch seq used bv m) : w.cell? ⟨v, 1, none⟩ = some (.int .i64 reg) := cell_obj h 1
theorem VolO.c2 (h : VolO w v d reg s epoch seq used bv m) : w.cell? ⟨v, 2, none⟩ = some (.int .i64 s.level) := cell_obj h 2
theorem VolO.c3 (h : VolO w v d reg s epoch seq used bv m) : w.cell? ⟨v, 3, none⟩ = some (.int .i64 s.cats) := cell_obj h 3
theorem VolO.c4 (h : VolO w v d reg s epoch seq used bv m) : w.cell? ⟨v, 4, none⟩ = some (.int .i64 s.blocks) := cell_obj h 4
theorem VolO.c5 (h : VolO w v d reg s epoch seq used bv m) : w.cell? ⟨v, 5, none⟩ = some (.int .i64 s.log) := cell_obj h 5
theorem VolO.c6 (h : VolO w v d reg s epoch seq used bv m) : w.cell? ⟨v, 6, none⟩ = some (.int .i64 s.frames) := cell_obj h 6
theorem VolO.c7 (h : VolO w v d reg s epoch seq used bv m) : w.cell? ⟨v, 7, none⟩ = some (.int .u8 (s.lb.toNat : Int)) := cell_obj h 7
theorem VolO.c8 (h : VolO w v d reg s epoch seq used bv m) : w.cell? ⟨v, 8, none⟩ = some (.int .u32 epoch) := cell_obj h 8
theorem VolO.c9 (h : VolO w v d reg s epoch seq used bv m) : w.cell? ⟨v, 9, none⟩ = some (.int .u32 seq) := cell_obj h 9
theorem VolO.c10 (h : VolO w v d reg s epoch seq used bv m) : w.cell? ⟨v, 10, none⟩ = some (.int .i64 used) := cell_obj h 10
theorem VolO.c11 (h : VolO w v d reg s epoch seq used bv m) : w.cell? ⟨v, 11, none⟩ = some (bv) := cell_obj h 11
theorem VolO.c12 (h : VolO w v d reg s epoch seq used bv m) : w.cell? ⟨v, 12, none⟩ = some (.map (some m)) := cell_obj h 12
theorem VolO.free (h : VolO w v d reg s epoch seq used bv m) (i : Nat) : w.frozen? ⟨v, i, none⟩ = false := free_obj h i
end
/-- A device has such a region. -/
def Dv.has (D : Dv) (reg n : Nat) : Prop := ∃ R, D.regs[reg]? = some R ∧ R.seen.length = n
theorem Dv.has_lt {D : Dv} {reg n : Nat} (h : D.has reg n) : reg < D.regs.length := by obtain ⟨R, h, _⟩ := h; exact (List.getElem?_eq_some_iff.1 h).1
theorem Dv.has_set {D : Dv} {reg n k : Nat} {R R' : Reg} {l : Int} (h : D.has reg n) (hk : D.regs[k]? = some R) (hl : R'.seen.length = R.seen.length) : Dv.has ⟨D.regs.set k R', l⟩ reg n := by
 obtain ⟨Q, h1, h2⟩ := h
 by_cases e : k = reg
 · subst e
   rw [hk] at h1
   obtain rfl := Option.some.inj h1
   exact ⟨R', by rw [List.getElem?_set_self (List.getElem?_eq_some_iff.1 hk).1], hl.trans h2⟩
 · exact ⟨Q, by rw [List.getElem?_set_ne e]; exact h1, h2⟩
theorem Dv.has_write {D : Dv} {reg n k i : Nat} {l : List UInt8} (h : D.has reg n) : (D.write k i l).has reg n := by
 unfold Dv.write
 split
 · exact h
 · cases hk : D.regs[k]? with
   | none => exact h
   | some R => exact Dv.has_set h hk (by simp [Reg.write])
theorem Dv.has_barrier {D : Dv} {reg n k : Nat} (h : D.has reg n) : (D.barrier k).has reg n := by
 unfold Dv.barrier
 split
 · exact h
 · cases hk : D.regs[k]? with
   | none => exact h
   | some R => exact Dv.has_set h hk (by simp [Reg.barrier])
/-- What a deed on a device leaves. -/
structure DevStep (S : Nat → Prop) (w w' : World) (d : Nat) (D : Dv) (c : Nat) : Prop where
 keeps : Keeps S w w'
 dev : DevAt w' (grownS S w w') d D c
section
variable {S : Nat → Prop} {w w1 w2 : World} {d : Nat} {L L' : Dv} {c c' : Nat}
theorem DevStep.pre (hb : Below w.heap.size w w1) (h : DevStep S w1 w2 d L c) : DevStep S w w2 d L c :=
 ⟨(Keeps.of_below hb).trans h.keeps, h.dev.mono (fun _ hk => ⟨hk.1, hk.2.imp id (Nat.le_trans hb.size)⟩) (fun _ hk => hk.1) (Nat.le_refl _)⟩
theorem DevStep.trans (h : DevStep S w w1 d L c) (h2 : DevStep (grownS S w w1) w1 w2 d L' c') : DevStep S w w2 d L' c' :=
 ⟨⟨h2.keeps.os.trans h.keeps.os, h2.keeps.tape.trans h.keeps.tape, h2.keeps.output.trans h.keeps.output, Nat.le_trans h.keeps.size h2.keeps.size, fun k hk hn =>
  (h2.keeps.block k (Nat.lt_of_lt_of_le hk h.keeps.size) (fun e => by rcases e.2 with e | e; exact hn e; omega)).trans (h.keeps.block k hk hn)⟩,
  h2.dev.mono (fun k hk => ⟨hk.1, by
   rcases hk.2 with e | e
   · exact e.2
   · exact .inr (Nat.le_trans h.keeps.size e)⟩) (fun k hk => hk.1) (Nat.le_refl _)⟩
theorem DevStep.same (h : DevAt w S d L c) : DevStep S w w d L c := ⟨Keeps.refl _ _, h.mono (grownS_of h.lt (Nat.le_refl _)) (fun _ hk => hk.1) (Nat.le_refl _)⟩
/-- What was there, and is not the device's, is as it was. -/
theorem DevStep.obj (h : DevStep S w w1 d L c) {g : Nat} {o : Obj} (hg : objAt w g = some o) (hS : ¬ S g) : objAt w1 g = some o := h.keeps.obj hg hS
theorem DevStep.not (_h : DevStep S w w1 d L c) {g : Nat} (hg : g < w.heap.size) (hS : ¬ S g) : ¬ grownS S w w1 g := fun e => e.2.elim hS (by omega)
theorem DevStep.more (h : DevStep S w w1 d L c) (hc : c ≤ c') : DevStep S w w1 d L c' := ⟨h.keeps, h.dev.mono (fun _ h => h) (fun _ hk => hk.1) hc⟩
end
/-- A block is written home; the epoch is made sure. -/
def homeD (D : Dv) (reg : Nat) (s : Sh) (a : Nat) (b : Blk) : Dv := D.write reg (2 + s.log + a) (sealB s.lb a b)
def anchorsD (D : Dv) (reg : Nat) (s : Sh) (epoch : Nat) : Dv := (D.write reg (epoch % 2) (anchorB s.lb epoch)).barrier reg
set_option maxHeartbeats 2000000 in
theorem home_any {w : World} {S : Nat → Prop} {v d reg : Nat} {s : Sh} {epoch seq m : Nat} {used : Int} {bv : Value} {D : Dv} {c : Nat} (hs : s.Ok) (hv : VolO w v d reg s epoch seq used bv m) (hd : DevAt w S d D c) (hc : c < 900000) (hL : D.has reg s.size)
 (a : Nat) (b : Blk) (hk : 0 ≤ b.kind ∧ b.kind ≤ 7) (ha : a < s.blocks) :
 Calls Tryz.prog 109 #[.pointer (some ⟨v, 0, none⟩), .int .i64 a, .agg b.cells] w fun e w' => e = .returned (.tuple #[]) ∧ DevStep S w w' d (homeD D reg s a b) (c + 1) := by
 have hX : BlkAt (w.alloc (.cells b.cells 37)) w.heap.size b := BlkAt.alloc_new w b
 have hB0 : Below w.heap.size w (w.alloc (.cells b.cells 37)) := grow_alloc (Below.refl _ _) _
 have hv1 := grow_obj hB0 hv
 have hd1 := hd.below hB0
 obtain ⟨G, hG⟩ : ∃ G, G = w.heap.size := ⟨_, rfl⟩
 obtain ⟨w1, hw1⟩ : ∃ w1, w1 = w.alloc (.cells b.cells 37) := ⟨_, rfl⟩
 rw [← hw1] at hX hB0 hv1 hd1
 rw [← hG] at hX
 have HG := Lib.hid (And.intro hG hw1)
 have c0 := VolO.c0 hv1
 have c1 := VolO.c1 hv1
 have c2 := VolO.c2 hv1
 have c3 := VolO.c3 hv1
 have c4 := VolO.c4 hv1
 have c5 := VolO.c5 hv1
 have c6 := VolO.c6 hv1
 have c7 := VolO.c7 hv1
 have hbk := hX.has
 have hrk := hX.row
 have H1 := Lib.hid (And.intro hX (And.intro hB0 (And.intro hv1 (And.intro hd1 hd))))
 clear hX hB0 hv1 hd1 hd hv hG hw1
 go_enter Tryz.func109, Tryz.ntmps109
 go_upto_region 1 with fail
 rw [← HG.out.2, ← HG.out.1]
 have hS : ∀ w', Below w1.heap.size w1 w' → w'.cell? ⟨v, 7, none⟩ = some (.int .u8 (s.lb.toNat : Int)) ∧ hasBlk w' G = true ∧ rowAt w' G = some b.cells ∧ True := fun w' hb => ⟨grow_cell hb c7, (H1.out.1.below hb (block_lt H1.out.1)).has, (H1.out.1.below hb (block_lt H1.out.1)).row, trivial⟩
 refine wp_region_held_drew (S := fun w' => w'.cell? ⟨v, 7, none⟩ = some (.int .u8 (s.lb.toNat : Int)) ∧ hasBlk w' G = true ∧ rowAt w' G = some b.cells ∧ True) (by kernel_rfl) (hS _ (Below.refl _ _).drew) (fun hHeld => ?_)
 show wpAnyH _ _ _ _ _ 12 #[false, false, false, false, false, false, false, false, false, false, false, false] _ _
 refine gT (i := 0) (v := ?kv1) rfl ?ky1 ?kr1
 case ky1 => (intro w hSw; (try dsimp only at hSw); go_split_ands; (try simp only [qA, qB]); go_simp; (try with_reducible rfl))
 try simp only [Act.put, qA, qB, qD, qE, qF]
 refine gT (i := 1) (v := ?kv2) rfl ?ky2 ?kr2
 case ky2 => (intro w hSw; (try dsimp only at hSw); go_split_ands; (try simp only [qA, qB, qC]); go_simp; (try with_reducible rfl))
 try simp only [Act.put, qA, qB, qC, qD, qE, qF]
 refine gT (i := 2) (v := ?kv3) rfl ?ky3 ?kr3
 case ky3 => (intro w hSw; (try dsimp only at hSw); go_split_ands; (try simp only [qA, qB, qC]); go_simp; (try with_reducible rfl))
 try simp only [Act.put, qA, qB, qC, qD, qE, qF]
 refine gT (i := 3) (v := ?kv4) rfl ?ky4 ?kr4
 case ky4 => (intro w hSw; (try dsimp only at hSw); go_split_ands; (try simp only [qA, qB, qC]); go_simp; (try with_reducible rfl))
 try simp only [Act.put, qA, qB, qC, qD, qE, qF]
 refine gT (i := 4) (v := ?kv5) rfl ?ky5 ?kr5
 case ky5 => (intro w hSw; (try dsimp only at hSw); go_split_ands; (try simp only [qA, qB, qC]); go_simp; (try with_reducible rfl))
 try simp only [Act.put, qA, qB, qC, qD, qE, qF]
 refine gT (i := 5) (v := ?kv6) rfl ?ky6 ?kr6
 case ky6 => (intro w hSw; (try dsimp only at hSw); go_split_ands; (try simp only [qA, qB, qC]); go_simp; (try with_reducible rfl))
 try simp only [Act.put, qA, qB, qC, qD, qE, qF]
 refine wpAnyH_ready (rs := [6]) (by kernel_rfl) (by simp) ?_
 refine (AllReadyH.cons rfl (fun K hK => ?_) AllReadyH.nil)
 try simp only [qA, qB, qC]
 go_simp
 go_at_call 166; refine (Seal_any s.lb a b hk (by have := hs.blocks; omega) _).mono ?_; rintro e x2 ⟨g2, cap2, rfl, hb2, b2⟩; have hx2 : Below w1.heap.size w1 x2 := (Below.refl _ _).drew.trans b2
 refine hK.out _ _ (by exact hS _ hx2) (fun hHeldn => ?_)
 clear hHeld hK K
 have hHeld := hHeldn
 clear hHeldn
 try simp only [qD, qE, qF]
 refine gT (i := 7) (v := ?kv8) rfl ?ky8 ?kr8
 case ky8 => (intro w hSw; (try dsimp only at hSw); go_split_ands; (try simp only [qA, qB, qC]); go_simp; (try with_reducible rfl))
 try simp only [Act.put, qA, qB, qC, qD, qE, qF]
 refine gT (i := 8) (v := ?kv9) rfl ?ky9 ?kr9
 case ky9 => (intro w hSw; (try dsimp only at hSw); go_split_ands; (try simp only [qA, qB, qC]); go_simp; (try with_reducible rfl))
 try simp only [Act.put, qA, qB, qC, qD, qE, qF]
 refine gT (i := 9) (v := ?kv10) rfl ?ky10 ?kr10
 case ky10 => (intro w hSw; (try dsimp only at hSw); go_split_ands; (try simp only [qA, qB, qC]); go_simp; (try with_reducible rfl))
 try simp only [Act.put, qA, qB, qC, qD, qE, qF]
 refine gT (i := 10) (v := ?kv11) rfl ?ky11 ?kr11
 case ky11 => (intro w hSw; (try dsimp only at hSw); go_split_ands; (try simp only [qA, qB, qC]); go_simp; (try with_reducible rfl))
 try simp only [Act.put, qA, qB, qC, qD, qE, qF]
 refine gT (i := 11) (v := ?kv12) rfl ?ky12 ?kr12
 case ky12 => (intro w hSw; (try dsimp only at hSw); go_split_ands; (try simp only [qA, qB, qC]); go_simp; (try with_reducible rfl))
 try simp only [Act.put, qA, qB, qC, qD, qE, qF]
 refine wpAnyH_done (by kernel_rfl) ?_ _
 have hv2 := grow_obj hx2 H1.out.2.2.1
 have hd2 := H1.out.2.2.2.1.below hx2
 have H2 := Lib.hid (And.intro hv2 (And.intro hd2 (And.intro (H1.out.2.1.trans (hx2.mono H1.out.2.1.size)) hb2)))
 clear hS hHeld c0 c1 c2 c3 c4 c5 c6 c7 hbk hrk b2
 have c0 := VolO.c0 hv2
 have c1 := VolO.c1 hv2
 have c2 := VolO.c2 hv2
 have c3 := VolO.c3 hv2
 have c4 := VolO.c4 hv2
 have c5 := VolO.c5 hv2
 have c6 := VolO.c6 hv2
 clear hv2 hd2 hb2
 go_upto_region 2 with fail
 have hS : ∀ w', Below x2.heap.size x2 w' → w'.cell? ⟨v, 0, none⟩ = some (.pointer (some ⟨d, 0, none⟩)) ∧ w'.cell? ⟨v, 1, none⟩ = some (.int .i64 reg) ∧ w'.cell? ⟨v, 2, none⟩ = some (.int .i64 s.level) ∧ w'.cell? ⟨v, 3, none⟩ = some (.int .i64 s.cats) ∧ w'.cell? ⟨v, 4, none⟩ = some (.int .i64 s.blocks) ∧ w'.cell? ⟨v, 5, none⟩ = some (.int .i64 s.log) ∧ w'.cell? ⟨v, 6, none⟩ = some (.int .i64 s.frames) ∧ True :=
  fun w' hb => ⟨grow_cell hb c0, grow_cell hb c1, grow_cell hb c2, grow_cell hb c3, grow_cell hb c4, grow_cell hb c5, grow_cell hb c6, trivial⟩
 refine wp_region_F [15] (S := fun w' => w'.cell? ⟨v, 0, none⟩ = some (.pointer (some ⟨d, 0, none⟩)) ∧ w'.cell? ⟨v, 1, none⟩ = some (.int .i64 reg) ∧ w'.cell? ⟨v, 2, none⟩ = some (.int .i64 s.level) ∧ w'.cell? ⟨v, 3, none⟩ = some (.int .i64 s.cats) ∧ w'.cell? ⟨v, 4, none⟩ = some (.int .i64 s.blocks) ∧ w'.cell? ⟨v, 5, none⟩ = some (.int .i64 s.log) ∧ w'.cell? ⟨v, 6, none⟩ = some (.int .i64 s.frames) ∧ True) (by kernel_rfl) (hS _ (Below.refl _ _).drew) (fun hHeld => ?_)
 show wpAnyF _ _ _ _ _ _ 16 #[false, false, false, false, false, false, false, false, false, false, false, false, false, false, false, false] _ _
 refine gF [0, 1, 2, 3, 15] (i := 0) (v := ?kv13) rfl ?ky13 ?kr13
 case ky13 => (intro w hSw; (try dsimp only at hSw); go_split_ands; (try simp only [qA, qB]); go_simp; (try with_reducible rfl))
 try simp only [Act.put, qA, qB, qD, qE, qF]
 refine gF [1, 2, 3, 15] (i := 1) (v := ?kv14) rfl ?ky14 ?kr14
 case ky14 => (intro w hSw; (try dsimp only at hSw); go_split_ands; (try simp only [qA, qB, qC]); go_simp; (try with_reducible rfl))
 try simp only [Act.put, qA, qB, qC, qD, qE, qF]
 refine gF [2, 3, 15] (i := 2) (v := ?kv15) rfl ?ky15 ?kr15
 case ky15 => (intro w hSw; (try dsimp only at hSw); go_split_ands; (try simp only [qA, qB, qC]); go_simp; (try with_reducible rfl))
 try simp only [Act.put, qA, qB, qC, qD, qE, qF]
 refine gF [3, 15] (i := 3) (v := ?kv16) rfl ?ky16 ?kr16
 case ky16 => (intro w hSw; (try dsimp only at hSw); go_split_ands; (try simp only [qA, qB, qC]); go_simp; (try with_reducible rfl))
 try simp only [Act.put, qA, qB, qC, qD, qE, qF]
 refine gF [4, 5, 6, 7, 15] (i := 4) (v := ?kv17) rfl ?ky17 ?kr17
 case ky17 => (intro w hSw; (try dsimp only at hSw); go_split_ands; (try simp only [qA, qB, qC]); go_simp; (try with_reducible rfl))
 try simp only [Act.put, qA, qB, qC, qD, qE, qF]
 refine gF [5, 6, 7, 15] (i := 5) (v := ?kv18) rfl ?ky18 ?kr18
 case ky18 => (intro w hSw; (try dsimp only at hSw); go_split_ands; (try simp only [qA, qB, qC]); go_simp; (try with_reducible rfl))
 try simp only [Act.put, qA, qB, qC, qD, qE, qF]
 refine gF [6, 7, 15] (i := 6) (v := ?kv19) rfl ?ky19 ?kr19
 case ky19 => (intro w hSw; (try dsimp only at hSw); go_split_ands; (try simp only [qA, qB, qC]); go_simp; (try with_reducible rfl))
 try simp only [Act.put, qA, qB, qC, qD, qE, qF]
 refine gF [7, 15] (i := 7) (v := ?kv20) rfl ?ky20 ?kr20
 case ky20 => (intro w hSw; (try dsimp only at hSw); go_split_ands; (try simp only [qA, qB, qC]); go_simp; (try with_reducible rfl))
 try simp only [Act.put, qA, qB, qC, qD, qE, qF]
 refine gF [8, 9, 10, 11, 13, 15] (i := 8) (v := ?kv21) rfl ?ky21 ?kr21
 case ky21 => (intro w hSw; (try dsimp only at hSw); go_split_ands; (try simp only [qA, qB, qC]); go_simp; (try with_reducible rfl))
 try simp only [Act.put, qA, qB, qC, qD, qE, qF]
 refine gF [9, 10, 11, 13, 15] (i := 9) (v := ?kv22) rfl ?ky22 ?kr22
 case ky22 => (intro w hSw; (try dsimp only at hSw); go_split_ands; (try simp only [qA, qB, qC]); go_simp; (try with_reducible rfl))
 try simp only [Act.put, qA, qB, qC, qD, qE, qF]
 refine gF [10, 11, 13, 15] (i := 10) (v := ?kv23) rfl ?ky23 ?kr23
 case ky23 => (intro w hSw; (try dsimp only at hSw); go_split_ands; (try simp only [qA, qB, qC]); go_simp; (try with_reducible rfl))
 try simp only [Act.put, qA, qB, qC, qD, qE, qF]
 refine gF [11, 13, 15] (i := 11) (v := ?kv24) rfl ?ky24 ?kr24
 case ky24 => (intro w hSw; (try dsimp only at hSw); go_split_ands; (try simp only [qA, qB, qC]); go_simp; (try with_reducible rfl))
 try simp only [Act.put, qA, qB, qC, qD, qE, qF]
 refine gF [12, 13, 15] (i := 12) (v := ?kv25) rfl ?ky25 ?kr25
 case ky25 => (intro w hSw; (try dsimp only at hSw); go_split_ands; (try simp only [qA, qB, qC]); go_simp; (try with_reducible rfl))
 try simp only [Act.put, qA, qB, qC, qD, qE, qF]
 refine gF [14, 15] (i := 14) (v := ?kv26) rfl ?ky26 ?kr26
 case ky26 => (intro w hSw; (try dsimp only at hSw); go_split_ands; (try simp only [qA, qB, qC]); go_simp; (try with_reducible rfl))
 try simp only [Act.put, qA, qB, qC, qD, qE, qF]
 refine wpAnyF_ready (rs := [13]) (by kernel_rfl) (by simp) ?_
 refine (AllReadyF.cons rfl (fun K hK => ?_) AllReadyF.nil)
 try simp only [qA, qB, qC]
 go_simp
 go_at_call 167; refine (Home_any s hs a ha _).mono ?_; rintro e x3 ⟨rfl, b3⟩; have hx3 : Below x2.heap.size x2 x3 := (Below.refl _ _).drew.trans b3; have H3 := Lib.hid (And.intro hx3 (And.intro (H2.out.2.1.below hx3) (H2.out.2.2.2.below hx3)))
 refine hK.out _ _ (by exact hS _ hx3) (fun hHeldn => ?_)
 clear hHeld hK K
 have hHeld := hHeldn
 clear hHeldn
 try simp only [qD, qE, qF]
 refine wpAnyF_ready (rs := [15]) (by kernel_rfl) (by simp) ?_
 refine (AllReadyF.last rfl (by kernel_rfl) (fun K hK => ?_) AllReadyF.nil)
 try simp only [qA, qB, qC]
 go_simp
 go_at_call 122; refine (Write_in H3.out.2.1 hc hL (2 + s.log + a) (by unfold Sh.size; omega) (sealB_length _ _ _) H3.out.2.2).mono ?_; rintro e x4 ⟨rfl, hk4, hd4⟩
 refine hK.out _ _ (trivial) (fun hHeldn => ?_)
 clear hHeld hK K
 have hHeld := hHeldn
 clear hHeldn
 try simp only [qD, qE, qF]
 refine wpAnyF_done (by kernel_rfl) ?_ _
 go_end0
 have hx3 := H2.out.2.2.1.trans (H3.out.1.mono H2.out.2.2.1.size)
 exact ⟨rfl, DevStep.pre hx3 ⟨hk4, hd4⟩⟩

set_option maxHeartbeats 2000000 in
theorem anchors_any {w : World} {S : Nat → Prop} {v d reg : Nat} {s : Sh} {epoch seq m : Nat} {used : Int} {bv : Value} {D : Dv} {c : Nat} (hv : VolO w v d reg s epoch seq used bv m) (hvS : ¬ S v) (hd : DevAt w S d D c) (hc : c < 800000) {n : Nat} (hL : D.has reg n) (hn : 2 ≤ n) (he : epoch < 4294967296) :
 Calls Tryz.prog 111 #[.pointer (some ⟨v, 0, none⟩)] w fun e w' => e = .returned (.tuple #[]) ∧ DevStep S w w' d (anchorsD D reg s epoch) (c + 2) := by
 have c0 := VolO.c0 hv
 have c1 := VolO.c1 hv
 have c4 := VolO.c8 hv
 have c7 := VolO.c7 hv
 have H1 := Lib.hid (And.intro hv (And.intro hvS hd))
 clear hv hvS hd
 have hS : ∀ w', Below w.heap.size w w' → w'.cell? ⟨v, 0, none⟩ = some (.pointer (some ⟨d, 0, none⟩)) ∧ w'.cell? ⟨v, 1, none⟩ = some (.int .i64 reg) ∧ w'.cell? ⟨v, 7, none⟩ = some (.int .u8 (s.lb.toNat : Int)) ∧ w'.cell? ⟨v, 8, none⟩ = some (.int .u32 epoch) ∧ True :=
  fun w' hb => ⟨grow_cell hb c0, grow_cell hb c1, grow_cell hb c7, grow_cell hb c4, trivial⟩
 go_enter Tryz.func111, Tryz.ntmps111
 go_upto_region 0 with fail
 refine wp_region_F [22] (S := fun w' => w'.cell? ⟨v, 0, none⟩ = some (.pointer (some ⟨d, 0, none⟩)) ∧ w'.cell? ⟨v, 1, none⟩ = some (.int .i64 reg) ∧ w'.cell? ⟨v, 7, none⟩ = some (.int .u8 (s.lb.toNat : Int)) ∧ w'.cell? ⟨v, 8, none⟩ = some (.int .u32 epoch) ∧ True) (by kernel_rfl) (hS _ (Below.refl _ _).drew) (fun hHeld => ?_)
 show wpAnyF _ _ _ _ _ _ 23 #[false, false, false, false, false, false, false, false, false, false, false, false, false, false, false, false, false, false, false, false, false, false, false] _ _
 refine gF [0, 1, 2, 3, 22] (i := 0) (v := ?kv29) rfl ?ky29 ?kr29
 case ky29 => (intro w hSw; (try dsimp only at hSw); go_split_ands; (try simp only [qA, qB]); go_simp; (try with_reducible rfl))
 try simp only [Act.put, qA, qB, qD, qE, qF]
 refine gF [1, 2, 3, 22] (i := 1) (v := ?kv30) rfl ?ky30 ?kr30
 case ky30 => (intro w hSw; (try dsimp only at hSw); go_split_ands; (try simp only [qA, qB, qC]); go_simp; (try with_reducible rfl))
 try simp only [Act.put, qA, qB, qC, qD, qE, qF]
 refine gF [2, 3, 22] (i := 2) (v := ?kv31) rfl ?ky31 ?kr31
 case ky31 => (intro w hSw; (try dsimp only at hSw); go_split_ands; (try simp only [qA, qB, qC]); go_simp; (try with_reducible rfl))
 try simp only [Act.put, qA, qB, qC, qD, qE, qF]
 refine gF [3, 22] (i := 3) (v := ?kv32) rfl ?ky32 ?kr32
 case ky32 => (intro w hSw; (try dsimp only at hSw); go_split_ands; (try simp only [qA, qB, qC]); go_simp; (try with_reducible rfl))
 try simp only [Act.put, qA, qB, qC, qD, qE, qF]
 refine gF [4, 5, 6, 7, 22] (i := 4) (v := ?kv33) rfl ?ky33 ?kr33
 case ky33 => (intro w hSw; (try dsimp only at hSw); go_split_ands; (try simp only [qA, qB, qC]); go_simp; (try with_reducible rfl))
 try simp only [Act.put, qA, qB, qC, qD, qE, qF]
 refine gF [5, 6, 7, 22] (i := 5) (v := ?kv34) rfl ?ky34 ?kr34
 case ky34 => (intro w hSw; (try dsimp only at hSw); go_split_ands; (try simp only [qA, qB, qC]); go_simp; (try with_reducible rfl))
 try simp only [Act.put, qA, qB, qC, qD, qE, qF]
 refine gF [6, 7, 22] (i := 6) (v := ?kv35) rfl ?ky35 ?kr35
 case ky35 => (intro w hSw; (try dsimp only at hSw); go_split_ands; (try simp only [qA, qB, qC]); go_simp; (try with_reducible rfl))
 try simp only [Act.put, qA, qB, qC, qD, qE, qF]
 refine gF [7, 22] (i := 7) (v := ?kv36) rfl ?ky36 ?kr36
 case ky36 => (intro w hSw; (try dsimp only at hSw); go_split_ands; (try simp only [qA, qB, qC]); go_simp; (try with_reducible rfl))
 try simp only [Act.put, qA, qB, qC, qD, qE, qF]
 refine gF [8, 9, 10, 11, 12, 21, 22] (i := 8) (v := ?kv37) rfl ?ky37 ?kr37
 case ky37 => (intro w hSw; (try dsimp only at hSw); go_split_ands; (try simp only [qA, qB, qC]); go_simp; (try with_reducible rfl))
 try simp only [Act.put, qA, qB, qC, qD, qE, qF]
 refine gF [9, 10, 11, 12, 21, 22] (i := 9) (v := ?kv38) rfl ?ky38 ?kr38
 case ky38 => (intro w hSw; (try dsimp only at hSw); go_split_ands; (try simp only [qA, qB, qC]); go_simp; (try with_reducible rfl))
 try simp only [Act.put, qA, qB, qC, qD, qE, qF]
 refine gF [10, 11, 12, 21, 22] (i := 10) (v := ?kv39) rfl ?ky39 ?kr39
 case ky39 => (intro w hSw; (try dsimp only at hSw); go_split_ands; (try simp only [qA, qB, qC]); go_simp; (try with_reducible rfl))
 try simp only [Act.put, qA, qB, qC, qD, qE, qF]
 refine gF [11, 12, 21, 22] (i := 11) (v := ?kv40) rfl ?ky40 ?kr40
 case ky40 => (intro w hSw; (try dsimp only at hSw); go_split_ands; (try simp only [qA, qB, qC]); go_simp; (try with_reducible rfl))
 try simp only [Act.put, qA, qB, qC, qD, qE, qF]
 refine gF [13, 14, 15, 16, 21, 22] (i := 13) (v := ?kv41) rfl ?ky41 ?kr41
 case ky41 => (intro w hSw; (try dsimp only at hSw); go_split_ands; (try simp only [qA, qB, qC]); go_simp; (try with_reducible rfl))
 try simp only [Act.put, qA, qB, qC, qD, qE, qF]
 refine gF [14, 15, 16, 21, 22] (i := 14) (v := ?kv42) rfl ?ky42 ?kr42
 case ky42 => (intro w hSw; (try dsimp only at hSw); go_split_ands; (try simp only [qA, qB, qC]); go_simp; (try with_reducible rfl))
 try simp only [Act.put, qA, qB, qC, qD, qE, qF]
 refine gF [15, 16, 21, 22] (i := 15) (v := ?kv43) rfl ?ky43 ?kr43
 case ky43 => (intro w hSw; (try dsimp only at hSw); go_split_ands; (try simp only [qA, qB, qC]); go_simp; (try with_reducible rfl))
 try simp only [Act.put, qA, qB, qC, qD, qE, qF]
 refine gF [16, 21, 22] (i := 16) (v := ?kv44) rfl ?ky44 ?kr44
 case ky44 => (intro w hSw; (try dsimp only at hSw); go_split_ands; (try simp only [qA, qB, qC]); go_simp; (try with_reducible rfl))
 try simp only [Act.put, qA, qB, qC, qD, qE, qF]
 refine gF [17, 18, 19, 20, 21, 22] (i := 17) (v := ?kv45) rfl ?ky45 ?kr45
 case ky45 => (intro w hSw; (try dsimp only at hSw); go_split_ands; (try simp only [qA, qB, qC]); go_simp; (try with_reducible rfl))
 try simp only [Act.put, qA, qB, qC, qD, qE, qF]
 refine gF [18, 19, 20, 21, 22] (i := 18) (v := ?kv46) rfl ?ky46 ?kr46
 case ky46 => (intro w hSw; (try dsimp only at hSw); go_split_ands; (try simp only [qA, qB, qC]); go_simp; (try with_reducible rfl))
 try simp only [Act.put, qA, qB, qC, qD, qE, qF]
 refine gF [19, 20, 21, 22] (i := 19) (v := ?kv47) rfl ?ky47 ?kr47
 case ky47 => (intro w hSw; (try dsimp only at hSw); go_split_ands; (try simp only [qA, qB, qC]); go_simp; (try with_reducible rfl))
 try simp only [Act.put, qA, qB, qC, qD, qE, qF]
 refine gF [20, 21, 22] (i := 20) (v := ?kv48) rfl ?ky48 ?kr48
 case ky48 => (intro w hSw; (try dsimp only at hSw); go_split_ands; (try simp only [qA, qB, qC]); go_simp; (try with_reducible rfl))
 try simp only [Act.put, qA, qB, qC, qD, qE, qF]
 refine wpAnyF_ready (rs := [12]) (by kernel_rfl) (by simp) ?_
 refine (AllReadyF.cons rfl (fun K hK => ?_) AllReadyF.nil)
 try simp only [qA, qB, qC]
 go_simp
 go_at_call 169; refine (Anchor_any epoch _).mono ?_; rintro e x1 ⟨rfl, hx1⟩; obtain rfl := hx1.symm
 refine hK.out _ _ (by exact hS _ (Below.refl _ _).drew) (fun hHeldn => ?_)
 clear hHeld hK K
 have hHeld := hHeldn
 clear hHeldn
 try simp only [qD, qE, qF]
 refine wpAnyF_ready (rs := [21]) (by kernel_rfl) (by simp) ?_
 refine (AllReadyF.cons rfl (fun K hK => ?_) AllReadyF.nil)
 try simp only [qA, qB, qC]
 go_simp
 go_at_call 170; refine (Anchor_epoch s.lb epoch he _).mono ?_; rintro e x2 ⟨v2, rfl, hb2, b2⟩; have hx2 : Below w.heap.size w x2 := (Below.refl _ _).drew.trans b2; obtain ⟨g2, cap2, rfl, _, _⟩ := hb2.form (by rw [anchorB_length]; decide); rw [anchorB_length] at hb2 ⊢; have H2 := Lib.hid (And.intro hx2 (And.intro (H1.out.2.2.below hx2) hb2))
 refine hK.out _ _ (by exact hS _ hx2) (fun hHeldn => ?_)
 clear hHeld hK K
 have hHeld := hHeldn
 clear hHeldn
 try simp only [qD, qE, qF]
 refine wpAnyF_ready (rs := [22]) (by kernel_rfl) (by simp) ?_
 refine (AllReadyF.last rfl (by kernel_rfl) (fun K hK => ?_) AllReadyF.nil)
 try simp only [qA, qB, qC]
 go_simp
 go_at_call 122; refine (Write_in H2.out.2.1 (by omega) hL (epoch % 2) (by omega) (anchorB_length _ _) H2.out.2.2).mono ?_; rintro e x3 ⟨rfl, hk3, hd3⟩
 refine hK.out _ _ (trivial) (fun hHeldn => ?_)
 clear hHeld hK K
 have hHeld := hHeldn
 clear hHeldn
 try simp only [qD, qE, qF]
 refine wpAnyF_done (by kernel_rfl) ?_ _
 have hst := DevStep.pre H2.out.1 ⟨hk3, hd3⟩
 have hv3 : VolO x3 v d reg s epoch seq used bv m := hst.obj H1.out.1 H1.out.2.1
 have d0 := VolO.c0 hv3
 have d1 := VolO.c1 hv3
 have H3 := Lib.hid hst
 clear hst hk3 hd3 hv3 hS c0 c1 c4 c7 hHeld
 go_upto_region 1 with fail
 refine wp_region_F [8] (S := fun w' => w'.cell? ⟨v, 0, none⟩ = some (.pointer (some ⟨d, 0, none⟩)) ∧ w'.cell? ⟨v, 1, none⟩ = some (.int .i64 reg) ∧ True) (by kernel_rfl) (⟨d0, d1, trivial⟩) (fun hHeld => ?_)
 show wpAnyF _ _ _ _ _ _ 9 #[false, false, false, false, false, false, false, false, false] _ _
 refine gF [0, 1, 2, 3, 8] (i := 0) (v := ?kv52) rfl ?ky52 ?kr52
 case ky52 => (intro w hSw; (try dsimp only at hSw); go_split_ands; (try simp only [qA, qB]); go_simp; (try with_reducible rfl))
 try simp only [Act.put, qA, qB, qD, qE, qF]
 refine gF [1, 2, 3, 8] (i := 1) (v := ?kv53) rfl ?ky53 ?kr53
 case ky53 => (intro w hSw; (try dsimp only at hSw); go_split_ands; (try simp only [qA, qB, qC]); go_simp; (try with_reducible rfl))
 try simp only [Act.put, qA, qB, qC, qD, qE, qF]
 refine gF [2, 3, 8] (i := 2) (v := ?kv54) rfl ?ky54 ?kr54
 case ky54 => (intro w hSw; (try dsimp only at hSw); go_split_ands; (try simp only [qA, qB, qC]); go_simp; (try with_reducible rfl))
 try simp only [Act.put, qA, qB, qC, qD, qE, qF]
 refine gF [3, 8] (i := 3) (v := ?kv55) rfl ?ky55 ?kr55
 case ky55 => (intro w hSw; (try dsimp only at hSw); go_split_ands; (try simp only [qA, qB, qC]); go_simp; (try with_reducible rfl))
 try simp only [Act.put, qA, qB, qC, qD, qE, qF]
 refine gF [4, 5, 6, 7, 8] (i := 4) (v := ?kv56) rfl ?ky56 ?kr56
 case ky56 => (intro w hSw; (try dsimp only at hSw); go_split_ands; (try simp only [qA, qB, qC]); go_simp; (try with_reducible rfl))
 try simp only [Act.put, qA, qB, qC, qD, qE, qF]
 refine gF [5, 6, 7, 8] (i := 5) (v := ?kv57) rfl ?ky57 ?kr57
 case ky57 => (intro w hSw; (try dsimp only at hSw); go_split_ands; (try simp only [qA, qB, qC]); go_simp; (try with_reducible rfl))
 try simp only [Act.put, qA, qB, qC, qD, qE, qF]
 refine gF [6, 7, 8] (i := 6) (v := ?kv58) rfl ?ky58 ?kr58
 case ky58 => (intro w hSw; (try dsimp only at hSw); go_split_ands; (try simp only [qA, qB, qC]); go_simp; (try with_reducible rfl))
 try simp only [Act.put, qA, qB, qC, qD, qE, qF]
 refine gF [7, 8] (i := 7) (v := ?kv59) rfl ?ky59 ?kr59
 case ky59 => (intro w hSw; (try dsimp only at hSw); go_split_ands; (try simp only [qA, qB, qC]); go_simp; (try with_reducible rfl))
 try simp only [Act.put, qA, qB, qC, qD, qE, qF]
 refine wpAnyF_ready (rs := [8]) (by kernel_rfl) (by simp) ?_
 refine (AllReadyF.last rfl (by kernel_rfl) (fun K hK => ?_) AllReadyF.nil)
 try simp only [qA, qB, qC]
 go_simp
 go_at_call 110; refine (Barrier_in (H3.out.dev.below (Below.refl _ _).drew) (by omega) (Dv.has_lt (Dv.has_write hL))).mono ?_; rintro e x4 ⟨rfl, hk4, hd4⟩
 refine hK.out _ _ (trivial) (fun hHeldn => ?_)
 clear hHeld hK K
 have hHeld := hHeldn
 clear hHeldn
 try simp only [qD, qE, qF]
 refine wpAnyF_done (by kernel_rfl) ?_ _
 go_end0
 exact ⟨rfl, H3.out.trans (DevStep.pre (Below.refl _ _).drew ⟨hk4, hd4⟩)⟩
end Go.Proofs.YtbbnejehglonjaaGreat
