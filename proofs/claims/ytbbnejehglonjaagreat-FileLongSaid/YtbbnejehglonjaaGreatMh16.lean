/- DERIVED. Contracts and laws that the proofs of this seat share, part 16 of 36: LibFo IxE EnA EnP EnB InD PvA. -/
import Derived.Lib.ConvBytes
import Derived.Test.YtbbnejehglonjaaGreatMh00
import Derived.Test.YtbbnejehglonjaaGreatMh04
import Derived.Test.YtbbnejehglonjaaGreatMh05
import Derived.Test.YtbbnejehglonjaaGreatMh06
import Derived.Test.YtbbnejehglonjaaGreatMh07
import Derived.Test.YtbbnejehglonjaaGreatMh09
import Derived.Test.YtbbnejehglonjaaGreatMh10
import Derived.Test.YtbbnejehglonjaaGreatMh11
import Derived.Test.YtbbnejehglonjaaGreatMh14
import Derived.Test.YtbbnejehglonjaaGreatMh15
namespace Go.Proofs.YtbbnejehglonjaaGreat
set_option maxHeartbeats 8000000
set_option maxRecDepth 100000
set_option linter.unusedSimpArgs false
set_option linter.unusedVariables false
section
open Go.RowKit

theorem zero_both {z a b : Nat} (hz : z = 0) : z * a = z * b := by subst hz; rw [Nat.zero_mul, Nat.zero_mul]

theorem fz_scale (x : Nat) (h : x < 9007199254740992) : ∃ m i, Ieee.double.read (floatOfInt .f64 (x : Int)) = .number false m i ∧ -1074 ≤ i ∧ m * 2 ^ (i + 1074).toNat = x * 2 ^ 1074 := by
 by_cases h0 : x = 0
 · have hr0 : Ieee.double.read (floatOfInt .f64 (x : Int)) = .number false x (-1074) := by subst h0; exact read_fz0
   exact ⟨x, -1074, hr0, by omega, zero_both h0⟩
 · have hr := read_fz (x : Int) (by omega) (by simpa using h)
   rw [show ((x : Int)).natAbs = x by simp] at hr
   have hl := log2_lt53 h0 h
   refine ⟨_, _, by rw [hr, decide_eq_false (show ¬ (x : Int) < 0 by omega)], by omega, ?_⟩
   rw [show ((x.log2 : Int) - 52 + 1074).toNat = x.log2 + 1022 by omega, Nat.mul_assoc, ← Nat.pow_add, show 52 - x.log2 + (x.log2 + 1022) = 1074 by omega]
theorem scale_lt {m n : Nat} {i j : Int} {x y : Nat} (hi : -1074 ≤ i) (hj : -1074 ≤ j) (h1 : m * 2 ^ (i + 1074).toNat = x * 2 ^ 1074) (h2 : n * 2 ^ (j + 1074).toNat = y * 2 ^ 1074) :
 (m * 2 ^ (i - min i j).toNat < n * 2 ^ (j - min i j).toNat ↔ x < y) := by
 have hb : -1074 ≤ min i j := by omega
 obtain ⟨c, hc⟩ : ∃ c : Nat, min i j + 1074 = c := ⟨(min i j + 1074).toNat, by omega⟩
 have e1 : (i + 1074).toNat = (i - min i j).toNat + c := by omega
 have e2 : (j + 1074).toNat = (j - min i j).toNat + c := by omega
 rw [e1, Nat.pow_add, ← Nat.mul_assoc] at h1
 rw [e2, Nat.pow_add, ← Nat.mul_assoc] at h2
 have hp : 0 < 2 ^ c := Nat.two_pow_pos c
 have hq : 0 < 2 ^ 1074 := Nat.two_pow_pos 1074
 rw [← Nat.mul_lt_mul_right hp, h1, h2, Nat.mul_lt_mul_right hq]
theorem ord_fz (x y : Nat) (hx : x < 9007199254740992) (hy : y < 9007199254740992) :
 (FloatKind.f64.format.order (floatOfInt .f64 (x : Int)) (floatOfInt .f64 (y : Int)) == some .lt) = decide (x < y) := by
 obtain ⟨m, i, hr1, hi, h1⟩ := fz_scale x hx
 obtain ⟨n, j, hr2, hj, h2⟩ := fz_scale y hy
 have hlt := scale_lt hi hj h1 h2
 have ho : Ieee.double.order (floatOfInt .f64 (x : Int)) (floatOfInt .f64 (y : Int)) = some (compare ((m * 2 ^ (i - min i j).toNat : Nat) : Int) ((n * 2 ^ (j - min i j).toNat : Nat) : Int)) := by
  unfold Ieee.Format.order
  rw [hr1, hr2]
  unfold Ieee.Datum.order Ieee.signed
  simp only [Bool.false_eq_true, if_false, Nat.shiftLeft_eq]
 show (Ieee.double.order _ _ == some .lt) = _
 rw [ho]
 by_cases h : x < y
 · rw [decide_eq_true h, show compare ((m * 2 ^ (i - min i j).toNat : Nat) : Int) ((n * 2 ^ (j - min i j).toNat : Nat) : Int) = .lt from Int.compare_eq_lt.2 (by have := hlt.2 h; omega)]; rfl
 · rw [decide_eq_false h]
   cases hc : compare ((m * 2 ^ (i - min i j).toNat : Nat) : Int) ((n * 2 ^ (j - min i j).toNat : Nat) : Int) with
   | lt => exact absurd (hlt.1 (by have := Int.compare_eq_lt.1 hc; omega)) h
   | eq => rfl
   | gt => rfl
end
section
open Go.RowKit
attribute [local irreducible] Calls

theorem pcEnd_gt {a b : Nat} (h : a < b) : a < pcEnd a b ∧ pcEnd a b ≤ b := by
 unfold pcEnd
 constructor
 · rw [Nat.lt_min]; exact ⟨h, by omega⟩
 · exact Nat.min_le_left _ _
def pieces (a b : Nat) : List Pc := if _ : a < b then pcOf a b :: pieces (pcEnd a b) b else []
termination_by b - a
decreasing_by have := pcEnd_gt ‹a < b›; omega
theorem pieces_step {a b : Nat} (h : a < b) : pieces a b = pcOf a b :: pieces (pcEnd a b) b := by rw [pieces, dif_pos h]
theorem pieces_done {a b : Nat} (h : ¬ a < b) : pieces a b = [] := by rw [pieces, dif_neg h]
theorem pieces_length (b : Nat) : ∀ (m a : Nat), b - a = m → (pieces a b).length ≤ b - a := by
 intro m
 induction m using Nat.strongRecOn with
 | _ m ih =>
   intro a hm
   by_cases h : a < b
   · have := pcEnd_gt h
     rw [pieces_step h, List.length_cons]
     have := ih (b - pcEnd a b) (by omega) (pcEnd a b) rfl
     omega
   · rw [pieces_done h]; exact Nat.zero_le _
theorem elemPieceK : ElemK Tryz.prog 171 174 3 24 := ElemK.mk' (z := .agg #[.int .i64 0, .int .i64 0, .int .i64 0]) Tryz.underlying171 (by kernel_rfl) rfl (by decide) (by decide)
def PcEl (_ : World) (p : Pc) (c : List Value) : Prop := c = p.cells.toList
abbrev PcRow (w : World) (S : Nat → Prop) (v : Value) (l : List Pc) : Prop := RowG w S 174 3 PcEl v l
theorem xPieces_no (off n : Int) (w : World) (h : off < 0 ∨ n < 0 ∨ 1120 < off ∨ 1120 - off < n) (h1 : -1000000 < off ∧ off < 1000000) : Calls Tryz.prog 85 #[.int .i64 off, .int .i64 n] w fun e w' => e = .returned (.slice none 0 0) ∧ w' = w := by
 by_cases c1 : off < 0
 · clear h
   go_enter Tryz.func85, Tryz.ntmps85
   go_wp2_with fail
   refine wp_scope_labels (fun _ _ _ => False) (fun l _ _ => l) (fun _ _ _ h => h.elim) (fun _ _ _ _ h => h.elim) ?_
   intro _
   go_wp2_with fail
   try rw [jumps_ret]
   refine bodyPost_ret (results_one rfl (resOne_tmp _ _ _)) rfl ?_
   exact ⟨rfl, rfl⟩
 · by_cases c2 : n < 0
   · clear h
     go_enter Tryz.func85, Tryz.ntmps85
     go_wp2_with fail
     refine wp_scope_labels (fun _ _ _ => False) (fun l _ _ => l) (fun _ _ _ h => h.elim) (fun _ _ _ _ h => h.elim) ?_
     intro _
     go_wp2_with fail
     try rw [jumps_ret]
     refine bodyPost_ret (results_one rfl (resOne_tmp _ _ _)) rfl ?_
     exact ⟨rfl, rfl⟩
   · by_cases c3 : 1120 < off
     · clear h
       go_enter Tryz.func85, Tryz.ntmps85
       go_wp2_with fail
       refine wp_scope_labels (fun _ _ _ => False) (fun l _ _ => l) (fun _ _ _ h => h.elim) (fun _ _ _ _ h => h.elim) ?_
       intro _
       go_wp2_with fail
       try rw [jumps_ret]
       refine bodyPost_ret (results_one rfl (resOne_tmp _ _ _)) rfl ?_
       exact ⟨rfl, rfl⟩
     · have c4 : 1120 - off < n := by omega
       have u1 : IntKind.i64.wrap (1120 - off) = 1120 - off := IntWalk.i64_in _ (by omega)
       clear h
       go_enter Tryz.func85, Tryz.ntmps85
       go_wp2_with fail
       refine wp_scope_labels (fun _ _ _ => False) (fun l _ _ => l) (fun _ _ _ h => h.elim) (fun _ _ _ _ h => h.elim) ?_
       intro _
       go_wp2_with fail
       try rw [jumps_ret]
       refine bodyPost_ret (results_one rfl (resOne_tmp _ _ _)) rfl ?_
       exact ⟨rfl, rfl⟩
end
section
open Go.RowKit
attribute [local irreducible] Calls

structure Id.fl (i : Id) : Prop where
 l0 : -1 ≤ i.label
 l1 : i.label < 9007199254740992
 a0 : -1 ≤ i.at_
 a1 : i.at_ < 9007199254740992
end
section
open Go.RowKit

theorem entryBytes_length (n : Nm) : (entryBytes n).length = 14 + n.name.size := by
 simp [entryBytes, idBytes, high_length]; omega
theorem label_back (l : Int) (h0 : -1 ≤ l) (h1 : l < 8) : (if UInt8.ofNat (l % 256).toNat = 255 then (-1 : Int) else ((UInt8.ofNat (l % 256).toNat).toNat : Int)) = l := by
 obtain rfl | rfl | rfl | rfl | rfl | rfl | rfl | rfl | rfl : l = -1 ∨ l = 0 ∨ l = 1 ∨ l = 2 ∨ l = 3 ∨ l = 4 ∨ l = 5 ∨ l = 6 ∨ l = 7 := by omega
 all_goals decide
theorem nameOf_put (n : Nm) (hm : mayEntry n = true) (hw : n.wf) : idOf (Blk.of 6 (entryBytes n)) = n.dir ∧ (Blk.of 6 (entryBytes n)).nlen = n.name.size ∧ nameOf (Blk.of 6 (entryBytes n)) n.dir = n ∧ (Blk.of 6 (entryBytes n)).body.take 7 = idBytes n.dir := by
 obtain ⟨⟨l, a, g⟩, t, at_, gen⟩ := n
 obtain ⟨hid, s1, s2, s3, s4, s5⟩ := mayEntry_small hm
 obtain ⟨i0, i1, i2, i3, i4⟩ := mayID_small hid
 obtain ⟨⟨g0, g1⟩, e0, e1, _⟩ := hw
 dsimp only at *
 obtain ⟨p, hp⟩ := fill56_pad (entryBytes ⟨⟨l, a, g⟩, t, at_, gen⟩) (by rw [entryBytes_length]; dsimp only; omega)
 have hb : (Blk.of 6 (entryBytes ⟨⟨l, a, g⟩, t, at_, gen⟩)).body = [UInt8.ofNat (l % 256).toNat] ++ (high a.toNat 2 ++ (high g.toNat 4 ++ (high at_.toNat 2 ++ (high gen.toNat 4 ++ ([UInt8.ofNat t.size] ++ (t.data.toList ++ p)))))) := by
  rw [Blk.of_body, hp]
  simp only [entryBytes, idBytes, List.append_assoc]
 generalize Blk.of 6 (entryBytes ⟨⟨l, a, g⟩, t, at_, gen⟩) = b at hb
 have f1 := sub_of b 1 2 a.toNat [UInt8.ofNat (l % 256).toNat] _ (by rw [hb, List.append_assoc]) rfl (by omega)
 have f2 := sub_of b 3 4 g.toNat ([UInt8.ofNat (l % 256).toNat] ++ high a.toNat 2) _ (by rw [hb]; simp only [List.append_assoc]; rfl) (by simp [high_length]) (by omega)
 have f3 := sub_of b 7 2 at_.toNat ([UInt8.ofNat (l % 256).toNat] ++ high a.toNat 2 ++ high g.toNat 4) _ (by rw [hb]; simp only [List.append_assoc]; rfl) (by simp [high_length]) (by omega)
 have f4 := sub_of b 9 4 gen.toNat ([UInt8.ofNat (l % 256).toNat] ++ high a.toNat 2 ++ high g.toNat 4 ++ high at_.toNat 2) _ (by rw [hb]; simp only [List.append_assoc]; rfl) (by simp [high_length]) (by omega)
 have hpre : b.body = ([UInt8.ofNat (l % 256).toNat] ++ high a.toNat 2 ++ high g.toNat 4 ++ high at_.toNat 2 ++ high gen.toNat 4) ++ (UInt8.ofNat t.size :: (t.data.toList ++ p)) := by
  rw [hb]; simp only [List.append_assoc, List.singleton_append]; rfl
 have hhead : b.body.getD 0 0 = UInt8.ofNat (l % 256).toNat := by rw [hb]; rfl
 have h7 : b.body.take 7 = [UInt8.ofNat (l % 256).toNat] ++ high a.toNat 2 ++ high g.toNat 4 := by
  rw [hb, ← List.append_assoc, ← List.append_assoc, List.take_append_of_le_length (by simp [high_length])]
  exact List.take_of_length_le (by simp [high_length])
 generalize hq : [UInt8.ofNat (l % 256).toNat] ++ high a.toNat 2 ++ high g.toNat 4 ++ high at_.toNat 2 ++ high gen.toNat 4 = q at hpre
 have hql : q.length = 13 := by rw [← hq]; simp [high_length]
 have hnl : b.nlen = t.size := by
  unfold Blk.nlen
  rw [hpre, List.getD_eq_getElem?_getD, List.getElem?_append_right (by omega), hql]
  simp; omega
 have htl : t.data.toList.length = t.size := by simp
 have htar : (b.body.drop 14).take b.nlen = t.data.toList := by
  rw [hnl, hpre, List.drop_append, List.drop_of_length_le (by omega), hql, List.nil_append]
  show ((UInt8.ofNat t.size :: (t.data.toList ++ p)).drop 1).take t.size = _
  rw [List.drop_succ_cons, List.drop_zero, List.take_append_of_le_length (by omega), List.take_of_length_le (by omega)]
 refine ⟨?_, hnl, ?_, ?_⟩
 · unfold idOf
   rw [hhead, label_back l i0 i1, f1, f2]
   simp only [Id.mk.injEq]
   exact ⟨trivial, by omega, by omega⟩
 · unfold nameOf
   show (⟨⟨l, a, g⟩, ⟨((b.body.drop 14).take b.nlen).toArray⟩, b.sub 7 2, b.sub 9 4⟩ : Nm) = _
   rw [f3, f4, htar]
   simp only [Nm.mk.injEq]
   exact ⟨trivial, trivial, by omega, by omega⟩
 · rw [h7]; simp only [idBytes]
theorem take_putEntry {n : Nm} (hm : mayEntry n = true) (hw : n.wf) : takeEntry (putEntry n).1 = some n := by
 have hp : putEntry n = (Blk.of 6 (entryBytes n), true) := by unfold putEntry; rw [if_pos hm]
 obtain ⟨h1, h2, h3, h4⟩ := nameOf_put n hm hw
 have hid := (mayEntry_small hm).1
 have hti : takeID (Blk.of 6 (entryBytes n)) = some n.dir := by
  unfold takeID
  rw [h1, h4]
  unfold putID
  rw [if_pos hid, if_pos rfl]
 rw [hp]
 have hs := mayEntry_small hm
 rw [takeEntry_get hti (by rw [h2]; omega), h3, hp, if_pos rfl]
theorem takeEntry_kind {b : Blk} {n : Nm} (h : takeEntry b = some n) : b.kind = 6 := by
 cases hi : takeID b with
 | none => rw [takeEntry_none hi] at h; cases h
 | some i =>
   by_cases hl : 14 < b.nlen
   · rw [takeEntry_long hi hl] at h; cases h
   · rw [takeEntry_get hi hl] at h
     split at h
     · rename_i h2
       unfold putEntry at h2
       split at h2
       · have := congrArg (fun p : Blk × Bool => p.1.kind) h2
         simp only [Blk.of_kind] at this; omega
       · cases h2
     · cases h
end
section
open Go.RowKit
attribute [local irreducible] Calls

theorem wrap_u8 (x : Int) : IntKind.u8.wrap x = x % 256 := by
 simp [IntKind.wrap, IntKind.bits, IntKind.signed]
end
section
open Go.RowKit
attribute [local irreducible] Calls

theorem eqNil_none {P : Program} (w : World) (t e : TypeId) (h : P.underlying t = some (.slice e)) : (binOp .eql t (.slice none 0 0) (.slice none 0 0)).run P w = .ok (.bool true) w := by
 simp [binOp, run_equal_slice_nil w t e none 0 0 h]
end
section
open Go.RowKit
attribute [local irreducible] Calls

def volCells (d reg : Nat) (s : Sh) (epoch seq : Nat) (used : Int) (bv : Value) (m : Nat) : Array Value :=
 #[.pointer (some ⟨d, 0, none⟩), .int .i64 reg, .int .i64 s.level, .int .i64 s.cats, .int .i64 s.blocks, .int .i64 s.log, .int .i64 s.frames, .int .u8 (s.lb.toNat : Int), .int .u32 epoch, .int .u32 seq, .int .i64 used, bv, .map (some m)]
def VolO (w : World) (v d reg : Nat) (s : Sh) (epoch seq : Nat) (used : Int) (bv : Value) (m : Nat) : Prop := objAt w v = some (.cells (volCells d reg s epoch seq used bv m) 140 (0, 0))

section
variable {w : World} {v d reg : Nat} {s : Sh} {epoch seq : Nat} {used : Int} {bv : Value} {m : Nat}
theorem VolO.c0 (h : VolO w v d reg s epoch seq used bv m) : w.cell? ⟨v, 0, none⟩ = some (.pointer (some ⟨d, 0, none⟩)) := cell_obj h 0
theorem VolO.c1 (h : VolO w v d reg s epoch seq used bv m) : w.cell? ⟨v, 1, none⟩ = some (.int .i64 reg) := cell_obj h 1
theorem VolO.c2 (h : VolO w v d reg s epoch seq used bv m) : w.cell? ⟨v, 2, none⟩ = some (.int .i64 s.level) := cell_obj h 2
theorem VolO.c3 (h : VolO w v d reg s epoch seq used bv m) : w.cell? ⟨v, 3, none⟩ = some (.int .i64 s.cats) := cell_obj h 3
theorem VolO.c4 (h : VolO w v d reg s epoch seq used bv m) : w.cell? ⟨v, 4, none⟩ = some (.int .i64 s.blocks) := cell_obj h 4
theorem VolO.c5 (h : VolO w v d reg s epoch seq used bv m) : w.cell? ⟨v, 5, none⟩ = some (.int .i64 s.log) := cell_obj h 5
theorem VolO.c6 (h : VolO w v d reg s epoch seq used bv m) : w.cell? ⟨v, 6, none⟩ = some (.int .i64 s.frames) := cell_obj h 6
theorem VolO.c7 (h : VolO w v d reg s epoch seq used bv m) : w.cell? ⟨v, 7, none⟩ = some (.int .u8 (s.lb.toNat : Int)) := cell_obj h 7
theorem VolO.c8 (h : VolO w v d reg s epoch seq used bv m) : w.cell? ⟨v, 8, none⟩ = some (.int .u32 epoch) := cell_obj h 8
theorem VolO.c9 (h : VolO w v d reg s epoch seq used bv m) : w.cell? ⟨v, 9, none⟩ = some (.int .u32 seq) := cell_obj h 9
theorem VolO.c10 (h : VolO w v d reg s epoch seq used bv m) : w.cell? ⟨v, 10, none⟩ = some (.int .i64 used) := cell_obj h 10
theorem VolO.c11 (h : VolO w v d reg s epoch seq used bv m) : w.cell? ⟨v, 11, none⟩ = some (bv) := cell_obj h 11
theorem VolO.c12 (h : VolO w v d reg s epoch seq used bv m) : w.cell? ⟨v, 12, none⟩ = some (.map (some m)) := cell_obj h 12
theorem VolO.free (h : VolO w v d reg s epoch seq used bv m) (i : Nat) : w.frozen? ⟨v, i, none⟩ = false := free_obj h i
end
def Dv.has (D : Dv) (reg n : Nat) : Prop := ∃ R, D.regs[reg]? = some R ∧ R.seen.length = n
theorem Dv.has_lt {D : Dv} {reg n : Nat} (h : D.has reg n) : reg < D.regs.length := by obtain ⟨R, h, _⟩ := h; exact (List.getElem?_eq_some_iff.1 h).1
theorem Dv.has_set {D : Dv} {reg n k : Nat} {R R' : Reg} {l : Int} (h : D.has reg n) (hk : D.regs[k]? = some R) (hl : R'.seen.length = R.seen.length) : Dv.has ⟨D.regs.set k R', l⟩ reg n := by
 obtain ⟨Q, h1, h2⟩ := h
 by_cases e : k = reg
 · subst e
   rw [hk] at h1
   obtain rfl := Option.some.inj h1
   exact ⟨R', by rw [List.getElem?_set_self (List.getElem?_eq_some_iff.1 hk).1], hl.trans h2⟩
 · exact ⟨Q, by rw [List.getElem?_set_ne e]; exact h1, h2⟩
theorem Dv.has_write {D : Dv} {reg n k i : Nat} {l : List UInt8} (h : D.has reg n) : (D.write k i l).has reg n := by
 unfold Dv.write
 split
 · exact h
 · cases hk : D.regs[k]? with
   | none => exact h
   | some R => exact Dv.has_set h hk (by simp [Reg.write])
theorem Dv.has_barrier {D : Dv} {reg n k : Nat} (h : D.has reg n) : (D.barrier k).has reg n := by
 unfold Dv.barrier
 split
 · exact h
 · cases hk : D.regs[k]? with
   | none => exact h
   | some R => exact Dv.has_set h hk (by simp [Reg.barrier])
structure DevStep (S : Nat → Prop) (w w' : World) (d : Nat) (D : Dv) (c : Nat) : Prop where
 keeps : Keeps S w w'
 dev : DevAt w' (grownS S w w') d D c
section
variable {S : Nat → Prop} {w w1 w2 : World} {d : Nat} {L L' : Dv} {c c' : Nat}
theorem DevStep.pre (hb : Below w.heap.size w w1) (h : DevStep S w1 w2 d L c) : DevStep S w w2 d L c :=
 ⟨(Keeps.of_below hb).trans h.keeps, h.dev.mono (fun _ hk => ⟨hk.1, hk.2.imp id (Nat.le_trans hb.size)⟩) (fun _ hk => hk.1) (Nat.le_refl _)⟩
theorem DevStep.trans (h : DevStep S w w1 d L c) (h2 : DevStep (grownS S w w1) w1 w2 d L' c') : DevStep S w w2 d L' c' :=
 ⟨⟨h2.keeps.os.trans h.keeps.os, h2.keeps.tape.trans h.keeps.tape, h2.keeps.output.trans h.keeps.output, Nat.le_trans h.keeps.size h2.keeps.size, fun k hk hn =>
  (h2.keeps.block k (Nat.lt_of_lt_of_le hk h.keeps.size) (fun e => by rcases e.2 with e | e; exact hn e; omega)).trans (h.keeps.block k hk hn)⟩,
  h2.dev.mono (fun k hk => ⟨hk.1, by
   rcases hk.2 with e | e
   · exact e.2
   · exact .inr (Nat.le_trans h.keeps.size e)⟩) (fun k hk => hk.1) (Nat.le_refl _)⟩
theorem DevStep.same (h : DevAt w S d L c) : DevStep S w w d L c := ⟨Keeps.refl _ _, h.mono (grownS_of h.lt (Nat.le_refl _)) (fun _ hk => hk.1) (Nat.le_refl _)⟩
theorem DevStep.obj (h : DevStep S w w1 d L c) {g : Nat} {o : Obj} (hg : objAt w g = some o) (hS : ¬ S g) : objAt w1 g = some o := h.keeps.obj hg hS
theorem DevStep.not (_h : DevStep S w w1 d L c) {g : Nat} (hg : g < w.heap.size) (hS : ¬ S g) : ¬ grownS S w w1 g := fun e => e.2.elim hS (by omega)
theorem DevStep.more (h : DevStep S w w1 d L c) (hc : c ≤ c') : DevStep S w w1 d L c' := ⟨h.keeps, h.dev.mono (fun _ h => h) (fun _ hk => hk.1) hc⟩
end
def homeD (D : Dv) (reg : Nat) (s : Sh) (a : Nat) (b : Blk) : Dv := D.write reg (2 + s.log + a) (sealB s.lb a b)
def anchorsD (D : Dv) (reg : Nat) (s : Sh) (epoch : Nat) : Dv := (D.write reg (epoch % 2) (anchorB s.lb epoch)).barrier reg
theorem home_any {w : World} {S : Nat → Prop} {v d reg : Nat} {s : Sh} {epoch seq m : Nat} {used : Int} {bv : Value} {D : Dv} {c : Nat} (hs : s.Ok) (hv : VolO w v d reg s epoch seq used bv m) (hd : DevAt w S d D c) (hc : c < 900000) (hL : D.has reg s.size)
 (a : Nat) (b : Blk) (hk : 0 ≤ b.kind ∧ b.kind ≤ 7) (ha : a < s.blocks) :
 Calls Tryz.prog 109 #[.pointer (some ⟨v, 0, none⟩), .int .i64 a, .agg b.cells] w fun e w' => e = .returned (.tuple #[]) ∧ DevStep S w w' d (homeD D reg s a b) (c + 1) := by
 have hX : BlkAt (w.alloc (.cells b.cells 37)) w.heap.size b := BlkAt.alloc_new w b
 have hB0 : Below w.heap.size w (w.alloc (.cells b.cells 37)) := grow_alloc (Below.refl _ _) _
 have hv1 := grow_obj hB0 hv
 have hd1 := hd.below hB0
 obtain ⟨G, hG⟩ : ∃ G, G = w.heap.size := ⟨_, rfl⟩
 obtain ⟨w1, hw1⟩ : ∃ w1, w1 = w.alloc (.cells b.cells 37) := ⟨_, rfl⟩
 rw [← hw1] at hX hB0 hv1 hd1
 rw [← hG] at hX
 have HG := Lib.hid (And.intro hG hw1)
 have c0 := VolO.c0 hv1
 have c1 := VolO.c1 hv1
 have c2 := VolO.c2 hv1
 have c3 := VolO.c3 hv1
 have c4 := VolO.c4 hv1
 have c5 := VolO.c5 hv1
 have c6 := VolO.c6 hv1
 have c7 := VolO.c7 hv1
 have hbk := hX.has
 have hrk := hX.row
 have H1 := Lib.hid (And.intro hX (And.intro hB0 (And.intro hv1 (And.intro hd1 hd))))
 clear hX hB0 hv1 hd1 hd hv hG hw1
 go_enter Tryz.func109, Tryz.ntmps109
 go_upto_region 1 with fail
 rw [← HG.out.2, ← HG.out.1]
 have hS : ∀ w', Below w1.heap.size w1 w' → w'.cell? ⟨v, 7, none⟩ = some (.int .u8 (s.lb.toNat : Int)) ∧ hasBlk w' G = true ∧ rowAt w' G = some b.cells ∧ True := fun w' hb => ⟨grow_cell hb c7, (H1.out.1.below hb (block_lt H1.out.1)).has, (H1.out.1.below hb (block_lt H1.out.1)).row, trivial⟩
 refine wp_region_held_drew (S := fun w' => w'.cell? ⟨v, 7, none⟩ = some (.int .u8 (s.lb.toNat : Int)) ∧ hasBlk w' G = true ∧ rowAt w' G = some b.cells ∧ True) (by kernel_rfl) (hS _ (Below.refl _ _).drew) (fun hHeld => ?_)
 show wpAnyH _ _ _ _ _ 12 #[false, false, false, false, false, false, false, false, false, false, false, false] _ _
 refine gT 0 ?_; try simp only [Act.put, qs]
 refine gT 1 ?_; try simp only [Act.put, qs]
 refine gT 2 ?_; try simp only [Act.put, qs]
 refine gT 3 ?_; try simp only [Act.put, qs]
 refine gT 4 ?_; try simp only [Act.put, qs]
 refine gT 5 ?_; try simp only [Act.put, qs]
 refine gY 6 fun K hK => ?_
 try simp only [qs]
 go_simp
 go_at_call 166; refine (Seal_any s.lb a b hk (by have := hs.blocks; omega) _).mono ?_; rintro e x2 ⟨g2, cap2, rfl, hb2, b2⟩; have hx2 : Below w1.heap.size w1 x2 := (Below.refl _ _).drew.trans b2
 refine hK.out _ _ (by exact hS _ hx2) (fun hN => ?_); replace hHeld := hN; clear hK K hN
 try simp only [qs]
 refine gT 7 ?_; try simp only [Act.put, qs]
 refine gT 8 ?_; try simp only [Act.put, qs]
 refine gT 9 ?_; try simp only [Act.put, qs]
 refine gT 10 ?_; try simp only [Act.put, qs]
 refine gT 11 ?_; try simp only [Act.put, qs]
 refine wpAnyH_done (by kernel_rfl) ?_ _
 have hv2 := grow_obj hx2 H1.out.2.2.1
 have hd2 := H1.out.2.2.2.1.below hx2
 have H2 := Lib.hid (And.intro hv2 (And.intro hd2 (And.intro (H1.out.2.1.trans (hx2.mono H1.out.2.1.size)) hb2)))
 clear hS hHeld c0 c1 c2 c3 c4 c5 c6 c7 hbk hrk b2
 have c0 := VolO.c0 hv2
 have c1 := VolO.c1 hv2
 have c2 := VolO.c2 hv2
 have c3 := VolO.c3 hv2
 have c4 := VolO.c4 hv2
 have c5 := VolO.c5 hv2
 have c6 := VolO.c6 hv2
 clear hv2 hd2 hb2
 go_upto_region 2 with fail
 have hS : ∀ w', Below x2.heap.size x2 w' → w'.cell? ⟨v, 0, none⟩ = some (.pointer (some ⟨d, 0, none⟩)) ∧ w'.cell? ⟨v, 1, none⟩ = some (.int .i64 reg) ∧ w'.cell? ⟨v, 2, none⟩ = some (.int .i64 s.level) ∧ w'.cell? ⟨v, 3, none⟩ = some (.int .i64 s.cats) ∧ w'.cell? ⟨v, 4, none⟩ = some (.int .i64 s.blocks) ∧ w'.cell? ⟨v, 5, none⟩ = some (.int .i64 s.log) ∧ w'.cell? ⟨v, 6, none⟩ = some (.int .i64 s.frames) ∧ True :=
  fun w' hb => ⟨grow_cell hb c0, grow_cell hb c1, grow_cell hb c2, grow_cell hb c3, grow_cell hb c4, grow_cell hb c5, grow_cell hb c6, trivial⟩
 refine wp_region_F [15] (S := fun w' => w'.cell? ⟨v, 0, none⟩ = some (.pointer (some ⟨d, 0, none⟩)) ∧ w'.cell? ⟨v, 1, none⟩ = some (.int .i64 reg) ∧ w'.cell? ⟨v, 2, none⟩ = some (.int .i64 s.level) ∧ w'.cell? ⟨v, 3, none⟩ = some (.int .i64 s.cats) ∧ w'.cell? ⟨v, 4, none⟩ = some (.int .i64 s.blocks) ∧ w'.cell? ⟨v, 5, none⟩ = some (.int .i64 s.log) ∧ w'.cell? ⟨v, 6, none⟩ = some (.int .i64 s.frames) ∧ True) (by kernel_rfl) (hS _ (Below.refl _ _).drew) (fun hHeld => ?_)
 show wpAnyF _ _ _ _ _ _ 16 #[false, false, false, false, false, false, false, false, false, false, false, false, false, false, false, false] _ _
 refine gF 0 [0, 1, 2, 3, 15] ?_; try simp only [Act.put, qs]
 refine gF 1 [1, 2, 3, 15] ?_; try simp only [Act.put, qs]
 refine gF 2 [2, 3, 15] ?_; try simp only [Act.put, qs]
 refine gF 3 [3, 15] ?_; try simp only [Act.put, qs]
 refine gF 4 [4, 5, 6, 7, 15] ?_; try simp only [Act.put, qs]
 refine gF 5 [5, 6, 7, 15] ?_; try simp only [Act.put, qs]
 refine gF 6 [6, 7, 15] ?_; try simp only [Act.put, qs]
 refine gF 7 [7, 15] ?_; try simp only [Act.put, qs]
 refine gF 8 [8, 9, 10, 11, 13, 15] ?_; try simp only [Act.put, qs]
 refine gF 9 [9, 10, 11, 13, 15] ?_; try simp only [Act.put, qs]
 refine gF 10 [10, 11, 13, 15] ?_; try simp only [Act.put, qs]
 refine gF 11 [11, 13, 15] ?_; try simp only [Act.put, qs]
 refine gF 12 [12, 13, 15] ?_; try simp only [Act.put, qs]
 refine gF 14 [14, 15] ?_; try simp only [Act.put, qs]
 refine gW 13 fun K hK => ?_
 try simp only [qs]
 go_simp
 go_at_call 167; refine (Home_any s hs a ha _).mono ?_; rintro e x3 ⟨rfl, b3⟩; have hx3 : Below x2.heap.size x2 x3 := (Below.refl _ _).drew.trans b3; have H3 := Lib.hid (And.intro hx3 (And.intro (H2.out.2.1.below hx3) (H2.out.2.2.2.below hx3)))
 refine hK.out _ _ (by exact hS _ hx3) (fun hN => ?_); replace hHeld := hN; clear hK K hN
 try simp only [qs]
 refine gV 15 fun K hK => ?_
 try simp only [qs]
 go_simp
 go_at_call 122; refine (Write_in H3.out.2.1 hc hL (2 + s.log + a) (by unfold Sh.size; omega) (sealB_length _ _ _) H3.out.2.2).mono ?_; rintro e x4 ⟨rfl, hk4, hd4⟩
 refine hK.out _ _ (trivial) (fun hN => ?_); replace hHeld := hN; clear hK K hN
 try simp only [qs]
 refine wpAnyF_done (by kernel_rfl) ?_ _
 go_end0
 have hx3 := H2.out.2.2.1.trans (H3.out.1.mono H2.out.2.2.1.size)
 exact ⟨rfl, DevStep.pre hx3 ⟨hk4, hd4⟩⟩

theorem anchors_any {w : World} {S : Nat → Prop} {v d reg : Nat} {s : Sh} {epoch seq m : Nat} {used : Int} {bv : Value} {D : Dv} {c : Nat} (hv : VolO w v d reg s epoch seq used bv m) (hvS : ¬ S v) (hd : DevAt w S d D c) (hc : c < 800000) {n : Nat} (hL : D.has reg n) (hn : 2 ≤ n) (he : epoch < 4294967296) :
 Calls Tryz.prog 111 #[.pointer (some ⟨v, 0, none⟩)] w fun e w' => e = .returned (.tuple #[]) ∧ DevStep S w w' d (anchorsD D reg s epoch) (c + 2) := by
 have c0 := VolO.c0 hv
 have c1 := VolO.c1 hv
 have c4 := VolO.c8 hv
 have c7 := VolO.c7 hv
 have H1 := Lib.hid (And.intro hv (And.intro hvS hd))
 clear hv hvS hd
 have hS : ∀ w', Below w.heap.size w w' → w'.cell? ⟨v, 0, none⟩ = some (.pointer (some ⟨d, 0, none⟩)) ∧ w'.cell? ⟨v, 1, none⟩ = some (.int .i64 reg) ∧ w'.cell? ⟨v, 7, none⟩ = some (.int .u8 (s.lb.toNat : Int)) ∧ w'.cell? ⟨v, 8, none⟩ = some (.int .u32 epoch) ∧ True :=
  fun w' hb => ⟨grow_cell hb c0, grow_cell hb c1, grow_cell hb c7, grow_cell hb c4, trivial⟩
 go_enter Tryz.func111, Tryz.ntmps111
 go_upto_region 0 with fail
 refine wp_region_F [22] (S := fun w' => w'.cell? ⟨v, 0, none⟩ = some (.pointer (some ⟨d, 0, none⟩)) ∧ w'.cell? ⟨v, 1, none⟩ = some (.int .i64 reg) ∧ w'.cell? ⟨v, 7, none⟩ = some (.int .u8 (s.lb.toNat : Int)) ∧ w'.cell? ⟨v, 8, none⟩ = some (.int .u32 epoch) ∧ True) (by kernel_rfl) (hS _ (Below.refl _ _).drew) (fun hHeld => ?_)
 show wpAnyF _ _ _ _ _ _ 23 #[false, false, false, false, false, false, false, false, false, false, false, false, false, false, false, false, false, false, false, false, false, false, false] _ _
 refine gF 0 [0, 1, 2, 3, 22] ?_; try simp only [Act.put, qs]
 refine gF 1 [1, 2, 3, 22] ?_; try simp only [Act.put, qs]
 refine gF 2 [2, 3, 22] ?_; try simp only [Act.put, qs]
 refine gF 3 [3, 22] ?_; try simp only [Act.put, qs]
 refine gF 4 [4, 5, 6, 7, 22] ?_; try simp only [Act.put, qs]
 refine gF 5 [5, 6, 7, 22] ?_; try simp only [Act.put, qs]
 refine gF 6 [6, 7, 22] ?_; try simp only [Act.put, qs]
 refine gF 7 [7, 22] ?_; try simp only [Act.put, qs]
 refine gF 8 [8, 9, 10, 11, 12, 21, 22] ?_; try simp only [Act.put, qs]
 refine gF 9 [9, 10, 11, 12, 21, 22] ?_; try simp only [Act.put, qs]
 refine gF 10 [10, 11, 12, 21, 22] ?_; try simp only [Act.put, qs]
 refine gF 11 [11, 12, 21, 22] ?_; try simp only [Act.put, qs]
 refine gF 13 [13, 14, 15, 16, 21, 22] ?_; try simp only [Act.put, qs]
 refine gF 14 [14, 15, 16, 21, 22] ?_; try simp only [Act.put, qs]
 refine gF 15 [15, 16, 21, 22] ?_; try simp only [Act.put, qs]
 refine gF 16 [16, 21, 22] ?_; try simp only [Act.put, qs]
 refine gF 17 [17, 18, 19, 20, 21, 22] ?_; try simp only [Act.put, qs]
 refine gF 18 [18, 19, 20, 21, 22] ?_; try simp only [Act.put, qs]
 refine gF 19 [19, 20, 21, 22] ?_; try simp only [Act.put, qs]
 refine gF 20 [20, 21, 22] ?_; try simp only [Act.put, qs]
 refine gW 12 fun K hK => ?_
 try simp only [qs]
 go_simp
 go_at_call 169; refine (Anchor_any epoch _).mono ?_; rintro e x1 ⟨rfl, hx1⟩; obtain rfl := hx1.symm
 refine hK.out _ _ (by exact hS _ (Below.refl _ _).drew) (fun hN => ?_); replace hHeld := hN; clear hK K hN
 try simp only [qs]
 refine gW 21 fun K hK => ?_
 try simp only [qs]
 go_simp
 go_at_call 170; refine (Anchor_epoch s.lb epoch he _).mono ?_; rintro e x2 ⟨v2, rfl, hb2, b2⟩; have hx2 : Below w.heap.size w x2 := (Below.refl _ _).drew.trans b2; obtain ⟨g2, cap2, rfl, _, _⟩ := hb2.form (by rw [anchorB_length]; decide); rw [anchorB_length] at hb2 ⊢; have H2 := Lib.hid (And.intro hx2 (And.intro (H1.out.2.2.below hx2) hb2))
 refine hK.out _ _ (by exact hS _ hx2) (fun hN => ?_); replace hHeld := hN; clear hK K hN
 try simp only [qs]
 refine gV 22 fun K hK => ?_
 try simp only [qs]
 go_simp
 go_at_call 122; refine (Write_in H2.out.2.1 (by omega) hL (epoch % 2) (by omega) (anchorB_length _ _) H2.out.2.2).mono ?_; rintro e x3 ⟨rfl, hk3, hd3⟩
 refine hK.out _ _ (trivial) (fun hN => ?_); replace hHeld := hN; clear hK K hN
 try simp only [qs]
 refine wpAnyF_done (by kernel_rfl) ?_ _
 have hst := DevStep.pre H2.out.1 ⟨hk3, hd3⟩
 have hv3 : VolO x3 v d reg s epoch seq used bv m := hst.obj H1.out.1 H1.out.2.1
 have d0 := VolO.c0 hv3
 have d1 := VolO.c1 hv3
 have H3 := Lib.hid hst
 clear hst hk3 hd3 hv3 hS c0 c1 c4 c7 hHeld
 go_upto_region 1 with fail
 refine wp_region_F [8] (S := fun w' => w'.cell? ⟨v, 0, none⟩ = some (.pointer (some ⟨d, 0, none⟩)) ∧ w'.cell? ⟨v, 1, none⟩ = some (.int .i64 reg) ∧ True) (by kernel_rfl) (⟨d0, d1, trivial⟩) (fun hHeld => ?_)
 show wpAnyF _ _ _ _ _ _ 9 #[false, false, false, false, false, false, false, false, false] _ _
 refine gF 0 [0, 1, 2, 3, 8] ?_; try simp only [Act.put, qs]
 refine gF 1 [1, 2, 3, 8] ?_; try simp only [Act.put, qs]
 refine gF 2 [2, 3, 8] ?_; try simp only [Act.put, qs]
 refine gF 3 [3, 8] ?_; try simp only [Act.put, qs]
 refine gF 4 [4, 5, 6, 7, 8] ?_; try simp only [Act.put, qs]
 refine gF 5 [5, 6, 7, 8] ?_; try simp only [Act.put, qs]
 refine gF 6 [6, 7, 8] ?_; try simp only [Act.put, qs]
 refine gF 7 [7, 8] ?_; try simp only [Act.put, qs]
 refine gV 8 fun K hK => ?_
 try simp only [qs]
 go_simp
 go_at_call 110; refine (Barrier_in (H3.out.dev.below (Below.refl _ _).drew) (by omega) (Dv.has_lt (Dv.has_write hL))).mono ?_; rintro e x4 ⟨rfl, hk4, hd4⟩
 refine hK.out _ _ (trivial) (fun hN => ?_); replace hHeld := hN; clear hK K hN
 try simp only [qs]
 refine wpAnyF_done (by kernel_rfl) ?_ _
 go_end0
 exact ⟨rfl, H3.out.trans (DevStep.pre (Below.refl _ _).drew ⟨hk4, hd4⟩)⟩
end
end Go.Proofs.YtbbnejehglonjaaGreat
