/- DERIVED. Contracts and laws that the proofs of this seat share, part 14 of 36: InC EnA LibBs EnP EnB. -/
import Derived.Lib.ConvBytes
import Derived.Test.YtbbnejehglonjaaGreatMo00
import Derived.Test.YtbbnejehglonjaaGreatMo02
import Derived.Test.YtbbnejehglonjaaGreatMo03
import Derived.Test.YtbbnejehglonjaaGreatMo04
import Derived.Test.YtbbnejehglonjaaGreatMo05
import Derived.Test.YtbbnejehglonjaaGreatMo08
import Derived.Test.YtbbnejehglonjaaGreatMo13
/- DERIVED. Contract of ino.Put. -/
namespace Go.Proofs.YtbbnejehglonjaaGreat
open Go.RowKit
attribute [local irreducible] Calls
set_option maxRecDepth 100000

theorem lit7 {w : World} {g : Nat} {x0 x1 x2 x3 x4 x5 x6 : Int} (c0 c1 c2 c3 c4 c5 c6 : UInt8) (h : objAt w g = some (.cells #[.int .u8 x0, .int .u8 x1, .int .u8 x2, .int .u8 x3, .int .u8 x4, .int .u8 x5, .int .u8 x6] 5 (0, 0))) (e0 : x0 = c0.toNat) (e1 : x1 = c1.toNat) (e2 : x2 = c2.toNat) (e3 : x3 = c3.toNat) (e4 : x4 = c4.toNat) (e5 : x5 = c5.toNat) (e6 : x6 = c6.toNat) {B : Nat} (hb : B ≤ g) :
 BRow w B (.slice (some ⟨g, 0, none⟩) 7 7) [c0, c1, c2, c3, c4, c5, c6] := by
 subst e0 e1 e2 e3 e4 e5 e6
 exact ⟨rfl, .inr ⟨g, 7, _, rfl, hb, h, Nat.le_refl _, by decide, rfl, rfl⟩⟩
theorem idBytes_seven (l a g : Int) (_ : 0 ≤ a) (_ : 0 ≤ g) : idBytes ⟨l, a, g⟩ = [UInt8.ofNat (l % 256).toNat, UInt8.ofNat (a.toNat / 256 % 256), UInt8.ofNat (a.toNat % 256), UInt8.ofNat (g.toNat / 16777216 % 256), UInt8.ofNat (g.toNat / 65536 % 256), UInt8.ofNat (g.toNat / 256 % 256), UInt8.ofNat (g.toNat % 256)] := by
 unfold idBytes
 rw [high_two, high4]
 rfl
set_option maxHeartbeats 4000000 in
theorem inoPut_any (i : Id) (h0 : -1 ≤ i.label) (h1 : i.label < 9007199254740992) (h2 : -1 ≤ i.at_) (h3 : i.at_ < 9007199254740992) (hi : i.wf) (w : World) : Calls Tryz.prog 155 #[.agg i.cells] w fun e w' => ∃ v, e = .returned v ∧ BRow w' w.heap.size v (putID i) ∧ (mayID i = false → v = .slice none 0 0) ∧ (mayID i = true → ∃ g, v = .slice (some ⟨g, 0, none⟩) 7 7) ∧ Below w.heap.size w w' := by
 have HM := Lib.hid (fun w => inoMay_any i h0 h1 h2 h3 w)
 obtain ⟨l, at_, gen⟩ := i
 obtain ⟨g0, g1⟩ := hi
 dsimp only at g0 g1 HM
 rw [show (⟨l, at_, gen⟩ : Id).cells = #[.int .i64 l, .int .i64 at_, .int .u32 gen] from rfl] at HM ⊢
 have hc : objAt (w.alloc (.cells #[.int .i64 l, .int .i64 at_, .int .u32 gen] 66)) w.heap.size = some (.cells #[.int .i64 l, .int .i64 at_, .int .u32 gen] 66 (0, 0)) := by rw [objAt_alloc, if_pos rfl]
 have hw : Below w.heap.size w (w.alloc (.cells #[.int .i64 l, .int .i64 at_, .int .u32 gen] 66)) := grow_alloc (Below.refl _ _) _
 obtain ⟨G, hG⟩ : ∃ G, G = w.heap.size := ⟨_, rfl⟩
 obtain ⟨w0, hw0⟩ : ∃ w0, w0 = w.alloc (.cells #[.int .i64 l, .int .i64 at_, .int .u32 gen] 66) := ⟨_, rfl⟩
 rw [← hG, ← hw0] at hc
 rw [← hw0] at hw
 have HG := Lib.hid (And.intro hG (And.intro hw0 (And.intro hc hw)))
 cases hm : mayID ⟨l, at_, gen⟩ with
 | false =>
   rw [hm] at HM
   have Hp := Lib.hid (show putID ⟨l, at_, gen⟩ = [] by unfold putID; rw [hm]; rfl)
   clear hm h0 h1 h2 h3 hw hc
   go_enter Tryz.func155, Tryz.ntmps155
   go_upto_region 1 with fail
   rw [← hw0, ← hG]
   clear hw0 hG
   have c0 := cell_obj HG.out.2.2.1 0
   have c1 := cell_obj HG.out.2.2.1 1
   have c2 := cell_obj HG.out.2.2.1 2
   go_wp2_with (go_at_call 191; refine (HM.out _).mono ?_; rintro e w1 ⟨rfl, b1⟩)
   go_ret
   exact ⟨_, rfl, by rw [Hp.out]; exact BRow.nil _ _, fun _ => rfl, fun h => by simp at h, grow_trans HG.out.2.2.2 b1⟩
 | true =>
   obtain ⟨s0, s1, s2, s3, s4⟩ := mayID_small hm
   dsimp only at s0 s1 s2 s3 s4
   rw [hm] at HM
   have Hp := Lib.hid (show putID ⟨l, at_, gen⟩ = [UInt8.ofNat (l % 256).toNat, UInt8.ofNat (at_.toNat / 256 % 256), UInt8.ofNat (at_.toNat % 256), UInt8.ofNat (gen.toNat / 16777216 % 256), UInt8.ofNat (gen.toNat / 65536 % 256), UInt8.ofNat (gen.toNat / 256 % 256), UInt8.ofNat (gen.toNat % 256)] by unfold putID; rw [hm, if_pos rfl, idBytes_seven l at_ gen s2 g0])
   have Hs := Lib.hid (And.intro s0 (And.intro s1 (And.intro s2 (And.intro s3 (And.intro g0 g1)))))
   clear hm h0 h1 h2 h3 hw hc
   by_cases hl : 0 ≤ l
   · clear s0 s1 s2 s3 s4 g0 g1
     go_enter Tryz.func155, Tryz.ntmps155
     go_upto_region 1 with fail
     rw [← hw0, ← hG]
     clear hw0 hG
     have c0 := cell_obj HG.out.2.2.1 0
     have c1 := cell_obj HG.out.2.2.1 1
     have c2 := cell_obj HG.out.2.2.1 2
     go_upto_region 3 with (go_at_call 191; refine (HM.out _).mono ?_; rintro e w1 ⟨rfl, b1⟩)
     have d0 := grow_cell b1 c0
     have d1 := grow_cell b1 c1
     have d2 := grow_cell b1 c2
     clear c0 c1 c2
     go_wp2_with fail
     go_ret
     have hs := Hs.out
     refine ⟨_, rfl, ?_, fun h => by simp at h, fun _ => ⟨_, rfl⟩, grow_alloc (grow_trans HG.out.2.2.2 b1) _⟩
     rw [Hp.out]
     refine lit7 _ _ _ _ _ _ _ (by rw [objAt_alloc, if_pos rfl]) ?_ ?_ ?_ ?_ ?_ ?_ ?_ (grow_trans HG.out.2.2.2 b1).size
     · simp; omega
     all_goals (rw [ofNat_mod]; try omega)
   · obtain rfl : l = -1 := by omega
     clear s0 s1 s2 s3 s4 g0 g1
     go_enter Tryz.func155, Tryz.ntmps155
     go_upto_region 1 with fail
     rw [← hw0, ← hG]
     clear hw0 hG
     have c0 := cell_obj HG.out.2.2.1 0
     have c1 := cell_obj HG.out.2.2.1 1
     have c2 := cell_obj HG.out.2.2.1 2
     go_upto_region 3 with (go_at_call 191; refine (HM.out _).mono ?_; rintro e w1 ⟨rfl, b1⟩)
     have d0 := grow_cell b1 c0
     have d1 := grow_cell b1 c1
     have d2 := grow_cell b1 c2
     clear c0 c1 c2
     go_wp2_with fail
     go_ret
     have hs := Hs.out
     refine ⟨_, rfl, ?_, fun h => by simp at h, fun _ => ⟨_, rfl⟩, grow_alloc (grow_trans HG.out.2.2.2 b1) _⟩
     rw [Hp.out]
     refine lit7 _ _ _ _ _ _ _ (by rw [objAt_alloc, if_pos rfl]) ?_ ?_ ?_ ?_ ?_ ?_ ?_ (grow_trans HG.out.2.2.2 b1).size
     · decide
     all_goals (rw [ofNat_mod]; try omega)
end Go.Proofs.YtbbnejehglonjaaGreat

/- DERIVED. Contracts of entry's MayName, May. -/
namespace Go.Proofs.YtbbnejehglonjaaGreat
open Go.RowKit
attribute [local irreducible] Calls
set_option maxRecDepth 100000

theorem badName_high : ∀ r, 128 ≤ r → badName r = true := fun r h => by simp [badName]; omega
theorem mayName_pred (w : World) : PredAt Tryz.prog 225 #[] encR badName w := fun W r _ => by
 unfold FnGives
 by_cases h1 : r < 33
 · have z1 : (r : Int) < 33 := by omega
   go_enter Tryz.func225, Tryz.ntmps225
   go_wp2
   go_ret
   exact ⟨by simp [badName, h1], 0, rfl⟩
 · have z1 : ¬ (r : Int) < 33 := by omega
   by_cases h2 : 126 < r
   · have z2 : (126 : Int) < (r : Int) := by omega
     go_enter Tryz.func225, Tryz.ntmps225
     go_wp2
     go_ret
     exact ⟨by simp [badName, h1, h2], 0, rfl⟩
   · have z2 : ¬ (126 : Int) < (r : Int) := by omega
     by_cases h3 : r = 47
     · subst h3
       go_enter Tryz.func225, Tryz.ntmps225
       go_wp2
       go_ret
       exact ⟨by simp [badName], 0, rfl⟩
     · have z3 : ((r : Int) == 47) = false := by simp; omega
       go_enter Tryz.func225, Tryz.ntmps225
       go_wp2
       go_ret
       exact ⟨by simp [badName, h1, h2, h3], 0, rfl⟩

theorem entryMayName (s : ByteArray) (w : World) :
 Calls Tryz.prog 192 #[.string s] w fun e w' => e = .returned (.bool (mayName s.data.toList)) ∧ Below w.heap.size w w' := by
 have hlen : s.data.toList.length = s.size := by simp
 by_cases h1 : s.data.toList = [46]
 · have d1 : (s.toList == [46]) = true := by rw [eqs, h1]; rfl
   have Hr := Lib.hid (show mayName s.data.toList = false by rw [h1]; rfl)
   clear h1 hlen
   go_enter Tryz.func192, Tryz.ntmps192
   go_wp2_with fail
   go_ret
   exact ⟨by rw [Hr.out]; rfl, Below.refl _ _⟩
 · have d1 : (s.toList == [46]) = false := by rw [eqs]; simpa using h1
   by_cases h2 : s.data.toList = [46, 46]
   · have d2 : (s.toList == [46, 46]) = true := by rw [eqs, h2]; rfl
     have Hr := Lib.hid (show mayName s.data.toList = false by rw [h2]; rfl)
     clear h1 h2 hlen
     go_enter Tryz.func192, Tryz.ntmps192
     go_wp2_with fail
     go_ret
     exact ⟨by rw [Hr.out]; rfl, Below.refl _ _⟩
   · have d2 : (s.toList == [46, 46]) = false := by rw [eqs]; simpa using h2
     by_cases h3 : 1 ≤ s.size
     · by_cases h4 : s.size ≤ 14
       · have Hr := Lib.hid (mayName_parts s.data.toList (by rw [← eqs]; exact d1) (by rw [← eqs]; exact d2) (by omega) (by omega))
         clear h1 h2 hlen
         go_enter Tryz.func192, Tryz.ntmps192
         go_wp2_with fail
         refine (Tryz.strings_ContainsFunc 225 #[] (fun _ _ => by kernel_rfl) badName s _ (mayName_pred _)).mono ?_
         rintro e w1 ⟨rfl, b1⟩
         rw [idxFunc_bytes badName badName_high s]
         generalize (s.data.toList.any fun c => badName c.toNat) = bb at *
         go_wp2_with fail
         go_ret
         exact ⟨by rw [Hr.out]; rfl, b1⟩
       · have Hr := Lib.hid (mayName_long (l := s.data.toList) (by omega))
         clear h1 h2 hlen
         go_enter Tryz.func192, Tryz.ntmps192
         go_wp2_with fail
         go_ret
         exact ⟨by rw [Hr.out]; rfl, Below.refl _ _⟩
     · have Hr := Lib.hid (mayName_nil (l := s.data.toList) (by omega))
       clear h1 h2 hlen
       go_enter Tryz.func192, Tryz.ntmps192
       go_wp2_with fail
       go_ret
       exact ⟨by rw [Hr.out]; rfl, Below.refl _ _⟩

/-- A folder that floats hold. -/
structure Id.fl (i : Id) : Prop where
 l0 : -1 ≤ i.label
 l1 : i.label < 9007199254740992
 a0 : -1 ≤ i.at_
 a1 : i.at_ < 9007199254740992
set_option maxHeartbeats 4000000 in
theorem entryMay_any (n : Nm) (hf : n.dir.fl) (w : World) : Calls Tryz.prog 153 #[.agg n.cells] w fun e w' => e = .returned (.bool (mayEntry n)) ∧ Below w.heap.size w w' := by
 rw [mayEntry_parts]
 have h1 := fun w' => inoMay_any n.dir hf.l0 hf.l1 hf.a0 hf.a1 w'
 have h2 := fun w' => entryMayName n.name w'
 obtain ⟨⟨l, a, g⟩, t, at_, gen⟩ := n
 rw [show (⟨l, a, g⟩ : Id).cells = #[.int .i64 l, .int .i64 a, .int .u32 g] from rfl] at h1
 rw [show (⟨⟨l, a, g⟩, t, at_, gen⟩ : Nm).cells = #[.int .i64 l, .int .i64 a, .int .u32 g, .string t, .int .i64 at_, .int .u32 gen] from rfl]
 dsimp only at h2 ⊢
 generalize mayID ⟨l, a, g⟩ = m1 at *
 generalize mayName t.data.toList = m2 at *
 unfold okAt
 have H1 := Lib.hid h1
 have H2 := Lib.hid h2
 have hb : Below w.heap.size w (w.alloc (.cells #[.int .i64 l, .int .i64 a, .int .u32 g, .string t, .int .i64 at_, .int .u32 gen] 100)) := (Below.refl _ _).alloc (Nat.le_refl _) _
 have hO : objAt (w.alloc (.cells #[.int .i64 l, .int .i64 a, .int .u32 g, .string t, .int .i64 at_, .int .u32 gen] 100)) w.heap.size = some (.cells #[.int .i64 l, .int .i64 a, .int .u32 g, .string t, .int .i64 at_, .int .u32 gen] 100 (0, 0)) := by rw [objAt_alloc, if_pos rfl]
 obtain ⟨G, hG⟩ : ∃ G, G = w.heap.size := ⟨_, rfl⟩
 rw [← hG] at hO
 clear h1 h2 hf
 go_enter Tryz.func153, Tryz.ntmps153
 go_upto_region 1 with (fail)
 rw [← hG]
 have HG := Lib.hid hG
 clear hG
 generalize w.alloc (.cells #[.int .i64 l, .int .i64 a, .int .u32 g, .string t, .int .i64 at_, .int .u32 gen] 100) = w0 at *
 have d0 : w0.cell? ⟨G, 0, none⟩ = some (.int .i64 l) := cell_obj hO 0
 have d1 : w0.cell? ⟨G, 1, none⟩ = some (.int .i64 a) := cell_obj hO 1
 have d2 : w0.cell? ⟨G, 2, none⟩ = some (.int .u32 g) := cell_obj hO 2
 have HC : ∀ w1, Below w0.heap.size w0 w1 → w1.cell? ⟨G, 3, none⟩ = some (.string t) ∧ w1.cell? ⟨G, 4, none⟩ = some (.int .i64 at_) ∧ w1.cell? ⟨G, 5, none⟩ = some (.int .u32 gen) := fun w1 b => ⟨cell_obj (grow_obj b hO) 3, cell_obj (grow_obj b hO) 4, cell_obj (grow_obj b hO) 5⟩
 clear hO
 have HC' := Lib.hid HC
 clear HC
 cases m1
 · go_wp2_with (first | (go_at_call 191; refine (H1.out _).mono ?_; rintro e w1 ⟨rfl, be1⟩))
   go_ret
   exact ⟨rfl, hb.trans (be1.mono hb.size)⟩
 · cases m2
   · go_wp2_with (first | (go_at_call 191; refine (H1.out _).mono ?_; rintro e w1 ⟨rfl, be1⟩; obtain ⟨c3, c4, c5⟩ := HC'.out _ be1; clear c4 c5) | (go_at_call 192; refine (H2.out _).mono ?_; rintro e w2 ⟨rfl, be2⟩))
     go_ret
     exact ⟨rfl, hb.trans ((grow_trans be1 be2).mono hb.size)⟩
   · go_wp2_with (first | (go_at_call 191; refine (H1.out _).mono ?_; rintro e w1 ⟨rfl, be1⟩; obtain ⟨c3, c4, c5⟩ := HC'.out _ be1; clear c4 c5) | (go_at_call 192; refine (H2.out _).mono ?_; rintro e w2 ⟨rfl, be2⟩; obtain ⟨f3, f4, f5⟩ := HC'.out _ (grow_trans be1 be2); clear f3))
     all_goals go_ret
     all_goals exact ⟨by first | (simp [*]; done) | (simp [*]; omega), hb.trans ((grow_trans be1 be2).mono hb.size)⟩
end Go.Proofs.YtbbnejehglonjaaGreat

/- DERIVED. Slices of seven bytes, of three slices; a text as bytes: laws of operations in drawn regions. -/
namespace Go.Proofs.YtbbnejehglonjaaGreat
open Go.RowKit
attribute [local irreducible] Calls
set_option maxRecDepth 100000

theorem run_lit7 (w : World) (y0 y1 y2 y3 y4 y5 y6 : Int) : (Instr.buildSlice 22 7 #[(0, .int .u8 y0), (1, .int .u8 y1), (2, .int .u8 y2), (3, .int .u8 y3), (4, .int .u8 y4), (5, .int .u8 y5), (6, .int .u8 y6)]).run Tryz.prog w = .ok (.slice (some ⟨w.heap.size, 0, none⟩) 7 7) (w.alloc (.cells #[.int .u8 y0, .int .u8 y1, .int .u8 y2, .int .u8 y3, .int .u8 y4, .int .u8 y5, .int .u8 y6] 5)) := by
 go_simp
theorem run_lit3 (w : World) (a0 a1 a2 : Option Addr) (n0 n1 n2 c0 c1 c2 : Nat) : (Instr.buildSlice 204 3 #[(0, .slice a0 n0 c0), (1, .slice a1 n1 c1), (2, .slice a2 n2 c2)]).run Tryz.prog w = .ok (.slice (some ⟨w.heap.size, 0, none⟩) 3 3) (w.alloc (.cells #[.slice a0 n0 c0, .slice a1 n1 c1, .slice a2 n2 c2] 22)) := by
 go_simp
section
variable {ops : Array Oper} {o : Oper} {a b0 : Act} {w : World} {K : Act → World → Prop} {Q : Exit → Act → World → Prop} {F : Prop}
theorem step_lit7 (hgd : o.guard = none) (x0 x1 x2 x3 x4 x5 x6 : Operand) (ho : o.op = .buildSlice 22 7 #[(0, x0), (1, x1), (2, x2), (3, x3), (4, x4), (5, x5), (6, x6)]) {y0 y1 y2 y3 y4 y5 y6 : Int} (c0 c1 c2 c3 c4 c5 c6 : UInt8)
 (h0 : a.eval x0 = .int .u8 y0) (h1 : a.eval x1 = .int .u8 y1) (h2 : a.eval x2 = .int .u8 y2) (h3 : a.eval x3 = .int .u8 y3) (h4 : a.eval x4 = .int .u8 y4) (h5 : a.eval x5 = .int .u8 y5) (h6 : a.eval x6 = .int .u8 y6)
 (e : y0 = (c0.toNat : Int) ∧ y1 = (c1.toNat : Int) ∧ y2 = (c2.toNat : Int) ∧ y3 = (c3.toNat : Int) ∧ y4 = (c4.toNat : Int) ∧ y5 = (c5.toNat : Int) ∧ y6 = (c6.toNat : Int))
 (h : ∀ g w', BytesAt w' (some ⟨g, 0, none⟩) [c0, c1, c2, c3, c4, c5, c6] → Below w.heap.size w w' → K (a.put o.dst (.slice (some ⟨g, 0, none⟩) 7 7)) w') :
 if Region.wanted o (yielded ops b0.tmps) = true then Oper.wp Tryz.prog o a w K Q else F := by
 obtain ⟨e0, e1, e2, e3, e4, e5, e6⟩ := e
 have hw : Region.wanted o (yielded ops b0.tmps) = true := by simp [Region.wanted, hgd]
 rw [if_pos hw]
 have hr := run_lit7 w y0 y1 y2 y3 y4 y5 y6
 have hb := lit7 (w := w.alloc (.cells #[.int .u8 y0, .int .u8 y1, .int .u8 y2, .int .u8 y3, .int .u8 y4, .int .u8 y5, .int .u8 y6] 5)) (g := w.heap.size) (B := w.heap.size) c0 c1 c2 c3 c4 c5 c6 (by rw [objAt_alloc, if_pos rfl]) e0 e1 e2 e3 e4 e5 e6 (Nat.le_refl _)
 unfold Oper.wp execOp
 simp only [ho, List.map_toArray, List.map_cons, List.map_nil, h0, h1, h2, h3, h4, h5, h6, Sem.run_bind]
 rw [hr]
 exact h _ _ hb.bytesAt.1 (grow_alloc (Below.refl _ _) _)
theorem lists3 {W : World} {g : Nat} {a0 a1 a2 : Option Addr} {n0 n1 n2 c0 c1 c2 : Nat} {l0 l1 l2 : List UInt8} {t : TypeId} (h : objAt W g = some (.cells #[.slice a0 n0 c0, .slice a1 n1 c1, .slice a2 n2 c2] t (0, 0))) (e0 : n0 = l0.length) (e1 : n1 = l1.length) (e2 : n2 = l2.length) (h0 : BytesAt W a0 l0) (h1 : BytesAt W a1 l1) (h2 : BytesAt W a2 l2) : ListsAt W g [l0, l1, l2] := by
 subst e0 e1 e2
 intro i hi
 have ho : W.heap[g]? = _ := h
 match i, hi with
 | 0, _ => exact ⟨a0, c0, by simp only [World.cell?, ho]; rfl, h0⟩
 | 1, _ => exact ⟨a1, c1, by simp only [World.cell?, ho]; rfl, h1⟩
 | 2, _ => exact ⟨a2, c2, by simp only [World.cell?, ho]; rfl, h2⟩
theorem step_lit3 (hgd : o.guard = none) (x0 x1 x2 : Operand) (ho : o.op = .buildSlice 204 3 #[(0, x0), (1, x1), (2, x2)]) {a0 a1 a2 : Option Addr} {n0 n1 n2 c0 c1 c2 : Nat}
 (h0 : a.eval x0 = .slice a0 n0 c0) (h1 : a.eval x1 = .slice a1 n1 c1) (h2 : a.eval x2 = .slice a2 n2 c2) {l0 l1 l2 : List UInt8} (e0 : n0 = l0.length) (e1 : n1 = l1.length) (e2 : n2 = l2.length) (b0' : BytesAt w a0 l0) (b1 : BytesAt w a1 l1) (b2 : BytesAt w a2 l2)
 (h : ∀ g w', ListsAt w' g [l0, l1, l2] → Below w.heap.size w w' → K (a.put o.dst (.slice (some ⟨g, 0, none⟩) 3 3)) w') :
 if Region.wanted o (yielded ops b0.tmps) = true then Oper.wp Tryz.prog o a w K Q else F := by
 have hw : Region.wanted o (yielded ops b0.tmps) = true := by simp [Region.wanted, hgd]
 rw [if_pos hw]
 have hr := run_lit3 w a0 a1 a2 n0 n1 n2 c0 c1 c2
 have hB : Below w.heap.size w (w.alloc (.cells #[.slice a0 n0 c0, .slice a1 n1 c1, .slice a2 n2 c2] 22)) := grow_alloc (Below.refl _ _) _
 have hl := lists3 (W := w.alloc (.cells #[.slice a0 n0 c0, .slice a1 n1 c1, .slice a2 n2 c2] 22)) (g := w.heap.size) (by rw [objAt_alloc, if_pos rfl]) e0 e1 e2 (b0'.below hB) (b1.below hB) (b2.below hB)
 unfold Oper.wp execOp
 simp only [ho, List.map_toArray, List.map_cons, List.map_nil, h0, h1, h2, Sem.run_bind]
 rw [hr]
 exact h _ _ hl hB
/-- A text as bytes. -/
theorem convT_at (w : World) (s : ByteArray) : ∃ cap w', (Go.convert 9 22 (.string s)).run Tryz.prog w = .ok (.slice (some ⟨w.heap.size, 0, none⟩) s.size cap) w' ∧ Below w.heap.size w w' ∧ BytesAt w' (some ⟨w.heap.size, 0, none⟩) s.data.toList := by
 have hlen : s.data.toList.length = s.size := by simp
 refine ⟨grownCap w s.size 0 5, Lib.bytesWorld w 5 s, ?_, ⟨rfl, rfl, rfl, ?_, fun k hk => Lib.bytesWorld_at_old w 5 s k hk⟩, ⟨w.heap.size, 0, fun _ => rfl, fun i hi => ?_⟩⟩
 · exact Lib.run_convert_string_bytes w 9 22 5 s Tryz.underlying9 Tryz.underlying22 Tryz.underlying5
 · rw [Lib.bytesWorld_size]; exact Nat.le_succ _
 · rw [hlen] at hi
   rw [Nat.zero_add, Lib.bytesWorld_cell w 5 s i hi, List.getD_eq_getElem?_getD, List.getElem?_eq_getElem (by rw [hlen]; exact hi)]
   rfl
theorem step_convT (hgd : o.guard = none) (x : Operand) (ho : o.op = .convert 9 22 x) {s : ByteArray} (hx : a.eval x = .string s)
 (h : ∀ g cap w', BytesAt w' (some ⟨g, 0, none⟩) s.data.toList → Below w.heap.size w w' → K (a.put o.dst (.slice (some ⟨g, 0, none⟩) s.size cap)) w') :
 if Region.wanted o (yielded ops b0.tmps) = true then Oper.wp Tryz.prog o a w K Q else F := by
 have hw : Region.wanted o (yielded ops b0.tmps) = true := by simp [Region.wanted, hgd]
 rw [if_pos hw]
 obtain ⟨cap, w', hr, hb, hl⟩ := convT_at w s
 unfold Oper.wp execOp
 simp only [ho, hx, Sem.run_bind]
 rw [hr]
 exact h _ _ _ hl hb
end
end Go.Proofs.YtbbnejehglonjaaGreat

/- DERIVED. Plain: a name that was put as a block is taken again. No program in sight. -/
namespace Go.Proofs.YtbbnejehglonjaaGreat
open Go.RowKit

theorem entryBytes_length (n : Nm) : (entryBytes n).length = 14 + n.name.size := by
 simp [entryBytes, idBytes, high_length]; omega
theorem label_back (l : Int) (h0 : -1 ≤ l) (h1 : l < 8) : (if UInt8.ofNat (l % 256).toNat = 255 then (-1 : Int) else ((UInt8.ofNat (l % 256).toNat).toNat : Int)) = l := by
 obtain rfl | rfl | rfl | rfl | rfl | rfl | rfl | rfl | rfl : l = -1 ∨ l = 0 ∨ l = 1 ∨ l = 2 ∨ l = 3 ∨ l = 4 ∨ l = 5 ∨ l = 6 ∨ l = 7 := by omega
 all_goals decide
theorem nameOf_put (n : Nm) (hm : mayEntry n = true) (hw : n.wf) : idOf (Blk.of 6 (entryBytes n)) = n.dir ∧ (Blk.of 6 (entryBytes n)).nlen = n.name.size ∧ nameOf (Blk.of 6 (entryBytes n)) n.dir = n ∧ (Blk.of 6 (entryBytes n)).body.take 7 = idBytes n.dir := by
 obtain ⟨⟨l, a, g⟩, t, at_, gen⟩ := n
 obtain ⟨hid, s1, s2, s3, s4, s5⟩ := mayEntry_small hm
 obtain ⟨i0, i1, i2, i3, i4⟩ := mayID_small hid
 obtain ⟨⟨g0, g1⟩, e0, e1, _⟩ := hw
 dsimp only at *
 obtain ⟨p, hp⟩ := fill56_pad (entryBytes ⟨⟨l, a, g⟩, t, at_, gen⟩) (by rw [entryBytes_length]; dsimp only; omega)
 have hb : (Blk.of 6 (entryBytes ⟨⟨l, a, g⟩, t, at_, gen⟩)).body = [UInt8.ofNat (l % 256).toNat] ++ (high a.toNat 2 ++ (high g.toNat 4 ++ (high at_.toNat 2 ++ (high gen.toNat 4 ++ ([UInt8.ofNat t.size] ++ (t.data.toList ++ p)))))) := by
  rw [Blk.of_body, hp]
  simp only [entryBytes, idBytes, List.append_assoc]
 generalize Blk.of 6 (entryBytes ⟨⟨l, a, g⟩, t, at_, gen⟩) = b at hb
 have f1 := sub_of b 1 2 a.toNat [UInt8.ofNat (l % 256).toNat] _ (by rw [hb, List.append_assoc]) rfl (by omega)
 have f2 := sub_of b 3 4 g.toNat ([UInt8.ofNat (l % 256).toNat] ++ high a.toNat 2) _ (by rw [hb]; simp only [List.append_assoc]; rfl) (by simp [high_length]) (by omega)
 have f3 := sub_of b 7 2 at_.toNat ([UInt8.ofNat (l % 256).toNat] ++ high a.toNat 2 ++ high g.toNat 4) _ (by rw [hb]; simp only [List.append_assoc]; rfl) (by simp [high_length]) (by omega)
 have f4 := sub_of b 9 4 gen.toNat ([UInt8.ofNat (l % 256).toNat] ++ high a.toNat 2 ++ high g.toNat 4 ++ high at_.toNat 2) _ (by rw [hb]; simp only [List.append_assoc]; rfl) (by simp [high_length]) (by omega)
 have hpre : b.body = ([UInt8.ofNat (l % 256).toNat] ++ high a.toNat 2 ++ high g.toNat 4 ++ high at_.toNat 2 ++ high gen.toNat 4) ++ (UInt8.ofNat t.size :: (t.data.toList ++ p)) := by
  rw [hb]; simp only [List.append_assoc, List.singleton_append]; rfl
 have hhead : b.body.getD 0 0 = UInt8.ofNat (l % 256).toNat := by rw [hb]; rfl
 have h7 : b.body.take 7 = [UInt8.ofNat (l % 256).toNat] ++ high a.toNat 2 ++ high g.toNat 4 := by
  rw [hb, ← List.append_assoc, ← List.append_assoc, List.take_append_of_le_length (by simp [high_length])]
  exact List.take_of_length_le (by simp [high_length])
 generalize hq : [UInt8.ofNat (l % 256).toNat] ++ high a.toNat 2 ++ high g.toNat 4 ++ high at_.toNat 2 ++ high gen.toNat 4 = q at hpre
 have hql : q.length = 13 := by rw [← hq]; simp [high_length]
 have hnl : b.nlen = t.size := by
  unfold Blk.nlen
  rw [hpre, List.getD_eq_getElem?_getD, List.getElem?_append_right (by omega), hql]
  simp; omega
 have htl : t.data.toList.length = t.size := by simp
 have htar : (b.body.drop 14).take b.nlen = t.data.toList := by
  rw [hnl, hpre, List.drop_append, List.drop_of_length_le (by omega), hql, List.nil_append]
  show ((UInt8.ofNat t.size :: (t.data.toList ++ p)).drop 1).take t.size = _
  rw [List.drop_succ_cons, List.drop_zero, List.take_append_of_le_length (by omega), List.take_of_length_le (by omega)]
 refine ⟨?_, hnl, ?_, ?_⟩
 · unfold idOf
   rw [hhead, label_back l i0 i1, f1, f2]
   simp only [Id.mk.injEq]
   exact ⟨trivial, by omega, by omega⟩
 · unfold nameOf
   show (⟨⟨l, a, g⟩, ⟨((b.body.drop 14).take b.nlen).toArray⟩, b.sub 7 2, b.sub 9 4⟩ : Nm) = _
   rw [f3, f4, htar]
   simp only [Nm.mk.injEq]
   exact ⟨trivial, trivial, by omega, by omega⟩
 · rw [h7]; simp only [idBytes]
theorem take_putEntry {n : Nm} (hm : mayEntry n = true) (hw : n.wf) : takeEntry (putEntry n).1 = some n := by
 have hp : putEntry n = (Blk.of 6 (entryBytes n), true) := by unfold putEntry; rw [if_pos hm]
 obtain ⟨h1, h2, h3, h4⟩ := nameOf_put n hm hw
 have hid := (mayEntry_small hm).1
 have hti : takeID (Blk.of 6 (entryBytes n)) = some n.dir := by
  unfold takeID
  rw [h1, h4]
  unfold putID
  rw [if_pos hid, if_pos rfl]
 rw [hp]
 have hs := mayEntry_small hm
 rw [takeEntry_get hti (by rw [h2]; omega), h3, hp, if_pos rfl]
theorem takeEntry_kind {b : Blk} {n : Nm} (h : takeEntry b = some n) : b.kind = 6 := by
 cases hi : takeID b with
 | none => rw [takeEntry_none hi] at h; cases h
 | some i =>
   by_cases hl : 14 < b.nlen
   · rw [takeEntry_long hi hl] at h; cases h
   · rw [takeEntry_get hi hl] at h
     split at h
     · rename_i h2
       unfold putEntry at h2
       split at h2
       · have := congrArg (fun p : Blk × Bool => p.1.kind) h2
         simp only [Blk.of_kind] at this; omega
       · cases h2
     · cases h
end Go.Proofs.YtbbnejehglonjaaGreat

/- DERIVED. Contract of entry.Put. -/
namespace Go.Proofs.YtbbnejehglonjaaGreat
open Go.RowKit
attribute [local irreducible] Calls
set_option maxRecDepth 100000

theorem wrap_u8 (x : Int) : IntKind.u8.wrap x = x % 256 := by
 simp [IntKind.wrap, IntKind.bits, IntKind.signed]
def midBytes (a g : Int) (n : Nat) : List UInt8 := [UInt8.ofNat (a.toNat / 256 % 256), UInt8.ofNat (a.toNat % 256), UInt8.ofNat (g.toNat / 16777216 % 256), UInt8.ofNat (g.toNat / 65536 % 256), UInt8.ofNat (g.toNat / 256 % 256), UInt8.ofNat (g.toNat % 256), UInt8.ofNat n]
theorem entryBytes_parts (n : Nm) : entryBytes n = idBytes n.dir ++ midBytes n.at_ n.gen n.name.size ++ n.name.data.toList := by
 unfold entryBytes midBytes
 rw [high_two, high4]
 simp only [List.append_assoc, List.cons_append, List.nil_append]
set_option maxHeartbeats 8000000 in
theorem entryPut_any (n : Nm) (hn : n.wf) (hf : n.dir.fl) (w : World) : Calls Tryz.prog 98 #[.agg n.cells] w fun e w' => e = .returned (.tuple #[.agg (putEntry n).1.cells, .bool (putEntry n).2]) ∧ Below w.heap.size w w' := by
 have h1 := fun w' => entryMay_any n hf w'
 have h2 := fun w' => inoPut_any n.dir hf.l0 hf.l1 hf.a0 hf.a1 hn.dir w'
 have hsm := fun h => mayEntry_small (n := n) h
 have heb := entryBytes_parts n
 obtain ⟨N, hN⟩ : ∃ N, N = n := ⟨n, rfl⟩
 have hgen0 := hn.gen0
 have hgen1 := hn.gen1
 rw [← hN] at hsm heb ⊢
 have HN := Lib.hid hN
 clear hN
 obtain ⟨⟨l, a, g⟩, t, at_, gen⟩ := n
 rw [show N.cells = #[.int .i64 l, .int .i64 a, .int .u32 g, .string t, .int .i64 at_, .int .u32 gen] by rw [HN.out]; rfl]
 rw [show (⟨⟨l, a, g⟩, t, at_, gen⟩ : Nm).cells = #[.int .i64 l, .int .i64 a, .int .u32 g, .string t, .int .i64 at_, .int .u32 gen] from rfl, ← HN.out] at h1
 rw [show (⟨l, a, g⟩ : Id).cells = #[.int .i64 l, .int .i64 a, .int .u32 g] from rfl] at h2
 dsimp only at h2 hgen0 hgen1
 rw [show N.dir = ⟨l, a, g⟩ by rw [HN.out], show N.at_ = at_ by rw [HN.out], show N.gen = gen by rw [HN.out], show N.name = t by rw [HN.out]] at heb
 generalize hm : mayEntry N = m at h1
 have Hm := Lib.hid hm
 have Hsm := Lib.hid hsm
 have H1 := Lib.hid h1
 have H2 := Lib.hid h2
 have Heb := Lib.hid heb
 have hA : BlkAt ((w.alloc (.cells #[.int .i64 l, .int .i64 a, .int .u32 g, .string t, .int .i64 at_, .int .u32 gen] 100)).alloc (.cells Blk.zero.cells 37)) (w.heap.size + 1) Blk.zero := by
  have := BlkAt.alloc_new (w.alloc (.cells #[.int .i64 l, .int .i64 a, .int .u32 g, .string t, .int .i64 at_, .int .u32 gen] 100)) Blk.zero
  rwa [size_alloc] at this
 have hO : objAt ((w.alloc (.cells #[.int .i64 l, .int .i64 a, .int .u32 g, .string t, .int .i64 at_, .int .u32 gen] 100)).alloc (.cells Blk.zero.cells 37)) w.heap.size = some (.cells #[.int .i64 l, .int .i64 a, .int .u32 g, .string t, .int .i64 at_, .int .u32 gen] 100 (0, 0)) := by
  rw [objAt_alloc, if_neg (by simp), objAt_alloc, if_pos rfl]
 have hB : Below w.heap.size w ((w.alloc (.cells #[.int .i64 l, .int .i64 a, .int .u32 g, .string t, .int .i64 at_, .int .u32 gen] 100)).alloc (.cells Blk.zero.cells 37)) := grow_alloc (grow_alloc (Below.refl _ _) _) _
 obtain ⟨G, hG⟩ : ∃ G, G = w.heap.size := ⟨_, rfl⟩
 rw [← hG] at hA hO
 clear h1 h2 hn hm hsm hf heb
 go_enter Tryz.func98, Tryz.ntmps98
 go_upto_region 1 with (fail)
 generalize (w.alloc (.cells #[.int .i64 l, .int .i64 a, .int .u32 g, .string t, .int .i64 at_, .int .u32 gen] 100)).alloc (.cells Blk.zero.cells 37) = wa at *
 rw [← hG]
 have HG := Lib.hid (And.intro hG (And.intro hA (And.intro hO hB)))
 have hc0 : wa.cell? ⟨G, 0, none⟩ = some (.int .i64 l) := cell_obj hO 0
 have hc1 : wa.cell? ⟨G, 1, none⟩ = some (.int .i64 a) := cell_obj hO 1
 have hc2 : wa.cell? ⟨G, 2, none⟩ = some (.int .u32 g) := cell_obj hO 2
 have hc3 : wa.cell? ⟨G, 3, none⟩ = some (.string t) := cell_obj hO 3
 have hc4 : wa.cell? ⟨G, 4, none⟩ = some (.int .i64 at_) := cell_obj hO 4
 have hc5 : wa.cell? ⟨G, 5, none⟩ = some (.int .u32 gen) := cell_obj hO 5
 clear hG hA hO hB
 cases m
 · have Hp := Lib.hid (show putEntry N = (Blk.zero, false) by unfold putEntry; rw [Hm.out]; rfl)
   go_upto_region 2 with (go_at_call 153; refine (H1.out _).mono ?_; rintro e w1 ⟨rfl, be1⟩)
   have hA1 := BlkAt.below HG.out.2.1 be1 (block_lt HG.out.2.1)
   have hr := hA1.row
   have hh := hA1.has
   have HA1 := Lib.hid hA1
   clear hA1
   go_wp2_with fail
   refine bodyPost_ret (results_two rfl (resOne_blk rfl (BlkAt.setRow HA1.out Blk.zero).row) (resOne_tmp _ _ _)) rfl ?_
   exact ⟨by rw [Hp.out]; rfl, (grow_trans HG.out.2.2.2 be1).setRow (by rw [HG.out.1]; exact Nat.le_succ _) _⟩
 · have Hp := Lib.hid (show putEntry N = (Blk.of 6 (entryBytes N), true) by unfold putEntry; rw [Hm.out]; rfl)
   obtain ⟨s1, s2, s3, s4, s5, s6⟩ := Hsm.out Hm.out
   have hid : mayID ⟨l, a, g⟩ = true := by rw [HN.out] at s1; exact s1
   rw [HN.out] at s2 s3 s4 s5 s6
   dsimp only at s2 s3 s4 s5 s6
   have hpid : putID ⟨l, a, g⟩ = idBytes ⟨l, a, g⟩ := by unfold putID; rw [hid]; rfl
   have hidl : (idBytes ⟨l, a, g⟩).length = 7 := by simp [idBytes, high_length]
   have HI := Lib.hid (And.intro hid (And.intro hpid hidl))
   have Hs := Lib.hid (And.intro s2 (And.intro s3 (And.intro s4 (And.intro s5 (And.intro s6 (And.intro hgen0 hgen1))))))
   clear s1 s2 s3 s4 s5 s6 hgen0 hgen1 hid hpid hidl
   go_upto_region 3 with (go_at_call 153; refine (H1.out _).mono ?_; rintro e w1 ⟨rfl, be1⟩)
   have hS : ∀ w', Below w1.heap.size w1 w' → (w'.cell? ⟨G, 0, none⟩ = some (.int .i64 l) ∧ w'.cell? ⟨G, 1, none⟩ = some (.int .i64 a) ∧ w'.cell? ⟨G, 2, none⟩ = some (.int .u32 g) ∧ w'.cell? ⟨G, 3, none⟩ = some (.string t) ∧ w'.cell? ⟨G, 4, none⟩ = some (.int .i64 at_) ∧ w'.cell? ⟨G, 5, none⟩ = some (.int .u32 gen) ∧ Below w1.heap.size w1 w') :=
    fun w' hb => ⟨grow_cell (grow_trans be1 hb) hc0, grow_cell (grow_trans be1 hb) hc1, grow_cell (grow_trans be1 hb) hc2, grow_cell (grow_trans be1 hb) hc3, grow_cell (grow_trans be1 hb) hc4, grow_cell (grow_trans be1 hb) hc5, hb⟩
   have HS := Lib.hid hS
   have HB1 := Lib.hid be1
   clear hS hc0 hc1 hc2 hc3 hc4 hc5 be1
   go_cut [4] (fun s4 wx => ∃ v, s4 = v ∧ BRow wx 0 v (entryBytes N) ∧ Below w1.heap.size w1 wx)
   case first =>
    refine wp_region_held_drew (S := fun w' => w'.cell? ⟨G, 0, none⟩ = some (.int .i64 l) ∧ w'.cell? ⟨G, 1, none⟩ = some (.int .i64 a) ∧ w'.cell? ⟨G, 2, none⟩ = some (.int .u32 g) ∧ w'.cell? ⟨G, 3, none⟩ = some (.string t) ∧ w'.cell? ⟨G, 4, none⟩ = some (.int .i64 at_) ∧ w'.cell? ⟨G, 5, none⟩ = some (.int .u32 gen) ∧ Below w1.heap.size w1 w') (by kernel_rfl) (HS.out _ (Below.refl _ _).drew) (fun hHeld => ?_)
    show wpAnyH _ _ _ _ _ 36 #[false, false, false, false, false, false, false, false, false, false, false, false, false, false, false, false, false, false, false, false, false, false, false, false, false, false, false, false, false, false, false, false, false, false, false, false] _ _
    refine gT (i := 0) (v := ?kv1) rfl ?ky1 ?kr1
    case ky1 => (intro w hSw; (try dsimp only at hSw); go_split_ands; (try simp only [qA, qB]); go_simp; (try with_reducible rfl))
    try simp only [Act.put, qA, qB, qD, qE, qF]
    refine gT (i := 1) (v := ?kv2) rfl ?ky2 ?kr2
    case ky2 => (intro w hSw; (try dsimp only at hSw); go_split_ands; (try simp only [qA, qB, qC]); go_simp; (try with_reducible rfl))
    try simp only [Act.put, qA, qB, qC, qD, qE, qF]
    refine gT (i := 3) (v := ?kv3) rfl ?ky3 ?kr3
    case ky3 => (intro w hSw; (try dsimp only at hSw); go_split_ands; (try simp only [qA, qB, qC]); go_simp; (try with_reducible rfl))
    try simp only [Act.put, qA, qB, qC, qD, qE, qF]
    refine gT (i := 4) (v := ?kv4) rfl ?ky4 ?kr4
    case ky4 => (intro w hSw; (try dsimp only at hSw); go_split_ands; (try simp only [qA, qB, qC]); go_simp; (try with_reducible rfl))
    try simp only [Act.put, qA, qB, qC, qD, qE, qF]
    refine gT (i := 5) (v := ?kv5) rfl ?ky5 ?kr5
    case ky5 => (intro w hSw; (try dsimp only at hSw); go_split_ands; (try simp only [qA, qB, qC]); go_simp; (try with_reducible rfl))
    try simp only [Act.put, qA, qB, qC, qD, qE, qF]
    refine gT (i := 6) (v := ?kv6) rfl ?ky6 ?kr6
    case ky6 => (intro w hSw; (try dsimp only at hSw); go_split_ands; (try simp only [qA, qB, qC]); go_simp; (try with_reducible rfl))
    try simp only [Act.put, qA, qB, qC, qD, qE, qF]
    refine gT (i := 7) (v := ?kv7) rfl ?ky7 ?kr7
    case ky7 => (intro w hSw; (try dsimp only at hSw); go_split_ands; (try simp only [qA, qB, qC]); go_simp; (try with_reducible rfl))
    try simp only [Act.put, qA, qB, qC, qD, qE, qF]
    refine gT (i := 8) (v := ?kv8) rfl ?ky8 ?kr8
    case ky8 => (intro w hSw; (try dsimp only at hSw); go_split_ands; (try simp only [qA, qB, qC]); go_simp; (try with_reducible rfl))
    try simp only [Act.put, qA, qB, qC, qD, qE, qF]
    refine gT (i := 9) (v := ?kv9) rfl ?ky9 ?kr9
    case ky9 => (intro w hSw; (try dsimp only at hSw); go_split_ands; (try simp only [qA, qB, qC]); go_simp; (try with_reducible rfl))
    try simp only [Act.put, qA, qB, qC, qD, qE, qF]
    refine gT (i := 10) (v := ?kv10) rfl ?ky10 ?kr10
    case ky10 => (intro w hSw; (try dsimp only at hSw); go_split_ands; (try simp only [qA, qB, qC]); go_simp; (try with_reducible rfl))
    try simp only [Act.put, qA, qB, qC, qD, qE, qF]
    refine gT (i := 11) (v := ?kv11) rfl ?ky11 ?kr11
    case ky11 => (intro w hSw; (try dsimp only at hSw); go_split_ands; (try simp only [qA, qB, qC]); go_simp; (try with_reducible rfl))
    try simp only [Act.put, qA, qB, qC, qD, qE, qF]
    refine gT (i := 12) (v := ?kv12) rfl ?ky12 ?kr12
    case ky12 => (intro w hSw; (try dsimp only at hSw); go_split_ands; (try simp only [qA, qB, qC]); go_simp; (try with_reducible rfl))
    try simp only [Act.put, qA, qB, qC, qD, qE, qF]
    refine gT (i := 13) (v := ?kv13) rfl ?ky13 ?kr13
    case ky13 => (intro w hSw; (try dsimp only at hSw); go_split_ands; (try simp only [qA, qB, qC]); go_simp; (try with_reducible rfl))
    try simp only [Act.put, qA, qB, qC, qD, qE, qF]
    refine gT (i := 14) (v := ?kv14) rfl ?ky14 ?kr14
    case ky14 => (intro w hSw; (try dsimp only at hSw); go_split_ands; (try simp only [qA, qB, qC]); go_simp; (try with_reducible rfl))
    try simp only [Act.put, qA, qB, qC, qD, qE, qF]
    refine gT (i := 15) (v := ?kv15) rfl ?ky15 ?kr15
    case ky15 => (intro w hSw; (try dsimp only at hSw); go_split_ands; (try simp only [qA, qB, qC]); go_simp; (try with_reducible rfl))
    try simp only [Act.put, qA, qB, qC, qD, qE, qF]
    refine gT (i := 16) (v := ?kv16) rfl ?ky16 ?kr16
    case ky16 => (intro w hSw; (try dsimp only at hSw); go_split_ands; (try simp only [qA, qB, qC]); go_simp; (try with_reducible rfl))
    try simp only [Act.put, qA, qB, qC, qD, qE, qF]
    refine gT (i := 17) (v := ?kv17) rfl ?ky17 ?kr17
    case ky17 => (intro w hSw; (try dsimp only at hSw); go_split_ands; (try simp only [qA, qB, qC]); go_simp; (try with_reducible rfl))
    try simp only [Act.put, qA, qB, qC, qD, qE, qF]
    refine gT (i := 18) (v := ?kv18) rfl ?ky18 ?kr18
    case ky18 => (intro w hSw; (try dsimp only at hSw); go_split_ands; (try simp only [qA, qB, qC]); go_simp; (try with_reducible rfl))
    try simp only [Act.put, qA, qB, qC, qD, qE, qF]
    refine gT (i := 19) (v := ?kv19) rfl ?ky19 ?kr19
    case ky19 => (intro w hSw; (try dsimp only at hSw); go_split_ands; (try simp only [qA, qB, qC]); go_simp; (try with_reducible rfl))
    try simp only [Act.put, qA, qB, qC, qD, qE, qF]
    refine gT (i := 20) (v := ?kv20) rfl ?ky20 ?kr20
    case ky20 => (intro w hSw; (try dsimp only at hSw); go_split_ands; (try simp only [qA, qB, qC]); go_simp; (try with_reducible rfl))
    try simp only [Act.put, qA, qB, qC, qD, qE, qF]
    refine gT (i := 21) (v := ?kv21) rfl ?ky21 ?kr21
    case ky21 => (intro w hSw; (try dsimp only at hSw); go_split_ands; (try simp only [qA, qB, qC]); go_simp; (try with_reducible rfl))
    try simp only [Act.put, qA, qB, qC, qD, qE, qF]
    refine gT (i := 22) (v := ?kv22) rfl ?ky22 ?kr22
    case ky22 => (intro w hSw; (try dsimp only at hSw); go_split_ands; (try simp only [qA, qB, qC]); go_simp; (try with_reducible rfl))
    try simp only [Act.put, qA, qB, qC, qD, qE, qF]
    refine gT (i := 23) (v := ?kv23) rfl ?ky23 ?kr23
    case ky23 => (intro w hSw; (try dsimp only at hSw); go_split_ands; (try simp only [qA, qB, qC]); go_simp; (try with_reducible rfl))
    try simp only [Act.put, qA, qB, qC, qD, qE, qF]
    refine gT (i := 24) (v := ?kv24) rfl ?ky24 ?kr24
    case ky24 => (intro w hSw; (try dsimp only at hSw); go_split_ands; (try simp only [qA, qB, qC]); go_simp; (try with_reducible rfl))
    try simp only [Act.put, qA, qB, qC, qD, qE, qF]
    refine gT (i := 25) (v := ?kv25) rfl ?ky25 ?kr25
    case ky25 => (intro w hSw; (try dsimp only at hSw); go_split_ands; (try simp only [qA, qB, qC]); go_simp; (try with_reducible rfl))
    try simp only [Act.put, qA, qB, qC, qD, qE, qF]
    refine gT (i := 26) (v := ?kv26) rfl ?ky26 ?kr26
    case ky26 => (intro w hSw; (try dsimp only at hSw); go_split_ands; (try simp only [qA, qB, qC]); go_simp; (try with_reducible rfl))
    try simp only [Act.put, qA, qB, qC, qD, qE, qF]
    refine gT (i := 27) (v := ?kv27) rfl ?ky27 ?kr27
    case ky27 => (intro w hSw; (try dsimp only at hSw); go_split_ands; (try simp only [qA, qB, qC]); go_simp; (try with_reducible rfl))
    try simp only [Act.put, qA, qB, qC, qD, qE, qF]
    refine gT (i := 28) (v := ?kv28) rfl ?ky28 ?kr28
    case ky28 => (intro w hSw; (try dsimp only at hSw); go_split_ands; (try simp only [qA, qB, qC]); go_simp; (try with_reducible rfl))
    try simp only [Act.put, qA, qB, qC, qD, qE, qF]
    refine gT (i := 30) (v := ?kv29) rfl ?ky29 ?kr29
    case ky29 => (intro w hSw; (try dsimp only at hSw); go_split_ands; (try simp only [qA, qB, qC]); go_simp; (try with_reducible rfl))
    try simp only [Act.put, qA, qB, qC, qD, qE, qF]
    refine gT (i := 31) (v := ?kv30) rfl ?ky30 ?kr30
    case ky30 => (intro w hSw; (try dsimp only at hSw); go_split_ands; (try simp only [qA, qB, qC]); go_simp; (try with_reducible rfl))
    try simp only [Act.put, qA, qB, qC, qD, qE, qF]
    refine wpAnyH_ready (rs := [2, 29, 32]) (by kernel_rfl) (by simp) ?_
    refine (AllReadyH.cons rfl (fun K hK => ?kb31x0) (AllReadyH.cons rfl (fun K hK => ?kb31x1) (AllReadyH.cons rfl (fun K hK => ?kb31x2) AllReadyH.nil)))
    case kb31x0 =>
     try simp only [qA, qB, qC]
     go_simp
     go_at_call 155; refine (H2.out _).mono ?_; rintro e x2 ⟨v2, rfl, r2, _, y2, bx⟩; obtain ⟨g2, rfl⟩ := y2 HI.out.1; have p2 := r2.bytesAt.1; rw [HI.out.2.1] at p2; clear r2 y2; (try replace p29 := p29.below bx); (try replace p32 := p32.below bx); have bh := grow_trans hHeld.2.2.2.2.2.2 bx
     refine hK.out _ _ (by exact HS.out _ bh) (fun hHeldn => ?_)
     clear hHeld hK K
     have hHeld := hHeldn
     clear hHeldn
     try simp only [qD, qE, qF]
     refine wpAnyH_ready (rs := [29, 32]) (by kernel_rfl) (by simp) ?_
     refine (AllReadyH.cons rfl (fun K hK => ?kb32x0) (AllReadyH.cons rfl (fun K hK => ?kb32x1) AllReadyH.nil))
     case kb32x0 =>
      refine step_lit7 (by rfl) _ _ _ _ _ _ _ (by rfl) (UInt8.ofNat (at_.toNat / 256 % 256)) (UInt8.ofNat (at_.toNat % 256)) (UInt8.ofNat (gen.toNat / 16777216 % 256)) (UInt8.ofNat (gen.toNat / 65536 % 256)) (UInt8.ofNat (gen.toNat / 256 % 256)) (UInt8.ofNat (gen.toNat % 256)) (UInt8.ofNat t.size) (by rfl) (by rfl) (by rfl) (by rfl) (by rfl) (by rfl) (by rfl) (by obtain ⟨q1, q2, q3, q4, q5, q6, q7⟩ := Hs.out; refine ⟨?_, ?_, ?_, ?_, ?_, ?_, ?_⟩ <;> first | (rw [wrap_u8, ofNat_mod]; omega) | (rw [ofNat_mod]; omega) | (rw [wrap_u8, UInt8.toNat_ofNat']; omega)) ?_; intro g29 x29 p29 bx; (try replace p2 := p2.below bx); (try replace p32 := p32.below bx); have bh := grow_trans hHeld.2.2.2.2.2.2 bx
      refine hK.out _ _ (by exact HS.out _ bh) (fun hHeldn => ?_)
      clear hHeld hK K
      have hHeld := hHeldn
      clear hHeldn
      try simp only [Act.put, qA, qB, qC, qD, qE, qF]
      refine wpAnyH_ready (rs := [32]) (by kernel_rfl) (by simp) ?_
      refine (AllReadyH.cons rfl (fun K hK => ?_) AllReadyH.nil)
      refine step_convT (by rfl) _ (by rfl) (by rfl) ?_; intro g32 cap32 x32 p32 bx; (try replace p2 := p2.below bx); (try replace p29 := p29.below bx); have bh := grow_trans hHeld.2.2.2.2.2.2 bx
      refine hK.out _ _ (by exact HS.out _ bh) (fun hHeldn => ?_)
      clear hHeld hK K
      have hHeld := hHeldn
      clear hHeldn
      try simp only [Act.put, qA, qB, qC, qD, qE, qF]
      refine wpAnyH_ready (rs := [33]) (by kernel_rfl) (by simp) ?_
      refine (AllReadyH.cons rfl (fun K hK => ?_) AllReadyH.nil)
      refine step_lit3 (by rfl) _ _ _ (by rfl) (by rfl) (by rfl) (by rfl) (by rw [HI.out.2.2]) (by rfl) (by simp) p2 p29 p32 ?_; intro g33 x33 p33 bx; have bh := grow_trans hHeld.2.2.2.2.2.2 bx
      refine hK.out _ _ (by exact HS.out _ bh) (fun hHeldn => ?_)
      clear hHeld hK K
      have hHeld := hHeldn
      clear hHeldn
      try simp only [Act.put, qA, qB, qC, qD, qE, qF]
      refine wpAnyH_ready (rs := [34]) (by kernel_rfl) (by simp) ?_
      refine (AllReadyH.cons rfl (fun K hK => ?_) AllReadyH.nil)
      try simp only [qA, qB, qC]
      go_simp
      go_at_call 154; have hfl : ([idBytes ⟨l, a, g⟩, midBytes at_ gen t.size, t.data.toList] : List (List UInt8)).flatten = entryBytes N := (by rw [Heb.out]; simp); refine (Concat_any g33 [idBytes ⟨l, a, g⟩, midBytes at_ gen t.size, t.data.toList] 3 _ p33 (by simp) (by rw [hfl, entryBytes_length]; omega) (by rw [hfl, entryBytes_length, HN.out]; have := Hs.out.2.1; show 14 + t.size ≤ 10000; omega)).mono ?_; rintro e x34 ⟨v34, rfl, r34, bx⟩; rw [hfl] at r34; have bh := grow_trans hHeld.2.2.2.2.2.2 bx
      refine hK.out _ _ (by exact HS.out _ bh) (fun hHeldn => ?_)
      clear hHeld hK K
      have hHeld := hHeldn
      clear hHeldn
      try simp only [qD, qE, qF]
      refine gT (i := 35) (v := ?kv36) rfl ?ky36 ?kr36
      case ky36 => (intro w hSw; (try dsimp only at hSw); go_split_ands; (try simp only [qA, qB, qC]); go_simp; (try with_reducible rfl))
      try simp only [Act.put, qA, qB, qC, qD, qE, qF]
      refine wpAnyH_done (by kernel_rfl) ?_ _
      go_wp2_with fail
      go_meet
      exact ⟨_, rfl, r34.mono (Nat.zero_le _), hHeld.2.2.2.2.2.2⟩
     case kb32x1 =>
      refine step_convT (by rfl) _ (by rfl) (by rfl) ?_; intro g32 cap32 x32 p32 bx; (try replace p2 := p2.below bx); (try replace p29 := p29.below bx); have bh := grow_trans hHeld.2.2.2.2.2.2 bx
      refine hK.out _ _ (by exact HS.out _ bh) (fun hHeldn => ?_)
      clear hHeld hK K
      have hHeld := hHeldn
      clear hHeldn
      try simp only [Act.put, qA, qB, qC, qD, qE, qF]
      refine wpAnyH_ready (rs := [29]) (by kernel_rfl) (by simp) ?_
      refine (AllReadyH.cons rfl (fun K hK => ?_) AllReadyH.nil)
      refine step_lit7 (by rfl) _ _ _ _ _ _ _ (by rfl) (UInt8.ofNat (at_.toNat / 256 % 256)) (UInt8.ofNat (at_.toNat % 256)) (UInt8.ofNat (gen.toNat / 16777216 % 256)) (UInt8.ofNat (gen.toNat / 65536 % 256)) (UInt8.ofNat (gen.toNat / 256 % 256)) (UInt8.ofNat (gen.toNat % 256)) (UInt8.ofNat t.size) (by rfl) (by rfl) (by rfl) (by rfl) (by rfl) (by rfl) (by rfl) (by obtain ⟨q1, q2, q3, q4, q5, q6, q7⟩ := Hs.out; refine ⟨?_, ?_, ?_, ?_, ?_, ?_, ?_⟩ <;> first | (rw [wrap_u8, ofNat_mod]; omega) | (rw [ofNat_mod]; omega) | (rw [wrap_u8, UInt8.toNat_ofNat']; omega)) ?_; intro g29 x29 p29 bx; (try replace p2 := p2.below bx); (try replace p32 := p32.below bx); have bh := grow_trans hHeld.2.2.2.2.2.2 bx
      refine hK.out _ _ (by exact HS.out _ bh) (fun hHeldn => ?_)
      clear hHeld hK K
      have hHeld := hHeldn
      clear hHeldn
      try simp only [Act.put, qA, qB, qC, qD, qE, qF]
      refine wpAnyH_ready (rs := [33]) (by kernel_rfl) (by simp) ?_
      refine (AllReadyH.cons rfl (fun K hK => ?_) AllReadyH.nil)
      refine step_lit3 (by rfl) _ _ _ (by rfl) (by rfl) (by rfl) (by rfl) (by rw [HI.out.2.2]) (by rfl) (by simp) p2 p29 p32 ?_; intro g33 x33 p33 bx; have bh := grow_trans hHeld.2.2.2.2.2.2 bx
      refine hK.out _ _ (by exact HS.out _ bh) (fun hHeldn => ?_)
      clear hHeld hK K
      have hHeld := hHeldn
      clear hHeldn
      try simp only [Act.put, qA, qB, qC, qD, qE, qF]
      refine wpAnyH_ready (rs := [34]) (by kernel_rfl) (by simp) ?_
      refine (AllReadyH.cons rfl (fun K hK => ?_) AllReadyH.nil)
      try simp only [qA, qB, qC]
      go_simp
      go_at_call 154; have hfl : ([idBytes ⟨l, a, g⟩, midBytes at_ gen t.size, t.data.toList] : List (List UInt8)).flatten = entryBytes N := (by rw [Heb.out]; simp); refine (Concat_any g33 [idBytes ⟨l, a, g⟩, midBytes at_ gen t.size, t.data.toList] 3 _ p33 (by simp) (by rw [hfl, entryBytes_length]; omega) (by rw [hfl, entryBytes_length, HN.out]; have := Hs.out.2.1; show 14 + t.size ≤ 10000; omega)).mono ?_; rintro e x34 ⟨v34, rfl, r34, bx⟩; rw [hfl] at r34; have bh := grow_trans hHeld.2.2.2.2.2.2 bx
      refine hK.out _ _ (by exact HS.out _ bh) (fun hHeldn => ?_)
      clear hHeld hK K
      have hHeld := hHeldn
      clear hHeldn
      try simp only [qD, qE, qF]
      refine gT (i := 35) (v := ?kv40) rfl ?ky40 ?kr40
      case ky40 => (intro w hSw; (try dsimp only at hSw); go_split_ands; (try simp only [qA, qB, qC]); go_simp; (try with_reducible rfl))
      try simp only [Act.put, qA, qB, qC, qD, qE, qF]
      refine wpAnyH_done (by kernel_rfl) ?_ _
      go_wp2_with fail
      go_meet
      exact ⟨_, rfl, r34.mono (Nat.zero_le _), hHeld.2.2.2.2.2.2⟩
    case kb31x1 =>
     refine step_lit7 (by rfl) _ _ _ _ _ _ _ (by rfl) (UInt8.ofNat (at_.toNat / 256 % 256)) (UInt8.ofNat (at_.toNat % 256)) (UInt8.ofNat (gen.toNat / 16777216 % 256)) (UInt8.ofNat (gen.toNat / 65536 % 256)) (UInt8.ofNat (gen.toNat / 256 % 256)) (UInt8.ofNat (gen.toNat % 256)) (UInt8.ofNat t.size) (by rfl) (by rfl) (by rfl) (by rfl) (by rfl) (by rfl) (by rfl) (by obtain ⟨q1, q2, q3, q4, q5, q6, q7⟩ := Hs.out; refine ⟨?_, ?_, ?_, ?_, ?_, ?_, ?_⟩ <;> first | (rw [wrap_u8, ofNat_mod]; omega) | (rw [ofNat_mod]; omega) | (rw [wrap_u8, UInt8.toNat_ofNat']; omega)) ?_; intro g29 x29 p29 bx; (try replace p2 := p2.below bx); (try replace p32 := p32.below bx); have bh := grow_trans hHeld.2.2.2.2.2.2 bx
     refine hK.out _ _ (by exact HS.out _ bh) (fun hHeldn => ?_)
     clear hHeld hK K
     have hHeld := hHeldn
     clear hHeldn
     try simp only [Act.put, qA, qB, qC, qD, qE, qF]
     refine wpAnyH_ready (rs := [2, 32]) (by kernel_rfl) (by simp) ?_
     refine (AllReadyH.cons rfl (fun K hK => ?kb41x0) (AllReadyH.cons rfl (fun K hK => ?kb41x1) AllReadyH.nil))
     case kb41x0 =>
      try simp only [qA, qB, qC]
      go_simp
      go_at_call 155; refine (H2.out _).mono ?_; rintro e x2 ⟨v2, rfl, r2, _, y2, bx⟩; obtain ⟨g2, rfl⟩ := y2 HI.out.1; have p2 := r2.bytesAt.1; rw [HI.out.2.1] at p2; clear r2 y2; (try replace p29 := p29.below bx); (try replace p32 := p32.below bx); have bh := grow_trans hHeld.2.2.2.2.2.2 bx
      refine hK.out _ _ (by exact HS.out _ bh) (fun hHeldn => ?_)
      clear hHeld hK K
      have hHeld := hHeldn
      clear hHeldn
      try simp only [qD, qE, qF]
      refine wpAnyH_ready (rs := [32]) (by kernel_rfl) (by simp) ?_
      refine (AllReadyH.cons rfl (fun K hK => ?_) AllReadyH.nil)
      refine step_convT (by rfl) _ (by rfl) (by rfl) ?_; intro g32 cap32 x32 p32 bx; (try replace p2 := p2.below bx); (try replace p29 := p29.below bx); have bh := grow_trans hHeld.2.2.2.2.2.2 bx
      refine hK.out _ _ (by exact HS.out _ bh) (fun hHeldn => ?_)
      clear hHeld hK K
      have hHeld := hHeldn
      clear hHeldn
      try simp only [Act.put, qA, qB, qC, qD, qE, qF]
      refine wpAnyH_ready (rs := [33]) (by kernel_rfl) (by simp) ?_
      refine (AllReadyH.cons rfl (fun K hK => ?_) AllReadyH.nil)
      refine step_lit3 (by rfl) _ _ _ (by rfl) (by rfl) (by rfl) (by rfl) (by rw [HI.out.2.2]) (by rfl) (by simp) p2 p29 p32 ?_; intro g33 x33 p33 bx; have bh := grow_trans hHeld.2.2.2.2.2.2 bx
      refine hK.out _ _ (by exact HS.out _ bh) (fun hHeldn => ?_)
      clear hHeld hK K
      have hHeld := hHeldn
      clear hHeldn
      try simp only [Act.put, qA, qB, qC, qD, qE, qF]
      refine wpAnyH_ready (rs := [34]) (by kernel_rfl) (by simp) ?_
      refine (AllReadyH.cons rfl (fun K hK => ?_) AllReadyH.nil)
      try simp only [qA, qB, qC]
      go_simp
      go_at_call 154; have hfl : ([idBytes ⟨l, a, g⟩, midBytes at_ gen t.size, t.data.toList] : List (List UInt8)).flatten = entryBytes N := (by rw [Heb.out]; simp); refine (Concat_any g33 [idBytes ⟨l, a, g⟩, midBytes at_ gen t.size, t.data.toList] 3 _ p33 (by simp) (by rw [hfl, entryBytes_length]; omega) (by rw [hfl, entryBytes_length, HN.out]; have := Hs.out.2.1; show 14 + t.size ≤ 10000; omega)).mono ?_; rintro e x34 ⟨v34, rfl, r34, bx⟩; rw [hfl] at r34; have bh := grow_trans hHeld.2.2.2.2.2.2 bx
      refine hK.out _ _ (by exact HS.out _ bh) (fun hHeldn => ?_)
      clear hHeld hK K
      have hHeld := hHeldn
      clear hHeldn
      try simp only [qD, qE, qF]
      refine gT (i := 35) (v := ?kv45) rfl ?ky45 ?kr45
      case ky45 => (intro w hSw; (try dsimp only at hSw); go_split_ands; (try simp only [qA, qB, qC]); go_simp; (try with_reducible rfl))
      try simp only [Act.put, qA, qB, qC, qD, qE, qF]
      refine wpAnyH_done (by kernel_rfl) ?_ _
      go_wp2_with fail
      go_meet
      exact ⟨_, rfl, r34.mono (Nat.zero_le _), hHeld.2.2.2.2.2.2⟩
     case kb41x1 =>
      refine step_convT (by rfl) _ (by rfl) (by rfl) ?_; intro g32 cap32 x32 p32 bx; (try replace p2 := p2.below bx); (try replace p29 := p29.below bx); have bh := grow_trans hHeld.2.2.2.2.2.2 bx
      refine hK.out _ _ (by exact HS.out _ bh) (fun hHeldn => ?_)
      clear hHeld hK K
      have hHeld := hHeldn
      clear hHeldn
      try simp only [Act.put, qA, qB, qC, qD, qE, qF]
      refine wpAnyH_ready (rs := [2]) (by kernel_rfl) (by simp) ?_
      refine (AllReadyH.cons rfl (fun K hK => ?_) AllReadyH.nil)
      try simp only [qA, qB, qC]
      go_simp
      go_at_call 155; refine (H2.out _).mono ?_; rintro e x2 ⟨v2, rfl, r2, _, y2, bx⟩; obtain ⟨g2, rfl⟩ := y2 HI.out.1; have p2 := r2.bytesAt.1; rw [HI.out.2.1] at p2; clear r2 y2; (try replace p29 := p29.below bx); (try replace p32 := p32.below bx); have bh := grow_trans hHeld.2.2.2.2.2.2 bx
      refine hK.out _ _ (by exact HS.out _ bh) (fun hHeldn => ?_)
      clear hHeld hK K
      have hHeld := hHeldn
      clear hHeldn
      try simp only [qD, qE, qF]
      refine wpAnyH_ready (rs := [33]) (by kernel_rfl) (by simp) ?_
      refine (AllReadyH.cons rfl (fun K hK => ?_) AllReadyH.nil)
      refine step_lit3 (by rfl) _ _ _ (by rfl) (by rfl) (by rfl) (by rfl) (by rw [HI.out.2.2]) (by rfl) (by simp) p2 p29 p32 ?_; intro g33 x33 p33 bx; have bh := grow_trans hHeld.2.2.2.2.2.2 bx
      refine hK.out _ _ (by exact HS.out _ bh) (fun hHeldn => ?_)
      clear hHeld hK K
      have hHeld := hHeldn
      clear hHeldn
      try simp only [Act.put, qA, qB, qC, qD, qE, qF]
      refine wpAnyH_ready (rs := [34]) (by kernel_rfl) (by simp) ?_
      refine (AllReadyH.cons rfl (fun K hK => ?_) AllReadyH.nil)
      try simp only [qA, qB, qC]
      go_simp
      go_at_call 154; have hfl : ([idBytes ⟨l, a, g⟩, midBytes at_ gen t.size, t.data.toList] : List (List UInt8)).flatten = entryBytes N := (by rw [Heb.out]; simp); refine (Concat_any g33 [idBytes ⟨l, a, g⟩, midBytes at_ gen t.size, t.data.toList] 3 _ p33 (by simp) (by rw [hfl, entryBytes_length]; omega) (by rw [hfl, entryBytes_length, HN.out]; have := Hs.out.2.1; show 14 + t.size ≤ 10000; omega)).mono ?_; rintro e x34 ⟨v34, rfl, r34, bx⟩; rw [hfl] at r34; have bh := grow_trans hHeld.2.2.2.2.2.2 bx
      refine hK.out _ _ (by exact HS.out _ bh) (fun hHeldn => ?_)
      clear hHeld hK K
      have hHeld := hHeldn
      clear hHeldn
      try simp only [qD, qE, qF]
      refine gT (i := 35) (v := ?kv49) rfl ?ky49 ?kr49
      case ky49 => (intro w hSw; (try dsimp only at hSw); go_split_ands; (try simp only [qA, qB, qC]); go_simp; (try with_reducible rfl))
      try simp only [Act.put, qA, qB, qC, qD, qE, qF]
      refine wpAnyH_done (by kernel_rfl) ?_ _
      go_wp2_with fail
      go_meet
      exact ⟨_, rfl, r34.mono (Nat.zero_le _), hHeld.2.2.2.2.2.2⟩
    case kb31x2 =>
     refine step_convT (by rfl) _ (by rfl) (by rfl) ?_; intro g32 cap32 x32 p32 bx; (try replace p2 := p2.below bx); (try replace p29 := p29.below bx); have bh := grow_trans hHeld.2.2.2.2.2.2 bx
     refine hK.out _ _ (by exact HS.out _ bh) (fun hHeldn => ?_)
     clear hHeld hK K
     have hHeld := hHeldn
     clear hHeldn
     try simp only [Act.put, qA, qB, qC, qD, qE, qF]
     refine wpAnyH_ready (rs := [2, 29]) (by kernel_rfl) (by simp) ?_
     refine (AllReadyH.cons rfl (fun K hK => ?kb50x0) (AllReadyH.cons rfl (fun K hK => ?kb50x1) AllReadyH.nil))
     case kb50x0 =>
      try simp only [qA, qB, qC]
      go_simp
      go_at_call 155; refine (H2.out _).mono ?_; rintro e x2 ⟨v2, rfl, r2, _, y2, bx⟩; obtain ⟨g2, rfl⟩ := y2 HI.out.1; have p2 := r2.bytesAt.1; rw [HI.out.2.1] at p2; clear r2 y2; (try replace p29 := p29.below bx); (try replace p32 := p32.below bx); have bh := grow_trans hHeld.2.2.2.2.2.2 bx
      refine hK.out _ _ (by exact HS.out _ bh) (fun hHeldn => ?_)
      clear hHeld hK K
      have hHeld := hHeldn
      clear hHeldn
      try simp only [qD, qE, qF]
      refine wpAnyH_ready (rs := [29]) (by kernel_rfl) (by simp) ?_
      refine (AllReadyH.cons rfl (fun K hK => ?_) AllReadyH.nil)
      refine step_lit7 (by rfl) _ _ _ _ _ _ _ (by rfl) (UInt8.ofNat (at_.toNat / 256 % 256)) (UInt8.ofNat (at_.toNat % 256)) (UInt8.ofNat (gen.toNat / 16777216 % 256)) (UInt8.ofNat (gen.toNat / 65536 % 256)) (UInt8.ofNat (gen.toNat / 256 % 256)) (UInt8.ofNat (gen.toNat % 256)) (UInt8.ofNat t.size) (by rfl) (by rfl) (by rfl) (by rfl) (by rfl) (by rfl) (by rfl) (by obtain ⟨q1, q2, q3, q4, q5, q6, q7⟩ := Hs.out; refine ⟨?_, ?_, ?_, ?_, ?_, ?_, ?_⟩ <;> first | (rw [wrap_u8, ofNat_mod]; omega) | (rw [ofNat_mod]; omega) | (rw [wrap_u8, UInt8.toNat_ofNat']; omega)) ?_; intro g29 x29 p29 bx; (try replace p2 := p2.below bx); (try replace p32 := p32.below bx); have bh := grow_trans hHeld.2.2.2.2.2.2 bx
      refine hK.out _ _ (by exact HS.out _ bh) (fun hHeldn => ?_)
      clear hHeld hK K
      have hHeld := hHeldn
      clear hHeldn
      try simp only [Act.put, qA, qB, qC, qD, qE, qF]
      refine wpAnyH_ready (rs := [33]) (by kernel_rfl) (by simp) ?_
      refine (AllReadyH.cons rfl (fun K hK => ?_) AllReadyH.nil)
      refine step_lit3 (by rfl) _ _ _ (by rfl) (by rfl) (by rfl) (by rfl) (by rw [HI.out.2.2]) (by rfl) (by simp) p2 p29 p32 ?_; intro g33 x33 p33 bx; have bh := grow_trans hHeld.2.2.2.2.2.2 bx
      refine hK.out _ _ (by exact HS.out _ bh) (fun hHeldn => ?_)
      clear hHeld hK K
      have hHeld := hHeldn
      clear hHeldn
      try simp only [Act.put, qA, qB, qC, qD, qE, qF]
      refine wpAnyH_ready (rs := [34]) (by kernel_rfl) (by simp) ?_
      refine (AllReadyH.cons rfl (fun K hK => ?_) AllReadyH.nil)
      try simp only [qA, qB, qC]
      go_simp
      go_at_call 154; have hfl : ([idBytes ⟨l, a, g⟩, midBytes at_ gen t.size, t.data.toList] : List (List UInt8)).flatten = entryBytes N := (by rw [Heb.out]; simp); refine (Concat_any g33 [idBytes ⟨l, a, g⟩, midBytes at_ gen t.size, t.data.toList] 3 _ p33 (by simp) (by rw [hfl, entryBytes_length]; omega) (by rw [hfl, entryBytes_length, HN.out]; have := Hs.out.2.1; show 14 + t.size ≤ 10000; omega)).mono ?_; rintro e x34 ⟨v34, rfl, r34, bx⟩; rw [hfl] at r34; have bh := grow_trans hHeld.2.2.2.2.2.2 bx
      refine hK.out _ _ (by exact HS.out _ bh) (fun hHeldn => ?_)
      clear hHeld hK K
      have hHeld := hHeldn
      clear hHeldn
      try simp only [qD, qE, qF]
      refine gT (i := 35) (v := ?kv54) rfl ?ky54 ?kr54
      case ky54 => (intro w hSw; (try dsimp only at hSw); go_split_ands; (try simp only [qA, qB, qC]); go_simp; (try with_reducible rfl))
      try simp only [Act.put, qA, qB, qC, qD, qE, qF]
      refine wpAnyH_done (by kernel_rfl) ?_ _
      go_wp2_with fail
      go_meet
      exact ⟨_, rfl, r34.mono (Nat.zero_le _), hHeld.2.2.2.2.2.2⟩
     case kb50x1 =>
      refine step_lit7 (by rfl) _ _ _ _ _ _ _ (by rfl) (UInt8.ofNat (at_.toNat / 256 % 256)) (UInt8.ofNat (at_.toNat % 256)) (UInt8.ofNat (gen.toNat / 16777216 % 256)) (UInt8.ofNat (gen.toNat / 65536 % 256)) (UInt8.ofNat (gen.toNat / 256 % 256)) (UInt8.ofNat (gen.toNat % 256)) (UInt8.ofNat t.size) (by rfl) (by rfl) (by rfl) (by rfl) (by rfl) (by rfl) (by rfl) (by obtain ⟨q1, q2, q3, q4, q5, q6, q7⟩ := Hs.out; refine ⟨?_, ?_, ?_, ?_, ?_, ?_, ?_⟩ <;> first | (rw [wrap_u8, ofNat_mod]; omega) | (rw [ofNat_mod]; omega) | (rw [wrap_u8, UInt8.toNat_ofNat']; omega)) ?_; intro g29 x29 p29 bx; (try replace p2 := p2.below bx); (try replace p32 := p32.below bx); have bh := grow_trans hHeld.2.2.2.2.2.2 bx
      refine hK.out _ _ (by exact HS.out _ bh) (fun hHeldn => ?_)
      clear hHeld hK K
      have hHeld := hHeldn
      clear hHeldn
      try simp only [Act.put, qA, qB, qC, qD, qE, qF]
      refine wpAnyH_ready (rs := [2]) (by kernel_rfl) (by simp) ?_
      refine (AllReadyH.cons rfl (fun K hK => ?_) AllReadyH.nil)
      try simp only [qA, qB, qC]
      go_simp
      go_at_call 155; refine (H2.out _).mono ?_; rintro e x2 ⟨v2, rfl, r2, _, y2, bx⟩; obtain ⟨g2, rfl⟩ := y2 HI.out.1; have p2 := r2.bytesAt.1; rw [HI.out.2.1] at p2; clear r2 y2; (try replace p29 := p29.below bx); (try replace p32 := p32.below bx); have bh := grow_trans hHeld.2.2.2.2.2.2 bx
      refine hK.out _ _ (by exact HS.out _ bh) (fun hHeldn => ?_)
      clear hHeld hK K
      have hHeld := hHeldn
      clear hHeldn
      try simp only [qD, qE, qF]
      refine wpAnyH_ready (rs := [33]) (by kernel_rfl) (by simp) ?_
      refine (AllReadyH.cons rfl (fun K hK => ?_) AllReadyH.nil)
      refine step_lit3 (by rfl) _ _ _ (by rfl) (by rfl) (by rfl) (by rfl) (by rw [HI.out.2.2]) (by rfl) (by simp) p2 p29 p32 ?_; intro g33 x33 p33 bx; have bh := grow_trans hHeld.2.2.2.2.2.2 bx
      refine hK.out _ _ (by exact HS.out _ bh) (fun hHeldn => ?_)
      clear hHeld hK K
      have hHeld := hHeldn
      clear hHeldn
      try simp only [Act.put, qA, qB, qC, qD, qE, qF]
      refine wpAnyH_ready (rs := [34]) (by kernel_rfl) (by simp) ?_
      refine (AllReadyH.cons rfl (fun K hK => ?_) AllReadyH.nil)
      try simp only [qA, qB, qC]
      go_simp
      go_at_call 154; have hfl : ([idBytes ⟨l, a, g⟩, midBytes at_ gen t.size, t.data.toList] : List (List UInt8)).flatten = entryBytes N := (by rw [Heb.out]; simp); refine (Concat_any g33 [idBytes ⟨l, a, g⟩, midBytes at_ gen t.size, t.data.toList] 3 _ p33 (by simp) (by rw [hfl, entryBytes_length]; omega) (by rw [hfl, entryBytes_length, HN.out]; have := Hs.out.2.1; show 14 + t.size ≤ 10000; omega)).mono ?_; rintro e x34 ⟨v34, rfl, r34, bx⟩; rw [hfl] at r34; have bh := grow_trans hHeld.2.2.2.2.2.2 bx
      refine hK.out _ _ (by exact HS.out _ bh) (fun hHeldn => ?_)
      clear hHeld hK K
      have hHeld := hHeldn
      clear hHeldn
      try simp only [qD, qE, qF]
      refine gT (i := 35) (v := ?kv58) rfl ?ky58 ?kr58
      case ky58 => (intro w hSw; (try dsimp only at hSw); go_split_ands; (try simp only [qA, qB, qC]); go_simp; (try with_reducible rfl))
      try simp only [Act.put, qA, qB, qC, qD, qE, qF]
      refine wpAnyH_done (by kernel_rfl) ?_ _
      go_wp2_with fail
      go_meet
      exact ⟨_, rfl, r34.mono (Nat.zero_le _), hHeld.2.2.2.2.2.2⟩
   case rest =>
    obtain ⟨v, rfl, hrow, hbel⟩ := hcut
    have hel : (entryBytes N).length ≠ 0 := by rw [entryBytes_length]; omega
    obtain ⟨g5, cap5, rfl, _, _⟩ := hrow.form (by omega)
    have hbt := hrow.bytesAt.1
    have hz := BlkAt.below HG.out.2.1 (grow_trans HB1.out hbel) (block_lt HG.out.2.1)
    have hB1 := grow_trans HG.out.2.2.2 (grow_trans HB1.out hbel)
    have hAl : Below wc.heap.size wc (wc.alloc (.cells (Blk.of 6 []).cells 37)) := grow_alloc (Below.refl _ _) _
    have hH := BlkAt.alloc_new wc (Blk.of 6 [])
    have hz7 := hz.alloc (.cells (Blk.of 6 []).cells 37)
    have hbt7 := hbt.below hAl
    have hB7 := grow_alloc hB1 (.cells (Blk.of 6 []).cells 37)
    have hGl : G + 1 < wc.heap.size := block_lt hz
    have HZ := Lib.hid (And.intro hH (And.intro hz7 (And.intro hbt7 (And.intro hB7 hGl))))
    clear hz hB1 hAl hH hz7 hbt7 hB7 hGl hbt hrow hbel hel
    go_upto_region 5 with fail
    obtain ⟨w7, hw7⟩ : ∃ w7, w7 = wc.alloc (.cells (Blk.of 6 []).cells 37) := ⟨_, rfl⟩
    obtain ⟨H, hHe⟩ : ∃ H, H = wc.heap.size := ⟨_, rfl⟩
    rw [← hw7, ← hHe] at HZ
    rw [← hw7, ← hHe]
    clear hw7 hHe
    have hOnce : True := trivial
    go_upto_region 6 with (clear hOnce; refine list_copyBlk rfl (.tmp 47) (.tmp 48) rfl rfl rfl HZ.out.1 HZ.out.2.2.1 ?_)
    rw [over_of]
    have h8 := HZ.out.1.setRow (Blk.of 6 (entryBytes N))
    have z8 : BlkAt (w7.setRow H (Blk.of 6 (entryBytes N)).cells) (G + 1) Blk.zero := by
     unfold BlkAt; rw [setRow_other _ _ _ _ (by have := HZ.out.2.2.2.2; omega)]; exact HZ.out.2.1
    have b8 : Below w.heap.size w (w7.setRow H (Blk.of 6 (entryBytes N)).cells) := HZ.out.2.2.2.1.setRow (by have := HZ.out.2.2.2.2; rw [HG.out.1] at this; omega) _
    obtain ⟨w8, hw8⟩ : ∃ w8, w8 = w7.setRow H (Blk.of 6 (entryBytes N)).cells := ⟨_, rfl⟩
    rw [← hw8] at h8 z8 b8 ⊢
    have i1 := h8.has
    have i2 := h8.row
    have i3 := z8.has
    have H8 := Lib.hid (And.intro z8 b8)
    clear hw8 h8 z8 b8
    go_wp2_with fail
    refine bodyPost_ret (results_two rfl (resOne_blk rfl (BlkAt.setRow H8.out.1 (Blk.of 6 (entryBytes N))).row) (resOne_tmp _ _ _)) rfl ?_
    exact ⟨by rw [Hp.out]; rfl, H8.out.2.setRow (by rw [HG.out.1]; exact Nat.le_succ _) _⟩
end Go.Proofs.YtbbnejehglonjaaGreat
