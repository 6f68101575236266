/- DERIVED. Contracts and laws that the proofs of this seat share, part 11 of 36: LibFr RcD NoD NoE NoF. -/
import Derived.Test.YtbbnejehglonjaaGreatMo00
import Derived.Test.YtbbnejehglonjaaGreatMo01
import Derived.Test.YtbbnejehglonjaaGreatMo05
import Derived.Test.YtbbnejehglonjaaGreatMo09
import Derived.Test.YtbbnejehglonjaaGreatMo10
/- DERIVED. A frame of so many slots. -/
namespace Go.Proofs.YtbbnejehglonjaaGreat
open Go.RowKit
theorem frame_list (A : Array Value) (n : Nat) (h : A.size = n) : A = ((List.range n).map fun i => A.getD i undef).toArray := by
 apply Array.ext
 · simp [h]
 · intro i h1 h2
   simp [Array.getD, h1]
end Go.Proofs.YtbbnejehglonjaaGreat

/- DERIVED. rec.Take of a log that begins with noughts. -/
namespace Go.Proofs.YtbbnejehglonjaaGreat
open Go.RowKit
attribute [local irreducible] Calls
set_option maxRecDepth 100000

theorem frame105 (A : Array Value) (h : A.size = 105) : A = #[A.getD 0 undef, A.getD 1 undef, A.getD 2 undef, A.getD 3 undef, A.getD 4 undef, A.getD 5 undef, A.getD 6 undef, A.getD 7 undef, A.getD 8 undef, A.getD 9 undef, A.getD 10 undef, A.getD 11 undef, A.getD 12 undef, A.getD 13 undef, A.getD 14 undef, A.getD 15 undef, A.getD 16 undef, A.getD 17 undef, A.getD 18 undef, A.getD 19 undef, A.getD 20 undef, A.getD 21 undef, A.getD 22 undef, A.getD 23 undef, A.getD 24 undef, A.getD 25 undef, A.getD 26 undef, A.getD 27 undef, A.getD 28 undef, A.getD 29 undef, A.getD 30 undef, A.getD 31 undef, A.getD 32 undef, A.getD 33 undef, A.getD 34 undef, A.getD 35 undef, A.getD 36 undef, A.getD 37 undef, A.getD 38 undef, A.getD 39 undef, A.getD 40 undef, A.getD 41 undef, A.getD 42 undef, A.getD 43 undef, A.getD 44 undef, A.getD 45 undef, A.getD 46 undef, A.getD 47 undef, A.getD 48 undef, A.getD 49 undef, A.getD 50 undef, A.getD 51 undef, A.getD 52 undef, A.getD 53 undef, A.getD 54 undef, A.getD 55 undef, A.getD 56 undef, A.getD 57 undef, A.getD 58 undef, A.getD 59 undef, A.getD 60 undef, A.getD 61 undef, A.getD 62 undef, A.getD 63 undef, A.getD 64 undef, A.getD 65 undef, A.getD 66 undef, A.getD 67 undef, A.getD 68 undef, A.getD 69 undef, A.getD 70 undef, A.getD 71 undef, A.getD 72 undef, A.getD 73 undef, A.getD 74 undef, A.getD 75 undef, A.getD 76 undef, A.getD 77 undef, A.getD 78 undef, A.getD 79 undef, A.getD 80 undef, A.getD 81 undef, A.getD 82 undef, A.getD 83 undef, A.getD 84 undef, A.getD 85 undef, A.getD 86 undef, A.getD 87 undef, A.getD 88 undef, A.getD 89 undef, A.getD 90 undef, A.getD 91 undef, A.getD 92 undef, A.getD 93 undef, A.getD 94 undef, A.getD 95 undef, A.getD 96 undef, A.getD 97 undef, A.getD 98 undef, A.getD 99 undef, A.getD 100 undef, A.getD 101 undef, A.getD 102 undef, A.getD 103 undef, A.getD 104 undef] := frame_list A 105 h
def TakeJ (w : World) (x0 x1 x2 x3 : Value) (l : Nat) (a' : Act) (w' : World) : Prop :=
 Below w.heap.size w w' ∧ ((l = 0 ∧ ∃ A : Array Value, A.size = 105 ∧ (True) ∧ a' = { tmps := A, defers := [] }) ∨ (l = 1 ∧ ∃ A : Array Value, A.size = 105 ∧ (A.getD 0 undef = x0 ∧ A.getD 1 undef = x1 ∧ A.getD 2 undef = x2 ∧ A.getD 3 undef = x3 ∧ A.getD 8 undef = .slice none 0 0 ∧ A.getD 9 undef = .int .i64 0 ∧ A.getD 11 undef = .int .i64 0 ∧ True) ∧ a' = { tmps := A, defers := [] }))
set_option maxHeartbeats 4000000 in
theorem Take_none (lb : UInt8) (epoch seq : Nat) {w : World} {S : Nat → Prop} {g n cap : Nat} {ls : List (List UInt8)} (h : RowB w S (.slice (some ⟨g, 0, none⟩) n cap) ls) (hn : n ≤ 1000) {l : List UInt8} (hl : ls[0]? = some l) (h64 : l.length = 64) (h10 : l[10]? = some 0) (he : epoch < 4294967296) (hs : seq < 4294967296) :
 Calls Tryz.prog 172 #[.int .u8 (lb.toNat : Int), .int .u32 epoch, .int .u32 seq, .slice (some ⟨g, 0, none⟩) n cap] w fun e w' => e = .returned (.tuple #[.slice none 0 0, .int .i64 0, .bool false]) ∧ Below w.heap.size w w' := by
 have hlen := RowG.len h
 have hpos := (List.getElem?_eq_some_iff.1 hl).1
 obtain ⟨c, hc1, ⟨x, rfl, a, q, nx, rfl, hb, _, _⟩, hc3⟩ := RowG.cells h hl
 have c0 := hc3 0 _ rfl
 rw [Nat.zero_mul, Nat.add_zero, h64] at c0
 obtain ⟨bb, off, hba, hbc⟩ := hb
 obtain rfl := Option.some.inj (hba (by omega))
 have hi10 : 10 < l.length := by omega
 have c10 := hbc 10 hi10
 have e10 : l[10] = 0 := by rw [List.getElem?_eq_getElem hi10] at h10; exact Option.some.inj h10
 rw [e10] at c10
 replace c10 : w.cell? ⟨bb, off + 10, none⟩ = some (.int .u8 0) := c10
 have n0 : ¬ ((n : Int) = 0) := by omega
 have n1 : ((n : Int) == 0) = false := by simpa using n0
 have n2 : (0 : Int) < (n : Int) := by omega
 have n3 : ¬ ((n : Int) < 1) := by omega
 have HP := Lib.hid (fun w' => recPut_any lb epoch seq (S := fun _ => True) (RowG.nil w' _ _ _ _ : WRow w' (fun _ => True) (.slice none 0 0) []) (by decide) he hs)
 have hm0 : mayRec [] = false := by decide
 rw [hm0] at HP
 clear h hl hc1 hc3 hba hbc e10 h10 hm0 hlen hpos
 go_enter Tryz.func172, Tryz.ntmps172
 go_wp2_with fail
 refine wp_scope_labels (TakeJ w (.int .u8 (lb.toNat : Int)) (.int .u32 epoch) (.int .u32 seq) (.slice (some ⟨g, 0, none⟩) n cap)) (fun l _ _ => l) ?_ ?_ ?_
 · rintro l a w' ⟨_, ⟨rfl, _⟩ | ⟨rfl, _⟩⟩ <;> exact ⟨_, rfl⟩
 · rintro l rest a w' ⟨hb, ⟨rfl, ⟨A, hA, ⟨_⟩, rfl⟩⟩ | ⟨rfl, ⟨A, hA, ⟨hA0, hA1, hA2, hA3, hA8, hA9, hA11, _⟩, rfl⟩⟩⟩ hrest
   · obtain rfl := (Code.seq.inj (Option.some.inj hrest)).2
     rw [frame105 A hA]
     clear hrest
     go_wp2_with fail
     rw [jumps_ret]
     refine bodyPost_ret (results_three rfl (resOne_tmp _ _ _) (resOne_tmp _ _ _) (resOne_tmp _ _ _)) rfl ?_
     exact ⟨rfl, hb⟩
   · obtain rfl := (Code.seq.inj (Option.some.inj hrest)).2
     rw [frame105 A hA, hA0, hA1, hA2, hA3, hA8, hA9, hA11]
     clear hrest
     go_wp2_with (go_at_call 117; refine (HP.out _).mono ?_; rintro e w5 ⟨v5, rfl, _, b5⟩)
     go_step3
     exact ⟨⟨grow_trans hb b5, .inl ⟨rfl, ⟨_, rfl, trivial, rfl⟩⟩⟩, by decide⟩
 · intro hfall
   have HF := Lib.hid hfall
   clear hfall
   go_wp2_with fail
   go_step3
   simp only [Exit.then]
   go_step
   refine HF.out 1 _ _ _ ?_ rfl
   exact ⟨Below.refl _ _, .inr ⟨rfl, ⟨_, rfl, ⟨rfl, rfl, rfl, rfl, rfl, rfl, rfl, trivial⟩, rfl⟩⟩⟩
end Go.Proofs.YtbbnejehglonjaaGreat

/- DERIVED. Contract of node's May. -/
namespace Go.Proofs.YtbbnejehglonjaaGreat
open Go.RowKit
attribute [local irreducible] Calls
set_option maxRecDepth 100000

theorem frame59 (A : Array Value) (h : A.size = 59) : A = #[A.getD 0 undef, A.getD 1 undef, A.getD 2 undef, A.getD 3 undef, A.getD 4 undef, A.getD 5 undef, A.getD 6 undef, A.getD 7 undef, A.getD 8 undef, A.getD 9 undef, A.getD 10 undef, A.getD 11 undef, A.getD 12 undef, A.getD 13 undef, A.getD 14 undef, A.getD 15 undef, A.getD 16 undef, A.getD 17 undef, A.getD 18 undef, A.getD 19 undef, A.getD 20 undef, A.getD 21 undef, A.getD 22 undef, A.getD 23 undef, A.getD 24 undef, A.getD 25 undef, A.getD 26 undef, A.getD 27 undef, A.getD 28 undef, A.getD 29 undef, A.getD 30 undef, A.getD 31 undef, A.getD 32 undef, A.getD 33 undef, A.getD 34 undef, A.getD 35 undef, A.getD 36 undef, A.getD 37 undef, A.getD 38 undef, A.getD 39 undef, A.getD 40 undef, A.getD 41 undef, A.getD 42 undef, A.getD 43 undef, A.getD 44 undef, A.getD 45 undef, A.getD 46 undef, A.getD 47 undef, A.getD 48 undef, A.getD 49 undef, A.getD 50 undef, A.getD 51 undef, A.getD 52 undef, A.getD 53 undef, A.getD 54 undef, A.getD 55 undef, A.getD 56 undef, A.getD 57 undef, A.getD 58 undef] := frame_list A 59 h
def NMayJ (w : World) (r : Bool) (l : Nat) (a' : Act) (w' : World) : Prop :=
 Below w.heap.size w w' ∧ l = 0 ∧ r = false ∧ ∃ A : Array Value, A.size = 59 ∧ (True) ∧ a' = { tmps := A, defers := [] }
set_option maxHeartbeats 4000000 in
theorem nMay_any (kind : Int) (n : Nd) (w : World) (hn : n.wf) : Calls Tryz.prog 188 #[.int .i64 kind, .agg n.cells] w fun e w' => e = .returned (.bool (mayNode kind n)) ∧ Below w.heap.size w w' := by
 have hB0 : Below w.heap.size w (w.alloc (.cells n.cells 165)) := grow_alloc (Below.refl _ _) _
 have ho : objAt (w.alloc (.cells n.cells 165)) w.heap.size = some (.cells n.cells 165 (0, 0)) := by rw [objAt_alloc, if_pos rfl]
 obtain ⟨G, hG⟩ : ∃ G, G = w.heap.size := ⟨_, rfl⟩
 obtain ⟨w1, hw1⟩ : ∃ w1, w1 = w.alloc (.cells n.cells 165) := ⟨_, rfl⟩
 rw [← hw1] at hB0 ho
 rw [← hG] at ho
 have hN := hasNd_obj ho
 have hrow := rowAt_heap ho
 have c0 : w1.cell? ⟨G, 0, none⟩ = some (.int .u32 n.gen) := Nd.c n ho 0
 have c1 : w1.cell? ⟨G, 1, none⟩ = some (.int .i64 n.links) := Nd.c n ho 1
 have c2 : w1.cell? ⟨G, 2, none⟩ = some (.int .i64 n.size) := Nd.c n ho 2
 have c8 : w1.cell? ⟨G, 8, none⟩ = some (.string n.target) := Nd.c n ho 8
 have HG := Lib.hid (And.intro hG hw1)
 have H1 := Lib.hid (And.intro hB0 (And.intro ho hn.long))
 obtain ⟨r, hr⟩ : ∃ r, r = mayNode kind n := ⟨_, rfl⟩
 rw [← hr]
 have Hr := Lib.hid hr
 clear hB0 hG hw1 ho hr hn
 go_enter Tryz.func188, Tryz.ntmps188
 go_upto_region 1 with fail
 rw [← HG.out.2, ← HG.out.1]
 refine wp_scope_labels (NMayJ w r) (fun l _ _ => l) ?_ ?_ ?_
 · rintro l a w' ⟨_, rfl, _⟩; exact ⟨_, rfl⟩
 · rintro l rest a w' ⟨hb, rfl, hf, ⟨A, hA, ⟨_⟩, rfl⟩⟩ hrest
   obtain rfl := (Code.seq.inj (Option.some.inj hrest)).2
   rw [frame59 A hA]
   clear hrest
   have Hf := Lib.hid hf
   clear hf
   go_wp2_with fail
   try rw [jumps_ret]
   refine bodyPost_ret (results_one rfl (resOne_tmp _ _ _)) rfl ?_
   exact ⟨by rw [Hf.out]; rfl, hb⟩
 · intro hfall
   have HF := Lib.hid hfall
   clear hfall
   by_cases g0 : n.gen < 1
   · have Hm := Lib.hid (mayNode_no (kind := kind) (n := n) (.inl g0))
     go_wp2_with fail
     go_step3
     exact ⟨H1.out.1, rfl, by rw [Hr.out]; exact Hm.out, ⟨_, rfl, trivial, rfl⟩⟩
   by_cases g1 : n.links < 0
   · have Hm := Lib.hid (mayNode_no (kind := kind) (n := n) (.inr (.inl g1)))
     go_wp2_with fail
     go_step3
     exact ⟨H1.out.1, rfl, by rw [Hr.out]; exact Hm.out, ⟨_, rfl, trivial, rfl⟩⟩
   by_cases g2 : 1000 < n.links
   · have Hm := Lib.hid (mayNode_no (kind := kind) (n := n) (.inr (.inr (.inl g2))))
     go_wp2_with fail
     go_step3
     exact ⟨H1.out.1, rfl, by rw [Hr.out]; exact Hm.out, ⟨_, rfl, trivial, rfl⟩⟩
   have Hok := Lib.hid (show 1 ≤ n.gen ∧ 0 ≤ n.links ∧ n.links ≤ 1000 by omega)
   by_cases k1 : kind = 1
   · subst k1
     have Hm := Lib.hid (mayNode_file Hok.out rfl)
     have HP := Lib.hid (file_any n w1)
     go_wp2_with (go_at_call 218; refine HP.out.mono ?_; rintro e w2 ⟨rfl, b2⟩)
     try rw [jumps_ret]
     refine bodyPost_ret (results_one rfl (resOne_tmp _ _ _)) rfl ?_
     exact ⟨by rw [Hr.out, Hm.out]; rfl, H1.out.1.trans (b2.mono H1.out.1.size)⟩
   by_cases k2 : kind = 2
   · subst k2
     have Hm := Lib.hid (mayNode_dir Hok.out rfl)
     have HP := Lib.hid (bare_any n w1)
     by_cases s0 : n.size = 0
     · have s0' : (n.size == 0) = true := by simpa using s0
       rw [decide_eq_true s0, Bool.true_and] at Hm
       clear s0
       cases hb : none5 n.places with
       | true =>
         rw [hb] at Hm HP
         clear hb
         cases ht : n.target.toList.isEmpty with
         | true =>
           rw [← ByteArray.toList_eq, ht] at Hm
           by_cases l1 : n.links ≤ 1
           · rw [decide_eq_true l1] at Hm
             go_wp2_with (go_at_call 219; refine HP.out.mono ?_; rintro e w2 ⟨rfl, b2⟩; replace c1 := grow_cell b2 c1; replace c8 := grow_cell b2 c8)
             try rw [jumps_ret]
             refine bodyPost_ret (results_one rfl (resOne_tmp _ _ _)) rfl ?_
             exact ⟨by rw [Hr.out, Hm.out]; first | rfl | (simp; done) | (simp; omega), H1.out.1.trans (b2.mono H1.out.1.size)⟩
           · rw [decide_eq_false l1] at Hm
             go_wp2_with (go_at_call 219; refine HP.out.mono ?_; rintro e w2 ⟨rfl, b2⟩; replace c1 := grow_cell b2 c1; replace c8 := grow_cell b2 c8)
             try rw [jumps_ret]
             refine bodyPost_ret (results_one rfl (resOne_tmp _ _ _)) rfl ?_
             exact ⟨by rw [Hr.out, Hm.out]; first | rfl | (simp; done) | (simp; omega), H1.out.1.trans (b2.mono H1.out.1.size)⟩
         | false =>
           rw [← ByteArray.toList_eq, ht] at Hm
           go_wp2_with (go_at_call 219; refine HP.out.mono ?_; rintro e w2 ⟨rfl, b2⟩; replace c1 := grow_cell b2 c1; replace c8 := grow_cell b2 c8)
           try rw [jumps_ret]
           refine bodyPost_ret (results_one rfl (resOne_tmp _ _ _)) rfl ?_
           exact ⟨by rw [Hr.out, Hm.out]; first | rfl | (simp; done) | (simp; omega), H1.out.1.trans (b2.mono H1.out.1.size)⟩
       | false =>
         rw [hb] at Hm HP
         clear hb
         go_wp2_with (go_at_call 219; refine HP.out.mono ?_; rintro e w2 ⟨rfl, b2⟩; replace c1 := grow_cell b2 c1; replace c8 := grow_cell b2 c8)
         try rw [jumps_ret]
         refine bodyPost_ret (results_one rfl (resOne_tmp _ _ _)) rfl ?_
         exact ⟨by rw [Hr.out, Hm.out]; first | rfl | (simp; done) | (simp; omega), H1.out.1.trans (b2.mono H1.out.1.size)⟩
     · have s0' : (n.size == 0) = false := by simpa using s0
       rw [decide_eq_false s0] at Hm
       clear s0
       go_wp2_with fail
       try rw [jumps_ret]
       refine bodyPost_ret (results_one rfl (resOne_tmp _ _ _)) rfl ?_
       exact ⟨by rw [Hr.out, Hm.out]; first | rfl | (simp; done) | (simp; omega), H1.out.1⟩
   by_cases k3 : kind = 3
   · subst k3
     have Hm := Lib.hid (mayNode_sign Hok.out rfl)
     have HP := Lib.hid (bare_any n)
     have HS := Lib.hid (sign_any n.target w1 H1.out.2.2)
     cases ht : mayTarget n.target.data.toList with
     | true =>
       rw [ht] at Hm HS
       clear ht
       by_cases s0 : n.size = (n.target.size : Int)
       · rw [decide_eq_true s0] at Hm
         have s0' : (n.size == (n.target.size : Int)) = true := by simpa using s0
         clear s0
         go_wp2_with (first | (go_at_call 220; refine HS.out.mono ?_; rintro e w2 ⟨rfl, b2⟩; replace c2 := grow_cell b2 c2; replace c8 := grow_cell b2 c8; replace hN := hasNd_obj (grow_obj b2 H1.out.2.1); replace hrow := rowAt_heap (grow_obj b2 H1.out.2.1)) | (go_at_call 219; refine (HP.out _).mono ?_; rintro e w3 ⟨rfl, b3⟩))
         try rw [jumps_ret]
         refine bodyPost_ret (results_one rfl (resOne_tmp _ _ _)) rfl ?_
         exact ⟨by rw [Hr.out, Hm.out]; first | rfl | (simp; done) | (simp; omega), H1.out.1.trans ((grow_trans b2 b3).mono H1.out.1.size)⟩
       · rw [decide_eq_false s0] at Hm
         have s0' : (n.size == (n.target.size : Int)) = false := by simpa using s0
         clear s0
         go_wp2_with (go_at_call 220; refine HS.out.mono ?_; rintro e w2 ⟨rfl, b2⟩; replace c2 := grow_cell b2 c2; replace c8 := grow_cell b2 c8; replace hN := hasNd_obj (grow_obj b2 H1.out.2.1); replace hrow := rowAt_heap (grow_obj b2 H1.out.2.1))
         try rw [jumps_ret]
         refine bodyPost_ret (results_one rfl (resOne_tmp _ _ _)) rfl ?_
         exact ⟨by rw [Hr.out, Hm.out]; first | rfl | (simp; done) | (simp; omega), H1.out.1.trans (b2.mono H1.out.1.size)⟩
     | false =>
       rw [ht] at Hm HS
       clear ht
       go_wp2_with (go_at_call 220; refine HS.out.mono ?_; rintro e w2 ⟨rfl, b2⟩; replace c2 := grow_cell b2 c2; replace c8 := grow_cell b2 c8)
       try rw [jumps_ret]
       refine bodyPost_ret (results_one rfl (resOne_tmp _ _ _)) rfl ?_
       exact ⟨by rw [Hr.out, Hm.out]; first | rfl | (simp; done) | (simp; omega), H1.out.1.trans (b2.mono H1.out.1.size)⟩
   have Hm := Lib.hid (mayNode_no (kind := kind) (n := n) (.inr (.inr (.inr ⟨k1, k2, k3⟩))))
   have e1 : (kind == 1) = false := by simpa using k1
   have e2 : (kind == 2) = false := by simpa using k2
   have e3 : (kind == 3) = false := by simpa using k3
   clear k1 k2 k3
   go_wp2_with fail
   go_step3
   simp only [Exit.then]
   go_step
   refine HF.out 0 _ _ _ ?_ rfl
   exact ⟨H1.out.1, rfl, by rw [Hr.out]; exact Hm.out, ⟨_, rfl, trivial, rfl⟩⟩
end Go.Proofs.YtbbnejehglonjaaGreat

/- DERIVED. node's Put of what may not be, Take of what is no node. -/
namespace Go.Proofs.YtbbnejehglonjaaGreat
open Go.RowKit
attribute [local irreducible] Calls
set_option maxRecDepth 100000

set_option maxHeartbeats 2000000 in
theorem nPut_no (kind : Int) (n : Nd) (w : World) (hn : n.wf) (hm : mayNode kind n = false) : Calls Tryz.prog 149 #[.int .i64 kind, .agg n.cells] w fun e w' => e = .returned (.tuple #[.agg Blk.zero.cells, .bool false]) ∧ Below w.heap.size w w' := by
 have hB0 : Below w.heap.size w ((w.alloc (.cells n.cells 165)).alloc (.cells Blk.zero.cells 37)) := grow_alloc (grow_alloc (Below.refl _ _) _) _
 have ho : objAt ((w.alloc (.cells n.cells 165)).alloc (.cells Blk.zero.cells 37)) w.heap.size = some (.cells n.cells 165 (0, 0)) := by rw [objAt_alloc, if_neg (by simp), objAt_alloc, if_pos rfl]
 have hb : BlkAt ((w.alloc (.cells n.cells 165)).alloc (.cells Blk.zero.cells 37)) (w.heap.size + 1) Blk.zero := by
  have := BlkAt.alloc_new (w.alloc (.cells n.cells 165)) Blk.zero
  rwa [size_alloc] at this
 obtain ⟨G, hG⟩ : ∃ G, G = w.heap.size := ⟨_, rfl⟩
 obtain ⟨w1, hw1⟩ : ∃ w1, w1 = (w.alloc (.cells n.cells 165)).alloc (.cells Blk.zero.cells 37) := ⟨_, rfl⟩
 rw [← hw1] at hB0 ho hb
 rw [← hG] at ho hb
 have hN := hasNd_obj ho
 have hrow := rowAt_heap ho
 have hbk := hb.has
 have hrk := hb.row
 have HG := Lib.hid (And.intro hG hw1)
 have H1 := Lib.hid (And.intro hB0 (And.intro ho hb))
 have HM := Lib.hid (nMay_any kind n w1 hn)
 rw [hm] at HM
 clear hB0 hG hw1 ho hb hn hm
 go_enter Tryz.func149, Tryz.ntmps149
 go_upto_region 1 with fail
 rw [← HG.out.2, ← HG.out.1]
 go_wp2_with (go_at_call 188; refine HM.out.mono ?_; rintro e w2 ⟨rfl, b2⟩; have hb2 := H1.out.2.2.below b2 (block_lt H1.out.2.2); have hbk2 := hb2.has; have hrk2 := hb2.row; clear hbk hrk hN hrow)
 have hz := (hb2.setRow Blk.zero).row
 refine bodyPost_ret (results_two rfl (resOne_blk rfl hz) (resOne_tmp _ _ _)) rfl ?_
 exact ⟨rfl, (H1.out.1.trans (b2.mono H1.out.1.size)).setRow (by rw [HG.out.1]; exact Nat.le_succ _) _⟩
/-- The closure that reads on. -/
structure TkAt (w : World) (B A : Nat) (b : Blk) (k : Nat) : Prop where
 blk : BlkAt w B b
 at_ : objAt w A = some (.cells #[.int .i64 k] 3 (0, 0))
theorem fold_num (l : List UInt8) : ∀ k, k < l.length → num (l.take (k + 1)) = num (l.take k) * 256 + (l.getD k 0).toNat := fun k hk => by
 rw [num_take_succ l k hk, List.getD_eq_getElem?_getD, List.getElem?_eq_getElem hk]; rfl
set_option maxHeartbeats 2000000 in
theorem tnum_any (B A : Nat) (b : Blk) (p n : Nat) (w : World) (h : TkAt w B A b p) (hn : n ≤ 4) (hp : p + n ≤ 56) :
 Calls Tryz.prog 186 #[.int .i64 n, .pointer (some ⟨B, 0, none⟩), .pointer (some ⟨A, 0, none⟩)] w fun e w' => e = .returned (.int .u32 (b.sub p n : Nat)) ∧ Keeps (fun q => q = A) w w' ∧ TkAt w' B A b (p + n) := by
 have H := Lib.hid h
 clear h
 go_enter Tryz.func186, Tryz.ntmps186
 go_wp2_with fail
 go_loopw [4, 6] (fun v i wr => ∃ k : Nat, k ≤ n ∧ i = .int .i64 k ∧ v = .int .u32 (b.sub p k : Nat) ∧ Keeps (fun q => q = A) w wr ∧ TkAt wr B A b (p + k)) (fun _ i _ => n - (Go.RowKit.intOf i).toNat)
 case atStart => exact ⟨0, Nat.zero_le _, rfl, by simp [Blk.sub, num], Keeps.refl _ _, H.out⟩
 case round =>
  obtain ⟨k, hk, rfl, rfl, hK, hT⟩ := hrel
  by_cases hlt : k < n
  · have hlti : (k : Int) < (n : Int) := by omega
    have hs : b.sub p (k + 1) = b.sub p k * 256 + (b.body.getD (p + k) 0).toNat := by
     unfold Blk.sub
     rw [fold_num _ k (by rw [List.length_drop, b.len]; omega)]
     rw [List.getD_eq_getElem?_getD, List.getElem?_drop, List.getD_eq_getElem?_getD]
    have hlt4 : b.sub p k < 16777216 := by
     have := num_le ((b.body.drop p).take k) 3 (by rw [List.length_take]; omega)
     exact this
    obtain ⟨q, hq⟩ : ∃ q, q = p + k := ⟨_, rfl⟩
    rw [← hq] at hT hs
    have hq56 : q < 56 := by omega
    have cA := cell_obj hT.at_ 0
    have fA := free_obj hT.at_ 0
    have cB : wr.cell? ⟨B, 1 + q, none⟩ = some (.int .u8 ((b.body.getD q 0).toNat : Int)) := by rw [hT.blk.cell q hq56, List.getD_eq_getElem?_getD, List.getElem?_eq_getElem (by rw [b.len]; exact hq56)]; rfl
    have hc2 := (b.body.getD q 0).toNat_lt
    have q0 : (0 : Int) ≤ (q : Int) := Int.natCast_nonneg _
    have q1 : (q : Int) < 56 := by omega
    have hAB : A ≠ B := fun e => by
     have h1 := hT.at_
     rw [e] at h1
     exact ne_of_obj h1 hT.blk (by decide) rfl
    have HT := Lib.hid (And.intro hK (And.intro hT (And.intro hq (And.intro hs hAB))))
    generalize (b.body.getD q 0).toNat = c at *
    generalize b.sub p k = u at *
    clear hK hT hq hs hAB
    go_wp2_with fail
    go_roundw
    case rel =>
     have hset : Keeps (fun x => x = A) wr (wr.setCell ⟨A, 0, none⟩ (.int .i64 (q + 1 : Nat))) := Keeps.setCell _ _ _ rfl
     exact ⟨k + 1, by omega, by go_num, by rw [HT.out.2.2.2.1, or_byte u c hlt4 hc2], HT.out.1.trans hset, ⟨hset.obj HT.out.2.1.blk (fun e => HT.out.2.2.2.2 e.symm), by rw [show p + (k + 1) = q + 1 by have := HT.out.2.2.1; omega, objAt_setCell HT.out.2.1.at_]; rfl⟩⟩
    case measure => simp [Go.RowKit.intOf]; omega
  · obtain rfl : k = n := by omega
    have HT := Lib.hid (And.intro hK hT)
    clear hK hT
    go_wp2_with fail
    go_ret
    exact ⟨rfl, HT.out⟩
end Go.Proofs.YtbbnejehglonjaaGreat

/- DERIVED. Contract of node's Take, out of what Put tells of it. -/
namespace Go.Proofs.YtbbnejehglonjaaGreat
open Go.RowKit
attribute [local irreducible] Calls
set_option maxRecDepth 100000

/-- What Take has while it reads: p bytes are read, the node is at H. -/
structure TkSt (w0 w : World) (G H : Nat) (b : Blk) (p : Nat) (n : Nd) : Prop where
 rd : TkAt w G (G + 2) b p
 nd : objAt w H = some (.cells n.cells 165 (0, 0))
 out : objAt w (G + 1) = some (.cells Nd.zero.cells 165 (0, 0))
 bel : Below G w0 w
 hH : G + 2 < H
theorem TkSt.num {w0 w w' : World} {G H p q : Nat} {b : Blk} {n : Nd} (h : TkSt w0 w G H b p n) (hk : Keeps (fun x => x = G + 2) w w') (ht : TkAt w' G (G + 2) b q) : TkSt w0 w' G H b q n :=
 ⟨ht, hk.obj h.nd (fun e => by have := h.hH; omega), hk.obj h.out (by omega), hk.below (by have := block_lt h.rd.at_; omega) (fun x e => by omega) |> h.bel.trans, h.hH⟩
theorem TkSt.set {w0 w : World} {G H p : Nat} {b : Blk} {n n' : Nd} (h : TkSt w0 w G H b p n) (i : Nat) (x : Value) (hx : n.cells.setIfInBounds i x = n'.cells) : TkSt w0 (w.setCell ⟨H, i, none⟩ x) G H b p n' := by
 have hk : Keeps (fun q => q = H) w (w.setCell ⟨H, i, none⟩ x) := Keeps.setCell _ _ _ rfl
 have := h.hH
 exact ⟨⟨hk.obj h.rd.blk (by omega), hk.obj h.rd.at_ (by omega)⟩, by rw [objAt_setCell h.nd, hx], hk.obj h.out (by omega), h.bel.trans (hk.below (by have := block_lt h.rd.at_; omega) (fun q e => by omega)), h.hH⟩
theorem sub_long (b : Blk) : b.sub 20 1 = b.long := by
 unfold Blk.sub Blk.long
 rw [List.getD_eq_getElem?_getD, List.getElem?_eq_getElem (by rw [b.len]; decide), Option.getD_some]
 have : (b.body.drop 20).take 1 = [b.body[20]'(by rw [b.len]; decide)] := by
  rw [List.drop_eq_getElem_cons (by rw [b.len]; decide)]; rfl
 rw [this]
 simp [num]
/-- The node as it is read; a target that is too long ends with the block. -/
def nodeCut (b : Blk) : Nd := { nodeUpto b 4 with index := (b.sub 18 2 : Int) - 1, target := ⟨((b.body.drop 21).take (min b.long 35)).toArray⟩ }
theorem nodeCut_of {b : Blk} (h : ¬ 35 < b.long) : nodeCut b = nodeOf b := by
 unfold nodeCut
 rw [show min b.long 35 = b.long by omega]; rfl
theorem nodeCut_long {b : Blk} (h : 35 < b.long) (kind : Int) : mayNode kind (nodeCut b) = false := by
 have hl : (nodeCut b).target.data.toList.length = 35 := by
  unfold nodeCut
  rw [show min b.long 35 = 35 by omega]
  simp [b.len]
 unfold mayNode kindOk
 have h1 : (nodeCut b).target.data.toList.isEmpty = false := by
  cases hx : (nodeCut b).target.data.toList with
  | nil => rw [hx] at hl; simp at hl
  | cons a l => rfl
 have h2 : mayTarget (nodeCut b).target.data.toList = false := by
  unfold mayTarget
  rw [hl]; simp
 rw [h1, h2]
 split
 · simp
 · split
   · simp
   · split <;> simp
theorem takeNode_eq (b : Blk) : takeNode b = if putNode b.kind (nodeCut b) = (b, true) then (nodeCut b, true) else (Nd.zero, false) := by
 unfold takeNode
 by_cases h : 35 < b.long
 · rw [if_pos h, if_neg (fun e => by
    unfold putNode at e
    rw [nodeCut_long h] at e
    cases e)]
 · rw [if_neg h, nodeCut_of h]
def nPutSays (kind : Int) : Prop := ∀ (n : Nd) (w : World), n.wf → Calls Tryz.prog 149 #[.int .i64 kind, .agg n.cells] w fun e w' => e = .returned (.tuple #[.agg (putNode kind n).1.cells, .bool (putNode kind n).2]) ∧ Below w.heap.size w w'
set_option maxHeartbeats 4000000 in
theorem nTake_any (b : Blk) (w : World) (hPut : nPutSays b.kind) :
 Calls Tryz.prog 143 #[.agg b.cells] w fun e w' => e = .returned (.tuple #[.agg (takeNode b).1.cells, .bool (takeNode b).2]) ∧ Below w.heap.size w w' := by
 have HPut := Lib.hid hPut
 clear hPut
 go_enter Tryz.func143, Tryz.ntmps143
 go_upto_region 2 with fail
 have hA : BlkAt (((w.alloc (.cells b.cells 37)).alloc (.cells Nd.zero.cells 165)).alloc (.cells #[.int .i64 0] 3)) w.heap.size b := ((BlkAt.alloc_new _ _).alloc _).alloc _
 have hZ : objAt (((w.alloc (.cells b.cells 37)).alloc (.cells Nd.zero.cells 165)).alloc (.cells #[.int .i64 0] 3)) (w.heap.size + 1) = some (.cells Nd.zero.cells 165 (0, 0)) := by rw [objAt_alloc, size_alloc, size_alloc, if_neg (by omega), objAt_alloc, size_alloc, if_pos rfl]
 have hI : objAt (((w.alloc (.cells b.cells 37)).alloc (.cells Nd.zero.cells 165)).alloc (.cells #[.int .i64 0] 3)) (w.heap.size + 2) = some (.cells #[.int .i64 0] 3 (0, 0)) := by rw [objAt_alloc, size_alloc, size_alloc, if_pos rfl]
 have hB : Below w.heap.size w (((w.alloc (.cells b.cells 37)).alloc (.cells Nd.zero.cells 165)).alloc (.cells #[.int .i64 0] 3)) := grow_alloc (grow_alloc (grow_alloc (Below.refl _ _) _) _) _
 rw [show Nd.zero.cells = #[.int .u32 0, .int .i64 0, .int .i64 0, .int .i64 0, .int .i64 0, .int .i64 0, .int .i64 0, .int .i64 0, .string ⟨#[]⟩] from rfl] at hA hZ hB hI
 obtain ⟨w0, hw0⟩ : ∃ w0, w0 = ((w.alloc (.cells b.cells 37)).alloc (.cells #[.int .u32 0, .int .i64 0, .int .i64 0, .int .i64 0, .int .i64 0, .int .i64 0, .int .i64 0, .int .i64 0, .string ⟨#[]⟩] 165)).alloc (.cells #[.int .i64 0] 3) := ⟨_, rfl⟩
 obtain ⟨G, hG⟩ : ∃ G, G = w.heap.size := ⟨_, rfl⟩
 have hGw : Below G w w := by rw [hG]; exact Below.refl _ _
 rw [← hw0] at hA hZ hI hB ⊢
 rw [← hG] at hA hZ hI hB ⊢
 have H0 := Lib.hid (And.intro (TkAt.mk hA hI) (And.intro hZ (And.intro hB hG)))
 clear hA hZ hI hB hw0 hG hGw
 have u1 : IntKind.i64.wrap (b.sub 4 2 : Int) = b.sub 4 2 := IntWalk.i64_in _ (by have := b.sub_lt 4 2; omega)
 have u2 : IntKind.i64.wrap (b.sub 6 4 : Int) = b.sub 6 4 := IntWalk.i64_in _ (by have := b.sub_lt 6 4; omega)
 go_upto_region 4 with (first
  | (go_at_call 186; refine (tnum_any G (G + 2) b 0 4 _ H0.out.1 (by decide) (by decide)).mono ?_; rintro e x1 ⟨rfl, k1, t1⟩)
  | (go_at_call 186; refine (tnum_any G (G + 2) b 4 2 _ t1 (by decide) (by decide)).mono ?_; rintro e x2 ⟨rfl, k2, t2⟩)
  | (go_at_call 186; refine (tnum_any G (G + 2) b 6 4 _ t2 (by decide) (by decide)).mono ?_; rintro e x3 ⟨rfl, k3, t3⟩))
 have hk3 : Keeps (fun x => x = G + 2) w0 x3 := (k1.trans k2).trans k3
 have hH : G + 2 < x3.heap.size := block_lt t3.at_
 obtain ⟨H, hH'⟩ : ∃ H, H = x3.heap.size := ⟨_, rfl⟩
 have hst : TkSt w (x3.alloc (.cells (nodeUpto b 0).cells 165)) G H b 10 (nodeUpto b 0) :=
  ⟨⟨t3.blk.alloc _, grow_obj (grow_alloc (Below.refl _ _) _) t3.at_⟩, by rw [objAt_alloc, if_pos hH'], grow_obj (grow_alloc (Below.refl _ _) _) (hk3.obj H0.out.2.1 (by omega)),
   (H0.out.2.2.1.trans (hk3.below (by have := H0.out.2.2.1.size; have := H0.out.2.2.2; omega) (fun q e => by omega))).alloc (by omega) _, by omega⟩
 rw [show (nodeUpto b 0).cells = #[.int .u32 (b.sub 0 4 : Nat), .int .i64 (b.sub 4 2 : Nat), .int .i64 (b.sub 6 4 : Nat), .int .i64 0, .int .i64 0, .int .i64 0, .int .i64 0, .int .i64 0, .string ⟨#[]⟩] from rfl] at hst
 rw [← hH']
 obtain ⟨w4, hw4⟩ : ∃ w4, w4 = x3.alloc (.cells #[.int .u32 (b.sub 0 4 : Nat), .int .i64 (b.sub 4 2 : Nat), .int .i64 (b.sub 6 4 : Nat), .int .i64 0, .int .i64 0, .int .i64 0, .int .i64 0, .int .i64 0, .string ⟨#[]⟩] 165) := ⟨_, rfl⟩
 rw [← hw4] at hst ⊢
 clear hk3 hH hH' hw4 k1 k2 k3 t1 t2 t3 u1 u2
 go_wp2_with fail
 go_loopw [21] (fun s6 wr => ∃ k : Nat, k ≤ 4 ∧ s6 = .int .i64 k ∧ TkSt w wr G H b (10 + 2 * k) (nodeUpto b k)) (fun i _ => 4 - (Go.RowKit.intOf i).toNat)
 case atStart => exact ⟨0, Nat.zero_le _, rfl, hst⟩
 case round =>
  clear hst
  obtain ⟨k, hk, rfl, hs⟩ := hrel
  by_cases hlt : k < 4
  · obtain rfl | rfl | rfl | rfl : k = 0 ∨ k = 1 ∨ k = 2 ∨ k = 3 := by omega
    · have cN := cell_obj hs.nd 3
      have fN := free_obj hs.nd 3
      have cN' : wr.cell? ⟨H, 3, none⟩ = some (.int .i64 0) := cN.trans rfl
      have hb0 : (0 : Int) ≤ (b.sub 10 2 : Int) := Int.natCast_nonneg _
      have hb1 : (b.sub 10 2 : Int) < 65536 := by have := b.sub_lt 10 2; omega
      have u1 : IntKind.i64.wrap (b.sub 10 2 : Int) = b.sub 10 2 := IntWalk.i64_in _ (by omega)
      have HS := Lib.hid hs
      clear hs cN
      go_wp2_with (go_at_call 186; refine (tnum_any G (G + 2) b 10 2 _ HS.out.rd (by decide) (by decide)).mono ?_; rintro e x1 ⟨rfl, k1, t1⟩; have hs1 := HS.out.num k1 t1; have cM : x1.cell? ⟨H, 3, none⟩ = some (.int .i64 0) := (cell_obj hs1.nd 3).trans rfl; have fM := free_obj hs1.nd 3; have HS1 := Lib.hid hs1; clear hs1 k1 t1 cN' fN)
      go_roundw
      case rel => exact ⟨1, by omega, rfl, HS1.out.set 3 _ rfl⟩
      case measure => decide
    · have cN := cell_obj hs.nd 4
      have fN := free_obj hs.nd 4
      have cN' : wr.cell? ⟨H, 4, none⟩ = some (.int .i64 0) := cN.trans rfl
      have hb0 : (0 : Int) ≤ (b.sub 12 2 : Int) := Int.natCast_nonneg _
      have hb1 : (b.sub 12 2 : Int) < 65536 := by have := b.sub_lt 12 2; omega
      have u1 : IntKind.i64.wrap (b.sub 12 2 : Int) = b.sub 12 2 := IntWalk.i64_in _ (by omega)
      have HS := Lib.hid hs
      clear hs cN
      go_wp2_with (go_at_call 186; refine (tnum_any G (G + 2) b 12 2 _ HS.out.rd (by decide) (by decide)).mono ?_; rintro e x1 ⟨rfl, k1, t1⟩; have hs1 := HS.out.num k1 t1; have cM : x1.cell? ⟨H, 4, none⟩ = some (.int .i64 0) := (cell_obj hs1.nd 4).trans rfl; have fM := free_obj hs1.nd 4; have HS1 := Lib.hid hs1; clear hs1 k1 t1 cN' fN)
      go_roundw
      case rel => exact ⟨2, by omega, rfl, HS1.out.set 4 _ rfl⟩
      case measure => decide
    · have cN := cell_obj hs.nd 5
      have fN := free_obj hs.nd 5
      have cN' : wr.cell? ⟨H, 5, none⟩ = some (.int .i64 0) := cN.trans rfl
      have hb0 : (0 : Int) ≤ (b.sub 14 2 : Int) := Int.natCast_nonneg _
      have hb1 : (b.sub 14 2 : Int) < 65536 := by have := b.sub_lt 14 2; omega
      have u1 : IntKind.i64.wrap (b.sub 14 2 : Int) = b.sub 14 2 := IntWalk.i64_in _ (by omega)
      have HS := Lib.hid hs
      clear hs cN
      go_wp2_with (go_at_call 186; refine (tnum_any G (G + 2) b 14 2 _ HS.out.rd (by decide) (by decide)).mono ?_; rintro e x1 ⟨rfl, k1, t1⟩; have hs1 := HS.out.num k1 t1; have cM : x1.cell? ⟨H, 5, none⟩ = some (.int .i64 0) := (cell_obj hs1.nd 5).trans rfl; have fM := free_obj hs1.nd 5; have HS1 := Lib.hid hs1; clear hs1 k1 t1 cN' fN)
      go_roundw
      case rel => exact ⟨3, by omega, rfl, HS1.out.set 5 _ rfl⟩
      case measure => decide
    · have cN := cell_obj hs.nd 6
      have fN := free_obj hs.nd 6
      have cN' : wr.cell? ⟨H, 6, none⟩ = some (.int .i64 0) := cN.trans rfl
      have hb0 : (0 : Int) ≤ (b.sub 16 2 : Int) := Int.natCast_nonneg _
      have hb1 : (b.sub 16 2 : Int) < 65536 := by have := b.sub_lt 16 2; omega
      have u1 : IntKind.i64.wrap (b.sub 16 2 : Int) = b.sub 16 2 := IntWalk.i64_in _ (by omega)
      have HS := Lib.hid hs
      clear hs cN
      go_wp2_with (go_at_call 186; refine (tnum_any G (G + 2) b 16 2 _ HS.out.rd (by decide) (by decide)).mono ?_; rintro e x1 ⟨rfl, k1, t1⟩; have hs1 := HS.out.num k1 t1; have cM : x1.cell? ⟨H, 6, none⟩ = some (.int .i64 0) := (cell_obj hs1.nd 6).trans rfl; have fM := free_obj hs1.nd 6; have HS1 := Lib.hid hs1; clear hs1 k1 t1 cN' fN)
      go_roundw
      case rel => exact ⟨4, by omega, rfl, HS1.out.set 6 _ rfl⟩
      case measure => decide
  · obtain rfl : k = 4 := by omega
    have cN : wr.cell? ⟨H, 7, none⟩ = some (.int .i64 0) := (cell_obj hs.nd 7).trans rfl
    have fN := free_obj hs.nd 7
    have hb0 : (0 : Int) ≤ (b.sub 18 2 : Int) := Int.natCast_nonneg _
    have hb1 : (b.sub 18 2 : Int) < 65536 := by have := b.sub_lt 18 2; omega
    have u1 : IntKind.i64.wrap (b.sub 18 2 : Int) = b.sub 18 2 := IntWalk.i64_in _ (by omega)
    have HS := Lib.hid hs
    clear hs
    go_upto_region 10 with (go_at_call 186; refine (tnum_any G (G + 2) b 18 2 _ HS.out.rd (by decide) (by decide)).mono ?_; rintro e x1 ⟨rfl, k1, t1⟩; have hs1 := HS.out.num k1 t1; have cM : x1.cell? ⟨H, 7, none⟩ = some (.int .i64 0) := (cell_obj hs1.nd 7).trans rfl; have fM := free_obj hs1.nd 7; have HS1 := Lib.hid hs1; clear hs1 k1 t1 cN fN)
    have h7 := HS1.out.set (n' := { nodeUpto b 4 with index := (b.sub 18 2 : Int) - 1 }) 7 (.int .i64 ((b.sub 18 2 : Nat) - 1)) rfl
    obtain ⟨w7, hw7⟩ : ∃ w7, w7 = x1.setCell ⟨H, 7, none⟩ (.int .i64 ((b.sub 18 2 : Nat) - 1)) := ⟨_, rfl⟩
    rw [← hw7] at h7 ⊢
    clear hw7 cM fM HS1 HS u1 hb0 hb1
    have hlong : b.sub 20 1 = b.long := sub_long b
    have hl255 : b.long ≤ 255 := by unfold Blk.long; have := (b.body.getD 20 0).toNat_lt; omega
    have H7 := Lib.hid h7
    clear h7
    have u1 : IntKind.i64.wrap (b.long : Int) = b.long := IntWalk.i64_in _ (by omega)
    go_upto_region 11 with (go_at_call 186; refine (tnum_any G (G + 2) b 20 1 _ H7.out.rd (by decide) (by decide)).mono ?_; rw [hlong]; rintro e x1 ⟨rfl, k1, t1⟩)
    have h8 := H7.out.num k1 t1
    clear k1 t1
    obtain ⟨m, hm⟩ : ∃ m, m = min b.long 35 := ⟨_, rfl⟩
    have cA : x1.cell? ⟨G + 1 + 1, 0, none⟩ = some (.int .i64 21) := cell_obj h8.rd.at_ 0
    have c8 : x1.cell? ⟨H, 8, none⟩ = some (.string ⟨#[]⟩) := (cell_obj h8.nd 8).trans rfl
    have f8 := free_obj h8.nd 8
    have htl : ((b.body.drop 21).take m).length = m := by rw [List.length_take, List.length_drop, b.len]; omega
    have hconv := run_convert_bytes_back (P := Tryz.prog) x1 22 9 5 ⟨G, 22, none⟩ 35 ((b.body.drop 21).take m) Tryz.underlying22 Tryz.underlying5 Tryz.underlying9 (fun j hj => by
     rw [htl] at hj
     have hc := h8.rd.blk.cell (21 + j) (by omega)
     have hadd : (⟨G, 22, none⟩ : Addr).add j = ⟨G, 22 + j, none⟩ := by unfold Addr.add; split <;> simp_all
     rw [hadd, show 22 + j = 1 + (21 + j) by omega, hc]
     simp only [List.getElem_take, List.getElem_drop])
    rw [htl] at hconv
    have h9 := h8.set (n' := nodeCut b) 8 (.string ⟨((b.body.drop 21).take m).toArray⟩) (by rw [hm]; rfl)
    obtain ⟨T, hT⟩ : ∃ T, T = ((b.body.drop 21).take m).toArray := ⟨_, rfl⟩
    rw [← hT] at hconv h9
    have H8 := Lib.hid (And.intro h9 (And.intro h8 (And.intro htl (And.intro hm hT))))
    clear h8 h9 htl hT hlong hm
    go_cut [] (fun wx => wx = x1.setCell ⟨H, 8, none⟩ (.string ⟨T⟩))
    case first =>
     by_cases hl : b.long ≤ 35
     · have hm : m = b.long := by have := H8.out.2.2.2.1; omega
       subst hm
       clear H8
       have z1 : min (21 + (b.long : Int)) 56 = 21 + (b.long : Int) := by omega
       have z2 : (b.long : Int) ≤ 35 := by omega
       have z3 : (0 : Int) ≤ (b.long : Int) := by omega
       have z4 : (21 : Int) ≤ 21 + (b.long : Int) := by omega
       have z5 : 21 + (b.long : Int) ≤ 56 := by omega
       have z6 : ¬ (21 + (b.long : Int) < 21) := by omega
       clear hl
       go_wp2_with fail
       go_meet
       rfl
     · have hm : m = 35 := by have := H8.out.2.2.2.1; omega
       subst hm
       clear H8
       have z1 : min (21 + (b.long : Int)) 56 = 56 := by omega
       go_wp2_with fail
       go_meet
       rfl
    case rest =>
     have h9 := H8.out.1
     rw [← hcut] at h9
     clear hconv cA c8 f8 u1 H8 H7 hcut hl255 hlt hk
     have ck : wc.cell? ⟨G, 0, none⟩ = some (.int .i64 b.kind) := (cell_obj h9.rd.blk 0).trans b.cell0
     have hnd := hasNd_obj h9.nd
     have hnr := rowAt_heap h9.nd
     have hwf : (nodeCut b).wf := by
      have := b.sub_lt 0 4
      refine ⟨by simp [nodeCut, nodeUpto], by simp only [nodeCut, nodeUpto]; omega, ?_⟩
      show ((b.body.drop 21).take (min b.long 35)).toArray.size ≤ 1000000
      simp; omega
     obtain ⟨⟨pb, pok⟩, hp⟩ : ∃ p, putNode b.kind (nodeCut b) = p := ⟨_, rfl⟩
     have hP := HPut.out (nodeCut b) wc hwf
     have hTk := takeNode_eq b
     rw [hp] at hP hTk
     dsimp only at hP
     have HP := Lib.hid hP
     have HTk := Lib.hid hTk
     have H9 := Lib.hid h9
     clear hP hp hTk hwf h9
     generalize hNC : nodeCut b = N at *
     clear hNC
     go_upto_region 13 with (go_at_call 149; refine HP.out.mono ?_; rintro e w9 ⟨rfl, be9⟩)
     have hB10 : Below wc.heap.size wc (w9.alloc (.cells pb.cells 37)) := grow_alloc be9 _
     have hb10 := H9.out.rd.blk.below hB10 (block_lt H9.out.rd.blk)
     have hk10 := BlkAt.alloc_new w9 pb
     have hO10 := grow_obj hB10 H9.out.nd
     have hZ10 := grow_obj hB10 H9.out.out
     have hbel10 : Below G w (w9.alloc (.cells pb.cells 37)) := H9.out.bel.trans (hB10.mono (by have := block_lt H9.out.rd.at_; omega))
     clear ck hnd hnr hB10 be9
     generalize hw10 : w9.alloc (.cells pb.cells 37) = w10 at *
     generalize hK : w9.heap.size = K at *
     have hh1 := hb10.has
     have hr1 := hb10.row
     have hh2 := hk10.has
     have hr2 := hk10.row
     have hh3 := hasNd_obj hO10
     have hr3 : rowAt w10 H = some N.cells := rowAt_heap hO10
     have hh4 := hasNd_obj hZ10
     have HF := Lib.hid (And.intro (rowAt_heap (objAt_setRow hZ10 Nd.zero.cells)) (And.intro (hbel10.setRow (g := G + 1) (Nat.le_succ _) Nd.zero.cells)
      (And.intro (rowAt_heap (objAt_setRow hZ10 N.cells)) (hbel10.setRow (g := G + 1) (Nat.le_succ _) N.cells))))
     have HG := Lib.hid H0.out.2.2.2
     clear hb10 hk10 hO10 hZ10 hbel10 hw10 hK H9 H0
     cases pok
     · have Ht := Lib.hid (show takeNode b = (Nd.zero, false) by rw [HTk.out, if_neg (by intro h; cases h)])
       go_wp2_with fail
       refine bodyPost_ret (results_two rfl (resOne_nd rfl HF.out.1) (resOne_tmp _ _ _)) rfl ?_
       exact ⟨by rw [Ht.out]; rfl, by rw [← HG.out]; exact HF.out.2.1⟩
     · by_cases hpb : pb = b
       · have d1 : decide (pb = b) = true := by simpa using hpb
         have Ht := Lib.hid (show takeNode b = (N, true) by rw [HTk.out, if_pos (by rw [hpb])])
         clear hpb
         go_wp2_with fail
         refine bodyPost_ret (results_two rfl (resOne_nd rfl HF.out.2.2.1) (resOne_tmp _ _ _)) rfl ?_
         exact ⟨by rw [Ht.out]; rfl, by rw [← HG.out]; exact HF.out.2.2.2⟩
       · have d1 : decide (pb = b) = false := by simpa using hpb
         have Hpb := Lib.hid hpb
         clear hpb
         have Ht := Lib.hid (show takeNode b = (Nd.zero, false) by rw [HTk.out, if_neg (by intro h; injection h with h1 h2; exact Hpb.out h1)])
         go_wp2_with fail
         refine bodyPost_ret (results_two rfl (resOne_nd rfl HF.out.1) (resOne_tmp _ _ _)) rfl ?_
         exact ⟨by rw [Ht.out]; rfl, by rw [← HG.out]; exact HF.out.2.1⟩
end Go.Proofs.YtbbnejehglonjaaGreat
