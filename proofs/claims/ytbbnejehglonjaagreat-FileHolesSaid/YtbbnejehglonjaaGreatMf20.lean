/- DERIVED. Contracts and laws that the proofs of this seat share, part 20 of 36: Rf15A. -/
import Derived.Test.YtbbnejehglonjaaGreatMf00
import Derived.Test.YtbbnejehglonjaaGreatMf06
namespace Go.Proofs.YtbbnejehglonjaaGreat
set_option maxHeartbeats 8000000
set_option maxRecDepth 100000
set_option linter.unusedSimpArgs false
set_option linter.unusedVariables false
section
open Go.RowKit
attribute [local irreducible] Calls
theorem takeNode_true {b : Blk} {n : Nd} (h : takeNode b = (n, true)) : n = nodeOf b ∧ mayNode b.kind n = true := by
 unfold takeNode at h
 split at h
 · cases h
 · split at h
   · rename_i h2
     have e : n = nodeOf b := (congrArg Prod.fst h).symm
     refine ⟨e, ?_⟩
     rw [e]
     unfold putNode at h2
     split at h2
     · assumption
     · cases h2
   · cases h
theorem takeNode_small {b : Blk} {n : Nd} (h : takeNode b = (n, true)) : n.small := mayNode_small (takeNode_true h).2
theorem takeNode_wf {b : Blk} {n : Nd} {ok : Bool} (h : takeNode b = (n, ok)) : n.wf := by
 unfold takeNode at h
 split at h
 · have : n = Nd.zero := (congrArg Prod.fst h).symm
   rw [this]; exact ⟨by decide, by decide, by decide⟩
 · split at h
   · have : n = nodeOf b := (congrArg Prod.fst h).symm
     rw [this]; exact nodeOf_wf b
   · have : n = Nd.zero := (congrArg Prod.fst h).symm
     rw [this]; exact ⟨by decide, by decide, by decide⟩

theorem isNode_any (k : Int) (w : World) : Calls Tryz.prog 75 #[.int .i64 k] w fun e w' => e = .returned (.bool (isNode k)) ∧ w = w' := by
 have Hk := Lib.hid (show isNode k = ((k == 1) || (k == 2) || (k == 3)) from rfl)
 cases h1 : (k == 1) <;> cases h2 : (k == 2) <;> cases h3 : (k == 3)
 all_goals
  rw [h1, h2, h3] at Hk
  go_enter Tryz.func75, Tryz.ntmps75
  go_wp2_with fail
  go_ret
  exact ⟨by rw [Hk.out]; rfl, rfl⟩

theorem named_kind {bs : List Blk} {i : Nat} (h : (bs.getD i Blk.zero).kind ≠ 1) : named bs i = [] := by unfold named; rw [if_neg h]
theorem named_bad {bs : List Blk} {i : Nat} {n : Nd} (h : takeNode (bs.getD i Blk.zero) = (n, false)) : named bs i = [] := by
 unfold named; rw [h]; split <;> rfl
theorem named_ok {bs : List Blk} {i : Nat} {n : Nd} (hk : (bs.getD i Blk.zero).kind = 1) (h : takeNode (bs.getD i Blk.zero) = (n, true)) : named bs i = namesOf bs n := by
 unfold named; rw [h, if_pos hk]
theorem direct_ints {w : World} {H : Nat} {n : Nd} {t : TypeId} (h : objAt w H = some (.cells n.cells t (0, 0))) : IntsAt w (some ⟨H, 3, none⟩) n.direct := by
 refine ⟨H, 3, fun _ => rfl, fun i hi => ?_⟩
 rw [cell_of_row w H (3 + i) _ _ _ h]
 have : i < 4 := hi
 match i, this with
 | 0, _ => rfl
 | 1, _ => rfl
 | 2, _ => rfl
 | 3, _ => rfl

theorem Named_any (g cap : Nat) (bs : List Blk) (i : Nat) (w : World) (h : KRow w 0 (.slice (some ⟨g, 0, none⟩) bs.length cap) bs) (hi : i < bs.length) (_ : bs.length ≤ 1000) :
 Calls Tryz.prog 124 #[.slice (some ⟨g, 0, none⟩) bs.length cap, .int .i64 i] w fun e w' => ∃ v, e = .returned v ∧ IRow w' w.heap.size v (named bs i) ∧ Below w.heap.size w w' := by
 have hc := h.kind i hi
 have hh := h.has i hi
 have hr := h.row i hi
 have i0 : (0 : Int) ≤ (i : Int) := Int.natCast_nonneg _
 have i1 : (i : Int) < (bs.length : Int) := by omega
 have Hrow := Lib.hid h
 obtain ⟨b, hb⟩ : ∃ b, b = bs.getD i Blk.zero := ⟨_, rfl⟩
 rw [← hb] at hc hr
 clear h
 by_cases hk : b.kind = 1
 · obtain ⟨⟨n, ok⟩, hn⟩ : ∃ p, takeNode b = p := ⟨_, rfl⟩
   have hT := fun w' => TakeNode_any b w'
   simp only [hn] at hT
   rw [hk] at hc
   have HT := Lib.hid hT
   have Hn := Lib.hid (And.intro hb (And.intro hk hn))
   clear hT hb hk hn
   go_enter Tryz.func124, Tryz.ntmps124
   cases ok
   · have Hna := Lib.hid (named_bad (bs := bs) (i := i) (by rw [← Hn.out.1]; exact Hn.out.2.2))
     go_wp2_with (first | (go_at_call 151; refine (HT.out _).mono ?_; rintro e w1 ⟨rfl, b1⟩))
     go_ret
     exact ⟨_, rfl, by rw [Hna.out]; exact IRow.nil _ _, grow_alloc b1 _⟩
   · have Hna := Lib.hid (named_ok (bs := bs) (i := i) (by rw [← Hn.out.1]; exact Hn.out.2.1) (by rw [← Hn.out.1]; exact Hn.out.2.2))
     have hsm := takeNode_small Hn.out.2.2
     have hp4 := hsm.place 4 (by decide)
     replace hp4 : -1 ≤ n.index ∧ n.index < 200 := hp4
     obtain ⟨hx0, hx1⟩ := hp4
     clear hsm
     go_upto_region 6 with (first | (go_at_call 151; refine (HT.out _).mono ?_; rintro e w1 ⟨rfl, b1⟩))
     have hB := grow_alloc b1 (.cells n.cells 165)
     have hO : objAt (w1.alloc (.cells n.cells 165)) w1.heap.size = some (.cells n.cells 165 (0, 0)) := by rw [objAt_alloc, if_pos rfl]
     have hH : w.heap.size ≤ w1.heap.size := b1.size
     generalize w1.alloc (.cells n.cells 165) = w2 at *
     generalize w1.heap.size = H at *
     clear b1 hc hh hr
     have hc7 : w2.cell? ⟨H, 7, none⟩ = some (.int .i64 n.index) := by rw [cell_of_row w2 H 7 _ _ _ hO]; rfl
     have Hreal := Lib.hid (fun (w' : World) (hb : Below w2.heap.size w2 w') => Real_any (some ⟨H, 3, none⟩) n.direct 4 w' (direct_ints (grow_obj hb hO)) (show (4 : Nat) ≤ 1000 by decide))
     have HB := Lib.hid (And.intro hB hO)
     have Hrl := Lib.hid (real_length n.direct)
     clear hB
     by_cases hm : n.index = -1
     · have e1 : (n.index == -1) = true := by simpa using hm
       have e1' : (n.index != -1) = false := by rw [bne, e1]; rfl
       have Hno := Lib.hid (show namesOf bs n = real n.direct by unfold namesOf; rw [e1]; rfl)
       clear hm
       go_wp2_with (first | (go_at_call 95; refine (Hreal.out _ (Below.refl _ _)).mono ?_; rintro e w3 ⟨v3, rfl, r3, b3⟩) | (at_builtin; refine list_appI rfl _ _ rfl rfl (IRow.nil _ w.heap.size) rfl r3 (by have := Hrl.out; simp only [List.length_nil]; have : n.direct.length = 4 := rfl; omega) (Nat.le_trans HB.out.1.size b3.size) ?_; intro v4 w4 r4 b4))
       go_ret
       refine ⟨_, rfl, ?_, (grow_trans HB.out.1 b3).trans b4⟩
       rw [Hna.out, Hno.out]; exact r4
     · have e1 : (n.index == -1) = false := by simpa using hm
       have e1' : (n.index != -1) = true := by rw [bne, e1]; rfl
       obtain ⟨j, hj⟩ := Int.eq_ofNat_of_zero_le (show 0 ≤ n.index by omega)
       clear hm
       by_cases hin : j < bs.length
       · have hin' : (j : Int) < (bs.length : Int) := by omega
         have j0 : (0 : Int) ≤ (j : Int) := Int.natCast_nonneg _
         have hinB : inB bs n.index = true := by rw [hj]; simp [inB, hin]
         have hblk : blkD bs n.index = bs.getD j Blk.zero := by unfold blkD; rw [hj]; simp
         have Hno := Lib.hid (show namesOf bs n = [(j : Int)] ++ real ((takeIndex (bs.getD j Blk.zero)).getD []) ++ real n.direct by unfold namesOf; rw [e1, hinB, hblk, hj]; rfl)
         obtain ⟨c, hc⟩ : ∃ c, c = bs.getD j Blk.zero := ⟨_, rfl⟩
         rw [← hc] at Hno
         have Hc := Lib.hid hc
         clear hinB hblk hc
         rw [hj] at hc7 hx0 hx1 e1 e1'
         have hK := fun (w' : World) (hb : Below w2.heap.size w2 w') => KRow.below Hrow.out (grow_trans HB.out.1 hb)
         have HK := Lib.hid hK
         have Hli := Lib.hid (show ((takeIndex c).getD []).length ≤ 16 by
          unfold takeIndex
          split
          · simp [indexOf]
          · simp)
         clear hK
         have hwB := HB.out.1.size
         go_wp2_with (first | (at_builtin; refine wpList_app1 elemInt rfl _ _ rfl (World.ownsRow.alloc (IRow.nil _ w2.heap.size) _) rfl _ (.int .i64 (j : Int)) rfl (by simp) rfl (by decide) (by simp) ?_; intro v3 w3 r3 g3 b3; have r3' : IRow w3 w2.heap.size v3 [(j : Int)] := r3; have q3 := (grow_alloc (Below.refl w2.heap.size w2) (.cells #[.int .i64 (j : Int)] 3)).trans b3; have c7 := grow_cell q3 hc7; have kh := (HK.out _ q3).has j hin; have kr := (HK.out _ q3).row j hin; rw [← Hc.out] at kr) | (go_at_call 94; refine (TakeIndex_any c _).mono ?_; rintro e w4 ⟨v4, rfl, r4, b4⟩; obtain ⟨a4, c4, rfl, i4⟩ := r4.ints) | (go_at_call 95; refine (Real_any a4 _ c4 _ i4 (by have := Hli.out; omega)).mono ?_; rintro e w5 ⟨v5, rfl, r5, b5⟩; have q5 := grow_trans (grow_trans q3 b4) b5) | (at_builtin; refine list_appI rfl _ _ rfl rfl ((r3'.below b4).below b5) rfl r5 (by have h1 := real_length ((takeIndex c).getD []); have h2 := Hli.out; simp only [List.length_cons, List.length_nil]; omega) q5.size ?_; intro v6 w6 r6 b6; have q6 := q5.trans b6) | (go_at_call 95; refine (Hreal.out _ q6).mono ?_; rintro e w7 ⟨v7, rfl, r7, b7⟩; have q7 := grow_trans q6 b7) | (at_builtin; refine list_appI rfl _ _ rfl rfl (r6.below b7) rfl r7 (by have h1 := real_length ((takeIndex c).getD []); have h2 := Hli.out; have h3 := Hrl.out; simp only [List.length_append, List.length_cons, List.length_nil]; have : n.direct.length = 4 := rfl; omega) q7.size ?_; intro v8 w8 r8 b8; have q8 := q7.trans b8))
         go_ret
         refine ⟨_, rfl, ?_, grow_trans HB.out.1 q8⟩
         rw [Hna.out, Hno.out]; exact r8.mono hwB
       · have hin' : (bs.length : Int) ≤ (j : Int) := by omega
         have hinB : inB bs n.index = false := by rw [hj]; simp [inB]; omega
         have Hno := Lib.hid (show namesOf bs n = [(j : Int)] ++ real n.direct by unfold namesOf; rw [e1, hinB, hj]; rfl)
         rw [hj] at hc7 hx0 hx1 e1 e1'
         have hwB := HB.out.1.size
         clear hinB
         go_wp2_with (first | (at_builtin; refine wpList_app1 elemInt rfl _ _ rfl (World.ownsRow.alloc (IRow.nil _ w2.heap.size) _) rfl _ (.int .i64 (j : Int)) rfl (by simp) rfl (by decide) (by simp) ?_; intro v3 w3 r3 g3 b3; have r3' : IRow w3 w2.heap.size v3 [(j : Int)] := r3; have q3 := (grow_alloc (Below.refl w2.heap.size w2) (.cells #[.int .i64 (j : Int)] 3)).trans b3; have c7 := grow_cell q3 hc7) | (go_at_call 95; refine (Hreal.out _ q3).mono ?_; rintro e w7 ⟨v7, rfl, r7, b7⟩; have q7 := grow_trans q3 b7) | (at_builtin; refine list_appI rfl _ _ rfl rfl (r3'.below b7) rfl r7 (by have h3 := Hrl.out; simp only [List.length_cons, List.length_nil]; have : n.direct.length = 4 := rfl; omega) q7.size ?_; intro v8 w8 r8 b8; have q8 := q7.trans b8))
         go_ret
         refine ⟨_, rfl, ?_, grow_trans HB.out.1 q8⟩
         rw [Hna.out, Hno.out]; exact r8.mono hwB
 · have Hn := Lib.hid (named_kind (bs := bs) (i := i) (by rw [← hb]; exact hk))
   have e1 : (b.kind != 1) = true := by simpa using hk
   clear hb hk
   go_enter Tryz.func124, Tryz.ntmps124
   go_wp2_with fail
   go_ret
   exact ⟨_, rfl, by rw [Hn.out]; exact IRow.nil _ _, Below.refl _ _⟩
end
end Go.Proofs.YtbbnejehglonjaaGreat
