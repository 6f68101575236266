/- DERIVED. Contracts and laws that the proofs of this seat share, part 20 of 36: Rf15A Rf15B. -/
import Derived.Test.YtbbnejehglonjaaGreatMh00
import Derived.Test.YtbbnejehglonjaaGreatMh06
namespace Go.Proofs.YtbbnejehglonjaaGreat
set_option maxHeartbeats 8000000
set_option maxRecDepth 100000
set_option linter.unusedSimpArgs false
set_option linter.unusedVariables false
section
open Go.RowKit
attribute [local irreducible] Calls
theorem takeNode_true {b : Blk} {n : Nd} (h : takeNode b = (n, true)) : n = nodeOf b ∧ mayNode b.kind n = true := by
 unfold takeNode at h
 split at h
 · cases h
 · split at h
   · rename_i h2
     have e : n = nodeOf b := (congrArg Prod.fst h).symm
     refine ⟨e, ?_⟩
     rw [e]
     unfold putNode at h2
     split at h2
     · assumption
     · cases h2
   · cases h
theorem takeNode_small {b : Blk} {n : Nd} (h : takeNode b = (n, true)) : n.small := mayNode_small (takeNode_true h).2
theorem takeNode_wf {b : Blk} {n : Nd} {ok : Bool} (h : takeNode b = (n, ok)) : n.wf := by
 unfold takeNode at h
 split at h
 · have : n = Nd.zero := (congrArg Prod.fst h).symm
   rw [this]; exact ⟨by decide, by decide, by decide⟩
 · split at h
   · have : n = nodeOf b := (congrArg Prod.fst h).symm
     rw [this]; exact nodeOf_wf b
   · have : n = Nd.zero := (congrArg Prod.fst h).symm
     rw [this]; exact ⟨by decide, by decide, by decide⟩

theorem isNode_any (k : Int) (w : World) : Calls Tryz.prog 75 #[.int .i64 k] w fun e w' => e = .returned (.bool (isNode k)) ∧ w = w' := by
 have Hk := Lib.hid (show isNode k = ((k == 1) || (k == 2) || (k == 3)) from rfl)
 cases h1 : (k == 1) <;> cases h2 : (k == 2) <;> cases h3 : (k == 3)
 all_goals
  rw [h1, h2, h3] at Hk
  go_enter Tryz.func75, Tryz.ntmps75
  go_wp2_with fail
  go_ret
  exact ⟨by rw [Hk.out]; rfl, rfl⟩

theorem named_kind {bs : List Blk} {i : Nat} (h : (bs.getD i Blk.zero).kind ≠ 1) : named bs i = [] := by unfold named; rw [if_neg h]
theorem named_bad {bs : List Blk} {i : Nat} {n : Nd} (h : takeNode (bs.getD i Blk.zero) = (n, false)) : named bs i = [] := by
 unfold named; rw [h]; split <;> rfl
theorem named_ok {bs : List Blk} {i : Nat} {n : Nd} (hk : (bs.getD i Blk.zero).kind = 1) (h : takeNode (bs.getD i Blk.zero) = (n, true)) : named bs i = namesOf bs n := by
 unfold named; rw [h, if_pos hk]
theorem direct_ints {w : World} {H : Nat} {n : Nd} {t : TypeId} (h : objAt w H = some (.cells n.cells t (0, 0))) : IntsAt w (some ⟨H, 3, none⟩) n.direct := by
 refine ⟨H, 3, fun _ => rfl, fun i hi => ?_⟩
 rw [cell_of_row w H (3 + i) _ _ _ h]
 have : i < 4 := hi
 match i, this with
 | 0, _ => rfl
 | 1, _ => rfl
 | 2, _ => rfl
 | 3, _ => rfl

theorem Named_any (g cap : Nat) (bs : List Blk) (i : Nat) (w : World) (h : KRow w 0 (.slice (some ⟨g, 0, none⟩) bs.length cap) bs) (hi : i < bs.length) (_ : bs.length ≤ 1000) :
 Calls Tryz.prog 124 #[.slice (some ⟨g, 0, none⟩) bs.length cap, .int .i64 i] w fun e w' => ∃ v, e = .returned v ∧ IRow w' w.heap.size v (named bs i) ∧ Below w.heap.size w w' := by
 have hc := h.kind i hi
 have hh := h.has i hi
 have hr := h.row i hi
 have i0 : (0 : Int) ≤ (i : Int) := Int.natCast_nonneg _
 have i1 : (i : Int) < (bs.length : Int) := by omega
 have Hrow := Lib.hid h
 obtain ⟨b, hb⟩ : ∃ b, b = bs.getD i Blk.zero := ⟨_, rfl⟩
 rw [← hb] at hc hr
 clear h
 by_cases hk : b.kind = 1
 · obtain ⟨⟨n, ok⟩, hn⟩ : ∃ p, takeNode b = p := ⟨_, rfl⟩
   have hT := fun w' => TakeNode_any b w'
   simp only [hn] at hT
   rw [hk] at hc
   have HT := Lib.hid hT
   have Hn := Lib.hid (And.intro hb (And.intro hk hn))
   clear hT hb hk hn
   go_enter Tryz.func124, Tryz.ntmps124
   cases ok
   · have Hna := Lib.hid (named_bad (bs := bs) (i := i) (by rw [← Hn.out.1]; exact Hn.out.2.2))
     go_wp2_with (first | (go_at_call 151; refine (HT.out _).mono ?_; rintro e w1 ⟨rfl, b1⟩))
     go_ret
     exact ⟨_, rfl, by rw [Hna.out]; exact IRow.nil _ _, grow_alloc b1 _⟩
   · have Hna := Lib.hid (named_ok (bs := bs) (i := i) (by rw [← Hn.out.1]; exact Hn.out.2.1) (by rw [← Hn.out.1]; exact Hn.out.2.2))
     have hsm := takeNode_small Hn.out.2.2
     have hp4 := hsm.place 4 (by decide)
     replace hp4 : -1 ≤ n.index ∧ n.index < 200 := hp4
     obtain ⟨hx0, hx1⟩ := hp4
     clear hsm
     go_upto_region 6 with (first | (go_at_call 151; refine (HT.out _).mono ?_; rintro e w1 ⟨rfl, b1⟩))
     have hB := grow_alloc b1 (.cells n.cells 165)
     have hO : objAt (w1.alloc (.cells n.cells 165)) w1.heap.size = some (.cells n.cells 165 (0, 0)) := by rw [objAt_alloc, if_pos rfl]
     have hH : w.heap.size ≤ w1.heap.size := b1.size
     generalize w1.alloc (.cells n.cells 165) = w2 at *
     generalize w1.heap.size = H at *
     clear b1 hc hh hr
     have hc7 : w2.cell? ⟨H, 7, none⟩ = some (.int .i64 n.index) := by rw [cell_of_row w2 H 7 _ _ _ hO]; rfl
     have Hreal := Lib.hid (fun (w' : World) (hb : Below w2.heap.size w2 w') => Real_any (some ⟨H, 3, none⟩) n.direct 4 w' (direct_ints (grow_obj hb hO)) (show (4 : Nat) ≤ 1000 by decide))
     have HB := Lib.hid (And.intro hB hO)
     have Hrl := Lib.hid (real_length n.direct)
     clear hB
     by_cases hm : n.index = -1
     · have e1 : (n.index == -1) = true := by simpa using hm
       have e1' : (n.index != -1) = false := by rw [bne, e1]; rfl
       have Hno := Lib.hid (show namesOf bs n = real n.direct by unfold namesOf; rw [e1]; rfl)
       clear hm
       go_wp2_with (first | (go_at_call 95; refine (Hreal.out _ (Below.refl _ _)).mono ?_; rintro e w3 ⟨v3, rfl, r3, b3⟩) | (at_builtin; refine list_appI rfl _ _ rfl rfl (IRow.nil _ w.heap.size) rfl r3 (by have := Hrl.out; simp only [List.length_nil]; have : n.direct.length = 4 := rfl; omega) (Nat.le_trans HB.out.1.size b3.size) ?_; intro v4 w4 r4 b4))
       go_ret
       refine ⟨_, rfl, ?_, (grow_trans HB.out.1 b3).trans b4⟩
       rw [Hna.out, Hno.out]; exact r4
     · have e1 : (n.index == -1) = false := by simpa using hm
       have e1' : (n.index != -1) = true := by rw [bne, e1]; rfl
       obtain ⟨j, hj⟩ := Int.eq_ofNat_of_zero_le (show 0 ≤ n.index by omega)
       clear hm
       by_cases hin : j < bs.length
       · have hin' : (j : Int) < (bs.length : Int) := by omega
         have j0 : (0 : Int) ≤ (j : Int) := Int.natCast_nonneg _
         have hinB : inB bs n.index = true := by rw [hj]; simp [inB, hin]
         have hblk : blkD bs n.index = bs.getD j Blk.zero := by unfold blkD; rw [hj]; simp
         have Hno := Lib.hid (show namesOf bs n = [(j : Int)] ++ real ((takeIndex (bs.getD j Blk.zero)).getD []) ++ real n.direct by unfold namesOf; rw [e1, hinB, hblk, hj]; rfl)
         obtain ⟨c, hc⟩ : ∃ c, c = bs.getD j Blk.zero := ⟨_, rfl⟩
         rw [← hc] at Hno
         have Hc := Lib.hid hc
         clear hinB hblk hc
         rw [hj] at hc7 hx0 hx1 e1 e1'
         have hK := fun (w' : World) (hb : Below w2.heap.size w2 w') => KRow.below Hrow.out (grow_trans HB.out.1 hb)
         have HK := Lib.hid hK
         have Hli := Lib.hid (show ((takeIndex c).getD []).length ≤ 16 by
          unfold takeIndex
          split
          · simp [indexOf]
          · simp)
         clear hK
         have hwB := HB.out.1.size
         go_wp2_with (first | (at_builtin; refine wpList_app1 elemInt rfl _ _ rfl (World.ownsRow.alloc (IRow.nil _ w2.heap.size) _) rfl _ (.int .i64 (j : Int)) rfl (by simp) rfl (by decide) (by simp) ?_; intro v3 w3 r3 g3 b3; have r3' : IRow w3 w2.heap.size v3 [(j : Int)] := r3; have q3 := (grow_alloc (Below.refl w2.heap.size w2) (.cells #[.int .i64 (j : Int)] 3)).trans b3; have c7 := grow_cell q3 hc7; have kh := (HK.out _ q3).has j hin; have kr := (HK.out _ q3).row j hin; rw [← Hc.out] at kr) | (go_at_call 94; refine (TakeIndex_any c _).mono ?_; rintro e w4 ⟨v4, rfl, r4, b4⟩; obtain ⟨a4, c4, rfl, i4⟩ := r4.ints) | (go_at_call 95; refine (Real_any a4 _ c4 _ i4 (by have := Hli.out; omega)).mono ?_; rintro e w5 ⟨v5, rfl, r5, b5⟩; have q5 := grow_trans (grow_trans q3 b4) b5) | (at_builtin; refine list_appI rfl _ _ rfl rfl ((r3'.below b4).below b5) rfl r5 (by have h1 := real_length ((takeIndex c).getD []); have h2 := Hli.out; simp only [List.length_cons, List.length_nil]; omega) q5.size ?_; intro v6 w6 r6 b6; have q6 := q5.trans b6) | (go_at_call 95; refine (Hreal.out _ q6).mono ?_; rintro e w7 ⟨v7, rfl, r7, b7⟩; have q7 := grow_trans q6 b7) | (at_builtin; refine list_appI rfl _ _ rfl rfl (r6.below b7) rfl r7 (by have h1 := real_length ((takeIndex c).getD []); have h2 := Hli.out; have h3 := Hrl.out; simp only [List.length_append, List.length_cons, List.length_nil]; have : n.direct.length = 4 := rfl; omega) q7.size ?_; intro v8 w8 r8 b8; have q8 := q7.trans b8))
         go_ret
         refine ⟨_, rfl, ?_, grow_trans HB.out.1 q8⟩
         rw [Hna.out, Hno.out]; exact r8.mono hwB
       · have hin' : (bs.length : Int) ≤ (j : Int) := by omega
         have hinB : inB bs n.index = false := by rw [hj]; simp [inB]; omega
         have Hno := Lib.hid (show namesOf bs n = [(j : Int)] ++ real n.direct by unfold namesOf; rw [e1, hinB, hj]; rfl)
         rw [hj] at hc7 hx0 hx1 e1 e1'
         have hwB := HB.out.1.size
         clear hinB
         go_wp2_with (first | (at_builtin; refine wpList_app1 elemInt rfl _ _ rfl (World.ownsRow.alloc (IRow.nil _ w2.heap.size) _) rfl _ (.int .i64 (j : Int)) rfl (by simp) rfl (by decide) (by simp) ?_; intro v3 w3 r3 g3 b3; have r3' : IRow w3 w2.heap.size v3 [(j : Int)] := r3; have q3 := (grow_alloc (Below.refl w2.heap.size w2) (.cells #[.int .i64 (j : Int)] 3)).trans b3; have c7 := grow_cell q3 hc7) | (go_at_call 95; refine (Hreal.out _ q3).mono ?_; rintro e w7 ⟨v7, rfl, r7, b7⟩; have q7 := grow_trans q3 b7) | (at_builtin; refine list_appI rfl _ _ rfl rfl (r3'.below b7) rfl r7 (by have h3 := Hrl.out; simp only [List.length_cons, List.length_nil]; have : n.direct.length = 4 := rfl; omega) q7.size ?_; intro v8 w8 r8 b8; have q8 := q7.trans b8))
         go_ret
         refine ⟨_, rfl, ?_, grow_trans HB.out.1 q8⟩
         rw [Hna.out, Hno.out]; exact r8.mono hwB
 · have Hn := Lib.hid (named_kind (bs := bs) (i := i) (by rw [← hb]; exact hk))
   have e1 : (b.kind != 1) = true := by simpa using hk
   clear hb hk
   go_enter Tryz.func124, Tryz.ntmps124
   go_wp2_with fail
   go_ret
   exact ⟨_, rfl, by rw [Hn.out]; exact IRow.nil _ _, Below.refl _ _⟩
end
section
open Go.RowKit
attribute [local irreducible] Calls
def ORow (w : World) (B : Nat) (v : Value) (l : List Bool) : Prop := w.ownsRow B 4 1 v l.length (l.map fun x => Value.bool x)
theorem mk_bools (n : Int) (w : World) (h0 : 0 ≤ n) (h1 : n ≤ 1000000) :
 (Instr.makeSlice 135 (.int .i64 n) (.int .i64 n)).run Tryz.prog w = .ok (.slice (some ⟨w.heap.size, 0, none⟩) n.toNat n.toNat) (w.alloc (.cells (List.replicate n.toNat (.bool false)).toArray 4)) :=
 run_make1 _ _ _ (.bool false) (by kernel_rfl) (Option.some_get (by kernel_rfl)).symm (by kernel_rfl) rfl (by kernel_rfl) (by decide +kernel) n w h0 h1
section
variable {w : World} {B g n cap : Nat} {v : Value} {l : List Bool}
theorem ORow.below {w' : World} (h : ORow w B v l) (hb : Below w.heap.size w w') : ORow w' B v l := by
 refine World.ownsRow.kept h ⟨hb.os, hb.tape, hb.output, hb.size, fun k hk _ => hb.block k hk⟩ (row := none) ?_
 cases v.ownBlock <;> simp
theorem ORow.get (h : ORow w B (.slice (some ⟨g, 0, none⟩) n cap) l) (j : Nat) (hj : j < l.length) : w.cell? ⟨g, j, none⟩ = some (.bool (l.getD j false)) := by
 have := World.ownsRow.cells h (g := g) rfl j (.bool (l.getD j false)) (by simp [hj])
 rw [add_off'] at this; simpa using this
theorem ORow.len (h : ORow w B (.slice (some ⟨g, 0, none⟩) n cap) l) : n = l.length := by
 rcases h.2 with ⟨h', _⟩ | ⟨g', cap', cur, h', _⟩
 · simp at h'
 · simp only [Value.slice.injEq] at h'; exact h'.2.1
theorem ORow.free (h : ORow w B (.slice (some ⟨g, 0, none⟩) n cap) l) (j : Nat) : w.frozen? ⟨g, j, none⟩ = false := by
 obtain rfl := h.len
 exact World.ownsRow.frozenAt h j
theorem ORow.set (h : ORow w B (.slice (some ⟨g, 0, none⟩) n cap) l) (j : Nat) (x : Bool) : ORow (w.setCell ⟨g, j, none⟩ (.bool x)) B (.slice (some ⟨g, 0, none⟩) n cap) (l.set j x) := by
 obtain rfl := h.len
 have := (World.ownsRow.stored h j (.bool x)).1
 unfold ORow
 rw [List.length_set, List.map_set]; exact this
theorem ORow.ge (h : ORow w B (.slice (some ⟨g, 0, none⟩) n cap) l) : B ≤ g := by
 rcases h.2 with ⟨h', _⟩ | ⟨g', cap', cur, h', hb, _⟩
 · simp at h'
 · simp only [Value.slice.injEq, Option.some.injEq, Addr.mk.injEq, and_true] at h'
   obtain ⟨rfl, _⟩ := h'; exact hb
end
def bmap (n : Nat) (f : Nat → Bool) : List Bool := (List.range n).map f
theorem bmap_length (n : Nat) (f : Nat → Bool) : (bmap n f).length = n := by simp [bmap]
theorem bmap_get (n : Nat) (f : Nat → Bool) (j : Nat) (h : j < n) : (bmap n f).getD j false = f j := by simp [bmap, List.getD_eq_getElem?_getD, h]
theorem bmap_set (n : Nat) (f : Nat → Bool) (j : Nat) (x : Bool) : (bmap n f).set j x = bmap n (fun i => if i = j then x else f i) := by
 apply List.ext_getElem
 · simp [bmap]
 · intro i h1 h2
   simp only [bmap, List.length_set, List.length_map, List.length_range] at h1
   simp only [bmap, List.getElem_set, List.getElem_map, List.getElem_range]
   by_cases e : j = i
   · subst e; simp
   · rw [if_neg e, if_neg (fun e' => e e'.symm)]
theorem bmap_congr {n : Nat} {f f' : Nat → Bool} (h : ∀ j, j < n → f j = f' j) : bmap n f = bmap n f' := by
 unfold bmap; exact List.map_congr_left fun j hj => h j (List.mem_range.1 hj)

theorem real_pos {l : List Int} (h : ∀ x ∈ l, -1 ≤ x) : ∀ x ∈ real l, 0 ≤ x := by
 intro x hx
 simp only [real, List.mem_filter, bne_iff_ne, ne_eq] at hx
 have := h x hx.1
 omega
theorem takeIndex_ge {b : Blk} {l : List Int} (h : takeIndex b = some l) : l.length = 16 ∧ placesOk l = true := by
 unfold takeIndex at h
 split at h
 · rename_i h2
   obtain rfl := Option.some.inj h
   unfold putIndex at h2
   split at h2
   · rename_i h3; exact h3
   · cases h2
 · cases h
theorem placesOk_ge {l : List Int} (h : placesOk l = true) : ∀ x ∈ l, -1 ≤ x := by
 intro x hx
 obtain ⟨k, hk, rfl⟩ := List.getElem_of_mem hx
 have := (placesOk_bounds h k hk).1
 rwa [List.getD_eq_getElem?_getD, List.getElem?_eq_getElem hk] at this
theorem named_pos (bs : List Blk) (i : Nat) : ∀ x ∈ named bs i, 0 ≤ x := by
 intro x hx
 unfold named at hx
 split at hx
 · split at hx
   · rename_i n hn
     have hsm := takeNode_small hn
     unfold namesOf at hx
     rw [List.mem_append] at hx
     rcases hx with hx | hx
     · split at hx
       · cases hx
       · rename_i hne
         rw [List.mem_cons] at hx
         rcases hx with rfl | hx
         · have := (hsm.place 4 (by decide)).1
           replace this : -1 ≤ n.index := this
           have : n.index ≠ -1 := by simpa using hne
           omega
         · split at hx
           · cases hti : takeIndex (blkD bs n.index) with
             | none => rw [hti] at hx; simp [real] at hx
             | some l => rw [hti] at hx; exact real_pos (placesOk_ge (takeIndex_ge hti).2) x hx
           · cases hx
     · refine real_pos ?_ x hx
       intro y hy
       simp only [Nd.direct, List.mem_cons, List.not_mem_nil, or_false] at hy
       rcases hy with rfl | rfl | rfl | rfl
       · exact (hsm.place 0 (by decide)).1
       · exact (hsm.place 1 (by decide)).1
       · exact (hsm.place 2 (by decide)).1
       · exact (hsm.place 3 (by decide)).1
   · cases hx
 · cases hx
theorem named_length (bs : List Blk) (i : Nat) : (named bs i).length ≤ 21 := by
 unfold named
 split
 · split
   · rename_i n hn
     unfold namesOf
     have h2 := real_length n.direct
     have h3 : n.direct.length = 4 := rfl
     rw [List.length_append]
     split
     · simp only [List.length_nil]; omega
     · rw [List.length_cons]
       split
       · have h4 := real_length ((takeIndex (blkD bs n.index)).getD [])
         have h5 : ((takeIndex (blkD bs n.index)).getD []).length ≤ 16 := by
          unfold takeIndex
          split
          · simp [indexOf]
          · simp
         omega
       · simp only [List.length_nil]; omega
   · simp
 · simp

def usedSelf (bs : List Blk) (j : Nat) : Bool := j == 0 || isNode (bs.getD j Blk.zero).kind || (bs.getD j Blk.zero).kind == 6
theorem usedUpto_succ (bs : List Blk) (k j : Nat) : usedUpto bs (k + 1) j = ((if j = k then usedUpto bs k j || usedSelf bs j else usedUpto bs k j) || (named bs k).contains (j : Int)) := by
 unfold usedUpto
 rw [List.range_succ, List.any_append]
 simp only [List.any_cons, List.any_nil, Bool.or_false]
 have e : (j == 0 || isNode (bs.getD j Blk.zero).kind || (bs.getD j Blk.zero).kind == 6) = usedSelf bs j := rfl
 rw [e]
 by_cases hj : j = k
 · subst hj
   rw [if_pos rfl]
   have h1 : decide (j < j + 1) = true := by simp
   have h2 : decide (j < j) = false := by simp
   rw [h1, h2]
   cases usedSelf bs j <;> simp
 · rw [if_neg hj]
   have h1 : decide (j < k + 1) = decide (j < k) := by
    by_cases h : j < k
    · simp [h]; omega
    · simp [h]; omega
   rw [h1, Bool.or_assoc]
theorem usedUpto_zero (bs : List Blk) (j : Nat) : usedUpto bs 0 j = false := by simp [usedUpto]

theorem contains_append_one (l : List Int) (x a : Int) : (l ++ [x]).contains a = (l.contains a || (a == x)) := by
 rw [Bool.eq_iff_iff, List.contains_iff_mem, Bool.or_eq_true, List.contains_iff_mem, List.mem_append, List.mem_singleton, beq_iff_eq]
theorem contains_take_succ {L : List Int} {m : Nat} (a : Int) (h : m < L.length) : (L.take (m + 1)).contains a = ((L.take m).contains a || (a == L.getD m 0)) := by
 rw [List.take_succ_eq_append_getElem h, contains_append_one, List.getD_eq_getElem?_getD, List.getElem?_eq_getElem h, Option.getD_some]
theorem Used_any (g cap : Nat) (bs : List Blk) (w : World) (h : KRow w 0 (.slice (some ⟨g, 0, none⟩) bs.length cap) bs) (hl : bs.length ≤ 1000) :
 Calls Tryz.prog 58 #[.slice (some ⟨g, 0, none⟩) bs.length cap] w fun e w' => ∃ U, e = .returned (.slice (some ⟨U, 0, none⟩) bs.length bs.length) ∧ ORow w' w.heap.size (.slice (some ⟨U, 0, none⟩) bs.length bs.length) (used bs) ∧ Below w.heap.size w w' := by
 have hmk := mk_bools (bs.length : Int) w (by omega) (by omega)
 rw [Int.toNat_natCast] at hmk
 have hst : ORow (w.alloc (.cells (List.replicate bs.length (.bool false)).toArray 4)) w.heap.size (.slice (some ⟨w.heap.size, 0, none⟩) bs.length bs.length) (bmap bs.length (usedUpto bs 0)) := by
  have e : bmap bs.length (usedUpto bs 0) = List.replicate bs.length false := by
   apply List.ext_getElem
   · simp [bmap]
   · intro i h1 h2; simp [bmap, usedUpto_zero]
  rw [e]
  have := World.ownsRow_lit (base := w.heap.size) (e := 4) (size := 1) w (List.replicate bs.length (Value.bool false)).toArray bs.length (Nat.le_refl _) (by unfold maxLen; omega) (by simp)
  unfold ORow
  rw [List.length_replicate, List.map_replicate]; exact this
 have hB := (Below.refl w.heap.size w).alloc (Nat.le_refl _) (.cells (List.replicate bs.length (.bool false)).toArray 4)
 have Hrow := Lib.hid h
 clear h
 go_enter Tryz.func58, Tryz.ntmps58
 go_wp2_with fail
 clear hmk
 simp only [List.toArray_replicate] at hst hB
 generalize w.alloc (.cells (Array.replicate bs.length (.bool false)) 4) = w1 at *
 obtain ⟨U, hU⟩ : ∃ U, U = w.heap.size := ⟨_, rfl⟩
 rw [← hU]
 have Hst := Lib.hid (show ORow w1 w.heap.size (.slice (some ⟨U, 0, none⟩) bs.length bs.length) (bmap bs.length (usedUpto bs 0)) by rw [hU]; exact hst)
 have HB := Lib.hid hB
 clear hU hst hB
 go_loopw [4] (fun s4 wr => ∃ k : Nat, k ≤ bs.length ∧ s4 = .int .i64 k ∧ ORow wr w.heap.size (.slice (some ⟨U, 0, none⟩) bs.length bs.length) (bmap bs.length (usedUpto bs k)) ∧ Below w.heap.size w wr) (fun i _ => bs.length - (intOf i).toNat)
 case atStart => exact ⟨0, Nat.zero_le _, rfl, Hst.out, HB.out⟩
 case round =>
  obtain ⟨k, hk, rfl, hrow, hbel⟩ := hrel
  by_cases hlt : k < bs.length
  · have i0 : (0 : Int) ≤ (k : Int) := Int.natCast_nonneg _
    have i1 : (k : Int) < (bs.length : Int) := by omega
    have hK := Hrow.out.below hbel
    have hc := hK.kind k hlt
    have hu := hrow.get k (by rw [bmap_length]; exact hlt)
    rw [bmap_get _ _ _ hlt] at hu
    have hf := hrow.free k
    have HR := Lib.hid (And.intro hrow (And.intro hbel hK))
    have Hse := Lib.hid (show usedSelf bs k = ((k == 0) || isNode (bs.getD k Blk.zero).kind || (bs.getD k Blk.zero).kind == 6) from rfl)
    have hk0 : ((k : Int) == 0) = (k == 0) := by
     by_cases e : k = 0
     · subst e; rfl
     · have e1 : (k == 0) = false := by simpa using e
       have e2 : ((k : Int) == 0) = false := by simpa using e
       rw [e1, e2]
    clear hrow hbel hK
    generalize hq : usedUpto bs k k = q at hu
    generalize hsf : usedSelf bs k = sf at Hse
    generalize hkd : (bs.getD k Blk.zero).kind = kd at *
    have Hq := Lib.hid (And.intro hq hsf)
    clear hq hsf hkd
    go_upto_region 5 with (fail)
    go_cut [4] (fun s4 wx => s4 = .int .i64 k ∧ ORow wx w.heap.size (.slice (some ⟨U, 0, none⟩) bs.length bs.length) ((bmap bs.length (usedUpto bs k)).set k (q || sf)) ∧ Below w.heap.size w wx)
    case first =>
     cases q
     · cases hkz : (k == 0)
       · rw [hkz] at hk0
         cases hnd : isNode kd
         · go_wp2_with (first | (go_at_call 75; refine (isNode_any kd _).mono ?_; rw [hnd]; rintro e w3 ⟨rfl, rfl⟩))
           go_meet
           refine ⟨rfl, ?_, HR.out.2.1.setCell (p := ⟨U, k, none⟩) (HR.out.1.ge) _⟩
           have := HR.out.1.set k (kd == 6)
           rw [Hse.out, hkz, hnd]; exact this
         · go_wp2_with (first | (go_at_call 75; refine (isNode_any kd _).mono ?_; rw [hnd]; rintro e w3 ⟨rfl, rfl⟩))
           go_meet
           refine ⟨rfl, ?_, HR.out.2.1.setCell (p := ⟨U, k, none⟩) (HR.out.1.ge) _⟩
           have := HR.out.1.set k true
           rw [Hse.out, hkz, hnd]; exact this
       · rw [hkz] at hk0
         go_wp2_with fail
         go_meet
         refine ⟨rfl, ?_, HR.out.2.1.setCell (p := ⟨U, k, none⟩) (HR.out.1.ge) _⟩
         have := HR.out.1.set k true
         rw [Hse.out, hkz]; exact this
     · go_wp2_with fail
       go_meet
       refine ⟨rfl, ?_, HR.out.2.1.setCell (p := ⟨U, k, none⟩) (HR.out.1.ge) _⟩
       have := HR.out.1.set k true
       exact this
    case rest =>
     obtain ⟨rfl, hrow, hbel⟩ := hcut
     clear hc hu hf
     rw [bmap_set] at hrow
     have HR2 := Lib.hid (And.intro hrow hbel)
     have Hlen := Lib.hid (named_length bs k)
     clear hrow hbel HR
     go_wp2_with (go_at_call 124; refine (Named_any g cap bs k _ (Hrow.out.below HR2.out.2) hlt hl).mono ?_; rintro e w3 ⟨v3, rfl, r3, b3⟩; obtain ⟨a3, c3, rfl, i3⟩ := r3.fromB)
     have hr3 := HR2.out.1.below b3
     have hb3 := grow_trans HR2.out.2 b3
     obtain ⟨bb, off, ha3, hc3⟩ := i3
     have Hi3 := Lib.hid (And.intro ha3 hc3)
     have HR3 := Lib.hid (And.intro hr3 (And.intro hb3 b3.size))
     clear r3 b3 ha3 hc3 hr3 hb3
     generalize hL : named bs k = L at *
     have HL := Lib.hid hL
     have hpos := named_pos bs k
     rw [hL] at hpos
     have Hpos := Lib.hid hpos
     clear hL hpos
     have HUlt := Lib.hid (show U < wc.heap.size by
      rcases HR2.out.1.2 with ⟨h', _⟩ | ⟨g', cap', cur, h', _, hg, _⟩
      · simp at h'
      · simp only [Value.slice.injEq, Option.some.injEq, Addr.mk.injEq, and_true] at h'
        obtain ⟨rfl, _⟩ := h'; exact block_lt hg)
     go_loopw [6] (fun s6 wi => ∃ m : Nat, m ≤ L.length ∧ s6 = .int .i64 m ∧ ORow wi w.heap.size (.slice (some ⟨U, 0, none⟩) bs.length bs.length) (bmap bs.length fun i => (if i = k then q || sf else usedUpto bs k i) || (L.take m).contains (i : Int)) ∧ (∀ i, i < L.length → wi.cell? ⟨bb, off + i, none⟩ = some (.int .i64 (L.getD i 0))) ∧ Below w.heap.size w wi) (fun i _ => L.length - (intOf i).toNat)
     case atStart => exact ⟨0, Nat.zero_le _, rfl, by simpa using HR3.out.1, Hi3.out.2, HR3.out.2.1⟩
     case round =>
      obtain ⟨m, hm, rfl, hrow, hcs, hbel⟩ := hrel
      have hl21 := Hlen.out
      have Hcs := Lib.hid hcs
      have Hrw := Lib.hid (And.intro hrow hbel)
      by_cases hlm : m < L.length
      · have hcm := hcs m hlm
        obtain ⟨rfl, hbb⟩ := Hi3.out.1 (by omega)
        have hx0 := Hpos.out (L.getD m 0) (by rw [List.getD_eq_getElem?_getD, List.getElem?_eq_getElem hlm]; exact List.getElem_mem hlm)
        have htk := fun i : Nat => contains_take_succ (i : Int) hlm
        have Htk := Lib.hid htk
        obtain ⟨x, hx⟩ : ∃ x, x = L.getD m 0 := ⟨_, rfl⟩
        rw [← hx] at hcm hx0 Htk
        obtain ⟨j, rfl⟩ := Int.eq_ofNat_of_zero_le hx0
        have hne : U ≠ bb := fun e => by have := HUlt.out; omega
        have Hne := Lib.hid (And.intro hne hbb)
        clear hx0 hx hcs hrow hbel htk hne hbb
        by_cases hj : j < bs.length
        · have hj' : (j : Int) < (bs.length : Int) := by omega
          have j0 : (0 : Int) ≤ (j : Int) := Int.natCast_nonneg _
          have hu := Hrw.out.1.get j (by rw [bmap_length]; exact hj)
          have hf := Hrw.out.1.free j
          generalize ((bmap bs.length fun i => (if i = k then q || sf else usedUpto bs k i) || (L.take m).contains (i : Int)).getD j false) = old at hu
          go_wp2_with fail
          go_roundw
          case rel =>
           refine ⟨m + 1, by omega, by go_num, ?_, fun i hi => ?_, Hrw.out.2.setCell (p := ⟨U, j, none⟩) Hrw.out.1.ge _⟩
           · have := Hrw.out.1.set j true
             rw [bmap_set] at this
             rw [show (bmap bs.length fun i => (if i = k then q || sf else usedUpto bs k i) || (L.take (m + 1)).contains (i : Int)) = bmap bs.length (fun i => if i = j then true else (if i = k then q || sf else usedUpto bs k i) || (L.take m).contains (i : Int)) from bmap_congr fun i _ => by
              rw [Htk.out i]
              by_cases e : i = j
              · subst e; simp
              · have : ((i : Int) == (j : Int)) = false := by rw [beq_eq_false_iff_ne]; omega
                rw [if_neg e, this, Bool.or_false]]
             exact this
           · rw [World.cell?_setCell_far _ _ _ _ Hne.out.1]; exact Hcs.out i hi
          case measure => simp [intOf]; omega
        · have hj' : (bs.length : Int) ≤ (j : Int) := by omega
          go_wp2_with fail
          go_roundw
          case rel =>
           refine ⟨m + 1, by omega, by go_num, ?_, Hcs.out, Hrw.out.2⟩
           rw [show (bmap bs.length fun i => (if i = k then q || sf else usedUpto bs k i) || (L.take (m + 1)).contains (i : Int)) = bmap bs.length (fun i => (if i = k then q || sf else usedUpto bs k i) || (L.take m).contains (i : Int)) from bmap_congr fun i hi => by
            rw [Htk.out i]
            have : ((i : Int) == (j : Int)) = false := by rw [beq_eq_false_iff_ne]; omega
            rw [this, Bool.or_false]]
           exact Hrw.out.1
          case measure => simp [intOf]; omega
      · clear hcs hrow hbel
        go_wp2_with fail
        go_roundw
        case rel =>
         refine ⟨k + 1, by omega, by go_num, ?_, Hrw.out.2⟩
         have := Hrw.out.1
         rw [List.take_of_length_le (by omega)] at this
         rw [show bmap bs.length (usedUpto bs (k + 1)) = bmap bs.length fun i => (if i = k then q || sf else usedUpto bs k i) || L.contains (i : Int) from bmap_congr fun i _ => by
          rw [usedUpto_succ, HL.out]
          by_cases e : i = k
          · subst e; rw [if_pos rfl, if_pos rfl, Hq.out.1, Hq.out.2]
          · rw [if_neg e, if_neg e]]
         exact this
        case measure => simp [intOf]; omega
  · go_wp2_with fail
    go_ret
    obtain rfl : k = bs.length := by omega
    exact ⟨U, rfl, hrow, hbel⟩
end
end Go.Proofs.YtbbnejehglonjaaGreat
