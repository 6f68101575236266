/- DERIVED. Contracts and laws that the proofs of this seat share, part 25 of 36: TxG TxJ ShQ TxI ShC. -/
import Derived.Test.YtbbnejehglonjaaGreatMh00
import Derived.Test.YtbbnejehglonjaaGreatMh04
import Derived.Test.YtbbnejehglonjaaGreatMh16
import Derived.Test.YtbbnejehglonjaaGreatMh22
import Derived.Test.YtbbnejehglonjaaGreatMh23
import Derived.Test.YtbbnejehglonjaaGreatMh24
namespace Go.Proofs.YtbbnejehglonjaaGreat
set_option maxHeartbeats 8000000
set_option maxRecDepth 100000
set_option linter.unusedSimpArgs false
set_option linter.unusedVariables false
section
open Go.RowKit
attribute [local irreducible] Calls

def commitOk (s : Sh) (L : PL) : Bool := L.isEmpty || changeOk s (writesOf L)
def commitV (reg : Nat) (s : Sh) (L : PL) (st : VSt) : VSt := if L.isEmpty = true then st else changeV reg s (writesOf L) st
section
variable {w : World} {t v mp mt : Nat} {L : PL} {T : ML}
variable {Sd : Nat → Prop} {d reg : Nat} {s : Sh} {gb cap m : Nat} {st : VSt} {c : Nat}
structure TxApart (Sd : Nat → Prop) (t mp mt m : Nat) : Prop where
 nt : ¬ Sd t
 np : ¬ Sd mp
 nk : ¬ Sd mt
 nm : mp ≠ m ∧ mt ≠ m
theorem MapI.neObj {w : World} {m g : Nat} {M : ML} {cs : Array Value} {ty : TypeId} (h : MapI w m M) (hg : objAt w g = some (.cells cs ty (0, 0))) : m ≠ g := fun e => h.neCells hg e.symm
theorem writesOf_length (L : PL) : (writesOf L).length = L.length := by unfold writesOf; rw [List.length_map, sortedKeys_length, plM_length]
theorem txCommit_any (h : TxAt w t v mp mt L T st.bs.length) (hv : VolS w Sd v d reg s gb cap m st c) (ha : TxApart Sd t mp mt m) (hlog : 13 ≤ s.log) (hc : c < 500000) :
 Calls Tryz.prog 22 #[.pointer (some ⟨t, 0, none⟩)] w fun e w' =>
  (commitOk s L = false → e = .returned (.int .i64 1) ∧ Below w.heap.size w w') ∧
  (commitOk s L = true → e = .returned (.int .i64 0) ∧ Keeps (fun k => Sd k ∨ k = v ∨ k = m ∨ k = gb ∨ k = mp ∨ k = mt) w w' ∧ TxAt w' t v mp mt [] [] st.bs.length ∧
   ∃ Sd' c', c' ≤ c + 300 ∧ (∀ q, Sd' q → Sd q ∨ w.heap.size ≤ q) ∧ VolS w' Sd' v d reg s gb cap m (commitV reg s L st) c') := by
 have hlen : st.bs.length ≤ 200 := by rw [← hv.slen]; exact hv.sok.blocks
 have hLl : L.length ≤ 200 := by
  have := MapI.few h.put (n := st.bs.length) (fun k hk => h.inP k (by rwa [plM_keys] at hk))
  rw [plM_length] at this; omega
 have c1 := h.c1
 have c2 := h.c2
 have c0 := h.c0
 have hpl := plM_length L
 have H := Lib.hid (And.intro h (And.intro hv ha))
 have HW := Lib.hid (txWrites_any h)
 clear h hv ha
 by_cases hL : L = []
 · subst hL
   have HT := Lib.hid (show commitOk s [] = true ∧ commitV reg s [] st = st from ⟨rfl, rfl⟩)
   clear HW hpl
   have hln := fun ty => run_lenI (P := Tryz.prog) H.out.1.put Tryz.underlying132 ty
   rw [plM_length] at hln
   have hOnce : True := trivial
   have hTwice : True := trivial
   go_enter Tryz.func22, Tryz.ntmps22
   go_wp2_with (first
    | (clear hOnce; refine list_clearI rfl 132 3 37 _ rfl H.out.1.put Tryz.underlying132 rfl ?_; intro w5 hM5 hk5; have hT5 := H.out.1.tk.keeps hk5 (fun e => H.out.1.ne e.symm); have ho5 := hk5.obj H.out.1.obj (fun e => H.out.1.put.neObj H.out.1.obj e.symm); have c2' := cell_obj ho5 2)
    | (clear hTwice; refine list_clearI rfl 34 3 4 _ rfl hT5 Tryz.underlying34 rfl ?_; intro w6 hM6 hk6))
   go_ret
   have h := H.out.1
   have ho6 := hk6.obj ho5 (fun e => h.tk.neObj h.obj e.symm)
   have hk : Keeps (fun k => k = mp ∨ k = mt) w w6 := (hk5.mono fun _ _ e => .inl e).trans (hk6.mono fun _ _ e => .inr e)
   obtain ⟨cs, hcs⟩ := H.out.2.1.neRow
   refine ⟨fun e => (by rw [HT.out.1] at e; cases e), fun _ => ⟨rfl, hk.mono (fun _ _ e => by omega), { obj := ho6, put := hM5.keeps hk6 h.ne, tk := hM6, ne := h.ne, allT := fun p hp => by simp at hp, inP := fun k hk => by simp at hk, inT := fun k hk => by simp [keysL] at hk }, Sd, c, by omega, fun _ h => .inl h, ?_⟩⟩
   rw [HT.out.2]
   exact H.out.2.1.keeps hk (fun g hg e => by rcases e with e | e; exact H.out.2.2.np (e ▸ hg); exact H.out.2.2.nk (e ▸ hg)) (fun e => by rcases e with e | e; exact h.put.neObj H.out.2.1.o e.symm; exact h.tk.neObj H.out.2.1.o e.symm) (fun e => by rcases e with e | e; exact H.out.2.2.nm.1 e.symm; exact H.out.2.2.nm.2 e.symm) (fun e => by rcases e with e | e; exact h.put.neObj hcs e.symm; exact h.tk.neObj hcs e.symm)
 · have hpos : 0 < L.length := by cases L with | nil => exact absurd rfl hL | cons p L' => simp
   have hposi : (0 : Int) < (L.length : Int) := by omega
   have hemp : L.isEmpty = false := by cases L with | nil => exact absurd rfl hL | cons p L' => rfl
   have HT := Lib.hid (show commitOk s L = changeOk s (writesOf L) ∧ commitV reg s L st = changeV reg s (writesOf L) st from ⟨by unfold commitOk; rw [hemp]; rfl, by unfold commitV; rw [hemp]; rfl⟩)
   have hln := fun ty => run_lenI (P := Tryz.prog) H.out.1.put Tryz.underlying132 ty
   rw [plM_length] at hln
   clear hL hemp hpos hpl
   cases hok : changeOk s (writesOf L) with
   | false =>
     have Hok := Lib.hid hok
     clear hok
     go_enter Tryz.func22, Tryz.ntmps22
     go_upto_region 4 with fail
     refine wp_region_F [6] (S := fun w' => w'.cell? ⟨t, 0, none⟩ = some (.pointer (some ⟨v, 0, none⟩)) ∧ True) (by kernel_rfl) (And.intro c0 trivial) (fun hHeld => ?_)
     show wpAnyF _ _ _ _ _ _ 8 #[false, false, false, false, false, false, false, false] _ _
     refine gF 0 [0, 1, 2, 3, 6, 7] ?_; try simp only [Act.put, qs]
     refine gF 1 [1, 2, 3, 6, 7] ?_; try simp only [Act.put, qs]
     refine gF 2 [2, 3, 6, 7] ?_; try simp only [Act.put, qs]
     refine gF 3 [3, 6, 7] ?_; try simp only [Act.put, qs]
     refine gF 4 [4, 5, 6, 7] ?_; try simp only [Act.put, qs]
     refine gW 5 fun K hK => ?_
     try simp only [qs]
     go_simp
     go_at_call 25; refine (txWrites_any ((H.out.1).below (Below.refl w.heap.size w).drew)).mono ?_; rintro e w1 ⟨u, rfl, hw1, b1⟩; have hx1 : Below w.heap.size w w1 := (Below.refl w.heap.size w).drew.trans b1
     refine hK.out _ _ (by exact ⟨grow_cell hx1 c0, trivial⟩) (fun hN => ?_); replace hHeld := hN; clear hK K hN
     try simp only [qs]
     refine gV 6 fun K hK => ?_
     try simp only [qs]
     go_simp
     go_at_call 57; refine (VolP.change (VolP.below H.out.2.1 hx1) hw1 (fun g hg e => by have h1 := hw1.own g hg; have h2 := H.out.2.1.dev.lt g e; have h3 : w.heap.size ≤ g := h1; omega) (by rw [writesOf_length]; omega) hlog hc).mono ?_; rintro e w2 hres; obtain ⟨rfl, b2⟩ := hres.1 Hok.out
     refine hK.out _ _ (trivial) (fun hN => ?_); replace hHeld := hN; clear hK K hN
     try simp only [qs]
     refine gP 7 ?_; try simp only [Act.put, qs]
     refine wpAnyF_done (by kernel_rfl) ?_ _
     go_wp2_with fail
     go_ret
     exact ⟨fun _ => ⟨rfl, grow_trans hx1 b2⟩, fun e => (by rw [HT.out.1, Hok.out] at e; cases e)⟩
   | true =>
     have Hok := Lib.hid hok
     clear hok
     go_enter Tryz.func22, Tryz.ntmps22
     go_upto_region 4 with fail
     refine wp_region_F [6] (S := fun w' => w'.cell? ⟨t, 0, none⟩ = some (.pointer (some ⟨v, 0, none⟩)) ∧ True) (by kernel_rfl) (And.intro c0 trivial) (fun hHeld => ?_)
     show wpAnyF _ _ _ _ _ _ 8 #[false, false, false, false, false, false, false, false] _ _
     refine gF 0 [0, 1, 2, 3, 6, 7] ?_; try simp only [Act.put, qs]
     refine gF 1 [1, 2, 3, 6, 7] ?_; try simp only [Act.put, qs]
     refine gF 2 [2, 3, 6, 7] ?_; try simp only [Act.put, qs]
     refine gF 3 [3, 6, 7] ?_; try simp only [Act.put, qs]
     refine gF 4 [4, 5, 6, 7] ?_; try simp only [Act.put, qs]
     refine gW 5 fun K hK => ?_
     try simp only [qs]
     go_simp
     go_at_call 25; refine (txWrites_any ((H.out.1).below (Below.refl w.heap.size w).drew)).mono ?_; rintro e w1 ⟨u, rfl, hw1, b1⟩; have hx1 : Below w.heap.size w w1 := (Below.refl w.heap.size w).drew.trans b1
     refine hK.out _ _ (by exact ⟨grow_cell hx1 c0, trivial⟩) (fun hN => ?_); replace hHeld := hN; clear hK K hN
     try simp only [qs]
     refine gV 6 fun K hK => ?_
     try simp only [qs]
     go_simp
     go_at_call 57; refine (VolP.change (VolP.below H.out.2.1 hx1) hw1 (fun g hg e => by have h1 := hw1.own g hg; have h2 := H.out.2.1.dev.lt g e; have h3 : w.heap.size ≤ g := h1; omega) (by rw [writesOf_length]; omega) hlog hc).mono ?_; rintro e w2 hres; obtain ⟨rfl, k2, hv2⟩ := hres.2 Hok.out
     refine hK.out _ _ (trivial) (fun hN => ?_); replace hHeld := hN; clear hK K hN
     try simp only [qs]
     refine gP 7 ?_; try simp only [Act.put, qs]
     refine wpAnyF_done (by kernel_rfl) ?_ _
     have h := H.out.1
     obtain ⟨cs, hcs⟩ := H.out.2.1.neRow
     have hle := hx1.size
     have hv1 := VolP.below H.out.2.1 hx1
     have h1 := h.below hx1
     have n1 : ¬ (Sd t ∨ t = v ∨ t = m ∨ t = gb) := fun e => by
      rcases e with e | e | e | e
      · exact H.out.2.2.nt e
      · exact ne_of_obj h.obj H.out.2.1.o (by decide) e
      · exact H.out.2.1.map.neObj h.obj e.symm
      · exact ne_of_obj h.obj hcs (by decide) e
     have n2 : ¬ (Sd mp ∨ mp = v ∨ mp = m ∨ mp = gb) := fun e => by
      rcases e with e | e | e | e
      · exact H.out.2.2.np e
      · exact h.put.neObj H.out.2.1.o e
      · exact H.out.2.2.nm.1 e
      · exact h.put.neObj hcs e
     have n3 : ¬ (Sd mt ∨ mt = v ∨ mt = m ∨ mt = gb) := fun e => by
      rcases e with e | e | e | e
      · exact H.out.2.2.nk e
      · exact h.tk.neObj H.out.2.1.o e
      · exact H.out.2.2.nm.2 e
      · exact h.tk.neObj hcs e
     have h2 := h1.keeps k2 n1 n2 n3
     have c1' := h2.c1
     have hgr : ∀ q, grownS Sd w1 w2 q → Sd q ∨ w.heap.size ≤ q := fun q hq => hq.2.imp id (Nat.le_trans hle)
     have H3 := Lib.hid (And.intro h2 (And.intro hv2 (And.intro (And.intro hx1 k2) hgr)))
     clear h hcs hle hv1 h1 n1 n2 n3 h2 hv2 hgr hw1 hln k2
     have hOnce : True := trivial
     have hTwice : True := trivial
     go_wp2_with (first
      | (clear hOnce; refine list_clearI rfl 132 3 37 _ rfl H3.out.1.put Tryz.underlying132 rfl ?_; intro w5 hM5 hk5; have hT5 := H3.out.1.tk.keeps hk5 (fun e => H3.out.1.ne e.symm); have ho5 := hk5.obj H3.out.1.obj (fun e => H3.out.1.put.neObj H3.out.1.obj e.symm); have c2' := cell_obj ho5 2)
      | (clear hTwice; refine list_clearI rfl 34 3 4 _ rfl hT5 Tryz.underlying34 rfl ?_; intro w6 hM6 hk6))
     go_ret
     have h := H3.out.1
     have hv2 := H3.out.2.1
     obtain ⟨cs2, hcs2⟩ := VolP.neRow hv2
     have ho6 := hk6.obj ho5 (fun e => h.tk.neObj h.obj e.symm)
     have hk : Keeps (fun k => k = mp ∨ k = mt) w2 w6 := (hk5.mono fun _ _ e => .inl e).trans (hk6.mono fun _ _ e => .inr e)
     have hmpw : mp < w.heap.size := H.out.1.put.lt
     have hmtw : mt < w.heap.size := H.out.1.tk.lt
     refine ⟨fun e => (by rw [HT.out.1, Hok.out] at e; cases e), fun _ => ⟨rfl, ?_, ?_, grownS Sd w1 w2, c + 300, Nat.le_refl _, H3.out.2.2.2, ?_⟩⟩
     · exact ((Keeps.of_below hx1).trans (H3.out.2.2.1.2.mono fun _ _ e => e.elim .inl (fun e => .inr (by omega)))).trans (hk.mono fun _ _ e => by omega)
     · exact { obj := ho6, put := hM5.keeps hk6 h.ne, tk := hM6, ne := h.ne, allT := fun p hp => by simp at hp, inP := fun k hk => by simp at hk, inT := fun k hk => by simp [keysL] at hk }
     · rw [HT.out.2]
       refine VolP.keeps hv2 hk (fun g hg e => ?_) (fun e => ?_) (fun e => ?_) (fun e => ?_)
       · have h3 := hg.2
         have hle := hx1.size
         rcases e with e | e <;> subst e
         · exact h3.elim H.out.2.2.np (fun h => by omega)
         · exact h3.elim H.out.2.2.nk (fun h => by omega)
       · rcases e with e | e
         · exact h.put.neObj hv2.o e.symm
         · exact h.tk.neObj hv2.o e.symm
       · rcases e with e | e
         · exact H.out.2.2.nm.1 e.symm
         · exact H.out.2.2.nm.2 e.symm
       · rcases e with e | e
         · exact h.put.neObj hcs2 e.symm
         · exact h.tk.neObj hcs2 e.symm
end
end
section
open Go.RowKit

theorem overlay_fn (f : Int → Blk) (z : Blk) (ks : List Int) : ∀ (bs : List Blk), (∀ k ∈ ks, 0 ≤ k) → ∀ j : Nat, j < bs.length → (overlay bs (ks.map fun k => (⟨k, f k⟩ : Wr))).getD j z = if (j : Int) ∈ ks then f (j : Int) else bs.getD j z := by
 induction ks with
 | nil => intro bs _ j _; simp [overlay]
 | cons k ks ih =>
   intro bs h0 j hj
   have hk := h0 k List.mem_cons_self
   have h1 : overlay bs ((k :: ks).map fun k => (⟨k, f k⟩ : Wr)) = overlay (bs.set k.toNat (f k)) (ks.map fun k => (⟨k, f k⟩ : Wr)) := rfl
   rw [h1, ih (bs.set k.toNat (f k)) (fun x hx => h0 x (List.mem_cons_of_mem _ hx)) j (by rw [List.length_set]; exact hj)]
   by_cases hm : (j : Int) ∈ ks
   · rw [if_pos hm, if_pos (List.mem_cons_of_mem _ hm)]
   · rw [if_neg hm]
     by_cases he : k = (j : Int)
     · subst he
       rw [if_pos List.mem_cons_self, Int.toNat_natCast, List.getD_eq_getElem?_getD, List.getElem?_set, if_pos rfl, if_pos hj]; rfl
     · rw [if_neg (by simp only [List.mem_cons, not_or]; exact ⟨fun e => he e.symm, hm⟩), List.getD_eq_getElem?_getD, List.getElem?_set, if_neg (by omega), ← List.getD_eq_getElem?_getD]
theorem lkB_iff {L : PL} {k : Int} : (lkB L k).isSome = true ↔ k ∈ L.map (·.1) := by
 have h1 := keys_lk (L := plM L) k
 rw [plM_lk, Option.isSome_map, plM_keys] at h1
 rw [h1]; simp
theorem overlay_txV {L : PL} {bs : List Blk} (h0 : ∀ k ∈ L.map (·.1), 0 ≤ k) : overlay bs (writesOf L) = txV L bs := by
 apply List.ext_getElem?
 intro j
 have hl1 : (overlay bs (writesOf L)).length = bs.length := overlay_length _ _
 have hl2 := txV_length L bs
 by_cases hj : j < bs.length
 · have hm : (j : Int) ∈ sortedKeys (plM L) ↔ (j : Int) ∈ L.map (·.1) := by rw [sortedKeys_mem, plM_keys]
   have h1 := overlay_fn (fun k => (lkB L k).getD Blk.zero) Blk.zero (sortedKeys (plM L)) bs (fun k hk => h0 k (by rwa [sortedKeys_mem, plM_keys] at hk)) j hj
   have h2 := txV_getD L bs j hj
   have h3 : (overlay bs (writesOf L)).getD j Blk.zero = (txV L bs).getD j Blk.zero := by
    rw [h2]
    refine Eq.trans h1 ?_
    by_cases hk : (j : Int) ∈ L.map (·.1)
    · rw [if_pos (hm.2 hk)]
      obtain ⟨b, hb⟩ := Option.isSome_iff_exists.1 (lkB_iff.2 hk)
      rw [hb]; rfl
    · rw [if_neg (fun e => hk (hm.1 e))]
      have : lkB L (j : Int) = none := by
       cases hb : lkB L (j : Int) with
       | none => rfl
       | some b => exact absurd (lkB_iff.1 (by rw [hb]; rfl)) hk
      rw [this]; rfl
   rw [List.getD_eq_getElem?_getD, List.getD_eq_getElem?_getD, List.getElem?_eq_getElem (by omega), List.getElem?_eq_getElem (by omega)] at h3
   rw [List.getElem?_eq_getElem (by omega), List.getElem?_eq_getElem (by omega)]
   exact congrArg some h3
 · rw [List.getElem?_eq_none (by omega), List.getElem?_eq_none (by omega)]
theorem roomV_bs (reg : Nat) (s : Sh) (n : Nat) (st : VSt) : (roomV reg s n st).bs = st.bs := by unfold roomV; split <;> rfl
theorem txV_nil (bs : List Blk) : txV [] bs = bs := by
 apply List.ext_getElem?
 intro j
 by_cases hj : j < bs.length
 · have := txV_getD [] bs j hj
   rw [List.getD_eq_getElem?_getD, List.getElem?_eq_getElem (by rw [txV_length]; exact hj)] at this
   rw [List.getElem?_eq_getElem (by rw [txV_length]; exact hj), List.getElem?_eq_getElem hj]
   have e : (lkB [] (j : Int)).getD (bs.getD j Blk.zero) = bs[j] := by rw [show lkB [] (j : Int) = none from rfl, List.getD_eq_getElem?_getD, List.getElem?_eq_getElem hj]; rfl
   rw [e] at this
   exact congrArg some this
 · rw [List.getElem?_eq_none (by rw [txV_length]; omega), List.getElem?_eq_none (by omega)]
theorem commitV_bs {reg : Nat} {s : Sh} {L : PL} {st : VSt} (h0 : ∀ k ∈ L.map (·.1), 0 ≤ k) : (commitV reg s L st).bs = txV L st.bs := by
 unfold commitV
 split
 · rename_i h
   rw [List.isEmpty_iff.1 h, txV_nil]
 · unfold changeV writeV
   show overlay (roomV reg s _ st).bs _ = _
   rw [roomV_bs, overlay_txV h0]
end
section
open Go.RowKit

theorem mem_ents {B : List Blk} {n : Nm} {i : Nat} : (n, i) ∈ ents B ↔ i < B.length ∧ takeEntry (B.getD i Blk.zero) = some n := by
 unfold ents
 rw [List.mem_filterMap]
 constructor
 · rintro ⟨j, hj, he⟩
   rw [List.mem_range] at hj
   cases h : takeEntry (B.getD j Blk.zero) with
   | none => rw [h] at he; cases he
   | some m =>
     rw [h] at he
     simp only [Option.map_some, Option.some.injEq, Prod.mk.injEq] at he
     obtain ⟨rfl, rfl⟩ := he
     exact ⟨hj, h⟩
 · rintro ⟨hi, h⟩
   exact ⟨i, List.mem_range.2 hi, by rw [h]; rfl⟩
theorem ents_pairwise (B : List Blk) : (ents B).Pairwise fun p q => p.2 < q.2 := by
 unfold ents
 rw [List.pairwise_filterMap]
 refine List.Pairwise.imp ?_ (List.pairwise_lt_range (n := B.length))
 intro i j hij p hp q hq
 cases h : takeEntry (B.getD i Blk.zero) with
 | none => rw [h] at hp; cases hp
 | some a =>
   cases h' : takeEntry (B.getD j Blk.zero) with
   | none => rw [h'] at hq; cases hq
   | some b =>
     rw [h] at hp; rw [h'] at hq
     simp only [Option.map_some, Option.some.injEq] at hp hq
     subst hp hq
     exact hij
theorem ents_mem_set {B : List Blk} {k : Nat} {x : Blk} (hk : k < B.length) {n : Nm} {i : Nat} : (n, i) ∈ ents (B.set k x) ↔ (i = k ∧ takeEntry x = some n) ∨ (i ≠ k ∧ (n, i) ∈ ents B) := by
 rw [mem_ents, mem_ents, List.length_set]
 have e : (B.set k x).getD i Blk.zero = if i = k then x else B.getD i Blk.zero := by
  rw [List.getD_eq_getElem?_getD, List.getD_eq_getElem?_getD, List.getElem?_set]
  by_cases h : k = i
  · subst h; simp [hk]
  · rw [if_neg h, if_neg (fun e => h e.symm)]
 rw [e]
 by_cases h : i = k
 · subst h; rw [if_pos rfl]; simp [hk]
 · rw [if_neg h]; simp [h]
theorem entsTo_set_length {B : List Blk} {k : Nat} {x : Blk} (hk : k < B.length) : ∀ m, (entsTo (B.set k x) m).length ≤ (entsTo B m).length + (if k < m then 1 else 0)
 | 0 => by simp [entsTo]
 | m + 1 => by
   have ih := entsTo_set_length (x := x) hk m
   have e : (B.set k x).getD m Blk.zero = if m = k then x else B.getD m Blk.zero := by
    rw [List.getD_eq_getElem?_getD, List.getD_eq_getElem?_getD, List.getElem?_set]
    by_cases h : k = m
    · subst h; simp [hk]
    · rw [if_neg h, if_neg (fun e => h e.symm)]
   rw [entsTo_succ, entsTo_succ, List.length_append, List.length_append, e]
   by_cases h : m = k
   · subst h
     rw [if_pos rfl, if_pos (by omega)]
     rw [if_neg (by omega)] at ih
     have : ((takeEntry x).map fun n => (n, m)).toList.length ≤ 1 := by cases takeEntry x <;> simp
     omega
   · rw [if_neg h]
     by_cases h2 : k < m
     · rw [if_pos h2] at ih; rw [if_pos (by omega)]; omega
     · rw [if_neg h2] at ih; rw [if_neg (by omega)]; omega
theorem ents_set_length {B : List Blk} {k : Nat} {x : Blk} (hk : k < B.length) : (ents (B.set k x)).length ≤ (ents B).length + 1 := by
 have h := entsTo_set_length (x := x) hk B.length
 rw [if_pos hk] at h
 have e : ents (B.set k x) = entsTo (B.set k x) B.length := by unfold ents entsTo; rw [List.length_set]
 rw [e]; exact h
theorem findE_some {B : List Blk} {d : Id} {m : ByteArray} {p : Nm × Nat} (h : findE B d m = some p) : p ∈ ents B ∧ p.1.dir = d ∧ p.1.name = m := by
 have h1 := List.find?_some h
 have h2 := List.mem_of_find?_eq_some h
 simp only [isN, Bool.and_eq_true, decide_eq_true_eq] at h1
 exact ⟨h2, h1.1, h1.2⟩
theorem findE_none {B : List Blk} {d : Id} {m : ByteArray} (h : findE B d m = none) (p : Nm × Nat) (hp : p ∈ ents B) : ¬ (p.1.dir = d ∧ p.1.name = m) := by
 have := List.find?_eq_none.1 h p hp
 simpa [isN] using this
structure NamesOk (B : List Blk) : Prop where
 kinds : ∀ i, i < B.length → (B.getD i Blk.zero).kind ≠ 1 ∧ (B.getD i Blk.zero).kind ≠ 2 ∧ (B.getD i Blk.zero).kind ≠ 3
 good : ∀ i, i < B.length → (B.getD i Blk.zero).kind = 6 → ∃ n, takeEntry (B.getD i Blk.zero) = some n
 once : ∀ p ∈ ents B, ∀ q ∈ ents B, p.1.dir = q.1.dir → p.1.name = q.1.name → p = q
theorem NamesOk.use {B : List Blk} (h : NamesOk B) {T : ML} {j : Nat} (hj : j < B.length) : inUse B T (j : Int) ↔ j = 0 ∨ (j : Int) ∈ keysL T ∨ ∃ n, (n, j) ∈ ents B := by
 have hb : ∀ i, i < B.length → (useBy B i (j : Int) ↔ (j = i ∧ ∃ n, (n, j) ∈ ents B)) := fun i hi => by
  obtain ⟨k1, k2, k3⟩ := h.kinds i hi
  by_cases h6 : (B.getD i Blk.zero).kind = 6
  · rw [useBy_plain rfl (.inr (.inr h6))]
    obtain ⟨n, hn⟩ := h.good i hi h6
    constructor
    · intro e
      have e' : j = i := by omega
      subst e'
      exact ⟨rfl, n, mem_ents.2 ⟨hi, hn⟩⟩
    · rintro ⟨rfl, _⟩; rfl
  · constructor
    · intro e; exact absurd e (useBy_none (kd := (B.getD i Blk.zero).kind) rfl rfl ⟨k1, k2, k3, h6⟩)
    · rintro ⟨rfl, n, hn⟩
      exact absurd (takeEntry_kind (mem_ents.1 hn).2) h6
 unfold inUse
 constructor
 · rintro (e | e | ⟨i, hi, e⟩)
   · exact .inl (by omega)
   · exact .inr (.inl e)
   · exact .inr (.inr ((hb i hi).1 e).2)
 · rintro (e | e | ⟨n, hn⟩)
   · exact .inl (by omega)
   · exact .inr (.inl e)
   · exact .inr (.inr ⟨j, hj, (hb j hj).2 ⟨rfl, n, hn⟩⟩)
theorem cover_len : ∀ (n : Nat) (P : List Nat), (∀ j, j < n → j ∈ P) → n ≤ P.length
 | 0, _, _ => Nat.zero_le _
 | n + 1, P, h => by
   have hm := h n (by omega)
   have := cover_len n (P.erase n) (fun j hj => (List.mem_erase_of_ne (by omega)).2 (h j (by omega)))
   rw [List.length_erase_of_mem hm] at this
   have := List.length_pos_of_mem hm
   omega
theorem NamesOk.room {B : List Blk} (h : NamesOk B) {T : ML} (hl : 1 + T.length + (ents B).length < B.length) : ∃ j, j < B.length ∧ ¬ inUse B T (j : Int) := by
 refine Classical.byContradiction fun hn => ?_
 have hall : ∀ j, j < B.length → inUse B T (j : Int) := fun j hj => Classical.byContradiction fun e => hn ⟨j, hj, e⟩
 have hP : ∀ j, j < B.length → j ∈ 0 :: ((keysL T).map Int.toNat ++ (ents B).map (·.2)) := fun j hj => by
  rcases (h.use hj).1 (hall j hj) with e | e | ⟨n, e⟩
  · subst e; simp
  · exact List.mem_cons_of_mem _ (List.mem_append_left _ (List.mem_map.2 ⟨_, e, by simp⟩))
  · exact List.mem_cons_of_mem _ (List.mem_append_right _ (List.mem_map.2 ⟨_, e, rfl⟩))
 have hsub := cover_len B.length _ hP
 simp only [List.length_cons, List.length_append, List.length_map] at hsub
 have : (keysL T).length = T.length := by simp [keysL]
 omega
theorem NamesOk.add {B : List Blk} (h : NamesOk B) {n : Nm} (hm : mayEntry n = true) (hw : n.wf) {k : Nat} (hk : k < B.length) (hfree : ∀ m, (m, k) ∉ ents B) (hno : findE B n.dir n.name = none) : NamesOk (B.set k (putEntry n).1) := by
 have hp : (putEntry n).1.kind = 6 := by
  have : putEntry n = (Blk.of 6 (entryBytes n), true) := by unfold putEntry; rw [if_pos hm]
  rw [this]; exact Blk.of_kind _ _
 have e : ∀ i, (B.set k (putEntry n).1).getD i Blk.zero = if i = k then (putEntry n).1 else B.getD i Blk.zero := fun i => by
  rw [List.getD_eq_getElem?_getD, List.getD_eq_getElem?_getD, List.getElem?_set]
  by_cases h : k = i
  · subst h; simp [hk]
  · rw [if_neg h, if_neg (fun e => h e.symm)]
 have htk := take_putEntry hm hw
 refine ⟨fun i hi => ?_, fun i hi h6 => ?_, fun p hp1 q hq1 h1 h2 => ?_⟩
 · rw [List.length_set] at hi
   rw [e i]
   by_cases hik : i = k
   · rw [if_pos hik, hp]; decide
   · rw [if_neg hik]; exact h.kinds i hi
 · rw [List.length_set] at hi
   rw [e i] at h6 ⊢
   by_cases hik : i = k
   · rw [if_pos hik]; exact ⟨n, htk⟩
   · rw [if_neg hik] at h6 ⊢; exact h.good i hi h6
 · obtain ⟨p, i⟩ := p
   obtain ⟨q, j⟩ := q
   rcases (ents_mem_set hk).1 hp1 with ⟨rfl, a1⟩ | ⟨a0, a1⟩
   · rw [htk] at a1
     obtain rfl := Option.some.inj a1
     rcases (ents_mem_set hk).1 hq1 with ⟨rfl, b1⟩ | ⟨b0, b1⟩
     · rw [htk] at b1; obtain rfl := Option.some.inj b1; rfl
     · exact absurd ⟨h1.symm, h2.symm⟩ (findE_none hno _ b1)
   · rcases (ents_mem_set hk).1 hq1 with ⟨rfl, b1⟩ | ⟨b0, b1⟩
     · rw [htk] at b1
       obtain rfl := Option.some.inj b1
       exact absurd ⟨h1, h2⟩ (findE_none hno _ a1)
     · exact h.once _ a1 _ b1 h1 h2
theorem take_zero : takeEntry Blk.zero = none := by
 cases h : takeEntry Blk.zero with
 | none => rfl
 | some n =>
   have := takeEntry_kind h
   have z : Blk.zero.kind = 0 := by unfold Blk.zero; exact Blk.of_kind 0 []
   omega
theorem NamesOk.out {B : List Blk} (h : NamesOk B) {k : Nat} (hk : k < B.length) : NamesOk (B.set k Blk.zero) := by
 have z : Blk.zero.kind = 0 := by unfold Blk.zero; exact Blk.of_kind 0 []
 have e : ∀ i, (B.set k Blk.zero).getD i Blk.zero = if i = k then Blk.zero else B.getD i Blk.zero := fun i => by
  rw [List.getD_eq_getElem?_getD, List.getD_eq_getElem?_getD, List.getElem?_set]
  by_cases h : k = i
  · subst h; simp [hk]
  · rw [if_neg h, if_neg (fun e => h e.symm)]
 refine ⟨fun i hi => ?_, fun i hi h6 => ?_, fun p hp1 q hq1 h1 h2 => ?_⟩
 · rw [List.length_set] at hi
   rw [e i]
   by_cases hik : i = k
   · rw [if_pos hik, z]; decide
   · rw [if_neg hik]; exact h.kinds i hi
 · rw [List.length_set] at hi
   rw [e i] at h6 ⊢
   by_cases hik : i = k
   · rw [if_pos hik, z] at h6; cases h6
   · rw [if_neg hik] at h6 ⊢; exact h.good i hi h6
 · obtain ⟨p, i⟩ := p
   obtain ⟨q, j⟩ := q
   rcases (ents_mem_set hk).1 hp1 with ⟨_, a1⟩ | ⟨a0, a1⟩
   · rw [take_zero] at a1; cases a1
   · rcases (ents_mem_set hk).1 hq1 with ⟨_, b1⟩ | ⟨b0, b1⟩
     · rw [take_zero] at b1; cases b1
     · exact h.once _ a1 _ b1 h1 h2
theorem upB_cons (p : Int × Blk) (L : PL) (k : Int) (b : Blk) : upB (p :: L) k b = if p.1 = k then (k, b) :: L else p :: upB L k b := by
 unfold upB
 rw [List.findIdx?_cons]
 by_cases h : p.1 = k
 · have hb : (p.1 == k) = true := by simpa using h
   rw [hb, if_pos h]; rfl
 · have hb : (p.1 == k) = false := by simpa using h
   rw [hb, if_neg h]
   cases L.findIdx? (fun p => p.1 == k) <;> rfl
theorem lkB_cons (p : Int × Blk) (L : PL) (a : Int) : lkB (p :: L) a = if p.1 = a then some p.2 else lkB L a := by
 unfold lkB
 rw [List.find?_cons]
 by_cases h : p.1 = a
 · have hb : (p.1 == a) = true := by simpa using h
   rw [hb, if_pos h]; rfl
 · have hb : (p.1 == a) = false := by simpa using h
   rw [hb, if_neg h]
theorem lkB_upB (k : Int) (b : Blk) (a : Int) : ∀ L : PL, lkB (upB L k b) a = if a = k then some b else lkB L a
 | [] => by
   show lkB [(k, b)] a = _
   rw [lkB_cons]
   by_cases h : a = k
   · rw [if_pos h.symm, if_pos h]
   · rw [if_neg (fun e => h e.symm), if_neg h]
 | p :: L => by
   rw [upB_cons]
   by_cases h : p.1 = k
   · rw [if_pos h, lkB_cons, lkB_cons]
     by_cases e : a = k
     · rw [if_pos e.symm, if_pos e]
     · rw [if_neg (fun h => e h.symm), if_neg e, if_neg (fun h2 => e (by rw [← h2, h]))]
   · rw [if_neg h, lkB_cons, lkB_cons, lkB_upB k b a L]
     by_cases e : p.1 = a
     · rw [if_pos e, if_pos e, if_neg (fun h2 => h (by rw [e, h2]))]
     · rw [if_neg e, if_neg e]
theorem txV_up {L : PL} {bs : List Blk} {k : Nat} (b : Blk) : txV (upB L (k : Int) b) bs = (txV L bs).set k b := by
 have hlk : ∀ a : Int, lkB (upB L (k : Int) b) a = if a = (k : Int) then some b else lkB L a := fun a => lkB_upB _ _ _ _
 apply List.ext_getElem
 · rw [txV_length, List.length_set, txV_length]
 · intro j h1 h2
   rw [txV_length] at h1
   have e1 := txV_getD (upB L (k : Int) b) bs j h1
   rw [List.getD_eq_getElem?_getD, List.getElem?_eq_getElem (by rw [txV_length]; exact h1), Option.getD_some] at e1
   rw [e1, hlk, List.getElem_set]
   by_cases e : k = j
   · subst e; simp
   · rw [if_neg (by omega), if_neg e]
     have e2 := txV_getD L bs j h1
     rw [List.getD_eq_getElem?_getD, List.getElem?_eq_getElem (by rw [txV_length]; exact h1), Option.getD_some] at e2
     rw [e2]
end
section
open Go.RowKit

theorem takeIndex_zero : takeIndex Blk.zero = none := by
 unfold takeIndex
 rw [if_neg]
 intro e
 unfold putIndex at e
 split at e
 · have := congrArg (fun p => p.1.kind) e
   simp only [Blk.of_kind] at this
   exact absurd (this.trans (show Blk.zero.kind = 0 by unfold Blk.zero; exact Blk.of_kind 0 [])) (by decide)
 · have := congrArg (fun p => p.2) e
   cases this
theorem mem_real {l : List Int} {j : Nat} : (j : Int) ∈ real l ↔ (j : Int) ∈ l := by
 unfold real
 rw [List.mem_filter]
 exact ⟨fun h => h.1, fun h => ⟨h, by simp⟩⟩
theorem mem_names {bs : List Blk} {f : Blk} {n : Nd} (hf : takeNode f = (n, true)) (j : Nat) : (j : Int) ∈ namesT bs f ↔ (j : Int) ∈ namesOf bs n := by
 unfold namesT namesOf
 rw [hf, if_pos rfl]
 simp only [List.mem_append, mem_real]
 unfold Nd.places Nd.direct
 by_cases hi : n.index = -1
 · have hi' : (n.index == -1) = true := by simpa using hi
   rw [if_pos hi, if_pos hi']
   simp only [List.mem_cons, List.not_mem_nil, or_false, false_or]
   constructor
   · rintro (h | h | h | h | h)
     · exact .inl h
     · exact .inr (.inl h)
     · exact .inr (.inr (.inl h))
     · exact .inr (.inr (.inr h))
     · omega
   · rintro (h | h | h | h)
     · exact .inl h
     · exact .inr (.inl h)
     · exact .inr (.inr (.inl h))
     · exact .inr (.inr (.inr (.inl h)))
 · have hi' : (n.index == -1) = false := by simpa using hi
   rw [if_neg hi, hi']
   simp only [Bool.false_eq_true, if_false, List.mem_cons, List.not_mem_nil, or_false]
   have hx : (j : Int) ∈ (takeIndex (getB bs n.index)).getD [] ↔ (j : Int) ∈ (if inB bs n.index = true then real ((takeIndex (blkD bs n.index)).getD []) else []) := by
    unfold getB
    cases inB bs n.index with
    | true => simp only [if_true, mem_real]
    | false => simp [takeIndex_zero]
   rw [hx]
   constructor
   · rintro ((h | h | h | h | h) | h)
     · exact .inr (.inl h)
     · exact .inr (.inr (.inl h))
     · exact .inr (.inr (.inr (.inl h)))
     · exact .inr (.inr (.inr (.inr h)))
     · exact .inl (.inl h)
     · exact .inl (.inr h)
   · rintro ((h | h) | h | h | h | h)
     · exact .inl (.inr (.inr (.inr (.inr h))))
     · exact .inr h
     · exact .inl (.inl h)
     · exact .inl (.inr (.inl h))
     · exact .inl (.inr (.inr (.inl h)))
     · exact .inl (.inr (.inr (.inr (.inl h))))
theorem mem_named {bs : List Blk} {i : Nat} (j : Nat) (hk : (bs.getD i Blk.zero).kind = 1) : (j : Int) ∈ named bs i ↔ (j : Int) ∈ namesT bs (bs.getD i Blk.zero) := by
 unfold named
 rw [if_pos hk]
 obtain ⟨⟨n, ok⟩, hf⟩ : ∃ p, takeNode (bs.getD i Blk.zero) = p := ⟨_, rfl⟩
 cases ok with
 | true => rw [mem_names hf, hf]
 | false => unfold namesT; rw [hf]; simp
theorem used_iff {bs : List Blk} {j : Nat} (hj : j < bs.length) : usedUpto bs bs.length j = true ↔ inUse bs [] (j : Int) := by
 unfold usedUpto inUse useBy
 simp only [Bool.or_eq_true, Bool.and_eq_true, decide_eq_true_eq, List.any_eq_true, List.mem_range, List.contains_iff_mem, beq_iff_eq, keysL, List.map_nil, List.not_mem_nil, false_or, isNode]
 constructor
 · rintro (⟨_, (h | h) | h⟩ | ⟨i, hi, h⟩)
   · exact .inl (by omega)
   · refine .inr ⟨j, hj, ?_⟩
     rcases h with (h | h) | h
     · exact .inl ⟨h, .inr rfl⟩
     · exact .inr ⟨.inl h, rfl⟩
     · exact .inr ⟨.inr (.inl h), rfl⟩
   · exact .inr ⟨j, hj, .inr ⟨.inr (.inr h), rfl⟩⟩
   · refine .inr ⟨i, hi, .inl ?_⟩
     by_cases hk : (bs.getD i Blk.zero).kind = 1
     · exact ⟨hk, .inl ((mem_named j hk).1 h)⟩
     · unfold named at h; rw [if_neg hk] at h; simp at h
 · rintro (h | ⟨i, hi, ⟨hk, h | h⟩ | ⟨hk, h⟩⟩)
   · exact .inl ⟨hj, .inl (.inl (by omega))⟩
   · exact .inr ⟨i, hi, (mem_named j hk).2 h⟩
   · obtain rfl : j = i := by omega
     exact .inl ⟨hj, .inl (.inr (.inl (.inl hk)))⟩
   · obtain rfl : j = i := by omega
     rcases hk with hk | hk | hk
     · exact .inl ⟨hj, .inl (.inr (.inl (.inr hk)))⟩
     · exact .inl ⟨hj, .inl (.inr (.inr hk))⟩
     · exact .inl ⟨hj, .inr hk⟩
theorem sets_used {U : List Bool} {bs : List Blk} (h : Sets U bs.length (inUse bs [])) : U = used bs := by
 apply List.ext_getElem?
 intro j
 by_cases hj : j < bs.length
 · have h1 := h.at_ j hj
   rw [← used_iff hj] at h1
   unfold used
   rw [List.getElem?_map, List.getElem?_range hj]
   have hU : j < U.length := by rw [h.len]; exact hj
   rw [List.getElem?_eq_getElem hU] at h1 ⊢
   cases hu : U[j] <;> cases hv : usedUpto bs bs.length j <;> simp_all
 · rw [List.getElem?_eq_none (by rw [h.len]; omega), List.getElem?_eq_none (by simp [used]; omega)]
theorem Sets.mark {n : Nat} (xs : List Int) : ∀ {U : List Bool} {S : Int → Prop}, Sets U n S → (∀ x ∈ xs, 0 ≤ x) → Sets (markAll U xs) n (fun j => S j ∨ j ∈ xs) := by
 induction xs with
 | nil => intro U S h _; exact h.iff fun j _ => by simp
 | cons x xs ih =>
   intro U S h hx
   have h0 := hx x List.mem_cons_self
   have h1 : Sets (U.set x.toNat true) n (fun j => S j ∨ j = x) := by
    refine ⟨by rw [List.length_set]; exact h.len, fun j hj => ?_⟩
    rw [List.getElem?_set]
    by_cases e : x.toNat = j
    · rw [if_pos e, if_pos (by rw [h.len]; omega)]
      exact ⟨fun _ => .inr (by omega), fun _ => rfl⟩
    · rw [if_neg e, h.at_ j hj]
      exact ⟨.inl, fun e' => e'.resolve_right (by omega)⟩
   refine Sets.iff (ih h1 fun y hy => hx y (List.mem_cons_of_mem _ hy)) fun j _ => ?_
   simp only [List.mem_cons]
   exact or_assoc
theorem Sets.eq {U V : List Bool} {n : Nat} {S : Int → Prop} (h : Sets U n S) (k : Sets V n S) : U = V := by
 apply List.ext_getElem?
 intro j
 by_cases hj : j < n
 · have h1 := (h.at_ j hj).trans (k.at_ j hj).symm
   have hU : j < U.length := by rw [h.len]; exact hj
   have hV : j < V.length := by rw [k.len]; exact hj
   rw [List.getElem?_eq_getElem hU, List.getElem?_eq_getElem hV] at h1 ⊢
   cases hu : U[j] <;> cases hv : V[j] <;> simp_all
 · rw [List.getElem?_eq_none (by rw [h.len]; omega), List.getElem?_eq_none (by rw [k.len]; omega)]
theorem used_sets (bs : List Blk) : Sets (used bs) bs.length (inUse bs []) := ⟨by simp [used], fun j hj => by
 rw [← used_iff hj]
 unfold used
 rw [List.getElem?_map, List.getElem?_range hj]
 simp⟩
theorem sets_taken {U : List Bool} {bs : List Blk} {T : ML} (h : Sets U bs.length (inUse bs T)) (h0 : ∀ k ∈ keysL T, 0 ≤ k) : U = markAll (used bs) (keysL T) := by
 refine h.eq (Sets.iff ((used_sets bs).mark (keysL T) h0) fun j _ => ?_)
 unfold inUse
 simp only [keysL, List.map_nil, List.not_mem_nil, false_or]
 constructor
 · rintro ((h | h) | h)
   · exact .inl h
   · exact .inr (.inr h)
   · exact .inr (.inl h)
 · rintro (h | h | h)
   · exact .inl (.inl h)
   · exact .inr h
   · exact .inl (.inr h)
theorem firstFrom_find (l : List Bool) : ∀ (m k : Nat), l.length - k = m → firstFrom l k = ((l.drop k).findIdx? (! ·)).map (· + k) := by
 intro m
 induction m with
 | zero => intro k hm; rw [firstFrom_none (by omega), List.drop_of_length_le (by omega)]; rfl
 | succ m ih =>
   intro k hm
   have hk : k < l.length := by omega
   rw [List.drop_eq_getElem_cons hk, List.findIdx?_cons]
   cases hv : l[k] with
   | true =>
     rw [firstFrom_yes hk hv, ih (k + 1) (by omega)]
     simp only [Bool.not_true, Bool.false_eq_true, if_false, Option.map_map]
     congr 1
     funext x
     simp only [Function.comp]
     omega
   | false => rw [firstFrom_no hk hv]; simp
theorem left_used {U : List Bool} {bs : List Blk} (h : Sets U bs.length (inUse bs [])) : U.count false = left bs := by
 rw [sets_used h]
 unfold left
 rw [List.count_eq_countP]
 congr 1
 funext b
 cases b <;> rfl
end
section
open Go.RowKit
attribute [local irreducible] Calls

structure TxV (w : World) (Sd : Nat → Prop) (t v mp mt : Nat) (L : PL) (T : ML) (d reg : Nat) (s : Sh) (gb cap m : Nat) (st : VSt) (c : Nat) : Prop where
 tx : TxAt w t v mp mt L T st.bs.length
 vol : VolS w Sd v d reg s gb cap m st c
 ap : TxApart Sd t mp mt m
section
variable {w w' : World} {Sd : Nat → Prop} {t v mp mt : Nat} {L L' : PL} {T T' : ML} {d reg : Nat} {s : Sh} {gb cap m : Nat} {st : VSt} {c : Nat}
theorem TxV.below (h : TxV w Sd t v mp mt L T d reg s gb cap m st c) (hb : Below w.heap.size w w') : TxV w' Sd t v mp mt L T d reg s gb cap m st c := ⟨h.tx.below hb, VolP.below h.vol hb, h.ap⟩
theorem TxV.turn (h : TxV w Sd t v mp mt L T d reg s gb cap m st c) (ht : TxAt w' t v mp mt L' T' st.bs.length) (hk : Keeps (fun q => q = mp ∨ q = mt) w w') : TxV w' Sd t v mp mt L' T' d reg s gb cap m st c := by
 obtain ⟨cs, hcs⟩ := VolP.neRow h.vol
 refine ⟨ht, VolP.keeps h.vol hk (fun g hg e => ?_) (fun e => ?_) (fun e => ?_) (fun e => ?_), h.ap⟩
 · rcases e with e | e
   · exact h.ap.np (e ▸ hg)
   · exact h.ap.nk (e ▸ hg)
 · rcases e with e | e
   · exact h.tx.put.neObj h.vol.o e.symm
   · exact h.tx.tk.neObj h.vol.o e.symm
 · rcases e with e | e
   · exact h.ap.nm.1 e.symm
   · exact h.ap.nm.2 e.symm
 · rcases e with e | e
   · exact h.tx.put.neObj hcs e.symm
   · exact h.tx.tk.neObj hcs e.symm
def AddR (bs : List Blk) (L : PL) (T : ML) (n : Nm) (r : Int) (L' : PL) (T' : ML) : Prop :=
 (mayEntry n = false ∧ r = 1 ∧ L' = L ∧ T' = T) ∨
 (mayEntry n = true ∧ (∃ p, findE (txV L bs) n.dir n.name = some p) ∧ r = 4 ∧ L' = L ∧ T' = T) ∨
 (mayEntry n = true ∧ findE (txV L bs) n.dir n.name = none ∧
  (((∀ j, j < bs.length → inUse (txV L bs) T (j : Int)) ∧ r = 9 ∧ L' = L ∧ T' = T) ∨
   ∃ k, k < bs.length ∧ ¬ inUse (txV L bs) T (k : Int) ∧ (∀ j, j < k → inUse (txV L bs) T (j : Int)) ∧ r = 0 ∧ L' = upB L (k : Int) (putEntry n).1 ∧ T' = up T (k : Int) (.bool true)))
theorem firstFrom_spec {l : List Bool} : ∀ (m k : Nat), l.length - k = m → (firstFrom l k = none ∧ ∀ j, k ≤ j → j < l.length → l[j]? = some true) ∨ ∃ j, firstFrom l k = some j ∧ k ≤ j ∧ l[j]? = some false ∧ ∀ i, k ≤ i → i < j → l[i]? = some true := by
 intro m k hm
 have h := firstFrom_find l m k hm
 rw [h]
 cases hf : (l.drop k).findIdx? (! ·) with
 | none =>
   left
   refine ⟨rfl, fun j hj hjl => ?_⟩
   rw [List.findIdx?_eq_none_iff] at hf
   have := hf (l[j]) (by rw [List.mem_iff_getElem?]; exact ⟨j - k, by rw [List.getElem?_drop, show k + (j - k) = j by omega, List.getElem?_eq_getElem hjl]⟩)
   rw [List.getElem?_eq_getElem hjl]
   simpa using this
 | some i =>
   right
   rw [List.findIdx?_eq_some_iff_getElem] at hf
   obtain ⟨hi, h1, h2⟩ := hf
   rw [List.length_drop] at hi
   refine ⟨i + k, rfl, by omega, ?_, fun a ha hai => ?_⟩
   · rw [List.getElem_drop] at h1
     rw [show i + k = k + i by omega, List.getElem?_eq_getElem (by omega)]
     simpa using h1
   · have := h2 (a - k) (by omega)
     rw [List.getElem_drop] at this
     rw [List.getElem?_eq_getElem (by omega)]
     simp only [show k + (a - k) = a by omega] at this
     simpa using this
end
end
end Go.Proofs.YtbbnejehglonjaaGreat
