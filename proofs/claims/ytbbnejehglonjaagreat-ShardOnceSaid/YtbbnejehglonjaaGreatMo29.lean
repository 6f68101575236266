/- DERIVED. Contracts and laws that the proofs of this seat share, part 29 of 36: TxG. -/
import Derived.Test.YtbbnejehglonjaaGreatMo00
import Derived.Test.YtbbnejehglonjaaGreatMo27
import Derived.Test.YtbbnejehglonjaaGreatMo28
/- DERIVED. Contract of tx's Commit. -/
namespace Go.Proofs.YtbbnejehglonjaaGreat
open Go.RowKit
attribute [local irreducible] Calls
set_option maxRecDepth 100000

/-- Is a change made? -/
def commitOk (s : Sh) (L : PL) : Bool := L.isEmpty || changeOk s (writesOf L)
/-- What a change leaves. -/
def commitV (reg : Nat) (s : Sh) (L : PL) (st : VSt) : VSt := if L.isEmpty = true then st else changeV reg s (writesOf L) st
section
variable {w : World} {t v mp mt : Nat} {L : PL} {T : ML}
variable {Sd : Nat → Prop} {d reg : Nat} {s : Sh} {gb cap m : Nat} {st : VSt} {c : Nat}
/-- A change whose maps and self are no part of its vol. -/
structure TxApart (Sd : Nat → Prop) (t mp mt m : Nat) : Prop where
 nt : ¬ Sd t
 np : ¬ Sd mp
 nk : ¬ Sd mt
 nm : mp ≠ m ∧ mt ≠ m
theorem MapI.neObj {w : World} {m g : Nat} {M : ML} {cs : Array Value} {ty : TypeId} (h : MapI w m M) (hg : objAt w g = some (.cells cs ty (0, 0))) : m ≠ g := fun e => h.neCells hg e.symm
theorem writesOf_length (L : PL) : (writesOf L).length = L.length := by unfold writesOf; rw [List.length_map, sortedKeys_length, plM_length]
set_option maxHeartbeats 4000000 in
theorem txCommit_any (h : TxAt w t v mp mt L T st.bs.length) (hv : VolS w Sd v d reg s gb cap m st c) (ha : TxApart Sd t mp mt m) (hlog : 13 ≤ s.log) (hc : c < 500000) :
 Calls Tryz.prog 22 #[.pointer (some ⟨t, 0, none⟩)] w fun e w' =>
  (commitOk s L = false → e = .returned (.int .i64 1) ∧ Below w.heap.size w w') ∧
  (commitOk s L = true → e = .returned (.int .i64 0) ∧ Keeps (fun k => Sd k ∨ k = v ∨ k = m ∨ k = gb ∨ k = mp ∨ k = mt) w w' ∧ TxAt w' t v mp mt [] [] st.bs.length ∧
   ∃ Sd' c', c' ≤ c + 300 ∧ (∀ q, Sd' q → Sd q ∨ w.heap.size ≤ q) ∧ VolS w' Sd' v d reg s gb cap m (commitV reg s L st) c') := by
 have hlen : st.bs.length ≤ 200 := by rw [← hv.slen]; exact hv.sok.blocks
 have hLl : L.length ≤ 200 := by
  have := MapI.few h.put (n := st.bs.length) (fun k hk => h.inP k (by rwa [plM_keys] at hk))
  rw [plM_length] at this; omega
 have c1 := h.c1
 have c2 := h.c2
 have c0 := h.c0
 have hpl := plM_length L
 have H := Lib.hid (And.intro h (And.intro hv ha))
 have HW := Lib.hid (txWrites_any h)
 clear h hv ha
 by_cases hL : L = []
 · subst hL
   have HT := Lib.hid (show commitOk s [] = true ∧ commitV reg s [] st = st from ⟨rfl, rfl⟩)
   clear HW hpl
   have hln := fun ty => run_lenI (P := Tryz.prog) H.out.1.put Tryz.underlying132 ty
   rw [plM_length] at hln
   have hOnce : True := trivial
   have hTwice : True := trivial
   go_enter Tryz.func22, Tryz.ntmps22
   go_wp2_with (first
    | (clear hOnce; refine list_clearI rfl 132 3 37 _ rfl H.out.1.put Tryz.underlying132 rfl ?_; intro w5 hM5 hk5; have hT5 := H.out.1.tk.keeps hk5 (fun e => H.out.1.ne e.symm); have ho5 := hk5.obj H.out.1.obj (fun e => H.out.1.put.neObj H.out.1.obj e.symm); have c2' := cell_obj ho5 2)
    | (clear hTwice; refine list_clearI rfl 34 3 4 _ rfl hT5 Tryz.underlying34 rfl ?_; intro w6 hM6 hk6))
   go_ret
   have h := H.out.1
   have ho6 := hk6.obj ho5 (fun e => h.tk.neObj h.obj e.symm)
   have hk : Keeps (fun k => k = mp ∨ k = mt) w w6 := (hk5.mono fun _ _ e => .inl e).trans (hk6.mono fun _ _ e => .inr e)
   obtain ⟨cs, hcs⟩ := H.out.2.1.neRow
   refine ⟨fun e => (by rw [HT.out.1] at e; cases e), fun _ => ⟨rfl, hk.mono (fun _ _ e => by omega), { obj := ho6, put := hM5.keeps hk6 h.ne, tk := hM6, ne := h.ne, allT := fun p hp => by simp at hp, inP := fun k hk => by simp at hk, inT := fun k hk => by simp [keysL] at hk }, Sd, c, by omega, fun _ h => .inl h, ?_⟩⟩
   rw [HT.out.2]
   exact H.out.2.1.keeps hk (fun g hg e => by rcases e with e | e; exact H.out.2.2.np (e ▸ hg); exact H.out.2.2.nk (e ▸ hg)) (fun e => by rcases e with e | e; exact h.put.neObj H.out.2.1.o e.symm; exact h.tk.neObj H.out.2.1.o e.symm) (fun e => by rcases e with e | e; exact H.out.2.2.nm.1 e.symm; exact H.out.2.2.nm.2 e.symm) (fun e => by rcases e with e | e; exact h.put.neObj hcs e.symm; exact h.tk.neObj hcs e.symm)
 · have hpos : 0 < L.length := by cases L with | nil => exact absurd rfl hL | cons p L' => simp
   have hposi : (0 : Int) < (L.length : Int) := by omega
   have hemp : L.isEmpty = false := by cases L with | nil => exact absurd rfl hL | cons p L' => rfl
   have HT := Lib.hid (show commitOk s L = changeOk s (writesOf L) ∧ commitV reg s L st = changeV reg s (writesOf L) st from ⟨by unfold commitOk; rw [hemp]; rfl, by unfold commitV; rw [hemp]; rfl⟩)
   have hln := fun ty => run_lenI (P := Tryz.prog) H.out.1.put Tryz.underlying132 ty
   rw [plM_length] at hln
   clear hL hemp hpos hpl
   cases hok : changeOk s (writesOf L) with
   | false =>
     have Hok := Lib.hid hok
     clear hok
     go_enter Tryz.func22, Tryz.ntmps22
     go_upto_region 4 with fail
     refine wp_region_F [6] (S := fun w' => w'.cell? ⟨t, 0, none⟩ = some (.pointer (some ⟨v, 0, none⟩)) ∧ True) (by kernel_rfl) (And.intro c0 trivial) (fun hHeld => ?_)
     show wpAnyF _ _ _ _ _ _ 8 #[false, false, false, false, false, false, false, false] _ _
     refine gF [0, 1, 2, 3, 6, 7] (i := 0) (v := ?kv1) rfl ?ky1 ?kr1
     case ky1 => (intro w hSw; (try dsimp only at hSw); go_split_ands; (try simp only [qA, qB]); go_simp; (try with_reducible rfl))
     try simp only [Act.put, qA, qB, qD, qE, qF]
     refine gF [1, 2, 3, 6, 7] (i := 1) (v := ?kv2) rfl ?ky2 ?kr2
     case ky2 => (intro w hSw; (try dsimp only at hSw); go_split_ands; (try simp only [qA, qB, qC]); go_simp; (try with_reducible rfl))
     try simp only [Act.put, qA, qB, qC, qD, qE, qF]
     refine gF [2, 3, 6, 7] (i := 2) (v := ?kv3) rfl ?ky3 ?kr3
     case ky3 => (intro w hSw; (try dsimp only at hSw); go_split_ands; (try simp only [qA, qB, qC]); go_simp; (try with_reducible rfl))
     try simp only [Act.put, qA, qB, qC, qD, qE, qF]
     refine gF [3, 6, 7] (i := 3) (v := ?kv4) rfl ?ky4 ?kr4
     case ky4 => (intro w hSw; (try dsimp only at hSw); go_split_ands; (try simp only [qA, qB, qC]); go_simp; (try with_reducible rfl))
     try simp only [Act.put, qA, qB, qC, qD, qE, qF]
     refine gF [4, 5, 6, 7] (i := 4) (v := ?kv5) rfl ?ky5 ?kr5
     case ky5 => (intro w hSw; (try dsimp only at hSw); go_split_ands; (try simp only [qA, qB, qC]); go_simp; (try with_reducible rfl))
     try simp only [Act.put, qA, qB, qC, qD, qE, qF]
     refine wpAnyF_ready (rs := [5]) (by kernel_rfl) (by simp) ?_
     refine (AllReadyF.cons rfl (fun K hK => ?_) AllReadyF.nil)
     try simp only [qA, qB, qC]
     go_simp
     go_at_call 25; refine (txWrites_any ((H.out.1).below (Below.refl w.heap.size w).drew)).mono ?_; rintro e w1 ⟨u, rfl, hw1, b1⟩; have hx1 : Below w.heap.size w w1 := (Below.refl w.heap.size w).drew.trans b1
     refine hK.out _ _ (by exact ⟨grow_cell hx1 c0, trivial⟩) (fun hHeldn => ?_)
     clear hHeld hK K
     have hHeld := hHeldn
     clear hHeldn
     try simp only [qD, qE, qF]
     refine wpAnyF_ready (rs := [6]) (by kernel_rfl) (by simp) ?_
     refine (AllReadyF.last rfl (by kernel_rfl) (fun K hK => ?_) AllReadyF.nil)
     try simp only [qA, qB, qC]
     go_simp
     go_at_call 57; refine (VolP.change (VolP.below H.out.2.1 hx1) hw1 (fun g hg e => by have h1 := hw1.own g hg; have h2 := H.out.2.1.dev.lt g e; have h3 : w.heap.size ≤ g := h1; omega) (by rw [writesOf_length]; omega) hlog hc).mono ?_; rintro e w2 hres; obtain ⟨rfl, b2⟩ := hres.1 Hok.out
     refine hK.out _ _ (trivial) (fun hHeldn => ?_)
     clear hHeld hK K
     have hHeld := hHeldn
     clear hHeldn
     try simp only [qD, qE, qF]
     refine gP (i := 7) (v := ?kv8) rfl ?ky8 ?kr8
     case ky8 => (intro w hSw; clear hSw; (try simp only [qA, qB, qC]); go_simp; (try with_reducible rfl))
     try simp only [Act.put, qA, qB, qC, qD, qE, qF]
     refine wpAnyF_done (by kernel_rfl) ?_ _
     go_wp2_with fail
     go_ret
     exact ⟨fun _ => ⟨rfl, grow_trans hx1 b2⟩, fun e => (by rw [HT.out.1, Hok.out] at e; cases e)⟩
   | true =>
     have Hok := Lib.hid hok
     clear hok
     go_enter Tryz.func22, Tryz.ntmps22
     go_upto_region 4 with fail
     refine wp_region_F [6] (S := fun w' => w'.cell? ⟨t, 0, none⟩ = some (.pointer (some ⟨v, 0, none⟩)) ∧ True) (by kernel_rfl) (And.intro c0 trivial) (fun hHeld => ?_)
     show wpAnyF _ _ _ _ _ _ 8 #[false, false, false, false, false, false, false, false] _ _
     refine gF [0, 1, 2, 3, 6, 7] (i := 0) (v := ?kv9) rfl ?ky9 ?kr9
     case ky9 => (intro w hSw; (try dsimp only at hSw); go_split_ands; (try simp only [qA, qB]); go_simp; (try with_reducible rfl))
     try simp only [Act.put, qA, qB, qD, qE, qF]
     refine gF [1, 2, 3, 6, 7] (i := 1) (v := ?kv10) rfl ?ky10 ?kr10
     case ky10 => (intro w hSw; (try dsimp only at hSw); go_split_ands; (try simp only [qA, qB, qC]); go_simp; (try with_reducible rfl))
     try simp only [Act.put, qA, qB, qC, qD, qE, qF]
     refine gF [2, 3, 6, 7] (i := 2) (v := ?kv11) rfl ?ky11 ?kr11
     case ky11 => (intro w hSw; (try dsimp only at hSw); go_split_ands; (try simp only [qA, qB, qC]); go_simp; (try with_reducible rfl))
     try simp only [Act.put, qA, qB, qC, qD, qE, qF]
     refine gF [3, 6, 7] (i := 3) (v := ?kv12) rfl ?ky12 ?kr12
     case ky12 => (intro w hSw; (try dsimp only at hSw); go_split_ands; (try simp only [qA, qB, qC]); go_simp; (try with_reducible rfl))
     try simp only [Act.put, qA, qB, qC, qD, qE, qF]
     refine gF [4, 5, 6, 7] (i := 4) (v := ?kv13) rfl ?ky13 ?kr13
     case ky13 => (intro w hSw; (try dsimp only at hSw); go_split_ands; (try simp only [qA, qB, qC]); go_simp; (try with_reducible rfl))
     try simp only [Act.put, qA, qB, qC, qD, qE, qF]
     refine wpAnyF_ready (rs := [5]) (by kernel_rfl) (by simp) ?_
     refine (AllReadyF.cons rfl (fun K hK => ?_) AllReadyF.nil)
     try simp only [qA, qB, qC]
     go_simp
     go_at_call 25; refine (txWrites_any ((H.out.1).below (Below.refl w.heap.size w).drew)).mono ?_; rintro e w1 ⟨u, rfl, hw1, b1⟩; have hx1 : Below w.heap.size w w1 := (Below.refl w.heap.size w).drew.trans b1
     refine hK.out _ _ (by exact ⟨grow_cell hx1 c0, trivial⟩) (fun hHeldn => ?_)
     clear hHeld hK K
     have hHeld := hHeldn
     clear hHeldn
     try simp only [qD, qE, qF]
     refine wpAnyF_ready (rs := [6]) (by kernel_rfl) (by simp) ?_
     refine (AllReadyF.last rfl (by kernel_rfl) (fun K hK => ?_) AllReadyF.nil)
     try simp only [qA, qB, qC]
     go_simp
     go_at_call 57; refine (VolP.change (VolP.below H.out.2.1 hx1) hw1 (fun g hg e => by have h1 := hw1.own g hg; have h2 := H.out.2.1.dev.lt g e; have h3 : w.heap.size ≤ g := h1; omega) (by rw [writesOf_length]; omega) hlog hc).mono ?_; rintro e w2 hres; obtain ⟨rfl, k2, hv2⟩ := hres.2 Hok.out
     refine hK.out _ _ (trivial) (fun hHeldn => ?_)
     clear hHeld hK K
     have hHeld := hHeldn
     clear hHeldn
     try simp only [qD, qE, qF]
     refine gP (i := 7) (v := ?kv16) rfl ?ky16 ?kr16
     case ky16 => (intro w hSw; clear hSw; (try simp only [qA, qB, qC]); go_simp; (try with_reducible rfl))
     try simp only [Act.put, qA, qB, qC, qD, qE, qF]
     refine wpAnyF_done (by kernel_rfl) ?_ _
     have h := H.out.1
     obtain ⟨cs, hcs⟩ := H.out.2.1.neRow
     have hle := hx1.size
     have hv1 := VolP.below H.out.2.1 hx1
     have h1 := h.below hx1
     have n1 : ¬ (Sd t ∨ t = v ∨ t = m ∨ t = gb) := fun e => by
      rcases e with e | e | e | e
      · exact H.out.2.2.nt e
      · exact ne_of_obj h.obj H.out.2.1.o (by decide) e
      · exact H.out.2.1.map.neObj h.obj e.symm
      · exact ne_of_obj h.obj hcs (by decide) e
     have n2 : ¬ (Sd mp ∨ mp = v ∨ mp = m ∨ mp = gb) := fun e => by
      rcases e with e | e | e | e
      · exact H.out.2.2.np e
      · exact h.put.neObj H.out.2.1.o e
      · exact H.out.2.2.nm.1 e
      · exact h.put.neObj hcs e
     have n3 : ¬ (Sd mt ∨ mt = v ∨ mt = m ∨ mt = gb) := fun e => by
      rcases e with e | e | e | e
      · exact H.out.2.2.nk e
      · exact h.tk.neObj H.out.2.1.o e
      · exact H.out.2.2.nm.2 e
      · exact h.tk.neObj hcs e
     have h2 := h1.keeps k2 n1 n2 n3
     have c1' := h2.c1
     have hgr : ∀ q, grownS Sd w1 w2 q → Sd q ∨ w.heap.size ≤ q := fun q hq => hq.2.imp id (Nat.le_trans hle)
     have H3 := Lib.hid (And.intro h2 (And.intro hv2 (And.intro (And.intro hx1 k2) hgr)))
     clear h hcs hle hv1 h1 n1 n2 n3 h2 hv2 hgr hw1 hln k2
     have hOnce : True := trivial
     have hTwice : True := trivial
     go_wp2_with (first
      | (clear hOnce; refine list_clearI rfl 132 3 37 _ rfl H3.out.1.put Tryz.underlying132 rfl ?_; intro w5 hM5 hk5; have hT5 := H3.out.1.tk.keeps hk5 (fun e => H3.out.1.ne e.symm); have ho5 := hk5.obj H3.out.1.obj (fun e => H3.out.1.put.neObj H3.out.1.obj e.symm); have c2' := cell_obj ho5 2)
      | (clear hTwice; refine list_clearI rfl 34 3 4 _ rfl hT5 Tryz.underlying34 rfl ?_; intro w6 hM6 hk6))
     go_ret
     have h := H3.out.1
     have hv2 := H3.out.2.1
     obtain ⟨cs2, hcs2⟩ := VolP.neRow hv2
     have ho6 := hk6.obj ho5 (fun e => h.tk.neObj h.obj e.symm)
     have hk : Keeps (fun k => k = mp ∨ k = mt) w2 w6 := (hk5.mono fun _ _ e => .inl e).trans (hk6.mono fun _ _ e => .inr e)
     have hmpw : mp < w.heap.size := H.out.1.put.lt
     have hmtw : mt < w.heap.size := H.out.1.tk.lt
     refine ⟨fun e => (by rw [HT.out.1, Hok.out] at e; cases e), fun _ => ⟨rfl, ?_, ?_, grownS Sd w1 w2, c + 300, Nat.le_refl _, H3.out.2.2.2, ?_⟩⟩
     · exact ((Keeps.of_below hx1).trans (H3.out.2.2.1.2.mono fun _ _ e => e.elim .inl (fun e => .inr (by omega)))).trans (hk.mono fun _ _ e => by omega)
     · exact { obj := ho6, put := hM5.keeps hk6 h.ne, tk := hM6, ne := h.ne, allT := fun p hp => by simp at hp, inP := fun k hk => by simp at hk, inT := fun k hk => by simp [keysL] at hk }
     · rw [HT.out.2]
       refine VolP.keeps hv2 hk (fun g hg e => ?_) (fun e => ?_) (fun e => ?_) (fun e => ?_)
       · have h3 := hg.2
         have hle := hx1.size
         rcases e with e | e <;> subst e
         · exact h3.elim H.out.2.2.np (fun h => by omega)
         · exact h3.elim H.out.2.2.nk (fun h => by omega)
       · rcases e with e | e
         · exact h.put.neObj hv2.o e.symm
         · exact h.tk.neObj hv2.o e.symm
       · rcases e with e | e
         · exact H.out.2.2.nm.1 e.symm
         · exact H.out.2.2.nm.2 e.symm
       · rcases e with e | e
         · exact h.put.neObj hcs2 e.symm
         · exact h.tk.neObj hcs2 e.symm
end
end Go.Proofs.YtbbnejehglonjaaGreat
