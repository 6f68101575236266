/- DERIVED. Contracts and laws that the proofs of this seat share, part 22 of 36: TxA TxB LibNm ShP ShA Rf15E IdEq Rf15F TxC. -/
import Derived.Sort.Walk0
import Derived.Test.YtbbnejehglonjaaGreatMh00
import Derived.Test.YtbbnejehglonjaaGreatMh02
import Derived.Test.YtbbnejehglonjaaGreatMh06
import Derived.Test.YtbbnejehglonjaaGreatMh09
import Derived.Test.YtbbnejehglonjaaGreatMh11
import Derived.Test.YtbbnejehglonjaaGreatMh12
import Derived.Test.YtbbnejehglonjaaGreatMh15
import Derived.Test.YtbbnejehglonjaaGreatMh16
import Derived.Test.YtbbnejehglonjaaGreatMh21
namespace Go.Proofs.YtbbnejehglonjaaGreat
set_option maxHeartbeats 8000000
set_option maxRecDepth 100000
set_option linter.unusedSimpArgs false
set_option linter.unusedVariables false
section
open Go.RowKit
attribute [local irreducible] Calls

abbrev PL := List (Int × Blk)
def lkB (L : PL) (k : Int) : Option Blk := (L.find? (fun p => p.1 == k)).map (·.2)
def upB (L : PL) (k : Int) (b : Blk) : PL := match L.findIdx? (fun p => p.1 == k) with | some j => L.set j (k, b) | none => L ++ [(k, b)]
def plM (L : PL) : ML := L.map fun p => (p.1, .agg p.2.cells)
theorem plM_lk (L : PL) (k : Int) : lk (plM L) k = (lkB L k).map fun b => .agg b.cells := by
 induction L with
 | nil => rfl
 | cons p L ih =>
   unfold lk lkB plM at *
   simp only [List.map_cons, List.find?_cons]
   cases p.1 == k with
   | true => rfl
   | false => exact ih
theorem plM_idx (L : PL) (k : Int) : (plM L).findIdx? (fun p => p.1 == k) = L.findIdx? (fun p => p.1 == k) := by
 unfold plM
 rw [List.findIdx?_map]; rfl
theorem plM_up (L : PL) (k : Int) (b : Blk) : up (plM L) k (.agg b.cells) = plM (upB L k b) := by
 unfold up upB
 rw [plM_idx]
 cases L.findIdx? (fun p => p.1 == k) with
 | none => simp [plM]
 | some j => simp [plM, List.map_set]
theorem plM_keys (L : PL) : keysL (plM L) = L.map (·.1) := by simp [keysL, plM]
theorem plM_length (L : PL) : (plM L).length = L.length := by simp [plM]
def txV (L : PL) (bs : List Blk) : List Blk := (List.range bs.length).map fun i : Nat => (lkB L (i : Int)).getD (bs.getD i Blk.zero)
theorem txV_length (L : PL) (bs : List Blk) : (txV L bs).length = bs.length := by simp [txV]
structure TxAt (w : World) (t v mp mt : Nat) (L : PL) (T : ML) (n : Nat) : Prop where
 obj : objAt w t = some (.cells #[.pointer (some ⟨v, 0, none⟩), .map (some mp), .map (some mt)] 134 (0, 0))
 put : MapI w mp (plM L)
 tk : MapI w mt T
 ne : mp ≠ mt
 allT : allTrue T
 inP : ∀ k ∈ L.map (·.1), k < (n : Int)
 inT : ∀ k ∈ keysL T, k < (n : Int)
theorem lkB_mem {L : PL} {k : Int} {b : Blk} (h : lkB L k = some b) : k ∈ L.map (·.1) := by
 unfold lkB at h
 rw [Option.map_eq_some_iff] at h
 obtain ⟨p, hp, rfl⟩ := h
 have h1 := List.find?_some hp
 exact List.mem_map.2 ⟨p, List.mem_of_find?_eq_some hp, by simpa using h1⟩
theorem inB_txV (L : PL) (bs : List Blk) (a : Int) : inB (txV L bs) a = inB bs a := by unfold inB; rw [txV_length]
theorem txV_getD (L : PL) (bs : List Blk) (j : Nat) (hj : j < bs.length) : (txV L bs).getD j Blk.zero = (lkB L (j : Int)).getD (bs.getD j Blk.zero) := by
 unfold txV
 rw [List.getD_eq_getElem?_getD, List.getElem?_map, List.getElem?_range hj]; rfl
theorem getB_txV (L : PL) (bs : List Blk) (a : Int) : getB (txV L bs) a = if inB bs a = true then (lkB L a).getD (getB bs a) else Blk.zero := by
 unfold getB
 rw [inB_txV]
 rcases inB_cases bs a with ⟨_, h2⟩ | ⟨_, _, h2⟩ | ⟨j, rfl, hj, h2⟩
 · rw [h2]; rfl
 · rw [h2]; rfl
 · rw [h2, if_pos rfl, if_pos rfl, blkD_nat, blkD_nat, txV_getD L bs j hj]; rfl
section
variable {w : World} {t v mp mt : Nat} {L : PL} {T : ML} {n : Nat}
theorem TxAt.c0 (h : TxAt w t v mp mt L T n) : w.cell? ⟨t, 0, none⟩ = some (.pointer (some ⟨v, 0, none⟩)) := cell_obj h.obj 0
theorem TxAt.c1 (h : TxAt w t v mp mt L T n) : w.cell? ⟨t, 1, none⟩ = some (.map (some mp)) := cell_obj h.obj 1
theorem TxAt.c2 (h : TxAt w t v mp mt L T n) : w.cell? ⟨t, 2, none⟩ = some (.map (some mt)) := cell_obj h.obj 2
theorem TxAt.below {w' : World} (h : TxAt w t v mp mt L T n) (hb : Below w.heap.size w w') : TxAt w' t v mp mt L T n :=
 { h with obj := grow_obj hb h.obj, put := h.put.below hb, tk := h.tk.below hb }
theorem TxAt.keeps {w' : World} {S : Nat → Prop} (h : TxAt w t v mp mt L T n) (hk : Keeps S w w') (h1 : ¬ S t) (h2 : ¬ S mp) (h3 : ¬ S mt) : TxAt w' t v mp mt L T n :=
 { h with obj := hk.obj h.obj h1, put := h.put.keeps hk h2, tk := h.tk.keeps hk h3 }
theorem TxAt.inB {b : Blk} {bs : List Blk} (h : TxAt w t v mp mt L T bs.length) {a : Int} (ha : lkB L a = some b) : Go.Proofs.YtbbnejehglonjaaGreat.inB bs a = true := by
 have hm := lkB_mem ha
 have h1 := h.inP a hm
 have h2 := (h.put.range a (by rw [plM_keys]; exact hm)).1
 unfold Go.Proofs.YtbbnejehglonjaaGreat.inB
 simp [h1, h2]
variable {Sd : Nat → Prop} {d reg : Nat} {s : Sh} {epoch seq : Nat} {used : Int} {gb cap m : Nat} {bs : List Blk} {Dm : ML} {D : Dv} {c : Nat}
theorem txGet_any (h : TxAt w t v mp mt L T bs.length) (hv : VolP w Sd v d reg s epoch seq used gb cap m bs Dm D c) (a : Int) :
 Calls Tryz.prog 26 #[.pointer (some ⟨t, 0, none⟩), .int .i64 a] w fun e w' => e = .returned (.tuple #[.agg (getB (txV L bs) a).cells, .bool (inB bs a)]) ∧ Below w.heap.size w w' := by
 have hB0 : Below w.heap.size w (w.alloc (.cells Blk.zero.cells 37)) := grow_alloc (Below.refl _ _) _
 have hX : BlkAt (w.alloc (.cells Blk.zero.cells 37)) w.heap.size Blk.zero := BlkAt.alloc_new w _
 obtain ⟨G, hG⟩ : ∃ G, G = w.heap.size := ⟨_, rfl⟩
 obtain ⟨w1, hw1⟩ : ∃ w1, w1 = w.alloc (.cells Blk.zero.cells 37) := ⟨_, rfl⟩
 have hz : ∀ w', (zeroValue 37).run Tryz.prog w' = .ok (.agg Blk.zero.cells) w' := zero_blkV
 have ht1 := h.below hB0
 rw [← hw1] at hB0 hX ht1
 rw [← hG] at hX
 have hv1 := hv.below (hw1 ▸ grow_alloc (Below.refl _ _) _ : Below w.heap.size w w1)
 have hlk := run_lookupI (P := Tryz.prog) ht1.put Tryz.underlying132 Tryz.underlying3 (hz w1) a true
 rw [plM_lk] at hlk
 simp only [if_true, Option.isSome_map] at hlk
 have c1 := ht1.c1
 have HW := Lib.hid (And.intro hG hw1)
 have H1 := Lib.hid (And.intro hX (And.intro hB0 (And.intro ht1 hv1)))
 have hg := getB_txV L bs a
 have hib : ∀ b, lkB L a = some b → inB bs a = true := fun b hb => h.inB hb
 clear hB0 hX hG hw1 ht1 hv1 h hv hz
 cases hl : lkB L a with
 | some b =>
   rw [hl] at hlk hg
   rw [hib b hl, if_pos rfl, Option.getD_some] at hg
   have Hg := Lib.hid (And.intro hg (hib b hl))
   rw [Option.map_some, Option.getD_some, Option.isSome_some] at hlk
   clear hg hib hl
   go_enter Tryz.func26, Tryz.ntmps26
   go_upto_region 3 with fail
   rw [← HW.out.2, ← HW.out.1]
   go_upto_region 4 with fail
   have hB2 : Below w1.heap.size w1 (w1.alloc (.cells b.cells 37)) := grow_alloc (Below.refl _ _) _
   have hb2 := BlkAt.alloc_new w1 b
   have hz2 := H1.out.1.alloc (.cells b.cells 37)
   obtain ⟨w2, hw2⟩ : ∃ w2, w2 = w1.alloc (.cells b.cells 37) := ⟨_, rfl⟩
   obtain ⟨K, hK⟩ : ∃ K, K = w1.heap.size := ⟨_, rfl⟩
   rw [← hw2] at hB2 hb2 hz2 ⊢
   rw [← hK] at hb2 ⊢
   have k1 := hb2.has
   have k2 := hb2.row
   have k3 := hz2.has
   have H2 := Lib.hid (And.intro hz2 (H1.out.2.1.trans (hB2.mono H1.out.2.1.size)))
   clear hB2 hb2 hz2 hw2 hK
   go_wp2_with fail
   refine bodyPost_ret (results_two rfl (resOne_blk rfl (BlkAt.setRow H2.out.1 b).row) (resOne_tmp _ _ _)) rfl ?_
   exact ⟨by rw [Hg.out.1, Hg.out.2]; rfl, H2.out.2.setRow (by rw [HW.out.1]; exact Nat.le_refl _) _⟩
 | none =>
   rw [hl] at hlk hg
   rw [Option.getD_none] at hg
   have hg' : getB (txV L bs) a = getB bs a := by
    rw [hg]; unfold getB; cases inB bs a <;> rfl
   rw [Option.map_none, Option.getD_none, Option.isSome_none] at hlk
   have Hg := Lib.hid hg'
   have hB2 : Below w1.heap.size w1 (w1.alloc (.cells Blk.zero.cells 37)) := grow_alloc (Below.refl _ _) _
   have hz2 := H1.out.1.alloc (.cells Blk.zero.cells 37)
   have hv2 := H1.out.2.2.2.below hB2
   have c0 := (H1.out.2.2.1.below hB2).c0
   have hb2 := BlkAt.alloc_new w1 Blk.zero
   clear hg hg' hib hl
   go_enter Tryz.func26, Tryz.ntmps26
   go_upto_region 3 with fail
   rw [← HW.out.2, ← HW.out.1]
   go_upto_region 4 with fail
   obtain ⟨w2, hw2⟩ : ∃ w2, w2 = w1.alloc (.cells Blk.zero.cells 37) := ⟨_, rfl⟩
   obtain ⟨K, hK⟩ : ∃ K, K = w1.heap.size := ⟨_, rfl⟩
   rw [← hw2] at hB2 hz2 hv2 c0 hb2 ⊢
   rw [← hK] at hb2 ⊢
   have H2 := Lib.hid (And.intro hz2 (And.intro (H1.out.2.1.trans (hB2.mono H1.out.2.1.size)) hv2))
   clear hB2 hb2 hz2 hw2 hK hv2 hlk c1
   go_wp2_with (go_at_call 23; refine (H2.out.2.2.get a).mono ?_; rintro e w3 ⟨rfl, b3⟩; have hz3 := H2.out.1.below b3 (block_lt H2.out.1); have k3 := hz3.has)
   refine bodyPost_ret (results_two rfl (resOne_blk rfl (BlkAt.setRow hz3 _).row) (resOne_tmp _ _ _)) rfl ?_
   exact ⟨by rw [Hg.out]; rfl, (H2.out.2.1.trans (b3.mono H2.out.2.1.size)).setRow (by rw [HW.out.1]; exact Nat.le_refl _) _⟩
end
end
section
open Go.RowKit
attribute [local irreducible] Calls

theorem txNew_any (v n : Nat) (w : World) :
 Calls Tryz.prog 19 #[.pointer (some ⟨v, 0, none⟩)] w fun e w' => e = .returned (.pointer (some ⟨w.heap.size + 2, 0, none⟩)) ∧ TxAt w' (w.heap.size + 2) v w.heap.size (w.heap.size + 1) [] [] n ∧ Below w.heap.size w w' := by
 have hm1 : ∀ w, (Instr.makeMap 132 none).run Tryz.prog w = .ok (.map (some w.heap.size)) (w.alloc (.map #[] 0)) := fun w => run_makeMap _ w
 have hm2 : ∀ w, (Instr.makeMap 34 none).run Tryz.prog w = .ok (.map (some w.heap.size)) (w.alloc (.map #[] 0)) := fun w => run_makeMap _ w
 go_enter Tryz.func19, Tryz.ntmps19
 go_wp2_with fail
 go_ret
 have e1 : MapI (w.alloc (.map #[] 0)) w.heap.size [] := MapI.made w
 have e2 : MapI ((w.alloc (.map #[] 0)).alloc (.map #[] 0)) (w.heap.size + 1) [] := by
  have := MapI.made (w.alloc (.map #[] 0)); rwa [size_alloc] at this
 have b1 : Below w.heap.size w ((w.alloc (.map #[] 0)).alloc (.map #[] 0)) := grow_alloc (grow_alloc (Below.refl _ _) _) _
 have b2 : Below (w.alloc (.map #[] 0)).heap.size (w.alloc (.map #[] 0)) ((w.alloc (.map #[] 0)).alloc (.map #[] 0)) := grow_alloc (Below.refl _ _) _
 refine ⟨rfl, ⟨?_, ?_, ?_, by omega, fun p hp => by simp at hp, fun k hk => by simp at hk, fun k hk => by simp [keysL] at hk⟩, grow_alloc b1 _⟩
 · rw [objAt_alloc, if_pos (by simp)]
 · exact (e1.below b2).below (grow_alloc (Below.refl _ _) _)
 · exact e2.below (grow_alloc (Below.refl _ _) _)
theorem upB_keys {L : PL} {k : Int} {b : Blk} (x : Int) : x ∈ (upB L k b).map (·.1) ↔ x = k ∨ x ∈ L.map (·.1) := by
 rw [← plM_keys, ← plM_keys, ← plM_up]; exact keys_up _ x
theorem setRow_keeps' (w : World) (g : Nat) (c : Array Value) : Keeps (fun q => q = g) w (w.setRow g c) :=
 ⟨rfl, rfl, rfl, by simp [World.setRow], fun q hq hn => by simp only [World.setRow, Array.getElem?_modify]; rw [if_neg (fun e => hn e.symm)]⟩
section
variable {w : World} {t v mp mt : Nat} {L : PL} {T : ML} {n : Nat}
variable {Sd : Nat → Prop} {d reg : Nat} {s : Sh} {epoch seq : Nat} {used : Int} {gb cap m : Nat} {bs : List Blk} {Dm : ML} {D : Dv} {c : Nat}
def putL (L : PL) (bs : List Blk) (a : Int) (b : Blk) : PL := if inB bs a = true then upB L a b else L
theorem txPut_any (h : TxAt w t v mp mt L T bs.length) (hv : VolP w Sd v d reg s epoch seq used gb cap m bs Dm D c) (a : Int) (b : Blk) :
 Calls Tryz.prog 24 #[.pointer (some ⟨t, 0, none⟩), .int .i64 a, .agg b.cells] w fun e w' => e = .returned (.bool (inB bs a)) ∧ Keeps (fun q => q = mp) w w' ∧ TxAt w' t v mp mt (putL L bs a b) T bs.length := by
 have hlen : bs.length ≤ 200 := by rw [← hv.slen]; exact hv.sok.blocks
 have hB0 : Below w.heap.size w (w.alloc (.cells b.cells 37)) := grow_alloc (Below.refl _ _) _
 have hX : BlkAt (w.alloc (.cells b.cells 37)) w.heap.size b := BlkAt.alloc_new w _
 have ht1 := h.below hB0
 have hv1 := hv.below hB0
 obtain ⟨G, hG⟩ : ∃ G, G = w.heap.size := ⟨_, rfl⟩
 obtain ⟨w1, hw1⟩ : ∃ w1, w1 = w.alloc (.cells b.cells 37) := ⟨_, rfl⟩
 rw [← hw1] at hB0 hX ht1 hv1
 rw [← hG] at hX
 have c0 := ht1.c0
 have c1 := ht1.c1
 have HW := Lib.hid (And.intro hG hw1)
 have H1 := Lib.hid (And.intro hX (And.intro hB0 (And.intro ht1 hv1)))
 have hk1 : Keeps (fun q => q = mp) w w1 := Keeps.of_below hB0
 clear hB0 hX hG hw1 ht1 hv1 h hv
 unfold putL
 rcases inB_cases bs a with ⟨h1, h2⟩ | ⟨h0, h1, h2⟩ | ⟨j, rfl, hj, h2⟩
 · rw [h2]
   have Hr := Lib.hid (And.intro h2 hk1)
   clear h2 hk1
   go_enter Tryz.func24, Tryz.ntmps24
   go_upto_region 1 with fail
   rw [← HW.out.2, ← HW.out.1]
   go_wp2_with fail
   go_ret
   exact ⟨rfl, Hr.out.2, by simpa using H1.out.2.2.1⟩
 · rw [h2]
   have hn : (bs.length : Int) ≤ a := by omega
   have Hr := Lib.hid (And.intro h2 hk1)
   clear h2 hk1
   go_enter Tryz.func24, Tryz.ntmps24
   go_upto_region 1 with fail
   rw [← HW.out.2, ← HW.out.1]
   go_wp2_with (go_at_call 61; refine H1.out.2.2.2.blocks.mono ?_; rintro e w3 ⟨rfl, rfl⟩)
   go_ret
   exact ⟨rfl, Hr.out.2, by simpa using H1.out.2.2.1⟩
 · rw [h2]
   have i0 : (0 : Int) ≤ (j : Int) := Int.natCast_nonneg _
   have i1 : (j : Int) < (bs.length : Int) := by omega
   have Hr := Lib.hid (And.intro h2 hk1)
   clear h2 hk1
   go_enter Tryz.func24, Tryz.ntmps24
   go_upto_region 1 with fail
   rw [← HW.out.2, ← HW.out.1]
   go_upto_region 3 with (go_at_call 61; refine H1.out.2.2.2.blocks.mono ?_; rintro e w3 ⟨rfl, rfl⟩)
   have k2 := H1.out.1.has
   have k3 := H1.out.1.row
   have hPl : (plM L).length < 1000000 := by
    have := MapI.few H1.out.2.2.1.put (n := bs.length) (fun k hk => H1.out.2.2.1.inP k (by rwa [plM_keys] at hk))
    omega
   refine wp_region_F [6] (S := fun w' => w'.cell? ⟨t, 1, none⟩ = some (.map (some mp)) ∧ hasBlk w' G = true ∧ rowAt w' G = some b.cells) (by kernel_rfl) (And.intro c1 (And.intro k2 k3)) (fun hHeld => ?_)
   show wpAnyF _ _ _ _ _ _ 7 #[false, false, false, false, false, false, false] _ _
   refine gF 0 [0, 1, 2, 3, 6] ?_; try simp only [Act.put, qs]
   refine gF 1 [1, 2, 3, 6] ?_; try simp only [Act.put, qs]
   refine gF 2 [2, 3, 6] ?_; try simp only [Act.put, qs]
   refine gF 3 [3, 6] ?_; try simp only [Act.put, qs]
   refine gF 4 [4, 6] ?_; try simp only [Act.put, qs]
   refine gF 5 [5, 6] ?_; try simp only [Act.put, qs]
   refine gV 6 fun K hK => ?_
   refine step_wanted (h := rfl) (wp_updateI 132 3 37 _ _ _ rfl (H1.out.2.2.1.put.obj rfl) Tryz.underlying132 Tryz.underlying3 rfl rfl i0 (by omega) rfl hPl ?_); intro w4 hM4 hk4
   refine hK.out _ _ (trivial) (fun hN => ?_); replace hHeld := hN; clear hK K hN
   try simp only [Act.put, qs]
   refine wpAnyF_done (by kernel_rfl) ?_ _
   replace hM4 : MapI w4 mp (up (plM L) j (.agg b.cells)) := hM4
   rw [plM_up] at hM4
   have hk5 : Keeps (fun q => q = mp) w3 w4 := (Keeps.of_below (Below.refl _ _).drew).trans hk4
   have hne : t ≠ mp := H1.out.2.2.1.put.neCells H1.out.2.2.1.obj
   have hT : TxAt w4 t v mp mt (upB L j b) T bs.length :=
    { obj := hk5.obj H1.out.2.2.1.obj hne, put := hM4, tk := H1.out.2.2.1.tk.keeps hk5 (fun e => H1.out.2.2.1.ne e.symm), ne := H1.out.2.2.1.ne, allT := H1.out.2.2.1.allT,
      inP := fun k hk => by rcases (upB_keys k).1 hk with rfl | hk; exact i1; exact H1.out.2.2.1.inP k hk, inT := H1.out.2.2.1.inT }
   have HT := Lib.hid (And.intro (Hr.out.2.trans hk5) hT)
   clear hM4 hk4 hk5 hne hT hHeld
   go_wp2_with fail
   go_ret
   exact ⟨rfl, HT.out.1, HT.out.2⟩
end
end
section
open Go.RowKit

section
variable {α : Type} {w : World} {S : Nat → Prop} {e : TypeId} {k : Nat} {R : World → α → List Value → Prop} {al : List α}
end
def NmEl (_ : World) (n : Nm) (c : List Value) : Prop := c = n.cells.toList
abbrev NmRow (w : World) (S : Nat → Prop) (v : Value) (l : List Nm) : Prop := RowG w S 100 6 NmEl v l
structure NmCells (w : World) (g i : Nat) (n : Nm) : Prop where
 c0 : w.cell? ⟨g, i * 6, none⟩ = some (.int .i64 n.dir.label)
 c1 : w.cell? ⟨g, i * 6 + 1, none⟩ = some (.int .i64 n.dir.at_)
 c2 : w.cell? ⟨g, i * 6 + 2, none⟩ = some (.int .u32 n.dir.gen)
 c3 : w.cell? ⟨g, i * 6 + 3, none⟩ = some (.string n.name)
 c4 : w.cell? ⟨g, i * 6 + 4, none⟩ = some (.int .i64 n.at_)
 c5 : w.cell? ⟨g, i * 6 + 5, none⟩ = some (.int .u32 n.gen)
theorem NmRow.at_ {w : World} {S : Nat → Prop} {g n cap : Nat} {l : List Nm} (h : NmRow w S (.slice (some ⟨g, 0, none⟩) n cap) l) {i : Nat} {x : Nm} (hx : l[i]? = some x) : NmCells w g i x := by
 obtain ⟨c, _, hR, hc⟩ := h.cells hx
 unfold NmEl at hR
 subst hR
 exact ⟨hc 0 _ rfl, hc 1 _ rfl, hc 2 _ rfl, hc 3 _ rfl, hc 4 _ rfl, hc 5 _ rfl⟩
end
section
open Go.RowKit

def ents (B : List Blk) : List (Nm × Nat) := (List.range B.length).filterMap fun i => (takeEntry (B.getD i Blk.zero)).map fun n => (n, i)
def entsTo (B : List Blk) (k : Nat) : List (Nm × Nat) := (List.range k).filterMap fun i => (takeEntry (B.getD i Blk.zero)).map fun n => (n, i)
theorem entsTo_succ (B : List Blk) (k : Nat) : entsTo B (k + 1) = entsTo B k ++ ((takeEntry (B.getD k Blk.zero)).map fun n => (n, k)).toList := by
 unfold entsTo
 rw [List.range_succ, List.filterMap_append]
 congr 1
def isN (dir : Id) (name : ByteArray) (p : Nm × Nat) : Bool := decide (p.1.dir = dir) && decide (p.1.name = name)
def findE (B : List Blk) (dir : Id) (name : ByteArray) : Option (Nm × Nat) := (ents B).find? (isN dir name)
end
section
open Go.RowKit
attribute [local irreducible] Calls

theorem RowG.grow {α : Type} {w w' : World} {S : Nat → Prop} {e : TypeId} {k : Nat} {R : World → α → List Value → Prop} {v : Value} {al : List α} (h : RowG w S e k R v al) (hb : Below w.heap.size w w') (hR : ∀ a c, R w a c → R w' a c) : RowG w' S e k R v al :=
 h.keeps (Keeps.of_below_size hb) (fun g hg e => by have := h.lt hg; omega) (fun _ h => h) hR
theorem Nm.size_cells (n : Nm) : n.cells.size = 6 := rfl
theorem Nm.one_cells (n : Nm) : ∀ u ∈ n.cells.toList, u.oneCell' = true := by
 intro u hu
 unfold Nm.cells at hu
 simp only [List.mem_cons, List.not_mem_nil, or_false] at hu
 rcases hu with rfl | rfl | rfl | rfl | rfl | rfl <;> rfl
section
variable {w : World} {t v mp mt : Nat} {L : PL} {T : ML}
variable {Sd : Nat → Prop} {d reg : Nat} {s : Sh} {epoch seq : Nat} {used : Int} {gb cap m : Nat} {bs : List Blk} {Dm : ML} {D : Dv} {c : Nat}
end
end
section
open Go.RowKit
attribute [local irreducible] Calls
theorem Nd.setDirect_wf {n : Nd} (h : n.wf) (k : Nat) (x : Int) : (n.setDirect k x).wf := by
 unfold Nd.setDirect
 split <;> exact ⟨h.gen0, h.gen1, h.long⟩
theorem IRow.set {w : World} {B g n cap : Nat} {l : List Int} (h : IRow w B (.slice (some ⟨g, 0, none⟩) n cap) l) (j : Nat) (x : Int) : IRow (w.setCell ⟨g, j, none⟩ (.int .i64 x)) B (.slice (some ⟨g, 0, none⟩) n cap) (l.set j x) := by
 have hn : n = l.length := by
  rcases h.2 with ⟨h', _⟩ | ⟨g', cap', cur, h', _⟩
  · simp at h'
  · simp only [Value.slice.injEq] at h'; exact h'.2.1
 subst hn
 have := (World.ownsRow.stored h j (.int .i64 x)).1
 unfold IRow
 rw [List.length_set, List.map_set]; exact this
theorem IRow.free {w : World} {B g n cap : Nat} {l : List Int} (h : IRow w B (.slice (some ⟨g, 0, none⟩) n cap) l) (j : Nat) : w.frozen? ⟨g, j, none⟩ = false := by
 have hn : n = l.length := by
  rcases h.2 with ⟨h', _⟩ | ⟨g', cap', cur, h', _⟩
  · simp at h'
  · simp only [Value.slice.injEq] at h'; exact h'.2.1
 subst hn
 exact World.ownsRow.frozenAt h j
theorem IRow.form {w : World} {B : Nat} {v : Value} {l : List Int} (h : IRow w B v l) (hn : 0 < l.length) : ∃ g cap, v = .slice (some ⟨g, 0, none⟩) l.length cap ∧ B ≤ g ∧ g < w.heap.size := World.ownsRow.form h hn
theorem IRow.get {w : World} {B g n cap : Nat} {l : List Int} (h : IRow w B (.slice (some ⟨g, 0, none⟩) n cap) l) (j : Nat) (hj : j < l.length) : w.cell? ⟨g, j, none⟩ = some (.int .i64 (l.getD j 0)) := by
 have := World.ownsRow.cells h (g := g) rfl j (.int .i64 (l.getD j 0)) (by simp [hj])
 rw [add_off'] at this; simpa using this
theorem IRow.intsAt {w : World} {B g n cap : Nat} {l : List Int} (h : IRow w B (.slice (some ⟨g, 0, none⟩) n cap) l) : IntsAt w (some ⟨g, 0, none⟩) l :=
 ⟨g, 0, fun _ => rfl, fun i hi => by rw [Nat.zero_add]; exact h.get i hi⟩
theorem KRow.lt {w : World} {B g n cap : Nat} {bs : List Blk} (h : KRow w B (.slice (some ⟨g, 0, none⟩) n cap) bs) : g < w.heap.size := by
 obtain ⟨cur, hg, _⟩ := h.obj; exact block_lt hg
end
section
open Go.RowKit
attribute [local go_sem] hasBlk
theorem id_fields : ((Tryz.prog.fieldsOf 66).toList.map fun f => (f.name, f.type, f.offset)) = [("Label", 3, 0), ("At", 3, 1), ("Gen", 64, 2)] := by kernel_rfl
theorem id_part0 (i : Id) (w : World) : (part 3 i.cells 0).run Tryz.prog w = .ok (.int .i64 i.label) w := by
 simp [part, isAgg, run_underlying Tryz.underlying3, Id.cells]
theorem id_part1 (i : Id) (w : World) : (part 3 i.cells 1).run Tryz.prog w = .ok (.int .i64 i.at_) w := by
 simp [part, isAgg, run_underlying Tryz.underlying3, Id.cells]
theorem id_part2 (i : Id) (w : World) : (part 64 i.cells 2).run Tryz.prog w = .ok (.int .u32 i.gen) w := by
 simp [part, isAgg, run_underlying Tryz.underlying64, Id.cells]
theorem run_eq_id (w : World) (b c : Id) : (Op.equalIn 10000 66 (.agg b.cells) (.agg c.cells)).run Tryz.prog w = .ok (decide (b = c)) w := by
 have ht : Tryz.prog.underlying 66 = some (.struct (Tryz.prog.fieldsOf 66)) := by
  unfold Program.fieldsOf; rw [Tryz.underlying66]
 rw [run_equalIn_struct w 9999 _ _ _ ht (by kernel_rfl)]
 have hf := id_fields
 generalize (Tryz.prog.fieldsOf 66).toList = fs at hf
 obtain ⟨f, g, k, rfl⟩ : ∃ f g k, fs = [f, g, k] := by
  have hl : fs.length = 3 := by have := congrArg List.length hf; simpa using this
  match fs, hl with
  | [f, g, k], _ => exact ⟨f, g, k, rfl⟩
 simp only [List.map_cons, List.map_nil, List.cons.injEq, Prod.mk.injEq, and_true] at hf
 obtain ⟨⟨f1, f2, f3⟩, ⟨g1, g2, g3⟩, k1, k2, k3⟩ := hf
 simp only [Op.eqFields, f1, f2, f3, g1, g2, g3, k1, k2, k3, Sem.run_ite, Sem.run_bind, id_part0, id_part1, id_part2, Result.andThen_ok]
 rw [run_equalIn_int w 9998 3 .i64 .i64 _ _ Tryz.underlying3]
 simp only [Result.andThen_ok]
 rw [run_equalIn_int w 9998 3 .i64 .i64 _ _ Tryz.underlying3]
 simp only [Result.andThen_ok]
 rw [run_equalIn_int w 9998 64 .u32 .u32 _ _ Tryz.underlying64]
 obtain ⟨b1, b2, b3⟩ := b
 obtain ⟨c1, c2, c3⟩ := c
 dsimp only
 by_cases h1 : b1 = c1 <;> by_cases h2 : b2 = c2 <;> by_cases h3 : b3 = c3 <;> simp [h1, h2, h3]
def sameID (l a g l' a' g' : Int) : Bool := decide ((⟨l, a, g⟩ : Id) = ⟨l', a', g'⟩)
noncomputable def idCmp (op : BinOp) (x y : Operand) (u v : Value) (w : World) : Result Value := Sem.run Tryz.prog (do eqGuard op 66 x y u v; binOp op 66 u v) w
@[go_sem] theorem cmp_neq_id (x y : Operand) (l a g l' a' g' : Int) (w : World) : idCmp .neq x y (.agg #[.int .i64 l, .int .i64 a, .int .u32 g]) (.agg #[.int .i64 l', .int .i64 a', .int .u32 g']) w = .ok (.bool (!sameID l a g l' a' g')) w := by
 unfold idCmp
 rw [Sem.run_bind, run_eqGuard_agg w .neq _ x y _ _ (by kernel_rfl), Result.andThen_ok, run_neq_struct]
 rw [show (#[.int .i64 l, .int .i64 a, .int .u32 g] : Array Value) = (⟨l, a, g⟩ : Id).cells from rfl, show (#[.int .i64 l', .int .i64 a', .int .u32 g'] : Array Value) = (⟨l', a', g'⟩ : Id).cells from rfl, run_eq_id]
 rfl
@[go_sem] theorem cmp_eql_id (x y : Operand) (l a g l' a' g' : Int) (w : World) : idCmp .eql x y (.agg #[.int .i64 l, .int .i64 a, .int .u32 g]) (.agg #[.int .i64 l', .int .i64 a', .int .u32 g']) w = .ok (.bool (sameID l a g l' a' g')) w := by
 unfold idCmp
 rw [Sem.run_bind, run_eqGuard_agg w .eql _ x y _ _ (by kernel_rfl), Result.andThen_ok, run_eql_struct]
 rw [show (#[.int .i64 l, .int .i64 a, .int .u32 g] : Array Value) = (⟨l, a, g⟩ : Id).cells from rfl, show (#[.int .i64 l', .int .i64 a', .int .u32 g'] : Array Value) = (⟨l', a', g'⟩ : Id).cells from rfl, run_eq_id]
 rfl
@[go_sem ↓] theorem exec_cmp_id (ρ : Operand → Value) (w : World) (dst : Option Tmp) (op : BinOp) (x y : Operand) (z : TypeId) (ty : TypeId) (pos : String) (after : Array Edge) (gd : Option (Nat × Bool)) :
 (execOp ρ ⟨dst, .binOp op 66 x y z, ty, pos, after, gd⟩).run Tryz.prog w = (idCmp op x y (ρ x) (ρ y) w).andThen fun v w => .ok (.value v) w := by
 simp only [execOp, idCmp, Sem.run_bind]; rfl
attribute [irreducible] idCmp
end
section
open Go.RowKit
attribute [local irreducible] Calls
def entryAt (bs : List Blk) (i : Nat) : Option Nm := if (bs.getD i Blk.zero).kind = 6 then takeEntry (bs.getD i Blk.zero) else none
def hit (bs : List Blk) (dir : Id) (name : ByteArray) (i : Nat) : Bool := match entryAt bs i with | some n => decide (n.dir = dir) && decide (n.name = name) | none => false
def firstHit (p : Nat → Bool) (n : Nat) : Option Nat := (List.range n).find? p
def find (bs : List Blk) (dir : Id) (name : ByteArray) : Nm × Int :=
 match firstHit (hit bs dir name) bs.length with
 | some i => ((entryAt bs i).getD Nm.zero, (i : Int))
 | none => (Nm.zero, -1)
theorem firstHit_none {p : Nat → Bool} {n : Nat} (h1 : ∀ j, j < n → p j = false) : firstHit p n = none := by
 unfold firstHit
 rw [List.find?_eq_none]
 intro x hx
 rw [h1 x (List.mem_range.1 hx)]; decide
theorem hit_kind {bs : List Blk} {dir : Id} {name : ByteArray} {i : Nat} (h : (bs.getD i Blk.zero).kind ≠ 6) : hit bs dir name i = false := by
 unfold hit entryAt; rw [if_neg h]
theorem find_none {bs : List Blk} {dir : Id} {name : ByteArray} (h1 : ∀ j, j < bs.length → hit bs dir name j = false) : find bs dir name = (Nm.zero, -1) := by
 unfold find; rw [firstHit_none h1]
theorem upto_succ {p : Nat → Bool} {k : Nat} (h : ∀ j, j < k → p j = false) (h2 : p k = false) : ∀ j, j < k + 1 → p j = false := fun j hj => by
 rcases Nat.lt_succ_iff_lt_or_eq.1 hj with h' | rfl
 · exact h j h'
 · exact h2

end
section
open Go.RowKit
attribute [local irreducible] Calls

def setAll (l : List Bool) (xs : List Int) : List Bool := xs.foldl (fun l x => bitSet l x true) l
theorem setAll_app (l : List Bool) (xs ys : List Int) : setAll l (xs ++ ys) = setAll (setAll l xs) ys := by simp [setAll]
theorem setAll_take {l : List Bool} {xs : List Int} {k : Nat} {x : Int} (h : xs[k]? = some x) : setAll l (xs.take (k + 1)) = bitSet (setAll l (xs.take k)) x true := by
 obtain ⟨hk, rfl⟩ := List.getElem?_eq_some_iff.1 h
 rw [List.take_succ_eq_append_getElem hk, setAll_app]; rfl
def namesT (bs : List Blk) (f : Blk) : List Int :=
 if (takeNode f).2 = true then (takeNode f).1.places ++ (if (takeNode f).1.index = -1 then [] else (takeIndex (getB bs (takeNode f).1.index)).getD []) else []
section
variable {w : World} {t v mp mt : Nat} {L : PL} {T : ML} {n : Nat}
variable {Sd : Nat → Prop} {d reg : Nat} {s : Sh} {epoch seq : Nat} {used : Int} {gb cap m : Nat} {bs : List Blk} {Dm : ML} {D : Dv} {c : Nat}
theorem BitsAt.below {w w' : World} {b q : Nat} {l : List Bool} (h : BitsAt w b q l) (hb : Below w.heap.size w w') : BitsAt w' b q l :=
 h.keeps (Keeps.of_below_size hb) (by have := block_lt h.head; omega) (by have := block_lt h.row; omega)
theorem BitsAt.neObj {w : World} {b q : Nat} {l : List Bool} (h : BitsAt w b q l) {g : Nat} {c : Array Value} {ty : TypeId} (hg : objAt w g = some (.cells c ty (0, 0))) (hne : ty ≠ 4) : g ≠ q := fun e => ne_of_obj hg h.row hne e
theorem BitsAt.neMap {w : World} {b q : Nat} {l : List Bool} (h : BitsAt w b q l) {g : Nat} {M : ML} (hg : MapI w g M) : g ≠ q := fun e => by
 obtain ⟨es, ck, h1, _⟩ := hg.ex
 have h2 := h.row
 rw [e] at h1
 unfold objAt at h1
 rw [h2] at h1; cases h1
theorem TxAt.bits {w w' : World} {t v mp mt : Nat} {L : PL} {T : ML} {n B q : Nat} {l : List Bool} (h : TxAt w t v mp mt L T n) (hb : BitsAt w B q l) (hk : Keeps (· = q) w w') : TxAt w' t v mp mt L T n :=
 h.keeps hk (hb.neObj h.obj (by decide)) (hb.neMap h.put) (hb.neMap h.tk)
theorem VolP.neRow {w : World} {Sd : Nat → Prop} {v d reg : Nat} {s : Sh} {epoch seq : Nat} {used : Int} {gb cap m : Nat} {bs : List Blk} {Dm : ML} {D : Dv} {c : Nat} (h : VolP w Sd v d reg s epoch seq used gb cap m bs Dm D c) : ∃ cs, objAt w gb = some (.cells cs 37 (0, 0)) := by
 rcases h.row.2 with ⟨h', _⟩ | ⟨g', cap', cur, h', _, hg', _⟩
 · cases h'
 · cases h'; exact ⟨cur, hg'⟩
theorem VolP.bits {w w' : World} {Sd : Nat → Prop} {v d reg : Nat} {s : Sh} {epoch seq : Nat} {used : Int} {gb cap m : Nat} {bs : List Blk} {Dm : ML} {D : Dv} {c B q : Nat} {l : List Bool} (h : VolP w Sd v d reg s epoch seq used gb cap m bs Dm D c) (hb : BitsAt w B q l) (hq : ¬ Sd q) (hk : Keeps (· = q) w w') : VolP w' Sd v d reg s epoch seq used gb cap m bs Dm D c := by
 obtain ⟨cs, hcs⟩ := h.neRow
 exact h.keeps hk (fun g hg e => hq (e ▸ hg)) (hb.neObj h.o (by decide)) (hb.neMap h.map) (hb.neObj hcs (by decide))
theorem IRow.bits {w w' : World} {B0 B q : Nat} {u : Value} {xs : List Int} {l : List Bool} (h : IRow w B0 u xs) (hb : BitsAt w B q l) (hk : Keeps (· = q) w w') : IRow w' B0 u xs :=
 owns_keeps h hk (fun g hg e => by
  obtain ⟨_, c, hc⟩ := IRow.ownObj h hg
  exact hb.neObj hc (by decide) e)
theorem takeIndex_len (b : Blk) : ((takeIndex b).getD []).length ≤ 16 := by
 unfold takeIndex
 split
 · simp [indexOf]
 · simp
theorem places_direct (n : Nd) : n.places = n.direct ++ [n.index] := rfl
theorem txNames_any {B q : Nat} {l : List Bool} (h : TxAt w t v mp mt L T bs.length) (hv : VolP w Sd v d reg s epoch seq used gb cap m bs Dm D c) (hb : BitsAt w B q l) (hq : ¬ Sd q) (f : Blk) :
 Calls Tryz.prog 127 #[.pointer (some ⟨t, 0, none⟩), .agg f.cells, .pointer (some ⟨B, 0, none⟩)] w fun e w' => e = .returned (.tuple #[]) ∧ Keeps (· = q) w w' ∧ BitsAt w' B q (setAll l (namesT (txV L bs) f)) := by
 have hB1 : Below w.heap.size w (w.alloc (.cells f.cells 37)) := grow_alloc (Below.refl _ _) _
 have hX := BlkAt.alloc_new w f
 obtain ⟨G, hG⟩ : ∃ G, G = w.heap.size := ⟨_, rfl⟩
 obtain ⟨w1, hw1⟩ : ∃ w1, w1 = w.alloc (.cells f.cells 37) := ⟨_, rfl⟩
 have HN := Lib.hid (nTake_all f w1)
 have H := Lib.hid (And.intro h (And.intro hv hb))
 rw [← hw1] at hB1 hX
 rw [← hG] at hX
 have hbk := hX.has
 have hrk := hX.row
 have HG := Lib.hid (And.intro hG (And.intro hw1 hB1))
 clear hG hw1 hB1 hX h hv hb
 unfold namesT
 obtain ⟨⟨nd, ok⟩, hnd⟩ : ∃ p, takeNode f = p := ⟨_, rfl⟩
 rw [hnd] at HN ⊢
 dsimp only at HN ⊢
 cases ok with
 | false =>
   rw [if_neg (by simp)]
   go_enter Tryz.func127, Tryz.ntmps127
   go_upto_region 1 with fail
   rw [← HG.out.2.1, ← HG.out.1]
   go_wp2_with (go_at_call 143; refine HN.out.mono ?_; rintro e w2 ⟨rfl, b2⟩)
   refine bodyPost_ret (results_none rfl _ _ _) rfl ?_
   have hB : Below w.heap.size w (w2.alloc (.cells nd.cells 165)) := HG.out.2.2.trans ((grow_alloc b2 _).mono HG.out.2.2.size)
   exact ⟨rfl, Keeps.of_below hB, H.out.2.2.below hB⟩
 | true =>
   rw [if_pos rfl]
   go_enter Tryz.func127, Tryz.ntmps127
   go_upto_region 1 with fail
   rw [← HG.out.2.1, ← HG.out.1]
   go_upto_region 3 with (go_at_call 143; refine HN.out.mono ?_; rintro e w2 ⟨rfl, b2⟩)
   have hB3 : Below w.heap.size w (w2.alloc (.cells nd.cells 165)) := HG.out.2.2.trans ((grow_alloc b2 _).mono HG.out.2.2.size)
   have hN3 : objAt (w2.alloc (.cells nd.cells 165)) w2.heap.size = some (.cells nd.cells 165 (0, 0)) := by rw [objAt_alloc, if_pos rfl]
   obtain ⟨w3, hw3⟩ : ∃ w3, w3 = w2.alloc (.cells nd.cells 165) := ⟨_, rfl⟩
   obtain ⟨N, hNe⟩ : ∃ N, N = w2.heap.size := ⟨_, rfl⟩
   rw [← hw3] at hB3 hN3 ⊢
   rw [← hNe] at hN3 ⊢
   have c3 : w3.cell? ⟨N, 3, none⟩ = some (.int .i64 nd.d0) := Nd.c nd hN3 3
   have c4 : w3.cell? ⟨N, 4, none⟩ = some (.int .i64 nd.d1) := Nd.c nd hN3 4
   have c5 : w3.cell? ⟨N, 5, none⟩ = some (.int .i64 nd.d2) := Nd.c nd hN3 5
   have c6 : w3.cell? ⟨N, 6, none⟩ = some (.int .i64 nd.d3) := Nd.c nd hN3 6
   have hb3 := H.out.2.2.below hB3
   have hNq : N ≠ q := hb3.neObj hN3 (by decide)
   have H3 := Lib.hid (And.intro hB3 (And.intro hN3 (And.intro hb3 hNq)))
   clear hB3 hN3 hb3 hNq hw3 hNe hbk hrk
   go_wp2_with fail
   go_loopw [25] (fun i wr => ∃ k : Nat, k ≤ 4 ∧ i = .int .i64 k ∧ Keeps (· = q) w3 wr ∧ BitsAt wr B q (setAll l (nd.direct.take k))) (fun i _ => 4 - (Go.RowKit.intOf i).toNat)
   case atStart => exact ⟨0, by decide, rfl, Keeps.refl _ _, H3.out.2.2.1⟩
   case round =>
   obtain ⟨k, hk, rfl, hK, hB⟩ := hrel
   have HR := Lib.hid (And.intro hK hB)
   clear hK hB
   by_cases hlt : k < 4
   · obtain rfl | rfl | rfl | rfl : k = 0 ∨ k = 1 ∨ k = 2 ∨ k = 3 := by omega
     · have hix : ∀ w', (Instr.index 163 (.agg #[.int .i64 nd.d0, .int .i64 nd.d1, .int .i64 nd.d2, .int .i64 nd.d3]) (.int .i64 0)).run Tryz.prog w' = .ok (.int .i64 nd.d0) w' := fun w' => by kernel_rfl
       have Hs := Lib.hid (show setAll l (nd.direct.take 1) = bitSet (setAll l (nd.direct.take 0)) nd.d0 true from setAll_take rfl)
       go_wp2_with (go_at_call 126; refine (bSet_any nd.d0 _ HR.out.2).mono ?_; rintro e x1 ⟨rfl, hb1, k1⟩)
       go_roundw
       case rel => exact ⟨1, by omega, rfl, HR.out.1.trans k1, by rw [Hs.out]; exact hb1⟩
       case measure => decide
     · have hix : ∀ w', (Instr.index 163 (.agg #[.int .i64 nd.d0, .int .i64 nd.d1, .int .i64 nd.d2, .int .i64 nd.d3]) (.int .i64 1)).run Tryz.prog w' = .ok (.int .i64 nd.d1) w' := fun w' => by kernel_rfl
       have Hs := Lib.hid (show setAll l (nd.direct.take 2) = bitSet (setAll l (nd.direct.take 1)) nd.d1 true from setAll_take rfl)
       go_wp2_with (go_at_call 126; refine (bSet_any nd.d1 _ HR.out.2).mono ?_; rintro e x1 ⟨rfl, hb1, k1⟩)
       go_roundw
       case rel => exact ⟨2, by omega, rfl, HR.out.1.trans k1, by rw [Hs.out]; exact hb1⟩
       case measure => decide
     · have hix : ∀ w', (Instr.index 163 (.agg #[.int .i64 nd.d0, .int .i64 nd.d1, .int .i64 nd.d2, .int .i64 nd.d3]) (.int .i64 2)).run Tryz.prog w' = .ok (.int .i64 nd.d2) w' := fun w' => by kernel_rfl
       have Hs := Lib.hid (show setAll l (nd.direct.take 3) = bitSet (setAll l (nd.direct.take 2)) nd.d2 true from setAll_take rfl)
       go_wp2_with (go_at_call 126; refine (bSet_any nd.d2 _ HR.out.2).mono ?_; rintro e x1 ⟨rfl, hb1, k1⟩)
       go_roundw
       case rel => exact ⟨3, by omega, rfl, HR.out.1.trans k1, by rw [Hs.out]; exact hb1⟩
       case measure => decide
     · have hix : ∀ w', (Instr.index 163 (.agg #[.int .i64 nd.d0, .int .i64 nd.d1, .int .i64 nd.d2, .int .i64 nd.d3]) (.int .i64 3)).run Tryz.prog w' = .ok (.int .i64 nd.d3) w' := fun w' => by kernel_rfl
       have Hs := Lib.hid (show setAll l (nd.direct.take 4) = bitSet (setAll l (nd.direct.take 3)) nd.d3 true from setAll_take rfl)
       go_wp2_with (go_at_call 126; refine (bSet_any nd.d3 _ HR.out.2).mono ?_; rintro e x1 ⟨rfl, hb1, k1⟩)
       go_roundw
       case rel => exact ⟨4, by omega, rfl, HR.out.1.trans k1, by rw [Hs.out]; exact hb1⟩
       case measure => decide
   · obtain rfl : k = 4 := by omega
     have ho := HR.out.1.obj H3.out.2.1 H3.out.2.2.2
     have c7 : wr.cell? ⟨N, 7, none⟩ = some (.int .i64 nd.index) := Nd.c nd ho 7
     have hpl : setAll l nd.places = bitSet (setAll l (nd.direct.take 4)) nd.index true := by rw [places_direct, setAll_app]; rfl
     have HX := Lib.hid (And.intro ho hpl)
     clear ho hpl hlt hk
     by_cases hi : nd.index = -1
     · have hi' : (nd.index == -1) = true := by simpa using hi
       have Hi := Lib.hid hi
       clear hi
       go_wp2_with (go_at_call 126; refine (bSet_any nd.index _ HR.out.2).mono ?_; rintro e x1 ⟨rfl, hb1, k1⟩; replace c7 : x1.cell? ⟨N, 7, none⟩ = some (.int .i64 nd.index) := Nd.c nd (k1.obj HX.out.1 H3.out.2.2.2) 7)
       refine bodyPost_ret (results_none rfl _ _ _) rfl ?_
       refine ⟨rfl, ((Keeps.of_below H3.out.1).trans HR.out.1).trans k1, ?_⟩
       first
        | (rw [HX.out.2]; exact hb1)
        | (rw [if_pos Hi.out, List.append_nil, HX.out.2]; exact hb1)
     · have hi' : (nd.index == -1) = false := by simpa using hi
       have Hi := Lib.hid hi
       clear hi
       go_upto_region 10 with (go_at_call 126; refine (bSet_any nd.index _ HR.out.2).mono ?_; rintro e x1 ⟨rfl, hb1, k1⟩; replace c7 : x1.cell? ⟨N, 7, none⟩ = some (.int .i64 nd.index) := Nd.c nd (k1.obj HX.out.1 H3.out.2.2.2) 7)
       rw [← HX.out.2] at hb1
       have kx : Keeps (· = q) w3 x1 := HR.out.1.trans k1
       have hT1 := (H.out.1.below H3.out.1).bits H3.out.2.2.1 kx
       have hV1 := (H.out.2.1.below H3.out.1).bits H3.out.2.2.1 hq kx
       have HG1 := Lib.hid (txGet_any hT1 hV1 nd.index)
       have H4 := Lib.hid (And.intro hb1 kx)
       obtain ⟨gb', hgb⟩ : ∃ g, g = getB (txV L bs) nd.index := ⟨_, rfl⟩
       rw [← hgb] at HG1
       have HGB := Lib.hid hgb
       clear hb1 kx hT1 hV1 hgb k1
       go_upto_region 11 with (go_at_call 26; refine HG1.out.mono ?_; rintro e x2 ⟨rfl, b2'⟩)
       have hbk := (BlkAt.alloc_new x2 gb').has
       have hrk := (BlkAt.alloc_new x2 gb').row
       have hb3 := (H4.out.1.below b2').below (grow_alloc (Below.refl _ _) (.cells gb'.cells 37))
       have kk3 : Keeps (· = q) w (x2.alloc (.cells gb'.cells 37)) := ((Keeps.of_below H3.out.1).trans H4.out.2).trans (Keeps.of_below (grow_alloc b2' _))
       obtain ⟨x3, hx3⟩ : ∃ x3, x3 = x2.alloc (.cells gb'.cells 37) := ⟨_, rfl⟩
       obtain ⟨K, hKe⟩ : ∃ K, K = x2.heap.size := ⟨_, rfl⟩
       rw [← hx3] at hbk hrk hb3 kk3 ⊢
       rw [← hKe] at hbk hrk ⊢
       have H5 := Lib.hid (And.intro hb3 kk3)
       clear hb3 kk3 hx3 hKe
       go_upto_region 12 with (go_at_call 144; refine (xTake_any gb' _).mono ?_; rintro e x4 ⟨V, rfl, hr4, b4⟩)
       obtain ⟨li, hli⟩ : ∃ li, li = (takeIndex gb').getD [] := ⟨_, rfl⟩
       have hl16 : li.length ≤ 16 := by rw [hli]; exact takeIndex_len gb'
       rw [← hli] at hr4
       obtain ⟨ai, ci, rfl, _⟩ := IRow.fromB hr4
       have H6 := Lib.hid (And.intro (H5.out.1.below b4) (And.intro (H5.out.2.trans (Keeps.of_below b4)) (And.intro hr4 hli)))
       clear hr4 hli b4 hbk hrk
       go_wp2_with fail
       go_loopw [53] (fun i wr => ∃ k : Nat, k ≤ li.length ∧ i = .int .i64 k ∧ Keeps (· = q) x4 wr ∧ BitsAt wr B q (setAll (setAll l nd.places) (li.take k))) (fun i _ => li.length - (Go.RowKit.intOf i).toNat)
       case atStart => exact ⟨0, Nat.zero_le _, rfl, Keeps.refl _ _, H6.out.1⟩
       case round =>
       obtain ⟨k, hk, rfl, hK, hB⟩ := hrel
       have HR2 := Lib.hid (And.intro hK hB)
       by_cases hlt : k < li.length
       · obtain ⟨x, hx⟩ : ∃ x, li[k]? = some x := ⟨_, List.getElem?_eq_getElem hlt⟩
         have hrk := H6.out.2.2.1.bits H6.out.1 hK
         obtain ⟨ai', ci', he, b0, off, h1, h2⟩ := IRow.fromB hrk
         obtain ⟨rfl, _, rfl⟩ := (by simpa using he : ai = ai' ∧ True ∧ ci = ci')
         obtain ⟨rfl, _⟩ := h1 (by omega)
         have hcx := h2 k hlt
         rw [List.getD_eq_getElem?_getD, hx, Option.getD_some] at hcx
         have hlti : (k : Int) < (li.length : Int) := by omega
         have Hs := Lib.hid (setAll_take (l := setAll l nd.places) hx)
         clear hK hB hx hrk he h1 h2
         go_wp2_with (go_at_call 126; refine (bSet_any x _ HR2.out.2).mono ?_; rintro e x5 ⟨rfl, hb5, k5⟩)
         go_roundw
         case rel => exact ⟨k + 1, by omega, by go_num, HR2.out.1.trans k5, by rw [Hs.out]; exact hb5⟩
         case measure => simp [Go.RowKit.intOf]; omega
       · obtain rfl : k = li.length := by omega
         clear hK hB
         go_wp2_with fail
         go_end0
         refine ⟨rfl, H6.out.2.1.trans HR2.out.1, ?_⟩
         have hfin := HR2.out.2
         rw [List.take_of_length_le (Nat.le_refl _), ← setAll_app, H6.out.2.2.2, HGB.out] at hfin
         first
          | exact hfin
          | (rw [if_neg Hi.out]; exact hfin)
end
end
end Go.Proofs.YtbbnejehglonjaaGreat
