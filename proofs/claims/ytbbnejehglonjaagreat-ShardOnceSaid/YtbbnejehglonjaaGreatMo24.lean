/- DERIVED. Contracts and laws that the proofs of this seat share, part 24 of 36: TxA TxB EnC. -/
import Derived.Test.YtbbnejehglonjaaGreatMo00
import Derived.Test.YtbbnejehglonjaaGreatMo03
import Derived.Test.YtbbnejehglonjaaGreatMo11
import Derived.Test.YtbbnejehglonjaaGreatMo14
import Derived.Test.YtbbnejehglonjaaGreatMo15
import Derived.Test.YtbbnejehglonjaaGreatMo16
import Derived.Test.YtbbnejehglonjaaGreatMo23
/- DERIVED. A change as it lies; contracts of tx's New, Get, Put. -/
namespace Go.Proofs.YtbbnejehglonjaaGreat
open Go.RowKit
attribute [local irreducible] Calls
set_option maxRecDepth 100000

/-- What was put. -/
abbrev PL := List (Int × Blk)
def lkB (L : PL) (k : Int) : Option Blk := (L.find? (fun p => p.1 == k)).map (·.2)
def upB (L : PL) (k : Int) (b : Blk) : PL := match L.findIdx? (fun p => p.1 == k) with | some j => L.set j (k, b) | none => L ++ [(k, b)]
def plM (L : PL) : ML := L.map fun p => (p.1, .agg p.2.cells)
theorem plM_lk (L : PL) (k : Int) : lk (plM L) k = (lkB L k).map fun b => .agg b.cells := by
 induction L with
 | nil => rfl
 | cons p L ih =>
   unfold lk lkB plM at *
   simp only [List.map_cons, List.find?_cons]
   cases p.1 == k with
   | true => rfl
   | false => exact ih
theorem plM_idx (L : PL) (k : Int) : (plM L).findIdx? (fun p => p.1 == k) = L.findIdx? (fun p => p.1 == k) := by
 unfold plM
 rw [List.findIdx?_map]; rfl
theorem plM_up (L : PL) (k : Int) (b : Blk) : up (plM L) k (.agg b.cells) = plM (upB L k b) := by
 unfold up upB
 rw [plM_idx]
 cases L.findIdx? (fun p => p.1 == k) with
 | none => simp [plM]
 | some j => simp [plM, List.map_set]
theorem plM_keys (L : PL) : keysL (plM L) = L.map (·.1) := by simp [keysL, plM]
theorem plM_length (L : PL) : (plM L).length = L.length := by simp [plM]
/-- A store's blocks as a change has them. -/
def txV (L : PL) (bs : List Blk) : List Blk := (List.range bs.length).map fun i : Nat => (lkB L (i : Int)).getD (bs.getD i Blk.zero)
theorem txV_length (L : PL) (bs : List Blk) : (txV L bs).length = bs.length := by simp [txV]
/-- A change. -/
structure TxAt (w : World) (t v mp mt : Nat) (L : PL) (T : ML) (n : Nat) : Prop where
 obj : objAt w t = some (.cells #[.pointer (some ⟨v, 0, none⟩), .map (some mp), .map (some mt)] 134 (0, 0))
 put : MapI w mp (plM L)
 tk : MapI w mt T
 ne : mp ≠ mt
 allT : allTrue T
 inP : ∀ k ∈ L.map (·.1), k < (n : Int)
 inT : ∀ k ∈ keysL T, k < (n : Int)
theorem lkB_mem {L : PL} {k : Int} {b : Blk} (h : lkB L k = some b) : k ∈ L.map (·.1) := by
 unfold lkB at h
 rw [Option.map_eq_some_iff] at h
 obtain ⟨p, hp, rfl⟩ := h
 have h1 := List.find?_some hp
 exact List.mem_map.2 ⟨p, List.mem_of_find?_eq_some hp, by simpa using h1⟩
theorem inB_txV (L : PL) (bs : List Blk) (a : Int) : inB (txV L bs) a = inB bs a := by unfold inB; rw [txV_length]
theorem txV_getD (L : PL) (bs : List Blk) (j : Nat) (hj : j < bs.length) : (txV L bs).getD j Blk.zero = (lkB L (j : Int)).getD (bs.getD j Blk.zero) := by
 unfold txV
 rw [List.getD_eq_getElem?_getD, List.getElem?_map, List.getElem?_range hj]; rfl
theorem getB_txV (L : PL) (bs : List Blk) (a : Int) : getB (txV L bs) a = if inB bs a = true then (lkB L a).getD (getB bs a) else Blk.zero := by
 unfold getB
 rw [inB_txV]
 rcases inB_cases bs a with ⟨_, h2⟩ | ⟨_, _, h2⟩ | ⟨j, rfl, hj, h2⟩
 · rw [h2]; rfl
 · rw [h2]; rfl
 · rw [h2, if_pos rfl, if_pos rfl, blkD_nat, blkD_nat, txV_getD L bs j hj]; rfl
section
variable {w : World} {t v mp mt : Nat} {L : PL} {T : ML} {n : Nat}
theorem TxAt.c0 (h : TxAt w t v mp mt L T n) : w.cell? ⟨t, 0, none⟩ = some (.pointer (some ⟨v, 0, none⟩)) := cell_obj h.obj 0
theorem TxAt.c1 (h : TxAt w t v mp mt L T n) : w.cell? ⟨t, 1, none⟩ = some (.map (some mp)) := cell_obj h.obj 1
theorem TxAt.c2 (h : TxAt w t v mp mt L T n) : w.cell? ⟨t, 2, none⟩ = some (.map (some mt)) := cell_obj h.obj 2
theorem TxAt.below {w' : World} (h : TxAt w t v mp mt L T n) (hb : Below w.heap.size w w') : TxAt w' t v mp mt L T n :=
 { h with obj := grow_obj hb h.obj, put := h.put.below hb, tk := h.tk.below hb }
theorem TxAt.keeps {w' : World} {S : Nat → Prop} (h : TxAt w t v mp mt L T n) (hk : Keeps S w w') (h1 : ¬ S t) (h2 : ¬ S mp) (h3 : ¬ S mt) : TxAt w' t v mp mt L T n :=
 { h with obj := hk.obj h.obj h1, put := h.put.keeps hk h2, tk := h.tk.keeps hk h3 }
theorem TxAt.inB {b : Blk} {bs : List Blk} (h : TxAt w t v mp mt L T bs.length) {a : Int} (ha : lkB L a = some b) : Go.Proofs.YtbbnejehglonjaaGreat.inB bs a = true := by
 have hm := lkB_mem ha
 have h1 := h.inP a hm
 have h2 := (h.put.range a (by rw [plM_keys]; exact hm)).1
 unfold Go.Proofs.YtbbnejehglonjaaGreat.inB
 simp [h1, h2]
variable {Sd : Nat → Prop} {d reg : Nat} {s : Sh} {epoch seq : Nat} {used : Int} {gb cap m : Nat} {bs : List Blk} {Dm : ML} {D : Dv} {c : Nat}
set_option maxHeartbeats 1000000 in
theorem txGet_any (h : TxAt w t v mp mt L T bs.length) (hv : VolP w Sd v d reg s epoch seq used gb cap m bs Dm D c) (a : Int) :
 Calls Tryz.prog 26 #[.pointer (some ⟨t, 0, none⟩), .int .i64 a] w fun e w' => e = .returned (.tuple #[.agg (getB (txV L bs) a).cells, .bool (inB bs a)]) ∧ Below w.heap.size w w' := by
 have hB0 : Below w.heap.size w (w.alloc (.cells Blk.zero.cells 37)) := grow_alloc (Below.refl _ _) _
 have hX : BlkAt (w.alloc (.cells Blk.zero.cells 37)) w.heap.size Blk.zero := BlkAt.alloc_new w _
 obtain ⟨G, hG⟩ : ∃ G, G = w.heap.size := ⟨_, rfl⟩
 obtain ⟨w1, hw1⟩ : ∃ w1, w1 = w.alloc (.cells Blk.zero.cells 37) := ⟨_, rfl⟩
 have hz : ∀ w', (zeroValue 37).run Tryz.prog w' = .ok (.agg Blk.zero.cells) w' := zero_blkV
 have ht1 := h.below hB0
 rw [← hw1] at hB0 hX ht1
 rw [← hG] at hX
 have hv1 := hv.below (hw1 ▸ grow_alloc (Below.refl _ _) _ : Below w.heap.size w w1)
 have hlk := run_lookupI (P := Tryz.prog) ht1.put Tryz.underlying132 Tryz.underlying3 (hz w1) a true
 rw [plM_lk] at hlk
 simp only [if_true, Option.isSome_map] at hlk
 have c1 := ht1.c1
 have HW := Lib.hid (And.intro hG hw1)
 have H1 := Lib.hid (And.intro hX (And.intro hB0 (And.intro ht1 hv1)))
 have hg := getB_txV L bs a
 have hib : ∀ b, lkB L a = some b → inB bs a = true := fun b hb => h.inB hb
 clear hB0 hX hG hw1 ht1 hv1 h hv hz
 cases hl : lkB L a with
 | some b =>
   rw [hl] at hlk hg
   rw [hib b hl, if_pos rfl, Option.getD_some] at hg
   have Hg := Lib.hid (And.intro hg (hib b hl))
   rw [Option.map_some, Option.getD_some, Option.isSome_some] at hlk
   clear hg hib hl
   go_enter Tryz.func26, Tryz.ntmps26
   go_upto_region 3 with fail
   rw [← HW.out.2, ← HW.out.1]
   go_upto_region 4 with fail
   have hB2 : Below w1.heap.size w1 (w1.alloc (.cells b.cells 37)) := grow_alloc (Below.refl _ _) _
   have hb2 := BlkAt.alloc_new w1 b
   have hz2 := H1.out.1.alloc (.cells b.cells 37)
   obtain ⟨w2, hw2⟩ : ∃ w2, w2 = w1.alloc (.cells b.cells 37) := ⟨_, rfl⟩
   obtain ⟨K, hK⟩ : ∃ K, K = w1.heap.size := ⟨_, rfl⟩
   rw [← hw2] at hB2 hb2 hz2 ⊢
   rw [← hK] at hb2 ⊢
   have k1 := hb2.has
   have k2 := hb2.row
   have k3 := hz2.has
   have H2 := Lib.hid (And.intro hz2 (H1.out.2.1.trans (hB2.mono H1.out.2.1.size)))
   clear hB2 hb2 hz2 hw2 hK
   go_wp2_with fail
   refine bodyPost_ret (results_two rfl (resOne_blk rfl (BlkAt.setRow H2.out.1 b).row) (resOne_tmp _ _ _)) rfl ?_
   exact ⟨by rw [Hg.out.1, Hg.out.2]; rfl, H2.out.2.setRow (by rw [HW.out.1]; exact Nat.le_refl _) _⟩
 | none =>
   rw [hl] at hlk hg
   rw [Option.getD_none] at hg
   have hg' : getB (txV L bs) a = getB bs a := by
    rw [hg]; unfold getB; cases inB bs a <;> rfl
   rw [Option.map_none, Option.getD_none, Option.isSome_none] at hlk
   have Hg := Lib.hid hg'
   have hB2 : Below w1.heap.size w1 (w1.alloc (.cells Blk.zero.cells 37)) := grow_alloc (Below.refl _ _) _
   have hz2 := H1.out.1.alloc (.cells Blk.zero.cells 37)
   have hv2 := H1.out.2.2.2.below hB2
   have c0 := (H1.out.2.2.1.below hB2).c0
   have hb2 := BlkAt.alloc_new w1 Blk.zero
   clear hg hg' hib hl
   go_enter Tryz.func26, Tryz.ntmps26
   go_upto_region 3 with fail
   rw [← HW.out.2, ← HW.out.1]
   go_upto_region 4 with fail
   obtain ⟨w2, hw2⟩ : ∃ w2, w2 = w1.alloc (.cells Blk.zero.cells 37) := ⟨_, rfl⟩
   obtain ⟨K, hK⟩ : ∃ K, K = w1.heap.size := ⟨_, rfl⟩
   rw [← hw2] at hB2 hz2 hv2 c0 hb2 ⊢
   rw [← hK] at hb2 ⊢
   have H2 := Lib.hid (And.intro hz2 (And.intro (H1.out.2.1.trans (hB2.mono H1.out.2.1.size)) hv2))
   clear hB2 hb2 hz2 hw2 hK hv2 hlk c1
   go_wp2_with (go_at_call 23; refine (H2.out.2.2.get a).mono ?_; rintro e w3 ⟨rfl, b3⟩; have hz3 := H2.out.1.below b3 (block_lt H2.out.1); have k3 := hz3.has)
   refine bodyPost_ret (results_two rfl (resOne_blk rfl (BlkAt.setRow hz3 _).row) (resOne_tmp _ _ _)) rfl ?_
   exact ⟨by rw [Hg.out]; rfl, (H2.out.2.1.trans (b3.mono H2.out.2.1.size)).setRow (by rw [HW.out.1]; exact Nat.le_refl _) _⟩
end
end Go.Proofs.YtbbnejehglonjaaGreat

/- DERIVED. Contracts of tx's New, Put. -/
namespace Go.Proofs.YtbbnejehglonjaaGreat
open Go.RowKit
attribute [local irreducible] Calls
set_option maxRecDepth 100000

set_option maxHeartbeats 1000000 in
theorem txNew_any (v n : Nat) (w : World) :
 Calls Tryz.prog 19 #[.pointer (some ⟨v, 0, none⟩)] w fun e w' => e = .returned (.pointer (some ⟨w.heap.size + 2, 0, none⟩)) ∧ TxAt w' (w.heap.size + 2) v w.heap.size (w.heap.size + 1) [] [] n ∧ Below w.heap.size w w' := by
 have hm1 : ∀ w, (Instr.makeMap 132 none).run Tryz.prog w = .ok (.map (some w.heap.size)) (w.alloc (.map #[] 0)) := fun w => run_makeMap _ w
 have hm2 : ∀ w, (Instr.makeMap 34 none).run Tryz.prog w = .ok (.map (some w.heap.size)) (w.alloc (.map #[] 0)) := fun w => run_makeMap _ w
 go_enter Tryz.func19, Tryz.ntmps19
 go_wp2_with fail
 go_ret
 have e1 : MapI (w.alloc (.map #[] 0)) w.heap.size [] := MapI.made w
 have e2 : MapI ((w.alloc (.map #[] 0)).alloc (.map #[] 0)) (w.heap.size + 1) [] := by
  have := MapI.made (w.alloc (.map #[] 0)); rwa [size_alloc] at this
 have b1 : Below w.heap.size w ((w.alloc (.map #[] 0)).alloc (.map #[] 0)) := grow_alloc (grow_alloc (Below.refl _ _) _) _
 have b2 : Below (w.alloc (.map #[] 0)).heap.size (w.alloc (.map #[] 0)) ((w.alloc (.map #[] 0)).alloc (.map #[] 0)) := grow_alloc (Below.refl _ _) _
 refine ⟨rfl, ⟨?_, ?_, ?_, by omega, fun p hp => by simp at hp, fun k hk => by simp at hk, fun k hk => by simp [keysL] at hk⟩, grow_alloc b1 _⟩
 · rw [objAt_alloc, if_pos (by simp)]
 · exact (e1.below b2).below (grow_alloc (Below.refl _ _) _)
 · exact e2.below (grow_alloc (Below.refl _ _) _)
theorem upB_keys {L : PL} {k : Int} {b : Blk} (x : Int) : x ∈ (upB L k b).map (·.1) ↔ x = k ∨ x ∈ L.map (·.1) := by
 rw [← plM_keys, ← plM_keys, ← plM_up]; exact keys_up _ x
theorem setRow_keeps' (w : World) (g : Nat) (c : Array Value) : Keeps (fun q => q = g) w (w.setRow g c) :=
 ⟨rfl, rfl, rfl, by simp [World.setRow], fun q hq hn => by simp only [World.setRow, Array.getElem?_modify]; rw [if_neg (fun e => hn e.symm)]⟩
section
variable {w : World} {t v mp mt : Nat} {L : PL} {T : ML} {n : Nat}
variable {Sd : Nat → Prop} {d reg : Nat} {s : Sh} {epoch seq : Nat} {used : Int} {gb cap m : Nat} {bs : List Blk} {Dm : ML} {D : Dv} {c : Nat}
/-- The blocks that are put, when one more is. -/
def putL (L : PL) (bs : List Blk) (a : Int) (b : Blk) : PL := if inB bs a = true then upB L a b else L
set_option maxHeartbeats 2000000 in
theorem txPut_any (h : TxAt w t v mp mt L T bs.length) (hv : VolP w Sd v d reg s epoch seq used gb cap m bs Dm D c) (a : Int) (b : Blk) :
 Calls Tryz.prog 24 #[.pointer (some ⟨t, 0, none⟩), .int .i64 a, .agg b.cells] w fun e w' => e = .returned (.bool (inB bs a)) ∧ Keeps (fun q => q = mp) w w' ∧ TxAt w' t v mp mt (putL L bs a b) T bs.length := by
 have hlen : bs.length ≤ 200 := by rw [← hv.slen]; exact hv.sok.blocks
 have hB0 : Below w.heap.size w (w.alloc (.cells b.cells 37)) := grow_alloc (Below.refl _ _) _
 have hX : BlkAt (w.alloc (.cells b.cells 37)) w.heap.size b := BlkAt.alloc_new w _
 have ht1 := h.below hB0
 have hv1 := hv.below hB0
 obtain ⟨G, hG⟩ : ∃ G, G = w.heap.size := ⟨_, rfl⟩
 obtain ⟨w1, hw1⟩ : ∃ w1, w1 = w.alloc (.cells b.cells 37) := ⟨_, rfl⟩
 rw [← hw1] at hB0 hX ht1 hv1
 rw [← hG] at hX
 have c0 := ht1.c0
 have c1 := ht1.c1
 have HW := Lib.hid (And.intro hG hw1)
 have H1 := Lib.hid (And.intro hX (And.intro hB0 (And.intro ht1 hv1)))
 have hk1 : Keeps (fun q => q = mp) w w1 := Keeps.of_below hB0
 clear hB0 hX hG hw1 ht1 hv1 h hv
 unfold putL
 rcases inB_cases bs a with ⟨h1, h2⟩ | ⟨h0, h1, h2⟩ | ⟨j, rfl, hj, h2⟩
 · rw [h2]
   have Hr := Lib.hid (And.intro h2 hk1)
   clear h2 hk1
   go_enter Tryz.func24, Tryz.ntmps24
   go_upto_region 1 with fail
   rw [← HW.out.2, ← HW.out.1]
   go_wp2_with fail
   go_ret
   exact ⟨rfl, Hr.out.2, by simpa using H1.out.2.2.1⟩
 · rw [h2]
   have hn : (bs.length : Int) ≤ a := by omega
   have Hr := Lib.hid (And.intro h2 hk1)
   clear h2 hk1
   go_enter Tryz.func24, Tryz.ntmps24
   go_upto_region 1 with fail
   rw [← HW.out.2, ← HW.out.1]
   go_wp2_with (go_at_call 61; refine H1.out.2.2.2.blocks.mono ?_; rintro e w3 ⟨rfl, rfl⟩)
   go_ret
   exact ⟨rfl, Hr.out.2, by simpa using H1.out.2.2.1⟩
 · rw [h2]
   have i0 : (0 : Int) ≤ (j : Int) := Int.natCast_nonneg _
   have i1 : (j : Int) < (bs.length : Int) := by omega
   have Hr := Lib.hid (And.intro h2 hk1)
   clear h2 hk1
   go_enter Tryz.func24, Tryz.ntmps24
   go_upto_region 1 with fail
   rw [← HW.out.2, ← HW.out.1]
   go_upto_region 3 with (go_at_call 61; refine H1.out.2.2.2.blocks.mono ?_; rintro e w3 ⟨rfl, rfl⟩)
   have k2 := H1.out.1.has
   have k3 := H1.out.1.row
   have hPl : (plM L).length < 1000000 := by
    have := MapI.few H1.out.2.2.1.put (n := bs.length) (fun k hk => H1.out.2.2.1.inP k (by rwa [plM_keys] at hk))
    omega
   refine wp_region_F [6] (S := fun w' => w'.cell? ⟨t, 1, none⟩ = some (.map (some mp)) ∧ hasBlk w' G = true ∧ rowAt w' G = some b.cells) (by kernel_rfl) (And.intro c1 (And.intro k2 k3)) (fun hHeld => ?_)
   show wpAnyF _ _ _ _ _ _ 7 #[false, false, false, false, false, false, false] _ _
   refine gF [0, 1, 2, 3, 6] (i := 0) (v := ?kv1) rfl ?ky1 ?kr1
   case ky1 => (intro w hSw; (try dsimp only at hSw); go_split_ands; (try simp only [qA, qB]); go_simp; (try with_reducible rfl))
   try simp only [Act.put, qA, qB, qD, qE, qF]
   refine gF [1, 2, 3, 6] (i := 1) (v := ?kv2) rfl ?ky2 ?kr2
   case ky2 => (intro w hSw; (try dsimp only at hSw); go_split_ands; (try simp only [qA, qB, qC]); go_simp; (try with_reducible rfl))
   try simp only [Act.put, qA, qB, qC, qD, qE, qF]
   refine gF [2, 3, 6] (i := 2) (v := ?kv3) rfl ?ky3 ?kr3
   case ky3 => (intro w hSw; (try dsimp only at hSw); go_split_ands; (try simp only [qA, qB, qC]); go_simp; (try with_reducible rfl))
   try simp only [Act.put, qA, qB, qC, qD, qE, qF]
   refine gF [3, 6] (i := 3) (v := ?kv4) rfl ?ky4 ?kr4
   case ky4 => (intro w hSw; (try dsimp only at hSw); go_split_ands; (try simp only [qA, qB, qC]); go_simp; (try with_reducible rfl))
   try simp only [Act.put, qA, qB, qC, qD, qE, qF]
   refine gF [4, 6] (i := 4) (v := ?kv5) rfl ?ky5 ?kr5
   case ky5 => (intro w hSw; (try dsimp only at hSw); go_split_ands; (try simp only [qA, qB, qC]); go_simp; (try with_reducible rfl))
   try simp only [Act.put, qA, qB, qC, qD, qE, qF]
   refine gF [5, 6] (i := 5) (v := ?kv6) rfl ?ky6 ?kr6
   case ky6 => (intro w hSw; (try dsimp only at hSw); go_split_ands; (try simp only [qA, qB, qC]); go_simp; (try with_reducible rfl))
   try simp only [Act.put, qA, qB, qC, qD, qE, qF]
   refine wpAnyF_ready (rs := [6]) (by kernel_rfl) (by simp) ?_
   refine (AllReadyF.last rfl (by kernel_rfl) (fun K hK => ?_) AllReadyF.nil)
   refine step_wanted (h := rfl) (wp_updateI 132 3 37 _ _ _ rfl (H1.out.2.2.1.put.obj rfl) Tryz.underlying132 Tryz.underlying3 rfl rfl i0 (by omega) rfl hPl ?_); intro w4 hM4 hk4
   refine hK.out _ _ (trivial) (fun hHeldn => ?_)
   clear hHeld hK K
   have hHeld := hHeldn
   clear hHeldn
   try simp only [Act.put, qA, qB, qC, qD, qE, qF]
   refine wpAnyF_done (by kernel_rfl) ?_ _
   replace hM4 : MapI w4 mp (up (plM L) j (.agg b.cells)) := hM4
   rw [plM_up] at hM4
   have hk5 : Keeps (fun q => q = mp) w3 w4 := (Keeps.of_below (Below.refl _ _).drew).trans hk4
   have hne : t ≠ mp := H1.out.2.2.1.put.neCells H1.out.2.2.1.obj
   have hT : TxAt w4 t v mp mt (upB L j b) T bs.length :=
    { obj := hk5.obj H1.out.2.2.1.obj hne, put := hM4, tk := H1.out.2.2.1.tk.keeps hk5 (fun e => H1.out.2.2.1.ne e.symm), ne := H1.out.2.2.1.ne, allT := H1.out.2.2.1.allT,
      inP := fun k hk => by rcases (upB_keys k).1 hk with rfl | hk; exact i1; exact H1.out.2.2.1.inP k hk, inT := H1.out.2.2.1.inT }
   have HT := Lib.hid (And.intro (Hr.out.2.trans hk5) hT)
   clear hM4 hk4 hk5 hne hT hHeld
   go_wp2_with fail
   go_ret
   exact ⟨rfl, HT.out.1, HT.out.2⟩
end
end Go.Proofs.YtbbnejehglonjaaGreat

/- DERIVED. Contract of entry.Take. -/
namespace Go.Proofs.YtbbnejehglonjaaGreat
open Go.RowKit
attribute [local irreducible] Calls
set_option maxRecDepth 100000

theorem frame78 (A : Array Value) (h : A.size = 78) : A = #[A.getD 0 undef, A.getD 1 undef, A.getD 2 undef, A.getD 3 undef, A.getD 4 undef, A.getD 5 undef, A.getD 6 undef, A.getD 7 undef, A.getD 8 undef, A.getD 9 undef, A.getD 10 undef, A.getD 11 undef, A.getD 12 undef, A.getD 13 undef, A.getD 14 undef, A.getD 15 undef, A.getD 16 undef, A.getD 17 undef, A.getD 18 undef, A.getD 19 undef, A.getD 20 undef, A.getD 21 undef, A.getD 22 undef, A.getD 23 undef, A.getD 24 undef, A.getD 25 undef, A.getD 26 undef, A.getD 27 undef, A.getD 28 undef, A.getD 29 undef, A.getD 30 undef, A.getD 31 undef, A.getD 32 undef, A.getD 33 undef, A.getD 34 undef, A.getD 35 undef, A.getD 36 undef, A.getD 37 undef, A.getD 38 undef, A.getD 39 undef, A.getD 40 undef, A.getD 41 undef, A.getD 42 undef, A.getD 43 undef, A.getD 44 undef, A.getD 45 undef, A.getD 46 undef, A.getD 47 undef, A.getD 48 undef, A.getD 49 undef, A.getD 50 undef, A.getD 51 undef, A.getD 52 undef, A.getD 53 undef, A.getD 54 undef, A.getD 55 undef, A.getD 56 undef, A.getD 57 undef, A.getD 58 undef, A.getD 59 undef, A.getD 60 undef, A.getD 61 undef, A.getD 62 undef, A.getD 63 undef, A.getD 64 undef, A.getD 65 undef, A.getD 66 undef, A.getD 67 undef, A.getD 68 undef, A.getD 69 undef, A.getD 70 undef, A.getD 71 undef, A.getD 72 undef, A.getD 73 undef, A.getD 74 undef, A.getD 75 undef, A.getD 76 undef, A.getD 77 undef] := frame_list A 78 h
def EnJ (w : World) (G : Nat) (b : Blk) (l : Nat) (a' : Act) (w' : World) : Prop :=
 l = 0 ∧ takeEntry b = none ∧ Below w.heap.size w w' ∧ objAt w' (G + 1) = some (.cells Nm.zero.cells 100 (0, 0)) ∧ ∃ A : Array Value, A.size = 78 ∧ (A.getD 2 undef = .pointer (some ⟨G + 1, 0, none⟩) ∧ True) ∧ a' = { tmps := A, defers := [] }
theorem takeEntry_eq {b : Blk} {i : Id} (h : takeID b = some i) : takeEntry b = if putEntry (nameOf b i) = (b, true) then some (nameOf b i) else none := by
 by_cases hl : 14 < b.nlen
 · rw [takeEntry_long h hl, if_neg]
   intro e
   unfold putEntry at e
   split at e
   · rename_i hm
     have := (mayEntry_small hm).2.2.1
     have h2 : (nameOf b i).name.size = ((b.body.drop 14).take b.nlen).length := by
      show ((b.body.drop 14).take b.nlen).toArray.size = _
      simp
     rw [h2, List.length_take, List.length_drop, b.len] at this
     omega
   · cases e
 · exact takeEntry_get h hl
theorem setCell_keeps' (w : World) (g i : Nat) (v : Value) : Keeps (fun q => q = g) w (w.setCell ⟨g, i, none⟩ v) :=
 ⟨rfl, rfl, rfl, by simp [World.setCell], fun q hq hn => by simp only [World.setCell, Array.getElem?_modify]; rw [if_neg (fun e => hn e.symm)]⟩
theorem idOf_fl (b : Blk) : (idOf b).fl := by
 have h := b.sub_lt 1 2
 have hc := (b.body.getD 0 0).toNat_lt
 refine ⟨?_, ?_, ?_, ?_⟩
 · unfold idOf; dsimp only; split <;> omega
 · unfold idOf; dsimp only; split <;> omega
 · unfold idOf; dsimp only; omega
 · unfold idOf; dsimp only; omega
set_option maxHeartbeats 8000000 in
theorem entryTake_any (b : Blk) (w : World) :
 Calls Tryz.prog 156 #[.agg b.cells] w fun e w' => e = .returned (.tuple #[.agg ((takeEntry b).getD Nm.zero).cells, .bool (takeEntry b).isSome]) ∧ Below w.heap.size w w' := by
 obtain ⟨G, hG⟩ : ∃ G, G = w.heap.size := ⟨_, rfl⟩
 go_enter Tryz.func156, Tryz.ntmps156
 go_wp2_with fail
 refine wp_scope_labels (EnJ w G b) (fun _ _ _ => 0) ?_ ?_ ?_
 · rintro l a' w' ⟨rfl, _⟩; exact ⟨_, rfl⟩
 · rintro l rest a' w' ⟨rfl, htk, hb, ho, ⟨A, hA, ⟨hA2, _⟩, rfl⟩⟩ hrest
   obtain rfl := (Code.seq.inj (Option.some.inj hrest)).2
   rw [frame78 A hA, hA2]
   clear hrest
   have hh := hasNm_obj ho rfl
   have HT := Lib.hid (And.intro hb ho)
   have Ht := Lib.hid htk
   have HG := Lib.hid hG
   clear hb ho htk hG
   go_wp2_with fail
   try rw [jumps_ret]
   refine bodyPost_ret (results_two rfl (resOne_agg aggNm rfl (rowAt_heap (objAt_setRow HT.out.2 _)) rfl) (resOne_tmp _ _ _)) rfl ?_
   exact ⟨by rw [Ht.out]; rfl, HT.out.1.setRow (by rw [← HG.out]; exact Nat.le_succ _) _⟩
 · intro hfall
   have HF := Lib.hid hfall
   clear hfall
   go_upto_region 3 with fail
   obtain ⟨w0, hw0⟩ : ∃ w0, w0 = (((w.alloc (.cells b.cells 37)).alloc (.cells #[.int .i64 0, .int .i64 0, .int .u32 0, .string ⟨#[]⟩, .int .i64 0, .int .u32 0] 100)).alloc (.cells #[.int .i64 0, .int .i64 0, .int .u32 0, .string ⟨#[]⟩, .int .i64 0, .int .u32 0] 100)).alloc (.cells Blk.zero.cells 37) := ⟨_, rfl⟩
   have hB0 : Below w.heap.size w w0 := by rw [hw0]; exact grow_alloc (grow_alloc (grow_alloc (grow_alloc (Below.refl _ _) _) _) _) _
   have x0 : BlkAt w0 G b := by rw [hw0, hG]; exact (((BlkAt.alloc_new w b).alloc _).alloc _).alloc _
   have x1 : objAt w0 (G + 1) = some (.cells Nm.zero.cells 100 (0, 0)) := by rw [hw0, hG, objAt_alloc, if_neg (by simp only [size_alloc]; omega), objAt_alloc, if_neg (by simp only [size_alloc]; omega), objAt_alloc, if_pos (by simp only [size_alloc])]; rfl
   have x2 : objAt w0 (G + 2) = some (.cells Nm.zero.cells 100 (0, 0)) := by rw [hw0, hG, objAt_alloc, if_neg (by simp only [size_alloc]; omega), objAt_alloc, if_pos (by simp only [size_alloc])]; rfl
   have x3 : BlkAt w0 (G + 3) Blk.zero := by
    have := BlkAt.alloc_new (((w.alloc (.cells b.cells 37)).alloc (.cells #[.int .i64 0, .int .i64 0, .int .u32 0, .string ⟨#[]⟩, .int .i64 0, .int .u32 0] 100)).alloc (.cells #[.int .i64 0, .int .i64 0, .int .u32 0, .string ⟨#[]⟩, .int .i64 0, .int .u32 0] 100)) Blk.zero
    simp only [size_alloc] at this
    rw [hw0, hG]; exact this
   rw [← hw0, ← hG]
   have HG := Lib.hid (And.intro hG (And.intro hB0 (And.intro x0 (And.intro x1 (And.intro x2 x3)))))
   clear hw0 hG hB0 x1 x2 x3
   go_upto_region 4 with fail
   have HT := Lib.hid (inoTake_any w0 G b x0)
   clear x0
   cases hi : takeID b with
   | none =>
     rw [hi] at HT
     rw [show (Option.getD none Id.zero).cells = #[.int .i64 0, .int .i64 0, .int .u32 0] from rfl] at HT
     have Ht := Lib.hid (takeEntry_none hi)
     clear hi
     go_wp2_with (go_at_call 194; refine HT.out.mono ?_; rintro e w1 ⟨rfl, b1⟩)
     go_step3
     have hb1 := grow_alloc b1 (.cells #[.int .i64 0, .int .i64 0, .int .u32 0] 66)
     exact ⟨rfl, Ht.out, grow_trans HG.out.2.1 hb1, grow_obj hb1 HG.out.2.2.2.1, ⟨_, rfl, ⟨rfl, trivial⟩, rfl⟩⟩
   | some i =>
     have hii := takeID_some hi
     have hwf := nameOf_wf b
     have hfl := idOf_fl b
     rw [← hii] at hwf hfl
     rw [hi] at HT
     have Ht := Lib.hid (takeEntry_eq hi)
     have HP := Lib.hid (fun w1 => entryPut_any (nameOf b i) hwf hfl w1)
     obtain ⟨l, a, g⟩ := i
     rw [show (Option.getD (some (⟨l, a, g⟩ : Id)) Id.zero).cells = #[.int .i64 l, .int .i64 a, .int .u32 g] from rfl] at HT
     obtain ⟨NM, hnm⟩ : ∃ NM, NM = nameOf b ⟨l, a, g⟩ := ⟨_, rfl⟩
     rw [← hnm] at Ht HP
     have Hnm := Lib.hid (show NM.cells = #[.int .i64 l, .int .i64 a, .int .u32 g, .string ⟨((b.body.drop 14).take b.nlen).toArray⟩, .int .i64 (b.sub 7 2 : Nat), .int .u32 (b.sub 9 4 : Nat)] by rw [hnm]; rfl)
     clear hnm hi hii hwf hfl
     go_upto_region 6 with (go_at_call 194; refine HT.out.mono ?_; rintro e w1 ⟨rfl, b1⟩)
     have hQ : Below w0.heap.size w0 (w1.alloc (.cells #[.int .i64 l, .int .i64 a, .int .u32 g] 66)) := grow_alloc b1 _
     have hJ : objAt (w1.alloc (.cells #[.int .i64 l, .int .i64 a, .int .u32 g] 66)) w1.heap.size = some (.cells #[.int .i64 l, .int .i64 a, .int .u32 g] 66 (0, 0)) := by rw [objAt_alloc, if_pos rfl]
     obtain ⟨w2, hw2⟩ : ∃ w2, w2 = w1.alloc (.cells #[.int .i64 l, .int .i64 a, .int .u32 g] 66) := ⟨_, rfl⟩
     obtain ⟨J, hJe⟩ : ∃ J, J = w1.heap.size := ⟨_, rfl⟩
     rw [← hw2] at hQ hJ
     rw [← hJe] at hJ
     rw [← hw2, ← hJe]
     have hJ0 : w0.heap.size ≤ J := by rw [hJe]; exact b1.size
     clear hw2 hJe b1
     have y0 := BlkAt.below HG.out.2.2.1 hQ (block_lt HG.out.2.2.1)
     have y1 := grow_obj hQ HG.out.2.2.2.1
     have y2 := grow_obj hQ HG.out.2.2.2.2.1
     have y3 := BlkAt.below HG.out.2.2.2.2.2 hQ (block_lt HG.out.2.2.2.2.2)
     have q1 := sub_two b 7 (by decide)
     have q2 := sub_four b 9 (by decide)
     have hcs : ∀ j, j < 56 → w2.cell? ⟨G, 1 + j, none⟩ = some (.int .u8 ((b.body.getD j 0).toNat : Int)) := fun j hj => by
      rw [List.getD_eq_getElem?_getD, List.getElem?_eq_getElem (by rw [b.len]; exact hj)]
      exact y0.cell j hj
     have k7 := hcs 7 (by decide)
     have k8 := hcs 8 (by decide)
     have k9 := hcs 9 (by decide)
     have k10 := hcs 10 (by decide)
     have k11 := hcs 11 (by decide)
     have k12 := hcs 12 (by decide)
     have k13 := hcs 13 (by decide)
     simp only [Nat.reduceAdd] at k7 k8 k9 k10 k11 k12 k13 q1 q2
     obtain ⟨c7, hc7⟩ : ∃ c, c = b.body.getD 7 0 := ⟨_, rfl⟩
     rw [← hc7] at k7
     obtain ⟨c8, hc8⟩ : ∃ c, c = b.body.getD 8 0 := ⟨_, rfl⟩
     rw [← hc8] at k8
     obtain ⟨c9, hc9⟩ : ∃ c, c = b.body.getD 9 0 := ⟨_, rfl⟩
     rw [← hc9] at k9
     obtain ⟨c10, hc10⟩ : ∃ c, c = b.body.getD 10 0 := ⟨_, rfl⟩
     rw [← hc10] at k10
     obtain ⟨c11, hc11⟩ : ∃ c, c = b.body.getD 11 0 := ⟨_, rfl⟩
     rw [← hc11] at k11
     obtain ⟨c12, hc12⟩ : ∃ c, c = b.body.getD 12 0 := ⟨_, rfl⟩
     rw [← hc12] at k12
     rw [← hc7, ← hc8] at q1
     rw [← hc9, ← hc10, ← hc11, ← hc12] at q2
     have o1 := or_i64 c7 c8
     have o2 := or_four c9 c10 c11 c12
     rw [← q1] at o1
     rw [← q2] at o2
     have hlt1 := b.sub_lt 7 2
     have hlt2 := b.sub_lt 9 4
     have k13' : w2.cell? ⟨G, 14, none⟩ = some (.int .u8 (b.nlen : Int)) := k13
     have j0 : w2.cell? ⟨J, 0, none⟩ = some (.int .i64 l) := cell_obj hJ 0
     have j1 : w2.cell? ⟨J, 1, none⟩ = some (.int .i64 a) := cell_obj hJ 1
     have j2 : w2.cell? ⟨J, 2, none⟩ = some (.int .u32 g) := cell_obj hJ 2
     have hn2 := hasNm_obj y2 rfl
     have H2 := Lib.hid (And.intro hQ (And.intro y0 (And.intro y1 (And.intro y2 (And.intro y3 (And.intro k13' (And.intro hJ hJ0)))))))
     clear hQ y0 y1 y2 y3 q1 q2 hcs hc7 hc8 hc9 hc10 hc11 hc12 hJ k13 k13' hJ0
     have zc7 : IntKind.i64.wrap (c7.toNat : Int) = c7.toNat := IntWalk.i64_in _ (by have := c7.toNat_lt; omega)
     have zc8 : IntKind.i64.wrap (c8.toNat : Int) = c8.toNat := IntWalk.i64_in _ (by have := c8.toNat_lt; omega)
     have zc9 : IntKind.u32.wrap (c9.toNat : Int) = c9.toNat := IntWalk.u32_in _ (by have := c9.toNat_lt; omega)
     have zc10 : IntKind.u32.wrap (c10.toNat : Int) = c10.toNat := IntWalk.u32_in _ (by have := c10.toNat_lt; omega)
     have zc11 : IntKind.u32.wrap (c11.toNat : Int) = c11.toNat := IntWalk.u32_in _ (by have := c11.toNat_lt; omega)
     have zc12 : IntKind.u32.wrap (c12.toNat : Int) = c12.toNat := IntWalk.u32_in _ (by have := c12.toNat_lt; omega)
     have yc7 : IntKind.i64.wrap ((c7.toNat : Int) * 256) = (c7.toNat : Int) * 256 := IntWalk.i64_in _ (by have := c7.toNat_lt; omega)
     have yc9 : IntKind.u32.wrap ((c9.toNat : Int) * 16777216) = (c9.toNat : Int) * 16777216 := IntWalk.u32_in _ (by have := c9.toNat_lt; omega)
     have yc10 : IntKind.u32.wrap ((c10.toNat : Int) * 65536) = (c10.toNat : Int) * 65536 := IntWalk.u32_in _ (by have := c10.toNat_lt; omega)
     have yc11 : IntKind.u32.wrap ((c11.toNat : Int) * 256) = (c11.toNat : Int) * 256 := IntWalk.u32_in _ (by have := c11.toNat_lt; omega)
     refine wp_region_F [34] (S := fun w' => w'.cell? ⟨J, 0, none⟩ = some (.int .i64 l) ∧ w'.cell? ⟨J, 1, none⟩ = some (.int .i64 a) ∧ w'.cell? ⟨J, 2, none⟩ = some (.int .u32 g) ∧ w'.cell? ⟨G, 8, none⟩ = some (.int .u8 (c7.toNat : Int)) ∧ w'.cell? ⟨G, 9, none⟩ = some (.int .u8 (c8.toNat : Int)) ∧ w'.cell? ⟨G, 10, none⟩ = some (.int .u8 (c9.toNat : Int)) ∧ w'.cell? ⟨G, 11, none⟩ = some (.int .u8 (c10.toNat : Int)) ∧ w'.cell? ⟨G, 12, none⟩ = some (.int .u8 (c11.toNat : Int)) ∧ w'.cell? ⟨G, 13, none⟩ = some (.int .u8 (c12.toNat : Int)) ∧ hasNm w' (G + 1 + 1) = true ∧ True) (by kernel_rfl) (⟨j0, j1, j2, k7, k8, k9, k10, k11, k12, hn2, trivial⟩) (fun hHeld => ?_)
     show wpAnyF _ _ _ _ _ _ 35 #[false, false, false, false, false, false, false, false, false, false, false, false, false, false, false, false, false, false, false, false, false, false, false, false, false, false, false, false, false, false, false, false, false, false, false] _ _
     refine gF [0, 33, 34] (i := 0) (v := ?kv1) rfl ?ky1 ?kr1
     case ky1 => (intro w hSw; (try dsimp only at hSw); go_split_ands; (try simp only [qA, qB]); go_simp; (try with_reducible rfl))
     try simp only [Act.put, qA, qB, qD, qE, qF]
     refine gF [1, 2, 3, 4, 5, 10, 33, 34] (i := 1) (v := ?kv2) rfl ?ky2 ?kr2
     case ky2 => (intro w hSw; (try dsimp only at hSw); go_split_ands; (try simp only [qA, qB, qC]); go_simp; (try with_reducible rfl))
     try simp only [Act.put, qA, qB, qC, qD, qE, qF]
     refine gF [2, 3, 4, 5, 10, 33, 34] (i := 2) (v := ?kv3) rfl ?ky3 ?kr3
     case ky3 => (intro w hSw; (try dsimp only at hSw); go_split_ands; (try simp only [qA, qB, qC]); go_simp; (try with_reducible rfl))
     try simp only [Act.put, qA, qB, qC, qD, qE, qF]
     refine gF [3, 4, 5, 10, 33, 34] (i := 3) (v := ?kv4) rfl ?ky4 ?kr4
     case ky4 => (intro w hSw; (try dsimp only at hSw); go_split_ands; (try simp only [qA, qB, qC]); go_simp; (try with_reducible rfl))
     try simp only [Act.put, qA, qB, qC, qD, qE, qF]
     refine gF [4, 5, 10, 33, 34] (i := 4) (v := ?kv5) rfl ?ky5 ?kr5
     case ky5 => (intro w hSw; (try dsimp only at hSw); go_split_ands; (try simp only [qA, qB, qC]); go_simp; (try with_reducible rfl))
     try simp only [Act.put, qA, qB, qC, qD, qE, qF]
     refine gF [5, 10, 33, 34] (i := 5) (v := ?kv6) rfl ?ky6 ?kr6
     case ky6 => (intro w hSw; (try dsimp only at hSw); go_split_ands; (try simp only [qA, qB, qC]); go_simp; (try with_reducible rfl))
     try simp only [Act.put, qA, qB, qC, qD, qE, qF]
     refine gF [6, 7, 8, 9, 10, 33, 34] (i := 6) (v := ?kv7) rfl ?ky7 ?kr7
     case ky7 => (intro w hSw; (try dsimp only at hSw); go_split_ands; (try simp only [qA, qB, qC]); go_simp; (try with_reducible rfl))
     try simp only [Act.put, qA, qB, qC, qD, qE, qF]
     refine gF [7, 8, 9, 10, 33, 34] (i := 7) (v := ?kv8) rfl ?ky8 ?kr8
     case ky8 => (intro w hSw; (try dsimp only at hSw); go_split_ands; (try simp only [qA, qB, qC]); go_simp; (try with_reducible rfl))
     try simp only [Act.put, qA, qB, qC, qD, qE, qF]
     refine gF [8, 9, 10, 33, 34] (i := 8) (v := ?kv9) rfl ?ky9 ?kr9
     case ky9 => (intro w hSw; (try dsimp only at hSw); go_split_ands; (try simp only [qA, qB, qC]); go_simp; (try with_reducible rfl))
     try simp only [Act.put, qA, qB, qC, qD, qE, qF]
     refine gF [9, 10, 33, 34] (i := 9) (v := ?kv10) rfl ?ky10 ?kr10
     case ky10 => (intro w hSw; (try dsimp only at hSw); go_split_ands; (try simp only [qA, qB, qC]); go_simp; (try with_reducible rfl))
     try simp only [Act.put, qA, qB, qC, qD, qE, qF]
     refine gF [10, 33, 34] (i := 10) (v := ?kv11) rfl ?ky11 ?kr11
     case ky11 => (intro w hSw; (try dsimp only at hSw); go_split_ands; (try simp only [qA, qB, qC]); go_simp; (try with_reducible rfl))
     try simp only [Act.put, qA, qB, qC, qD, qE, qF]
     refine gF [11, 12, 13, 14, 15, 21, 27, 32, 33, 34] (i := 11) (v := ?kv12) rfl ?ky12 ?kr12
     case ky12 => (intro w hSw; (try dsimp only at hSw); go_split_ands; (try simp only [qA, qB, qC]); go_simp; (try with_reducible rfl))
     try simp only [Act.put, qA, qB, qC, qD, qE, qF]
     refine gF [12, 13, 14, 15, 21, 27, 32, 33, 34] (i := 12) (v := ?kv13) rfl ?ky13 ?kr13
     case ky13 => (intro w hSw; (try dsimp only at hSw); go_split_ands; (try simp only [qA, qB, qC]); go_simp; (try with_reducible rfl))
     try simp only [Act.put, qA, qB, qC, qD, qE, qF]
     refine gF [13, 14, 15, 21, 27, 32, 33, 34] (i := 13) (v := ?kv14) rfl ?ky14 ?kr14
     case ky14 => (intro w hSw; (try dsimp only at hSw); go_split_ands; (try simp only [qA, qB, qC]); go_simp; (try with_reducible rfl))
     try simp only [Act.put, qA, qB, qC, qD, qE, qF]
     refine gF [14, 15, 21, 27, 32, 33, 34] (i := 14) (v := ?kv15) rfl ?ky15 ?kr15
     case ky15 => (intro w hSw; (try dsimp only at hSw); go_split_ands; (try simp only [qA, qB, qC]); go_simp; (try with_reducible rfl))
     try simp only [Act.put, qA, qB, qC, qD, qE, qF]
     refine gF [15, 21, 27, 32, 33, 34] (i := 15) (v := ?kv16) rfl ?ky16 ?kr16
     case ky16 => (intro w hSw; (try dsimp only at hSw); go_split_ands; (try simp only [qA, qB, qC]); go_simp; (try with_reducible rfl))
     try simp only [Act.put, qA, qB, qC, qD, qE, qF]
     refine gF [16, 17, 18, 19, 20, 21, 27, 32, 33, 34] (i := 16) (v := ?kv17) rfl ?ky17 ?kr17
     case ky17 => (intro w hSw; (try dsimp only at hSw); go_split_ands; (try simp only [qA, qB, qC]); go_simp; (try with_reducible rfl))
     try simp only [Act.put, qA, qB, qC, qD, qE, qF]
     refine gF [17, 18, 19, 20, 21, 27, 32, 33, 34] (i := 17) (v := ?kv18) rfl ?ky18 ?kr18
     case ky18 => (intro w hSw; (try dsimp only at hSw); go_split_ands; (try simp only [qA, qB, qC]); go_simp; (try with_reducible rfl))
     try simp only [Act.put, qA, qB, qC, qD, qE, qF]
     refine gF [18, 19, 20, 21, 27, 32, 33, 34] (i := 18) (v := ?kv19) rfl ?ky19 ?kr19
     case ky19 => (intro w hSw; (try dsimp only at hSw); go_split_ands; (try simp only [qA, qB, qC]); go_simp; (try with_reducible rfl))
     try simp only [Act.put, qA, qB, qC, qD, qE, qF]
     refine gF [19, 20, 21, 27, 32, 33, 34] (i := 19) (v := ?kv20) rfl ?ky20 ?kr20
     case ky20 => (intro w hSw; (try dsimp only at hSw); go_split_ands; (try simp only [qA, qB, qC]); go_simp; (try with_reducible rfl))
     try simp only [Act.put, qA, qB, qC, qD, qE, qF]
     refine gF [20, 21, 27, 32, 33, 34] (i := 20) (v := ?kv21) rfl ?ky21 ?kr21
     case ky21 => (intro w hSw; (try dsimp only at hSw); go_split_ands; (try simp only [qA, qB, qC]); go_simp; (try with_reducible rfl))
     try simp only [Act.put, qA, qB, qC, qD, qE, qF]
     refine gF [21, 27, 32, 33, 34] (i := 21) (v := ?kv22) rfl ?ky22 ?kr22
     case ky22 => (intro w hSw; (try dsimp only at hSw); go_split_ands; (try simp only [qA, qB, qC]); go_simp; (try with_reducible rfl))
     try simp only [Act.put, qA, qB, qC, qD, qE, qF]
     refine gF [22, 23, 24, 25, 26, 27, 32, 33, 34] (i := 22) (v := ?kv23) rfl ?ky23 ?kr23
     case ky23 => (intro w hSw; (try dsimp only at hSw); go_split_ands; (try simp only [qA, qB, qC]); go_simp; (try with_reducible rfl))
     try simp only [Act.put, qA, qB, qC, qD, qE, qF]
     refine gF [23, 24, 25, 26, 27, 32, 33, 34] (i := 23) (v := ?kv24) rfl ?ky24 ?kr24
     case ky24 => (intro w hSw; (try dsimp only at hSw); go_split_ands; (try simp only [qA, qB, qC]); go_simp; (try with_reducible rfl))
     try simp only [Act.put, qA, qB, qC, qD, qE, qF]
     refine gF [24, 25, 26, 27, 32, 33, 34] (i := 24) (v := ?kv25) rfl ?ky25 ?kr25
     case ky25 => (intro w hSw; (try dsimp only at hSw); go_split_ands; (try simp only [qA, qB, qC]); go_simp; (try with_reducible rfl))
     try simp only [Act.put, qA, qB, qC, qD, qE, qF]
     refine gF [25, 26, 27, 32, 33, 34] (i := 25) (v := ?kv26) rfl ?ky26 ?kr26
     case ky26 => (intro w hSw; (try dsimp only at hSw); go_split_ands; (try simp only [qA, qB, qC]); go_simp; (try with_reducible rfl))
     try simp only [Act.put, qA, qB, qC, qD, qE, qF]
     refine gF [26, 27, 32, 33, 34] (i := 26) (v := ?kv27) rfl ?ky27 ?kr27
     case ky27 => (intro w hSw; (try dsimp only at hSw); go_split_ands; (try simp only [qA, qB, qC]); go_simp; (try with_reducible rfl))
     try simp only [Act.put, qA, qB, qC, qD, qE, qF]
     refine gF [27, 32, 33, 34] (i := 27) (v := ?kv28) rfl ?ky28 ?kr28
     case ky28 => (intro w hSw; (try dsimp only at hSw); go_split_ands; (try simp only [qA, qB, qC]); go_simp; (try with_reducible rfl))
     try simp only [Act.put, qA, qB, qC, qD, qE, qF]
     refine gF [28, 29, 30, 31, 32, 33, 34] (i := 28) (v := ?kv29) rfl ?ky29 ?kr29
     case ky29 => (intro w hSw; (try dsimp only at hSw); go_split_ands; (try simp only [qA, qB, qC]); go_simp; (try with_reducible rfl))
     try simp only [Act.put, qA, qB, qC, qD, qE, qF]
     refine gF [29, 30, 31, 32, 33, 34] (i := 29) (v := ?kv30) rfl ?ky30 ?kr30
     case ky30 => (intro w hSw; (try dsimp only at hSw); go_split_ands; (try simp only [qA, qB, qC]); go_simp; (try with_reducible rfl))
     try simp only [Act.put, qA, qB, qC, qD, qE, qF]
     refine gF [30, 31, 32, 33, 34] (i := 30) (v := ?kv31) rfl ?ky31 ?kr31
     case ky31 => (intro w hSw; (try dsimp only at hSw); go_split_ands; (try simp only [qA, qB, qC]); go_simp; (try with_reducible rfl))
     try simp only [Act.put, qA, qB, qC, qD, qE, qF]
     refine gF [31, 32, 33, 34] (i := 31) (v := ?kv32) rfl ?ky32 ?kr32
     case ky32 => (intro w hSw; (try dsimp only at hSw); go_split_ands; (try simp only [qA, qB, qC]); go_simp; (try with_reducible rfl))
     try simp only [Act.put, qA, qB, qC, qD, qE, qF]
     refine gF [32, 33, 34] (i := 32) (v := ?kv33) rfl ?ky33 ?kr33
     case ky33 => (intro w hSw; (try dsimp only at hSw); go_split_ands; (try simp only [qA, qB, qC]); go_simp; (try with_reducible rfl))
     try simp only [Act.put, qA, qB, qC, qD, qE, qF]
     refine gF [33, 34] (i := 33) (v := ?kv34) rfl ?ky34 ?kr34
     case ky34 => (intro w hSw; (try dsimp only at hSw); go_split_ands; (try simp only [qA, qB, qC]); go_simp; (try with_reducible rfl))
     try simp only [Act.put, qA, qB, qC, qD, qE, qF]
     refine wpAnyF_ready (rs := [34]) (by kernel_rfl) (by simp) ?_
     refine (AllReadyF.last rfl (by kernel_rfl) (fun K hK => ?_) AllReadyF.nil)
     try simp only [qA, qB, qC]
     go_simp
     refine hK.out _ _ (trivial) (fun hHeldn => ?_)
     clear hHeld hK K
     have hHeld := hHeldn
     clear hHeldn
     try simp only [qD, qE, qF]
     refine wpAnyF_done (by kernel_rfl) ?_ _
     clear j0 j1 j2 k7 k8 k9 k10 k11 k12 hn2 zc7 zc8 zc9 zc10 zc11 zc12 yc7 yc9 yc10 yc11 o1 o2 hlt1 hlt2 hHeld
     obtain ⟨w3, hw3⟩ : ∃ w3, w3 = (w2.setRow (G + 1 + 1) #[.int .i64 l, .int .i64 a, .int .u32 g, .string ⟨#[]⟩, .int .i64 (b.sub 7 2 : Nat), .int .u32 (b.sub 9 4 : Nat)]).drew := ⟨_, rfl⟩
     rw [← hw3]
     have hk3 : Keeps (fun q => q = G + 1 + 1) w2 w3 := by rw [hw3]; exact (setRow_keeps' _ _ _).trans (Keeps.of_below (Below.refl _ _).drew)
     have a3 : objAt w3 (G + 1 + 1) = some (.cells #[.int .i64 l, .int .i64 a, .int .u32 g, .string ⟨#[]⟩, .int .i64 (b.sub 7 2 : Nat), .int .u32 (b.sub 9 4 : Nat)] 100 (0, 0)) := by rw [hw3]; exact objAt_setRow H2.out.2.2.2.1 _
     have e3 : BlkAt w3 G b := hk3.obj H2.out.2.1 (by omega)
     have n3 : w3.cell? ⟨G, 14, none⟩ = some (.int .u8 (b.nlen : Int)) := by rw [World.cell?_of_block (hk3.block G (block_lt H2.out.2.1) (by omega))]; exact H2.out.2.2.2.2.2.1
     obtain ⟨kk, hkk⟩ : ∃ kk : Nat, kk = min (7 + b.nlen) 49 := ⟨_, rfl⟩
     have m1 : min (7 + (b.nlen : Int)) 49 = (kk : Int) := by omega
     have hnl : b.nlen < 256 := by unfold Blk.nlen; exact (b.body.getD 13 0).toNat_lt
     have m2 : IntKind.i64.wrap (b.nlen : Int) = b.nlen := IntWalk.i64_in _ (by omega)
     have m3 : IntKind.i64.wrap (7 + (b.nlen : Int)) = 7 + (b.nlen : Int) := IntWalk.i64_in _ (by omega)
     have m4 : (7 : Int) ≤ (kk : Int) := by omega
     have m5 : (kk : Int) ≤ 49 := by omega
     have hcv := conv_blk w3 G 15 (kk - 7) 42 14 b e3 rfl (by omega)
     have htk : (b.body.drop 14).take (kk - 7) = (b.body.drop 14).take b.nlen := by
      rw [hkk]
      by_cases h : b.nlen ≤ 42
      · rw [Nat.min_eq_left (by omega), Nat.add_sub_cancel_left]
      · rw [Nat.min_eq_right (by omega), List.take_of_length_le (by rw [List.length_drop, b.len]; omega), List.take_of_length_le (by rw [List.length_drop, b.len]; omega)]
     rw [htk] at hcv
     have f3 := free_obj a3 3
     have s3 : w3.cell? ⟨G + 1 + 1, 3, none⟩ = some (.string ⟨#[]⟩) := cell_obj a3 3
     have H3 := Lib.hid (And.intro hk3 (And.intro a3 e3))
     clear hw3 hk3 a3 e3 hkk hnl htk
     go_upto_region 8 with fail
     clear n3 m1 m2 m3 m4 m5 hcv f3 s3
     obtain ⟨w4, hw4⟩ : ∃ w4, w4 = w3.setCell ⟨G + 1 + 1, 3, none⟩ (.string ⟨((b.body.drop 14).take b.nlen).toArray⟩) := ⟨_, rfl⟩
     rw [← hw4]
     have hk4 : Keeps (fun q => q = G + 1 + 1) w3 w4 := by rw [hw4]; exact setCell_keeps' _ _ _ _
     have a4 : objAt w4 (G + 1 + 1) = some (.cells #[.int .i64 l, .int .i64 a, .int .u32 g, .string ⟨((b.body.drop 14).take b.nlen).toArray⟩, .int .i64 (b.sub 7 2 : Nat), .int .u32 (b.sub 9 4 : Nat)] 100 (0, 0)) := by rw [hw4]; exact heap_setCell_same H3.out.2.1 3 _
     have hk24 := H3.out.1.trans hk4
     have hG2 : w.heap.size ≤ G + 1 + 1 := by rw [← HG.out.1]; omega
     have hB4 : Below w.heap.size w w4 := (grow_trans HG.out.2.1 H2.out.1).trans (hk24.below (grow_trans HG.out.2.1 H2.out.1).size (fun q e => by omega))
     have e4 : BlkAt w4 G b := hk24.obj H2.out.2.1 (by omega)
     have z4 : BlkAt w4 (G + 1 + 1 + 1) Blk.zero := hk24.obj H2.out.2.2.2.2.1 (by omega)
     have r4 : objAt w4 (G + 1) = some (.cells Nm.zero.cells 100 (0, 0)) := hk24.obj H2.out.2.2.1 (by omega)
     have HPw := HP.out w4
     rw [Hnm.out] at HPw
     have HP4 := Lib.hid HPw
     have H4 := Lib.hid (And.intro a4 (And.intro e4 (And.intro z4 (And.intro r4 hB4))))
     have p0 : w4.cell? ⟨G + 1 + 1, 0, none⟩ = some (.int .i64 l) := cell_obj a4 0
     have p1 : w4.cell? ⟨G + 1 + 1, 1, none⟩ = some (.int .i64 a) := cell_obj a4 1
     have p2 : w4.cell? ⟨G + 1 + 1, 2, none⟩ = some (.int .u32 g) := cell_obj a4 2
     have p3 : w4.cell? ⟨G + 1 + 1, 3, none⟩ = some (.string ⟨((b.body.drop 14).take b.nlen).toArray⟩) := cell_obj a4 3
     have p4 : w4.cell? ⟨G + 1 + 1, 4, none⟩ = some (.int .i64 (b.sub 7 2 : Nat)) := cell_obj a4 4
     have p5 : w4.cell? ⟨G + 1 + 1, 5, none⟩ = some (.int .u32 (b.sub 9 4 : Nat)) := cell_obj a4 5
     clear hw4 hk4 a4 hk24 hG2 hB4 e4 z4 r4 HPw
     obtain ⟨PB, hPB⟩ : ∃ PB, PB = (putEntry NM).1 := ⟨_, rfl⟩
     obtain ⟨pk, hpk⟩ : ∃ pk, pk = (putEntry NM).2 := ⟨_, rfl⟩
     rw [← hPB, ← hpk] at HP4
     have hpe : putEntry NM = (PB, pk) := by rw [hPB, hpk]
     have HPe := Lib.hid hpe
     clear hPB hpk hpe
     have hz5 : ∀ w5, Below w4.heap.size w4 w5 → hasBlk w5 (G + 1 + 1 + 1) = true := fun w5 hb => (BlkAt.below H4.out.2.2.1 hb (block_lt H4.out.2.2.1)).has
     have Hz5 := Lib.hid hz5
     clear hz5
     go_upto_region 9 with (go_at_call 98; refine HP4.out.mono ?_; rintro e w5 ⟨rfl, b5⟩; have i5 := Hz5.out w5 b5)
     have z5 := BlkAt.below H4.out.2.2.1 b5 (block_lt H4.out.2.2.1)
     obtain ⟨w6, hw6⟩ : ∃ w6, w6 = w5.setRow (G + 1 + 1 + 1) PB.cells := ⟨_, rfl⟩
     have hk6 : Keeps (fun q => q = G + 1 + 1 + 1) w5 w6 := by rw [hw6]; exact setRow_keeps' _ _ _
     have z6 : BlkAt w6 (G + 1 + 1 + 1) PB := by rw [hw6]; exact z5.setRow PB
     have hG3 : w.heap.size ≤ G + 1 + 1 + 1 := by rw [← HG.out.1]; omega
     have hB6 : Below w.heap.size w w6 := (grow_trans H4.out.2.2.2.2 b5).trans (hk6.below (grow_trans H4.out.2.2.2.2 b5).size (fun q e => by omega))
     have e6 : BlkAt w6 G b := hk6.obj (BlkAt.below H4.out.2.1 b5 (block_lt H4.out.2.1)) (by omega)
     have r6 : objAt w6 (G + 1) = some (.cells Nm.zero.cells 100 (0, 0)) := hk6.obj (grow_obj b5 H4.out.2.2.2.1) (by omega)
     have a6 := hk6.obj (grow_obj b5 H4.out.1) (by omega)
     rw [← hw6]
     have g0 : w6.cell? ⟨G + 1 + 1, 0, none⟩ = some (.int .i64 l) := cell_obj a6 0
     have g1 : w6.cell? ⟨G + 1 + 1, 1, none⟩ = some (.int .i64 a) := cell_obj a6 1
     have g2 : w6.cell? ⟨G + 1 + 1, 2, none⟩ = some (.int .u32 g) := cell_obj a6 2
     have g3 : w6.cell? ⟨G + 1 + 1, 3, none⟩ = some (.string ⟨((b.body.drop 14).take b.nlen).toArray⟩) := cell_obj a6 3
     have g4 : w6.cell? ⟨G + 1 + 1, 4, none⟩ = some (.int .i64 (b.sub 7 2 : Nat)) := cell_obj a6 4
     have g5 : w6.cell? ⟨G + 1 + 1, 5, none⟩ = some (.int .u32 (b.sub 9 4 : Nat)) := cell_obj a6 5
     have t1 := z6.has
     have t2 := z6.row
     have t3 := e6.has
     have t4 := e6.row
     have t5 := hasNm_obj r6 rfl
     have H6 := Lib.hid (And.intro hB6 r6)
     clear hw6 hk6 z6 hG3 hB6 e6 r6 a6 z5 i5 b5 p0 p1 p2 p3 p4 p5
     cases pk with
     | false =>
       have Hn := Lib.hid (show takeEntry b = none by rw [Ht.out, HPe.out, if_neg (by simp)])
       go_wp2_with fail
       go_step3
       simp only [Exit.then]
       go_step
       refine HF.out 0 _ _ _ ?_ rfl
       exact ⟨rfl, Hn.out, H6.out.1, H6.out.2, ⟨_, rfl, ⟨rfl, trivial⟩, rfl⟩⟩
     | true =>
       by_cases hpb : PB = b
       · have Hn := Lib.hid (show takeEntry b = some NM by rw [Ht.out, HPe.out, if_pos (by rw [hpb])])
         subst hpb
         go_wp2_with fail
         try rw [jumps_ret]
         refine bodyPost_ret (results_two rfl (resOne_agg aggNm rfl (rowAt_heap (objAt_setRow H6.out.2 _)) rfl) (resOne_tmp _ _ _)) rfl ?_
         exact ⟨by rw [Hn.out, Option.getD_some, Hnm.out]; rfl, H6.out.1.setRow (by rw [← HG.out.1]; exact Nat.le_succ _) _⟩
       · have Hn := Lib.hid (show takeEntry b = none by rw [Ht.out, HPe.out, if_neg (by simpa using hpb)])
         go_wp2_with fail
         go_step3
         simp only [Exit.then]
         go_step
         refine HF.out 0 _ _ _ ?_ rfl
         exact ⟨rfl, Hn.out, H6.out.1, H6.out.2, ⟨_, rfl, ⟨rfl, trivial⟩, rfl⟩⟩
end Go.Proofs.YtbbnejehglonjaaGreat
