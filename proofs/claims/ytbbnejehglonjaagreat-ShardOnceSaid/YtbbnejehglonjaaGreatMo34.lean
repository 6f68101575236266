/- DERIVED. Contracts and laws that the proofs of this seat share, part 34 of 36: ShI ShJ LibB LibBa ShO. -/
import Derived.ProofKit
import Derived.OpenShut
import Derived.Deep.Slices
import Derived.Test.YtbbnejehglonjaaGreatMo00
import Derived.Test.YtbbnejehglonjaaGreatMo01
import Derived.Test.YtbbnejehglonjaaGreatMo04
import Derived.Test.YtbbnejehglonjaaGreatMo14
import Derived.Test.YtbbnejehglonjaaGreatMo33
/- DERIVED. Contract of clathrilaw17.begun. -/
namespace Go.Proofs.YtbbnejehglonjaaGreat
open Go.RowKit
attribute [local irreducible] Calls
set_option maxRecDepth 100000

/-- A change that is new. -/
theorem FillAt.txV {w w' w2 : World} {d v n : Nat} {Sd : Nat → Prop} {s : Sh} {gb cap m c : Nat} {st : VSt} (h : FillAt w w' d v Sd s gb cap m st c) (hn : n = w'.heap.size) (ht : TxAt w2 (n + 2) v n (n + 1) [] [] st.bs.length) (hb : Below w'.heap.size w' w2) :
 TxV w2 Sd (n + 2) v n (n + 1) [] [] d 0 s gb cap m st c := by
 have hl : ∀ q, Sd q → q < n := fun q hq => by rw [hn]; exact h.vol.dev.lt q hq
 have hm := h.vol.lt_m
 refine ⟨ht, VolP.below h.vol hb, ⟨fun e => by have := hl _ e; omega, fun e => by have := hl _ e; omega, fun e => by have := hl _ e; omega, by omega, by omega⟩⟩
def nm0 : Nm := ⟨Id.root, ⟨#[97]⟩, 5, 1⟩
theorem nm0_wf : nm0.wf := ⟨⟨by show (0 : Int) ≤ 0; omega, by show (0 : Int) ≤ 4294967295; omega⟩, by show (0 : Int) ≤ 1; omega, by show (1 : Int) ≤ 4294967295; omega, by show 1 ≤ 1000000; decide⟩
theorem nm0_fl : nm0.dir.fl := ⟨by show (-1 : Int) ≤ -1; omega, by show (-1 : Int) < 9007199254740992; omega, by show (-1 : Int) ≤ 0; omega, by show (0 : Int) < 9007199254740992; omega⟩
theorem nm0_may : mayEntry nm0 = true := by decide +kernel
def L1 : PL := upB [] ((1 : Nat) : Int) (putEntry nm0).1
def T1 : ML := up [] ((1 : Nat) : Int) (.bool true)
theorem bs8_ok : NamesOk (txV [] (newBlks 8)) := (SL.start (n := 8) (by decide)).ok
theorem bs8_len : (txV [] (newBlks 8)).length = 8 := by rw [txV_nil]; rfl
theorem bs8_ents : ents (txV [] (newBlks 8)) = [] := by rw [txV_nil]; exact newBlks_ents 8 (by decide)
theorem bs8_none : findE (txV [] (newBlks 8)) nm0.dir nm0.name = none := by unfold findE; rw [bs8_ents]; rfl
theorem bs8_use {j : Nat} (hj : j < 8) : inUse (txV [] (newBlks 8)) [] (j : Int) ↔ j = 0 := by
 rw [bs8_ok.use (by rw [bs8_len]; exact hj), bs8_ents]
 simp [keysL]
theorem add_first {r : Int} {L : PL} {T : ML} (h : AddR (newBlks 8) [] [] nm0 r L T) : r = 0 ∧ L = L1 ∧ T = T1 := by
 rcases h with ⟨h, _⟩ | ⟨_, ⟨p, h⟩, _⟩ | ⟨_, _, ⟨h, _⟩ | ⟨k, h1, h2, h3, rfl, rfl, rfl⟩⟩
 · rw [nm0_may] at h; cases h
 · rw [bs8_none] at h; cases h
 · have := (bs8_use (j := 1) (by decide)).1 (h 1 (by decide))
   omega
 · have h8 : k < 8 := h1
   have hk0 : k ≠ 0 := fun e => h2 ((bs8_use h8).2 e)
   have hk1 : k = 1 := by
    refine Classical.byContradiction fun e => ?_
    have := (bs8_use (j := 1) (by decide)).1 (h3 1 (by omega))
    omega
   subst hk1
   exact ⟨rfl, rfl, rfl⟩
theorem l1_blocks : txV L1 (newBlks 8) = (txV [] (newBlks 8)).set 1 (putEntry nm0).1 := txV_up _
theorem l1_mem {q : Nm} {i : Nat} : (q, i) ∈ ents (txV L1 (newBlks 8)) ↔ i = 1 ∧ q = nm0 := by
 rw [l1_blocks, ents_mem_set (by rw [bs8_len]; decide), bs8_ents, take_putEntry nm0_may nm0_wf]
 simp [eq_comm]
theorem l1_find : findE (txV L1 (newBlks 8)) nm0.dir nm0.name = some (nm0, 1) := by
 cases h : findE (txV L1 (newBlks 8)) nm0.dir nm0.name with
 | none => exact absurd ⟨rfl, rfl⟩ (findE_none h (nm0, 1) (l1_mem.2 ⟨rfl, rfl⟩))
 | some p =>
   obtain ⟨q, i⟩ := p
   obtain ⟨h1, h2⟩ := l1_mem.1 (findE_some h).1
   rw [h1, h2]
theorem l1_ents : (ents (txV L1 (newBlks 8))).map (·.1) = [nm0] := by
 have hp := ents_pairwise (txV L1 (newBlks 8))
 have hm := fun q i => l1_mem (q := q) (i := i)
 generalize ents (txV L1 (newBlks 8)) = es at hp hm
 match es, hp, hm with
 | [], _, hm => exact absurd ((hm nm0 1).2 ⟨rfl, rfl⟩) (by simp)
 | [p], _, hm =>
   obtain ⟨q, i⟩ := p
   obtain ⟨_, h2⟩ := (hm q i).1 (by simp)
   rw [h2]; rfl
 | p :: q :: es, hp, hm =>
   obtain ⟨p1, p2⟩ := p
   obtain ⟨q1, q2⟩ := q
   have a := ((hm p1 p2).1 (by simp)).1
   have b := ((hm q1 q2).1 (by simp)).1
   have c := (List.pairwise_cons.1 hp).1 (q1, q2) (by simp)
   dsimp only at c
   omega
theorem add_second {r : Int} {L : PL} {T : ML} (h : AddR (newBlks 8) L1 T1 nm0 r L T) : r = 4 ∧ L = L1 ∧ T = T1 := by
 rcases h with ⟨h, _⟩ | ⟨_, _, h1, h2, h3⟩ | ⟨_, h, _⟩
 · rw [nm0_may] at h; cases h
 · exact ⟨h1, h2, h3⟩
 · rw [l1_find] at h; cases h
theorem l2_none : findE (txV (upB L1 ((1 : Nat) : Int) Blk.zero) (newBlks 8)) nm0.dir nm0.name = none := by
 cases h : findE (txV (upB L1 ((1 : Nat) : Int) Blk.zero) (newBlks 8)) nm0.dir nm0.name with
 | none => rfl
 | some p =>
   obtain ⟨q, i⟩ := p
   have h1 := (findE_some h).1
   rw [txV_up, ents_mem_set (by rw [txV_length]; decide)] at h1
   rcases h1 with ⟨_, h1⟩ | ⟨h1, h2⟩
   · rw [take_zero] at h1; cases h1
   · exact absurd (l1_mem.1 h2).1 h1
set_option maxHeartbeats 8000000 in
theorem begun17_any (w : World) : Calls Tryz.prog 43 #[] w fun e w' => e = .returned (.bool true) ∧ Below w.heap.size w w' := by
 have HN := Lib.hid (fun w => sNew_any 0 8 w (by decide) (by decide))
 go_enter Tryz.func43, Tryz.ntmps43
 go_upto_region 2 with (go_at_call 32; refine (HN.out _).mono ?_; rintro e w1 ⟨p, g, rfl, hs, b1, _, _⟩)
 have c1 := hs.c1
 have hl8 : (newBlks 8).length = 8 := rfl
 rw [hl8] at c1
 have HF := Lib.hid (Filled_new (n := 8) (by decide) (by decide) hs.row)
 have H1 := Lib.hid b1
 clear hs b1
 go_upto_region 3 with (go_at_call 18; refine HF.out.mono ?_; rintro e w2 ⟨d, v, rfl, Sd, gb, cap, m, st, c, hf, hst, hc⟩)
 have HX := Lib.hid (txNew_any v st.bs.length w2)
 obtain ⟨N, hN⟩ : ∃ N, N = w2.heap.size := ⟨_, rfl⟩
 rw [← hN] at HX
 have H2 := Lib.hid (And.intro hf (And.intro hst (And.intro hN hc)))
 clear hf hst hN hc c1
 go_upto_region 6 with (go_at_call 19; refine HX.out.mono ?_; rintro e w3 ⟨rfl, ht, b3⟩)
 have hT3 := H2.out.1.txV H2.out.2.2.1 ht (by rw [← H2.out.2.2.1]; exact b3)
 have hB3 : Below w.heap.size w w3 := (grow_trans H1.out H2.out.1.below).trans (b3.mono (by rw [H2.out.2.2.1]; exact (grow_trans H1.out H2.out.1.below).size))
 have hNw : w.heap.size ≤ N := by rw [H2.out.2.2.1]; exact (grow_trans H1.out H2.out.1.below).size
 have H3 := Lib.hid (And.intro hT3 (And.intro hB3 hNw))
 clear hT3 hB3 ht b3 hNw
 go_upto_region 7 with (go_at_call 34; refine (Root_lit _).mono ?_; rintro e w4 ⟨rfl, b4⟩)
 obtain ⟨J, hJ⟩ : ∃ J, J = w4.heap.size := ⟨_, rfl⟩
 obtain ⟨w5, hw5⟩ : ∃ w5, w5 = w4.alloc (.cells #[.int .i64 (-1), .int .i64 0, .int .u32 0, .string ⟨#[97]⟩, .int .i64 5, .int .u32 1] 100) := ⟨_, rfl⟩
 have hb5 : Below w3.heap.size w3 w5 := grow_trans b4 (below_alloc hw5)
 have ho5 : objAt w5 J = some (.cells #[.int .i64 (-1), .int .i64 0, .int .u32 0, .string ⟨#[97]⟩, .int .i64 5, .int .u32 1] 100 (0, 0)) := by rw [hJ]; exact obj_alloc hw5
 have hJ3 : w3.heap.size ≤ J := by rw [hJ]; exact b4.size
 rw [← hw5, ← hJ]
 have hT5 := H3.out.1.below hb5
 have HA := Lib.hid (shAdd_any hT5 nm0 nm0_wf nm0_fl)
 rw [show nm0.cells = #[.int .i64 (-1), .int .i64 0, .int .u32 0, .string ⟨#[97]⟩, .int .i64 5, .int .u32 1] from rfl] at HA
 have j0 : w5.cell? ⟨J, 0, none⟩ = some (.int .i64 (-1)) := cell_obj ho5 0
 have j1 : w5.cell? ⟨J, 1, none⟩ = some (.int .i64 0) := cell_obj ho5 1
 have j2 : w5.cell? ⟨J, 2, none⟩ = some (.int .u32 0) := cell_obj ho5 2
 have j3 : w5.cell? ⟨J, 3, none⟩ = some (.string ⟨#[97]⟩) := cell_obj ho5 3
 have j4 : w5.cell? ⟨J, 4, none⟩ = some (.int .i64 5) := cell_obj ho5 4
 have j5 : w5.cell? ⟨J, 5, none⟩ = some (.int .u32 1) := cell_obj ho5 5
 have hJm : ∀ q, q = N ∨ q = N + 1 → q ≠ J := fun q hq e => by
  have h1 := H3.out.1.tx.put.lt
  have h2 := H3.out.1.tx.tk.lt
  omega
 have H5 := Lib.hid (And.intro (grow_trans H3.out.2.1 hb5) (And.intro ho5 hJm))
 clear hw5 hJ hb5 ho5 hJ3 hT5 b4 hJm
 go_upto_region 8 with (go_at_call 44; refine HA.out.mono ?_; rintro e w6 ⟨r6, L6, T6, rfl, har, hT6, hk6⟩; obtain ⟨rfl, rfl, rfl⟩ := add_first (by rw [← H2.out.2.1]; exact har))
 have ho6 := hk6.obj H5.out.2.1 (fun e => H5.out.2.2 _ e rfl)
 have k0 : w6.cell? ⟨J, 0, none⟩ = some (.int .i64 (-1)) := cell_obj ho6 0
 have k1 : w6.cell? ⟨J, 1, none⟩ = some (.int .i64 0) := cell_obj ho6 1
 have k2 : w6.cell? ⟨J, 2, none⟩ = some (.int .u32 0) := cell_obj ho6 2
 have k3 : w6.cell? ⟨J, 3, none⟩ = some (.string ⟨#[97]⟩) := cell_obj ho6 3
 have k4 : w6.cell? ⟨J, 4, none⟩ = some (.int .i64 5) := cell_obj ho6 4
 have k5 : w6.cell? ⟨J, 5, none⟩ = some (.int .u32 1) := cell_obj ho6 5
 have HA2 := Lib.hid (shAdd_any hT6 nm0 nm0_wf nm0_fl)
 rw [show nm0.cells = #[.int .i64 (-1), .int .i64 0, .int .u32 0, .string ⟨#[97]⟩, .int .i64 5, .int .u32 1] from rfl] at HA2
 have hB6 : Below w.heap.size w w6 := H5.out.1.trans (hk6.below H5.out.1.size (fun q e => by have := H3.out.2.2; omega))
 have H6 := Lib.hid (And.intro hB6 ho6)
 clear j0 j1 j2 j3 j4 j5 hB6 ho6 hk6 har hT6
 go_upto_region 9 with (go_at_call 44; refine HA2.out.mono ?_; rintro e w7 ⟨r7, L7, T7, rfl, har, hT7, hk7⟩; obtain ⟨rfl, rfl, rfl⟩ := add_second (by rw [← H2.out.2.1]; exact har))
 have ho7 := hk7.obj H6.out.2 (fun e => H5.out.2.2 _ e rfl)
 have i0 : w7.cell? ⟨J, 0, none⟩ = some (.int .i64 (-1)) := cell_obj ho7 0
 have i1 : w7.cell? ⟨J, 1, none⟩ = some (.int .i64 0) := cell_obj ho7 1
 have i2 : w7.cell? ⟨J, 2, none⟩ = some (.int .u32 0) := cell_obj ho7 2
 have HFi := Lib.hid (shFind_any hT7.tx hT7.vol Id.root ⟨#[97]⟩)
 have hfi : findE (txV L1 st.bs) Id.root ⟨#[97]⟩ = some (nm0, 1) := by rw [H2.out.2.1]; exact l1_find
 rw [hfi] at HFi
 rw [show findV (some (nm0, 1)) = .tuple #[.agg #[.int .i64 (-1), .int .i64 0, .int .u32 0, .string ⟨#[97]⟩, .int .i64 5, .int .u32 1], .int .i64 1, .bool true] from rfl, show Id.root.cells = #[.int .i64 (-1), .int .i64 0, .int .u32 0] from rfl] at HFi
 have hB7 : Below w.heap.size w w7 := H6.out.1.trans (hk7.below H6.out.1.size (fun q e => by have := H3.out.2.2; omega))
 have H7 := Lib.hid (And.intro hT7 (And.intro hB7 ho7))
 clear k0 k1 k2 k3 k4 k5 hB7 ho7 hk7 har hT7 hfi
 go_upto_region 10 with (go_at_call 48; refine HFi.out.mono ?_; rintro e w8 ⟨rfl, b8⟩)
 obtain ⟨K, hK⟩ : ∃ K, K = w8.heap.size := ⟨_, rfl⟩
 obtain ⟨w9, hw9⟩ : ∃ w9, w9 = w8.alloc (.cells #[.int .i64 (-1), .int .i64 0, .int .u32 0, .string ⟨#[97]⟩, .int .i64 5, .int .u32 1] 100) := ⟨_, rfl⟩
 have hb9 : Below w7.heap.size w7 w9 := grow_trans b8 (below_alloc hw9)
 have ho9 : objAt w9 K = some (.cells #[.int .i64 (-1), .int .i64 0, .int .u32 0, .string ⟨#[97]⟩, .int .i64 5, .int .u32 1] 100 (0, 0)) := by rw [hK]; exact obj_alloc hw9
 have hK7 : w7.heap.size ≤ K := by rw [hK]; exact b8.size
 rw [← hw9, ← hK]
 have hT9 := H7.out.1.below hb9
 have hoJ9 := grow_obj hb9 H7.out.2.2
 have l0 : w9.cell? ⟨J, 0, none⟩ = some (.int .i64 (-1)) := cell_obj hoJ9 0
 have l1 : w9.cell? ⟨J, 1, none⟩ = some (.int .i64 0) := cell_obj hoJ9 1
 have l2 : w9.cell? ⟨J, 2, none⟩ = some (.int .u32 0) := cell_obj hoJ9 2
 have hme : (ents (txV L1 st.bs)).map (·.1) = [nm0] := by rw [H2.out.2.1]; exact l1_ents
 have HLi := Lib.hid (shListA_any hT9.tx hT9.vol Id.root (fun p hp => by
  have : p.1 ∈ (ents (txV L1 st.bs)).map (·.1) := List.mem_map.2 ⟨p, hp, rfl⟩
  rw [hme] at this
  simp only [List.mem_singleton] at this
  rw [this]; rfl) (by have := congrArg List.length hme; rw [List.length_map] at this; rw [this]; decide))
 rw [hme, show Id.root.cells = #[.int .i64 (-1), .int .i64 0, .int .u32 0] from rfl] at HLi
 have H9 := Lib.hid (And.intro hT9 (And.intro (grow_trans H7.out.2.1 hb9) (And.intro hoJ9 (And.intro ho9 hK7))))
 clear hw9 hK hb9 ho9 hK7 hT9 hoJ9 b8 i0 i1 i2 hme
 go_upto_region 11 with (go_at_call 47; refine HLi.out.mono ?_; rintro e w10 ⟨u, l', rfl, hp, ho, hrow, b10⟩)
 have hl1 : l'.length = 1 := by rw [hp.length_eq]; rfl
 obtain ⟨au, cu, hu, _⟩ := hrow.slice
 rw [hl1] at hu
 subst hu
 have hT10 := H9.out.1.below b10
 have hoJ10 := grow_obj b10 H9.out.2.2.1
 have hoK10 := grow_obj b10 H9.out.2.2.2.1
 have o0 : w10.cell? ⟨J, 0, none⟩ = some (.int .i64 (-1)) := cell_obj hoJ10 0
 have o1 : w10.cell? ⟨J, 1, none⟩ = some (.int .i64 0) := cell_obj hoJ10 1
 have o2 : w10.cell? ⟨J, 2, none⟩ = some (.int .u32 0) := cell_obj hoJ10 2
 have hfi : findE (txV L1 st.bs) Id.root ⟨#[97]⟩ = some (nm0, 1) := by rw [H2.out.2.1]; exact l1_find
 have hO := shOut_any hT10 Id.root ⟨#[97]⟩
 rw [hfi] at hO
 have hO2 : Calls Tryz.prog 46 #[.pointer (some ⟨N + 2, 0, none⟩), .agg Id.root.cells, .string ⟨#[97]⟩] w10 (fun e w' => e = .returned (.int .i64 0) ∧ TxV w' Sd (N + 2) v N (N + 1) (upB L1 ((1 : Nat) : Int) Blk.zero) T1 d 0 (shN 8) gb cap m st c ∧ Keeps (fun q => q = N ∨ q = N + 1) w10 w') := hO.mono (by
  rintro e w' (⟨h, _⟩ | ⟨p, hp, h1, h2, h3⟩)
  · cases h
  · obtain rfl := Option.some.inj hp
    exact ⟨h1, h2, h3⟩)
 have HO := Lib.hid hO2
 clear hO hO2 hfi
 rw [show Id.root.cells = #[.int .i64 (-1), .int .i64 0, .int .u32 0] from rfl] at HO
 have H10 := Lib.hid (And.intro (grow_trans H9.out.2.1 b10) (And.intro hoJ10 hoK10))
 clear hp ho hrow b10 hl1 hT10 hoJ10 hoK10 l0 l1 l2
 go_upto_region 12 with (go_at_call 46; refine HO.out.mono ?_; rintro e w11 ⟨rfl, hT11, hk11⟩)
 have hoJ11 := hk11.obj H10.out.2.1 (fun e => H5.out.2.2 _ e rfl)
 have hNK : ∀ q, q = N ∨ q = N + 1 → q ≠ K := fun q hq e => by
  have h1 := H7.out.1.tx.put.lt
  have h2 := H7.out.1.tx.tk.lt
  have h3 := H9.out.2.2.2.2
  omega
 have hoK11 := hk11.obj H10.out.2.2 (fun e => hNK _ e rfl)
 have hB11 : Below w.heap.size w w11 := H10.out.1.trans (hk11.below H10.out.1.size (fun q e => by have := H3.out.2.2; omega))
 have q0 : w11.cell? ⟨J, 0, none⟩ = some (.int .i64 (-1)) := cell_obj hoJ11 0
 have q1 : w11.cell? ⟨J, 1, none⟩ = some (.int .i64 0) := cell_obj hoJ11 1
 have q2 : w11.cell? ⟨J, 2, none⟩ = some (.int .u32 0) := cell_obj hoJ11 2
 have hfi : findE (txV (upB L1 ((1 : Nat) : Int) Blk.zero) st.bs) Id.root ⟨#[97]⟩ = none := by rw [H2.out.2.1]; exact l2_none
 have hO := shOut_any hT11 Id.root ⟨#[97]⟩
 rw [hfi] at hO
 have hO2 : Calls Tryz.prog 46 #[.pointer (some ⟨N + 2, 0, none⟩), .agg Id.root.cells, .string ⟨#[97]⟩] w11 (fun e w' => e = .returned (.int .i64 2) ∧ Keeps (fun q => q = N ∨ q = N + 1) w11 w') := hO.mono (by
  rintro e w' (⟨_, h1, _, h3⟩ | ⟨p, hp, _⟩)
  · exact ⟨h1, h3⟩
  · cases hp)
 have HP := Lib.hid hO2
 rw [show Id.root.cells = #[.int .i64 (-1), .int .i64 0, .int .u32 0] from rfl] at HP
 have H11 := Lib.hid (And.intro hB11 (And.intro hoJ11 (And.intro hoK11 hNK)))
 clear hO hO2 hfi hoJ11 hoK11 hNK hB11 hk11 hT11 o0 o1 o2
 go_upto_region 13 with (go_at_call 46; refine HP.out.mono ?_; rintro e w12 ⟨rfl, hk12⟩)
 have hoJ12 := hk12.obj H11.out.2.1 (fun e => H5.out.2.2 _ e rfl)
 have hoK12 := hk12.obj H11.out.2.2.1 (fun e => H11.out.2.2.2 _ e rfl)
 have hB12 : Below w.heap.size w w12 := H11.out.1.trans (hk12.below H11.out.1.size (fun q e => by have := H3.out.2.2; omega))
 have r0 : w12.cell? ⟨J, 0, none⟩ = some (.int .i64 (-1)) := cell_obj hoJ12 0
 have r1 : w12.cell? ⟨J, 1, none⟩ = some (.int .i64 0) := cell_obj hoJ12 1
 have r2 : w12.cell? ⟨J, 2, none⟩ = some (.int .u32 0) := cell_obj hoJ12 2
 have r3 : w12.cell? ⟨J, 3, none⟩ = some (.string ⟨#[97]⟩) := cell_obj hoJ12 3
 have r4 : w12.cell? ⟨J, 4, none⟩ = some (.int .i64 5) := cell_obj hoJ12 4
 have r5 : w12.cell? ⟨J, 5, none⟩ = some (.int .u32 1) := cell_obj hoJ12 5
 have s0 : w12.cell? ⟨K, 0, none⟩ = some (.int .i64 (-1)) := cell_obj hoK12 0
 have s1 : w12.cell? ⟨K, 1, none⟩ = some (.int .i64 0) := cell_obj hoK12 1
 have s2 : w12.cell? ⟨K, 2, none⟩ = some (.int .u32 0) := cell_obj hoK12 2
 have s3 : w12.cell? ⟨K, 3, none⟩ = some (.string ⟨#[97]⟩) := cell_obj hoK12 3
 have s4 : w12.cell? ⟨K, 4, none⟩ = some (.int .i64 5) := cell_obj hoK12 4
 have s5 : w12.cell? ⟨K, 5, none⟩ = some (.int .u32 1) := cell_obj hoK12 5
 have HB := Lib.hid hB12
 clear hoJ12 hoK12 hB12 hk12 q0 q1 q2
 go_wp2_with fail
 go_ret
 exact ⟨rfl, HB.out⟩
end Go.Proofs.YtbbnejehglonjaaGreat

/- DERIVED. Contract of clathrilaw17's namer; 256 truths. -/
namespace Go.Proofs.YtbbnejehglonjaaGreat
open Go.RowKit
attribute [local irreducible] Calls
set_option maxRecDepth 100000

/-- 256 truths. -/
noncomputable def z256b : Array Value := (List.replicate 256 (.bool false)).toArray
noncomputable def thAlloc (w : World) : Result Value := Sem.run Tryz.prog (Instr.alloc 94 true (.tuple #[])) w
theorem alloc_th' (w : World) : (Instr.alloc 94 true (.tuple #[])).run Tryz.prog w = .ok (.pointer (some ⟨w.heap.size, 0, none⟩)) (w.alloc (.cells z256b 94)) := by kernel_rfl
@[go_sem] theorem alloc_th (w : World) : thAlloc w = .ok (.pointer (some ⟨w.heap.size, 0, none⟩)) (w.alloc (.cells z256b 94)) := alloc_th' w
@[go_sem ↓] theorem exec_alloc_th (ρ : Operand → Value) (w : World) (dst : Option Tmp) (ty : TypeId) (pos : String) (after : Array Edge) (gd : Option (Nat × Bool)) :
 (execOp ρ ⟨dst, .alloc 94, ty, pos, after, gd⟩).run Tryz.prog w = (thAlloc w).andThen fun v w => .ok (.value v) w := by
 simp only [execOp, thAlloc, Sem.run_bind]; rfl
/-- The truths of a function. -/
noncomputable def thC (f : Nat → Bool) : Array Value := ((List.range 256).map fun k => Value.bool (f k)).toArray
def BoolsAt (w : World) (g : Nat) (f : Nat → Bool) : Prop := objAt w g = some (.cells (thC f) 94 (0, 0))
theorem thC_get (f : Nat → Bool) {k : Nat} (hk : k < 256) : (thC f)[k]? = some (.bool (f k)) := by
 unfold thC; simp [hk]
theorem thC_set (f : Nat → Bool) (k : Nat) (b : Bool) : (thC f).setIfInBounds k (.bool b) = thC (setB f k b) := by
 unfold thC
 apply Array.ext'
 simp only [qD]
 apply List.ext_getElem
 · simp
 · intro i h1 h2
   simp only [List.getElem_set, List.getElem_map, List.getElem_range, setB]
   by_cases e : k = i
   · rw [if_pos e, if_pos e.symm]
   · rw [if_neg e, if_neg (fun h => e h.symm)]
attribute [irreducible] thAlloc z256b thC
theorem BoolsAt.cell {w : World} {g : Nat} {f : Nat → Bool} (h : BoolsAt w g f) {k : Nat} (hk : k < 256) : w.cell? ⟨g, k, none⟩ = some (.bool (f k)) := (cell_obj h k).trans (thC_get f hk)
theorem BoolsAt.set {w : World} {g : Nat} {f : Nat → Bool} (h : BoolsAt w g f) (k : Nat) (b : Bool) : BoolsAt (w.setCell ⟨g, k, none⟩ (.bool b)) g (setB f k b) := by
 have := heap_setCell_same h k (.bool b)
 rw [thC_set] at this
 exact this
end Go.Proofs.YtbbnejehglonjaaGreat

/- DERIVED. What the reading of an argument tells of memory: slices of whole numbers, of arrays of whole numbers. -/
namespace Go.Proofs.YtbbnejehglonjaaGreat
open Go.RowKit Go.ChangeShapes Go.WideShapes Go.Deep

/-- n cells from a slice's address on hold the whole numbers f 0, f 1, ..; they lie below block B. -/
def Flat (k : IntKind) (w : World) (B : Nat) (a : Option Addr) (n : Nat) (f : Nat → Int) : Prop :=
 ∃ b off, (0 < n → a = some ⟨b, off, none⟩ ∧ b < B) ∧ ∀ i, i < n → w.cell? ⟨b, off + i, none⟩ = some (.int k (f i)) ∧ (Lit.int k (f i)).wf = true

theorem Flat.below {k : IntKind} {w w' : World} {B : Nat} {a : Option Addr} {n : Nat} {f : Nat → Int} (h : Flat k w B a n f) (hb : Below B w w') : Flat k w' B a n f := by
 obtain ⟨b, off, h1, h2⟩ := h
 refine ⟨b, off, h1, fun i hi => ⟨?_, (h2 i hi).2⟩⟩
 rw [hb.cell (p := ⟨b, off + i, none⟩) (h1 (by omega)).2]
 exact (h2 i hi).1

theorem spot_of_cell {w : World} {a : Addr} {v : Value} (h : w.cell? a = some v) : a = ⟨a.block, a.off, none⟩ := by
 obtain ⟨b, o, s⟩ := a
 cases s with
 | none => rfl
 | some s => unfold World.cell? at h; split at h <;> simp at h

theorem add_off (b off i : Nat) : (⟨b, off, none⟩ : Addr).add i = ⟨b, off + i, none⟩ := by
 unfold Addr.add; split
 · rename_i h; subst h; rfl
 · rfl

section
variable {H : Type} {enc : TypeId × Value → H} {P : Program} {w : World}

theorem lt_of_cell {a : Addr} {v : Value} (h : w.cell? a = some v) : a.block < w.heap.size := World.block_lt_of_cell? w a h

/-- A slice of arrays of m whole numbers. -/
theorem flat_arrays {t e e' : TypeId} {m : Nat} {k : IntKind} {a : Option Addr} {len cap : Nat} {d : DataW H} {p : List MemPlace} (ht : P.underlying t = some (.slice e)) (he : P.underlying e = some (.array m e')) (he' : P.underlying e' = some (.int k))
 (hc' : P.cellsOf e' = 1) (hc : P.cellsOf e = m) (hm : 0 < m)
 (h : DataW.Trod enc P w 0 (fun _ => true) true t (.slice a len cap) d p) : len ≤ maxLen ∧ ∃ f, Flat k w w.heap.size a (len * m) f := by
 obtain ⟨fuel, hf⟩ := h
 rcases open_slice ht hf with ⟨hcs, _⟩ | ⟨x, l, c, mm, n, D, Pl, hcs, _, hl, hml, hmm, _, hx⟩
 · simp [Value.cells] at hcs
   obtain ⟨rfl, rfl, rfl⟩ := hcs
   exact ⟨Nat.zero_le _, fun _ => 0, 0, 0, fun h => absurd h (by simp), fun i hi => absurd hi (by simp)⟩
 · simp [Value.cells] at hcs
   obtain ⟨rfl, rfl, rfl⟩ := hcs
   have hmc : mm = cap := by simpa using hmm
   have each : ∀ i, i < len → ∀ j, j < m → ∃ z, w.cell? (x.add (i * m + j)) = some (.int k z) ∧ (Lit.int k z).wf = true := by
    intro i hi j hj
    obtain ⟨cs', h1, h2⟩ := hx i (by omega)
    obtain ⟨_, h3, h4⟩ := World.cells?_some h1
    obtain ⟨xs, q, _, _, hl', hxl, hxe⟩ := DataW.trod_array he h2
    have h5 := hxe j hj
    rw [hc', List.getElem?_eq_getElem (by omega)] at h5
    obtain ⟨z, hz, _, hw⟩ := DataW.trod_int he' h5
    refine ⟨z, ?_, hw⟩
    have h6 := h4 j (by omega)
    rw [add_add, hc] at h6
    rw [h6]
    have h7 : (cs'.drop (j * 1)).head? = some (.int k z) := by
     have := congrArg List.head? hz
     rw [List.head?_take] at this
     simpa using this
    rw [List.head?_drop, Nat.mul_one] at h7
    exact h7
   refine ⟨by omega, ?_⟩
   rcases Nat.eq_zero_or_pos len with h0 | h0
   · subst h0
     exact ⟨fun _ => 0, 0, 0, fun h => absurd h (by simp), fun i hi => absurd hi (by simp)⟩
   · obtain ⟨z0, hz0, _⟩ := each 0 h0 0 hm
     have e0 : x.add (0 * m + 0) = x := by simp [Addr.add]
     rw [e0] at hz0
     have hx0 := spot_of_cell hz0
     have all : ∀ i, i < len * m → ∃ z, w.cell? ⟨x.block, x.off + i, none⟩ = some (.int k z) ∧ (Lit.int k z).wf = true := by
      intro i hi
      obtain ⟨z, hz, hw⟩ := each (i / m) (Nat.div_lt_of_lt_mul (by rwa [Nat.mul_comm] at hi)) (i % m) (Nat.mod_lt _ hm)
      rw [Nat.div_add_mod' i m] at hz
      rw [hx0, add_off] at hz
      exact ⟨z, hz, hw⟩
     obtain ⟨f, hf⟩ := choose_lt all
     exact ⟨f, x.block, x.off, fun _ => ⟨congrArg some hx0, lt_of_cell hz0⟩, hf⟩
end
end Go.Proofs.YtbbnejehglonjaaGreat

/- DERIVED. Bytes that came in as an argument. -/
namespace Go.Proofs.YtbbnejehglonjaaGreat
open Go.RowKit Go.ChangeShapes Go.WideShapes

theorem bytes_in {w : World} {B len : Nat} {a : Option Addr} {f : Nat → Int} (h : Flat .u8 w B a len f) : ∃ l : List UInt8, l.length = len ∧ BytesAt w a l := by
 obtain ⟨b, off, h1, h2⟩ := h
 refine ⟨(List.range len).map fun i => UInt8.ofNat (f i).toNat, by simp, b, off, fun h => (h1 (by simpa using h)).1, fun i hi => ?_⟩
 have hi' : i < len := by simpa using hi
 obtain ⟨h3, h4⟩ := h2 i hi'
 rw [h3]
 have hb : 0 ≤ f i ∧ f i ≤ 255 := by
  have := h4
  simp [Lit.wf, IntKind.min, IntKind.max] at this
  simpa [IntKind.bits, IntKind.signed] using this
 simp only [List.getElem_map, List.getElem_range]
 rw [UInt8.toNat_ofNat']
 congr 2
 omega
end Go.Proofs.YtbbnejehglonjaaGreat

/- DERIVED. The state of clathrilaw17.ShardOnce's loop; laws of single operations in drawn regions. -/
namespace Go.Proofs.YtbbnejehglonjaaGreat
open Go.RowKit Go.ChangeShapes Go.WideShapes
attribute [local irreducible] Calls
set_option maxRecDepth 100000

/-- Triples of bytes that came in. -/
theorem trips_arg {H : Type} {enc : TypeId × Value → H} {d : DataW H} {p : List MemPlace} {a : Option Addr} {len cap : Nat} {w : World} (h : DataW.Trod enc Tryz.prog w 0 (fun _ => true) true 104 (.slice a len cap) d p) : ∃ l : List UInt8, l.length = len * 3 ∧ BytesAt w a l := by
 obtain ⟨_, f, hf⟩ := flat_arrays Tryz.underlying104 Tryz.underlying108 Tryz.underlying5 (by kernel_rfl) (by kernel_rfl) (by decide) h
 exact bytes_in hf
section
variable {ops : Array Oper} {o : Oper} {a b0 : Act} {w : World} {K : Act → World → Prop} {Q : Exit → Act → World → Prop} {F : Prop}
theorem run_lit1b (w : World) (y0 : Int) : (Instr.buildSlice 22 1 #[(0, .int .u8 y0)]).run Tryz.prog w = .ok (.slice (some ⟨w.heap.size, 0, none⟩) 1 1) (w.alloc (.cells #[.int .u8 y0] 5)) := by
 go_simp
theorem step_lit1b (hgd : o.guard = none) (x0 : Operand) (ho : o.op = .buildSlice 22 1 #[(0, x0)]) {y0 : Int} (c0 : UInt8) (h0 : a.eval x0 = .int .u8 y0) (e : y0 = (c0.toNat : Int))
 (h : ∀ g w', BytesAt w' (some ⟨g, 0, none⟩) [c0] → Below w.heap.size w w' → K (a.put o.dst (.slice (some ⟨g, 0, none⟩) 1 1)) w') :
 if Region.wanted o (yielded ops b0.tmps) = true then Oper.wp Tryz.prog o a w K Q else F := by
 subst e
 have hw : Region.wanted o (yielded ops b0.tmps) = true := by simp [Region.wanted, hgd]
 rw [if_pos hw]
 have hr := run_lit1b w (c0.toNat : Int)
 have hb : BRow (w.alloc (.cells #[.int .u8 (c0.toNat : Int)] 5)) w.heap.size (.slice (some ⟨w.heap.size, 0, none⟩) 1 1) [c0] := ⟨rfl, .inr ⟨w.heap.size, 1, _, rfl, Nat.le_refl _, by show objAt _ _ = _; rw [objAt_alloc, if_pos rfl], Nat.le_refl _, by decide, rfl, rfl⟩⟩
 unfold Oper.wp execOp
 simp only [ho, List.map_toArray, List.map_cons, List.map_nil, h0, Sem.run_bind]
 rw [hr]
 exact h _ _ hb.bytesAt.1 (grow_alloc (Below.refl _ _) _)
theorem step_convB (hgd : o.guard = none) (x : Operand) (ho : o.op = .convert 22 9 x) {ad : Option Addr} {l : List UInt8} {n cap : Nat} (hx : a.eval x = .slice ad n cap) (hn : n = l.length) (hl : BytesAt w ad l)
 (h : K (a.put o.dst (.string ⟨l.toArray⟩)) w) :
 if Region.wanted o (yielded ops b0.tmps) = true then Oper.wp Tryz.prog o a w K Q else F := by
 subst hn
 have hw : Region.wanted o (yielded ops b0.tmps) = true := by simp [Region.wanted, hgd]
 rw [if_pos hw]
 have hr := conv_at cap hl
 unfold Oper.wp execOp
 simp only [ho, hx, Sem.run_bind]
 rw [hr]
 exact h
theorem run_allocNm (w : World) : (Instr.alloc 100 true (.tuple #[])).run Tryz.prog w = .ok (.pointer (some ⟨w.heap.size, 0, none⟩)) (w.alloc (.cells #[.int .i64 0, .int .i64 0, .int .u32 0, .string ⟨#[]⟩, .int .i64 0, .int .u32 0] 100)) := by kernel_rfl
theorem step_allocNm (hgd : o.guard = none) (ho : o.op = .alloc 100)
 (h : ∀ g w', objAt w' g = some (.cells #[.int .i64 0, .int .i64 0, .int .u32 0, .string ⟨#[]⟩, .int .i64 0, .int .u32 0] 100 (0, 0)) → w.heap.size ≤ g → Below w.heap.size w w' → K (a.put o.dst (.pointer (some ⟨g, 0, none⟩))) w') :
 if Region.wanted o (yielded ops b0.tmps) = true then Oper.wp Tryz.prog o a w K Q else F := by
 have hw : Region.wanted o (yielded ops b0.tmps) = true := by simp [Region.wanted, hgd]
 rw [if_pos hw]
 have hr := run_allocNm w
 unfold Oper.wp execOp
 simp only [ho, Sem.run_bind]
 rw [hr]
 exact h _ _ (by rw [objAt_alloc, if_pos rfl]) (Nat.le_refl _) (grow_alloc (Below.refl _ _) _)
end
/-- Fifteen numbers. -/
noncomputable def grC (f : Nat → Nat → Nat) : Array Value := ((List.range 15).map fun j => Value.int .i64 (f (j / 5) (j % 5) : Nat)).toArray
def GridAt (w : World) (g : Nat) (f : Nat → Nat → Nat) : Prop := objAt w g = some (.cells (grC f) 107 (0, 0))
theorem grC_zero : grC (fun _ _ => 0) = #[.int .i64 0, .int .i64 0, .int .i64 0, .int .i64 0, .int .i64 0, .int .i64 0, .int .i64 0, .int .i64 0, .int .i64 0, .int .i64 0, .int .i64 0, .int .i64 0, .int .i64 0, .int .i64 0, .int .i64 0] := by
 unfold grC; rfl
theorem GridAt.cell {w : World} {g : Nat} {f : Nat → Nat → Nat} (h : GridAt w g f) {d k : Nat} (hd : d < 3) (hk : k < 5) : w.cell? ⟨g, d * 5 + k, none⟩ = some (.int .i64 (f d k : Nat)) := by
 refine (cell_obj h (d * 5 + k)).trans ?_
 unfold grC
 rw [List.getElem?_toArray, List.getElem?_map, List.getElem?_range (by omega), Option.map_some, show (d * 5 + k) / 5 = d by omega, show (d * 5 + k) % 5 = k by omega]
theorem GridAt.set {w : World} {g : Nat} {f : Nat → Nat → Nat} (h : GridAt w g f) {d k : Nat} (hk : k < 5) (x : Nat) : GridAt (w.setCell ⟨g, d * 5 + k, none⟩ (.int .i64 (x : Int))) g (setO f d k x) := by
 have := heap_setCell_same h (d * 5 + k) (.int .i64 (x : Int))
 have e : (grC f).setIfInBounds (d * 5 + k) (.int .i64 (x : Int)) = grC (setO f d k x) := by
  unfold grC
  apply Array.ext'
  simp only [qD]
  apply List.ext_getElem
  · simp
  · intro i h1 h2
    simp only [List.getElem_set, List.getElem_map, List.getElem_range, setO]
    by_cases e : d * 5 + k = i
    · rw [if_pos e, if_pos (by omega)]
    · rw [if_neg e, if_neg (by omega)]
 rw [e] at this
 exact this
def dirsC : Array Value := #[.int .i64 (-1), .int .i64 0, .int .u32 0, .int .i64 1, .int .i64 4, .int .u32 1, .int .i64 1, .int .i64 4, .int .u32 2]
def DirsAt (w : World) (g : Nat) : Prop := objAt w g = some (.cells dirsC 66 (0, 0))
theorem DirsAt.cells {w : World} {g : Nat} (h : DirsAt w g) {d : Nat} (hd : d < 3) : w.cell? ⟨g, d * 3, none⟩ = some (.int .i64 (dirD d).label) ∧ w.cell? ⟨g, d * 3 + 1, none⟩ = some (.int .i64 (dirD d).at_) ∧ w.cell? ⟨g, d * 3 + 2, none⟩ = some (.int .u32 (dirD d).gen) := by
 have : d = 0 ∨ d = 1 ∨ d = 2 := by omega
 rcases this with rfl | rfl | rfl
 · exact ⟨cell_obj h 0, cell_obj h 1, cell_obj h 2⟩
 · exact ⟨cell_obj h 3, cell_obj h 4, cell_obj h 5⟩
 · exact ⟨cell_obj h 6, cell_obj h 7, cell_obj h 8⟩
theorem nameO_eq (k : Nat) : (⟨#[110]⟩ ++ ⟨#[UInt8.ofNat (97 + k)]⟩ : ByteArray) = nameO k := by
 unfold nameO
 apply ByteArray.ext
 simp
attribute [irreducible] grC
/-- Where things lie, all new. -/
structure OB (w : World) (N v gb mm TH DG : Nat) : Prop where
 v : w.heap.size ≤ v
 gb : w.heap.size ≤ gb
 mm : w.heap.size ≤ mm
 th : w.heap.size ≤ TH ∧ TH < N
 dg : w.heap.size ≤ DG ∧ DG < N
/-- The state of the loop, a change begun. -/
structure OT (w wr : World) (Sd : Nat → Prop) (N v d gb cap mm TH DG : Nat) (st : VSt) (c : Nat) (L : PL) (T : ML) (th : Nat → Nat → Nat) : Prop where
 tx : TxV wr Sd (N + 2) v N (N + 1) L T d 0 (shN 60) gb cap mm st c
 so : SO st.bs L th
 len : st.bs.length = 60
 grid : GridAt wr TH th
 dirs : DirsAt wr DG
 bel : Below w.heap.size w wr
 sd : ∀ q, Sd q → w.heap.size ≤ q ∧ q ≠ TH ∧ q ≠ DG
section
variable {w wr w2 : World} {Sd : Nat → Prop} {N v d gb cap mm TH DG : Nat} {st : VSt} {c : Nat} {L L' : PL} {T T' : ML} {th th' : Nat → Nat → Nat}
theorem OT.below (h : OT w wr Sd N v d gb cap mm TH DG st c L T th) (hb : Below wr.heap.size wr w2) : OT w w2 Sd N v d gb cap mm TH DG st c L T th :=
 ⟨h.tx.below hb, h.so, h.len, grow_obj hb h.grid, grow_obj hb h.dirs, grow_trans h.bel hb, h.sd⟩
theorem OT.turn (h : OT w wr Sd N v d gb cap mm TH DG st c L T th) (hB : OB w N v gb mm TH DG) (ht : TxV w2 Sd (N + 2) v N (N + 1) L' T' d 0 (shN 60) gb cap mm st c) (hk : Keeps (fun q => q = N ∨ q = N + 1) wr w2) (hs : SO st.bs L' th') (hg : GridAt w2 TH th → GridAt w2 TH th') : OT w w2 Sd N v d gb cap mm TH DG st c L' T' th' :=
 ⟨ht, hs, h.len, hg (hk.obj h.grid (fun e => by have := hB.th; omega)), hk.obj h.dirs (fun e => by have := hB.dg; omega), h.bel.trans (hk.below h.bel.size (fun q e => by have := hB.th; omega)), h.sd⟩
/-- A cell of the numbers is turned. -/
theorem OT.store (h : OT w wr Sd N v d gb cap mm TH DG st c L T th) (hB : OB w N v gb mm TH DG) (ht : TxV w2 Sd (N + 2) v N (N + 1) L' T' d 0 (shN 60) gb cap mm st c) (hk : Keeps (fun q => q = N ∨ q = N + 1) wr w2) (hs : SO st.bs L' th') {off : Nat} {x : Value} (hg : GridAt w2 TH th → GridAt (w2.setCell ⟨TH, off, none⟩ x) TH th') :
 OT w (w2.setCell ⟨TH, off, none⟩ x) Sd N v d gb cap mm TH DG st c L' T' th' := by
 have hg2 : GridAt w2 TH th := hk.obj h.grid (fun e => by have := hB.th; omega)
 have hd2 : DirsAt w2 DG := hk.obj h.dirs (fun e => by have := hB.dg; omega)
 have hgo : objAt w2 TH = some (.cells (grC th) 107 (0, 0)) := hg2
 have hb2 : Below w.heap.size w w2 := h.bel.trans (hk.below h.bel.size (fun q e => by have := hB.th; omega))
 have hK : Keeps (fun q => q = TH) w2 (w2.setCell ⟨TH, off, none⟩ x) := setCell_keeps' _ _ _ _
 obtain ⟨cs, hcs⟩ := VolP.neRow ht.vol
 refine ⟨⟨ht.tx.keeps hK (ne_of_obj ht.tx.obj hgo (by decide)) (fun e => ht.tx.put.neObj hgo e) (fun e => ht.tx.tk.neObj hgo e), VolP.keeps ht.vol hK (fun q hq e => (h.sd q hq).2.1 e) (ne_of_obj ht.vol.o hgo (by decide)) (fun e => ht.vol.map.neObj hgo e) (ne_of_obj hcs hgo (by decide)), ht.ap⟩, hs, h.len, hg hg2, hK.obj hd2 (ne_of_obj hd2 hgo (by decide)), hb2.trans (hK.below hb2.size (fun q e => by have := hB.th; omega)), h.sd⟩
/-- Between two changes. -/
structure OV (w wr : World) (Sd : Nat → Prop) (v d gb cap mm TH DG : Nat) (st : VSt) (c : Nat) (th : Nat → Nat → Nat) : Prop where
 vol : VolS wr Sd v d 0 (shN 60) gb cap mm st c
 so : SO st.bs [] th
 len : st.bs.length = 60
 grid : GridAt wr TH th
 dirs : DirsAt wr DG
 bel : Below w.heap.size w wr
 sd : ∀ q, Sd q → w.heap.size ≤ q ∧ q ≠ TH ∧ q ≠ DG
theorem OT.ov (h : OT w wr Sd N v d gb cap mm TH DG st c [] T th) : OV w wr Sd v d gb cap mm TH DG st c th := ⟨h.tx.vol, h.so, h.len, h.grid, h.dirs, h.bel, h.sd⟩
theorem OV.below (h : OV w wr Sd v d gb cap mm TH DG st c th) (hb : Below wr.heap.size wr w2) : OV w w2 Sd v d gb cap mm TH DG st c th :=
 ⟨VolP.below h.vol hb, h.so, h.len, grow_obj hb h.grid, grow_obj hb h.dirs, grow_trans h.bel hb, h.sd⟩
/-- A change is begun. -/
theorem OV.new (h : OV w wr Sd v d gb cap mm TH DG st c th) (hn : N = wr.heap.size) (ht : TxAt w2 (N + 2) v N (N + 1) [] [] 60) (hb : Below wr.heap.size wr w2) : OT w w2 Sd N v d gb cap mm TH DG st c [] [] th := by
 have hl : ∀ q, Sd q → q < N := fun q hq => by rw [hn]; exact h.vol.dev.lt q hq
 have hm := h.vol.lt_m
 exact ⟨⟨by rw [h.len]; exact ht, VolP.below h.vol hb, ⟨fun e => by have := hl _ e; omega, fun e => by have := hl _ e; omega, fun e => by have := hl _ e; omega, by omega, by omega⟩⟩, h.so, h.len, grow_obj hb h.grid, grow_obj hb h.dirs, grow_trans h.bel hb, h.sd⟩
/-- The change is made sure. -/
theorem OT.commit (h : OT w wr Sd N v d gb cap mm TH DG st c L T th) (hB : OB w N v gb mm TH DG) (hk : Keeps (fun k => Sd k ∨ k = v ∨ k = mm ∨ k = gb ∨ k = N ∨ k = N + 1) wr w2) (ht : TxAt w2 (N + 2) v N (N + 1) [] [] st.bs.length) {Sd' : Nat → Prop} {c' : Nat} (hs : ∀ q, Sd' q → Sd q ∨ wr.heap.size ≤ q) (hv : VolS w2 Sd' v d 0 (shN 60) gb cap mm (commitV 0 (shN 60) L st) c') (h0 : ∀ k ∈ L.map (·.1), 0 ≤ k) :
 OT w w2 Sd' N v d gb cap mm TH DG (commitV 0 (shN 60) L st) c' [] [] th := by
 have hbs : (commitV 0 (shN 60) L st).bs = txV L st.bs := commitV_bs h0
 have hlen : (commitV 0 (shN 60) L st).bs.length = 60 := by rw [hbs, txV_length, h.len]
 have hgo : objAt wr TH = some (.cells (grC th) 107 (0, 0)) := h.grid
 have hdo : objAt wr DG = some (.cells dirsC 66 (0, 0)) := h.dirs
 obtain ⟨cs, hcs⟩ := VolP.neRow h.tx.vol
 have htn := block_lt h.tx.tx.obj
 have hTn : ∀ g, (∀ q, Sd q → q ≠ g) → g ≠ v → g ≠ mm → g ≠ gb → g < N → ¬ (Sd g ∨ g = v ∨ g = mm ∨ g = gb ∨ g = N ∨ g = N + 1) := fun g h1 h2 h3 h4 h5 e => by
  rcases e with e | e | e | e | e | e
  · exact h1 g e rfl
  · exact h2 e
  · exact h3 e
  · exact h4 e
  · omega
  · omega
 refine ⟨⟨by rw [hlen]; rw [h.len] at ht; exact ht, hv, ⟨fun e => ?_, fun e => ?_, fun e => ?_, h.tx.ap.nm⟩⟩, by rw [hbs]; exact ⟨by rw [txV_nil]; exact h.so.ok, by rw [txV_nil]; exact h.so.mem, by rw [txV_nil]; exact h.so.has, h.so.le⟩, hlen,
  hk.obj hgo (hTn TH (fun q hq => (h.sd q hq).2.1) (fun e => ne_of_obj h.tx.vol.o hgo (by decide) e.symm) (fun e => h.tx.vol.map.neObj hgo e.symm) (fun e => ne_of_obj hcs hgo (by decide) e.symm) hB.th.2),
  hk.obj hdo (hTn DG (fun q hq => (h.sd q hq).2.2) (fun e => ne_of_obj h.tx.vol.o hdo (by decide) e.symm) (fun e => h.tx.vol.map.neObj hdo e.symm) (fun e => ne_of_obj hcs hdo (by decide) e.symm) hB.dg.2),
  h.bel.trans (hk.below h.bel.size (fun q e => ?_)), fun q hq => ?_⟩
 · rcases hs _ e with e | e
   · exact h.tx.ap.nt e
   · omega
 · rcases hs _ e with e | e
   · exact h.tx.ap.np e
   · omega
 · rcases hs _ e with e | e
   · exact h.tx.ap.nk e
   · omega
 · have h1 := hB.v; have h2 := hB.gb; have h3 := hB.mm; have h4 := hB.th
   rcases e with e | e | e | e | e | e
   · exact (h.sd q e).1
   · omega
   · omega
   · omega
   · omega
   · omega
 · rcases hs q hq with e | e
   · exact h.sd q e
   · have h1 := h.bel.size; have h4 := hB.th; have h5 := hB.dg
     exact ⟨by omega, by omega, by omega⟩
end
end Go.Proofs.YtbbnejehglonjaaGreat
