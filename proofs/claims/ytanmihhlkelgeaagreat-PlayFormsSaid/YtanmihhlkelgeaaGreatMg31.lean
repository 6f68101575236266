/- DERIVED. Contracts and laws that the proofs of this seat share, part 31 of 32: PzK PzL LibB PyO PyQ. -/
import Derived.ProofKit
import Derived.OpenShut
import Derived.Deep.Slices
import Derived.Test.YtanmihhlkelgeaaGreatMg00
import Derived.Test.YtanmihhlkelgeaaGreatMg29
import Derived.Test.YtanmihhlkelgeaaGreatMg30
/- DERIVED. Contracts of trial.New, play.Run at a pick; clathrilaw28.begun returns true. -/
namespace Go.Proofs.YtanmihhlkelgeaaGreat
open Go.RowKit
attribute [local irreducible] Calls
set_option maxRecDepth 100000

set_option maxHeartbeats 4000000 in
theorem trialNew_ok (g cap : Nat) (w : World) (h : CfgAt w g) : Calls Tryz.prog 17 #[.slice (some ⟨g, 0, none⟩) 1 cap] w fun e w' => ∃ t p, e = .returned (.tuple #[.pointer (some ⟨t, 0, none⟩), .bool true]) ∧ TrAt w' t p ∧ Below w.heap.size w w' := by
  have HM := Lib.hid (sysMake_ok g cap w h)
  have H := Lib.hid h
  clear h
  go_enter Tryz.func17, Tryz.ntmps17
  go_upto_region 5 with (first
    | (go_at_call 27; refine HM.out.mono ?_; rintro e w1 ⟨d, S, rfl, hd, hS, b1⟩; have HC := Lib.hid (cloneCfg_ok g cap w1 (H.out.below b1)))
    | (go_at_call 28; refine HC.out.mono ?_; rintro e w2 ⟨g2, c2, rfl, hg2, hge2, b2⟩))
  obtain ⟨t, ht⟩ : ∃ t, t = w2.heap.size := ⟨_, rfl⟩
  obtain ⟨w3, hw3⟩ : ∃ w3, w3 = w2.alloc (.cells #[.slice (some ⟨g2, 0, none⟩) 1 c2, .pointer (some ⟨d, 0, none⟩), .pointer none, .pointer none] 86) := ⟨_, rfl⟩
  have hB3 : Below w2.heap.size w2 w3 := below_alloc hw3
  have hoT : objAt w3 t = some (.cells #[.slice (some ⟨g2, 0, none⟩) 1 c2, .pointer (some ⟨d, 0, none⟩), .pointer none, .pointer none] 86 (0, 0)) := by rw [ht]; exact obj_alloc hw3
  rw [← hw3, ← ht]
  have hlt : ∀ q, w1.heap.size ≤ q → ¬ S q := fun q hq e => by have := hd.lt q e; omega
  have htS : ¬ S t := hlt t (by rw [ht]; exact b2.size)
  have HN := Lib.hid (sysMount_ok (cap := c2) ((hd.below b2).below hB3) (by decide) (hg2.below hB3) (hlt g2 hge2))
  have a0 := cell_obj hoT 0
  have htw0 : w.heap.size ≤ t := by rw [ht]; exact (grow_trans b1 b2).size
  have H3 := Lib.hid (And.intro (grow_trans b1 (grow_trans b2 hB3)) (And.intro hoT (And.intro htS (And.intro hS htw0))))
  clear hB3 hoT htS hS hlt htw0 hw3 ht hd hg2 hge2 b1 b2
  go_wp2_with (go_at_call 29; refine HN.out.mono ?_; rintro e w4 ⟨p, rfl, hp4, k4⟩; have hT4 := k4.obj H3.out.2.1 H3.out.2.2.1; have q2 := cell_obj hT4 2; have f2 := free_obj hT4 2; have H4 := Lib.hid (And.intro hp4 (And.intro k4 hT4)); clear hp4 k4 hT4)
  go_ret2
  have hk5 : Keeps (fun q => q = t) w4 (w4.setCell ⟨t, 2, none⟩ (.pointer (some ⟨p, 0, none⟩))) := Keeps.setCell _ _ _ rfl
  have htw := block_lt H3.out.2.1
  refine ⟨t, p, rfl, ⟨⟨_, _, objAt_setCell H4.out.2.2 2 _⟩, H4.out.1.keeps hk5 (fun x e => by omega)⟩, ?_⟩
  exact (H3.out.1.trans (H4.out.2.1.below H3.out.1.size H3.out.2.2.2.1)).trans (hk5.below (Nat.le_trans H3.out.1.size H4.out.2.1.size) (fun q e => by have := H3.out.2.2.2.2; omega))
theorem trialNew_nil (w : World) : Calls Tryz.prog 17 #[.slice none 0 0] w fun e w' => e = .returned (.tuple #[.pointer none, .bool false]) ∧ w' = w := by
  go_enter Tryz.func17, Tryz.ntmps17
  go_wp2_with (go_at_call 27; refine (sysMake_nil _).mono ?_; rintro e wx ⟨rfl, hwx⟩; obtain rfl := hwx.symm)
  go_ret2
  exact ⟨rfl, rfl⟩
theorem playRun_nil (w : World) : Calls Tryz.prog 12 #[.slice none 0 0, .slice none 0 0] w fun e w' => e = .returned (.tuple #[.pointer none, .slice none 0 0, .bool false]) ∧ w' = w := by
  go_enter Tryz.func12, Tryz.ntmps12
  go_wp2_with (go_at_call 17; refine (trialNew_nil _).mono ?_; rintro e wx ⟨rfl, hwx⟩; obtain rfl := hwx.symm)
  go_ret3
  exact ⟨rfl, rfl⟩
theorem elemToldK : ElemK Tryz.prog 45 58 13 136 := ElemK.mk' (z := .agg #[.int .i64 0, .int .i64 0, .int .i64 0, .int .i64 0, .int .i64 0, .slice none 0 0, .int .i64 0, .int .i64 0, .int .u32 0, .int .i64 0, .int .i64 0, .int .i64 0, .slice none 0 0]) Tryz.underlying45 (by kernel_rfl) rfl (by decide) (by decide)
set_option maxHeartbeats 4000000 in
theorem playRun_ok (g cap : Nat) (ka : Option Addr) (lcap : Nat) (w : World) (h : CfgAt w g) (hl : StpsAt w w.heap.size ka [Stp.of 3 0]) : Calls Tryz.prog 12 #[.slice (some ⟨g, 0, none⟩) 1 cap, .slice ka 1 lcap] w fun e w' => ∃ t g2 c2, e = .returned (.tuple #[.pointer (some ⟨t, 0, none⟩), .slice (some ⟨g2, 0, none⟩) 1 c2, .bool true]) ∧ w'.cell? ⟨g2, 0, none⟩ = some (.int .i64 2) ∧ Below w.heap.size w w' := by
  have HN := Lib.hid (trialNew_ok g cap w h)
  have H := Lib.hid hl
  clear h hl
  go_enter Tryz.func12, Tryz.ntmps12
  go_wp2_with (go_at_call 17; refine HN.out.mono ?_; rintro e w2 ⟨t, p, rfl, ht, b2⟩)
  obtain ⟨kb, ko, ad, dc, k2, kc, rfl, hkb, hcs, _⟩ := (H.out.below b2 (Nat.le_refl _)) 0 _ rfl
  have y0 : w2.cell? ⟨kb, ko, none⟩ = some (.int .i64 3) := by have := hcs 0 _ rfl; rwa [Nat.zero_mul, Nat.zero_add] at this
  have y1 : w2.cell? ⟨kb, ko + 1, none⟩ = some (.int .i64 0) := by have := hcs 1 _ rfl; rwa [Nat.zero_mul, Nat.zero_add] at this
  have y2 : w2.cell? ⟨kb, ko + 2, none⟩ = some (.int .i64 0) := by have := hcs 2 _ rfl; rwa [Nat.zero_mul, Nat.zero_add] at this
  have y3 : w2.cell? ⟨kb, ko + 3, none⟩ = some (.string ⟨#[]⟩) := by have := hcs 3 _ rfl; rwa [Nat.zero_mul, Nat.zero_add] at this
  have y4 : w2.cell? ⟨kb, ko + 4, none⟩ = some (.string ⟨#[]⟩) := by have := hcs 4 _ rfl; rwa [Nat.zero_mul, Nat.zero_add] at this
  have y5 : w2.cell? ⟨kb, ko + 5, none⟩ = some (.int .i64 0) := by have := hcs 5 _ rfl; rwa [Nat.zero_mul, Nat.zero_add] at this
  have y6 : w2.cell? ⟨kb, ko + 6, none⟩ = some (.int .i64 0) := by have := hcs 6 _ rfl; rwa [Nat.zero_mul, Nat.zero_add] at this
  have y7 : w2.cell? ⟨kb, ko + 7, none⟩ = some (.int .i64 0) := by have := hcs 7 _ rfl; rwa [Nat.zero_mul, Nat.zero_add] at this
  have y8 : w2.cell? ⟨kb, ko + 8, none⟩ = some (.slice ad 0 dc) := by have := hcs 8 _ rfl; rwa [Nat.zero_mul, Nat.zero_add] at this
  have y9 : w2.cell? ⟨kb, ko + 9, none⟩ = some (.int .i64 0) := by have := hcs 9 _ rfl; rwa [Nat.zero_mul, Nat.zero_add] at this
  have ya : w2.cell? ⟨kb, ko + 10, none⟩ = some (.slice k2 0 kc) := by have := hcs 10 _ rfl; rwa [Nat.zero_mul, Nat.zero_add] at this
  have H2 := Lib.hid (And.intro ht b2)
  clear hcs ht b2 hkb
  refine wp_loop_rounds 2 ?_
  rw [rounds_succ]
  go_upto_region 8 with fail
  obtain ⟨Q, hQ⟩ : ∃ Q, Q = w2.heap.size := ⟨_, rfl⟩
  obtain ⟨w3, hw3⟩ : ∃ w3, w3 = w2.alloc (.cells #[.int .i64 3, .int .i64 0, .int .i64 0, .string ⟨#[]⟩, .string ⟨#[]⟩, .int .i64 0, .int .i64 0, .int .i64 0, .slice ad 0 dc, .int .i64 0, .slice k2 0 kc] 35) := ⟨_, rfl⟩
  have hB3 : Below w2.heap.size w2 w3 := below_alloc hw3
  have hoQ : objAt w3 Q = some (.cells #[.int .i64 3, .int .i64 0, .int .i64 0, .string ⟨#[]⟩, .string ⟨#[]⟩, .int .i64 0, .int .i64 0, .int .i64 0, .slice ad 0 dc, .int .i64 0, .slice k2 0 kc] 35 (0, 0)) := by rw [hQ]; exact obj_alloc hw3
  rw [← hw3, ← hQ]
  have HD := Lib.hid (Do_ok t p ad k2 dc kc w3 (H2.out.1.below hB3))
  have d0 := cell_obj hoQ 0
  have d1 := cell_obj hoQ 1
  have d2 := cell_obj hoQ 2
  have d3 := cell_obj hoQ 3
  have d4 := cell_obj hoQ 4
  have d5 := cell_obj hoQ 5
  have d6 := cell_obj hoQ 6
  have d7 := cell_obj hoQ 7
  have d8 := cell_obj hoQ 8
  have d9 := cell_obj hoQ 9
  have da := cell_obj hoQ 10
  have H3 := Lib.hid hB3
  clear hB3 hoQ hw3 hQ y0 y1 y2 y3 y4 y5 y6 y7 y8 y9 ya
  go_wp2_with (first
    | (go_at_call 18; refine HD.out.mono ?_; rintro e w5 ⟨rfl, b5⟩)
    | (refine list_lit1 elemToldK rfl _ rfl (by rfl) rfl (by decide) ?_; intro w6 hw6; have hB6 := below_alloc hw6; have ho6 := obj_alloc hw6; have H6 := Lib.hid (And.intro hB6 ho6); clear hw6 hB6 ho6)
    | (at_builtin; refine list_appM elemToldK rfl _ _ rfl rfl (World.ownsRow_nil _ w6.heap.size _ _) (m := 1) (news := [.int .i64 2, .int .i64 0, .int .i64 0, .int .i64 0, .int .i64 0, .slice none 0 0, .int .i64 0, .int .i64 0, .int .u32 0, .int .i64 0, .int .i64 0, .int .i64 0, .slice none 0 0]) rfl rfl (fun j u hj => by rw [add_off', Nat.zero_add]; exact (cell_obj H6.out.2 j).trans (by simpa using hj)) (by simp [Value.oneCell']) (by decide) (by decide) (Nat.le_refl _) ?_; intro g7 c7 w7 hw7 b7 hg7 hge7))
  rw [rounds_succ]
  go_wp2_with fail
  go_ret3
  refine ⟨t, g7, c7, rfl, ?_, ?_⟩
  · have := World.ownsRow.cells hw7 (g := g7) rfl 0 (.int .i64 2) rfl
    rwa [add_off', Nat.zero_add] at this
  · exact grow_trans (grow_trans (grow_trans (grow_trans H2.out.2 H3.out) b5) H6.out.1) b7
end Go.Proofs.YtanmihhlkelgeaaGreat

/- DERIVED. clathrilaw28.begun returns true. -/
namespace Go.Proofs.YtanmihhlkelgeaaGreat
open Go.RowKit
attribute [local irreducible] Calls
set_option maxRecDepth 100000

theorem decode_pick : decode [3, 0, 0] = [Stp.of 3 0] := by kernel_rfl
theorem encode_pick : encode [Stp.of 3 0] = [3, 0, 0] := by kernel_rfl
theorem fits_pick : ∀ s ∈ [Stp.of 3 0], s.fits := by
  intro s hs
  obtain rfl := List.mem_singleton.1 hs
  exact ⟨by decide, by decide, by decide, by decide, fun l hl => (by cases hl), by decide⟩
theorem StpsAt.grow {w w' : World} {ka : Option Addr} {ss : List Stp} (h : StpsAt w w.heap.size ka ss) (hb : Below w.heap.size w w') : StpsAt w' w'.heap.size ka ss := fun i s hs => by
  obtain ⟨kb, ko, ad, dc, k2, kc, h1, h2, h3, h4⟩ := (h.below hb (Nat.le_refl _)) i s hs
  exact ⟨kb, ko, ad, dc, k2, kc, h1, Nat.lt_of_lt_of_le h2 hb.size, h3, h4.up hb.size⟩
set_option maxHeartbeats 8000000 in
theorem begun_ok (w : World) : Calls Tryz.prog 7 #[] w fun e w' => e = .returned (.bool true) ∧ Below w.heap.size w w' := by
  have hB0 : Below w.heap.size w (w.alloc (.cells #[.int .u8 3, .int .u8 0, .int .u8 0] 5)) := grow_alloc (Below.refl _ _) _
  have hb0 : BytesAt (w.alloc (.cells #[.int .u8 3, .int .u8 0, .int .u8 0] 5)) (some ⟨w.heap.size, 0, none⟩) [3, 0, 0] := by
    have ho : objAt (w.alloc (.cells #[.int .u8 3, .int .u8 0, .int .u8 0] 5)) w.heap.size = some (.cells #[.int .u8 3, .int .u8 0, .int .u8 0] 5 (0, 0)) := by rw [objAt_alloc, if_pos rfl]
    refine ⟨w.heap.size, 0, fun _ => rfl, fun i hi => ?_⟩
    match i, hi with
    | 0, _ => exact cell_obj ho 0
    | 1, _ => exact cell_obj ho 1
    | 2, _ => exact cell_obj ho 2
    | i + 3, h => exact absurd h (by simp)
  have hd := decode_any (cap := 3) hb0 (fun e => by cases e) (by decide) (by decide) (fun ad e => by obtain rfl := Option.some.inj e; exact ⟨⟨_, 0, rfl⟩, by rw [size_alloc]; exact Nat.lt_succ_self _⟩)
  rw [decode_pick] at hd
  have HD := Lib.hid hd
  have HB := Lib.hid hB0
  clear hd hb0 hB0
  go_enter Tryz.func7, Tryz.ntmps7
  go_upto_region 3 with (first
    | (go_at_call 8; refine HD.out.mono ?_; rintro e w1 ⟨v1, rfl, hr1, b1⟩; obtain ⟨a1, c1, rfl, hat1⟩ := hr1.at_; have H1 := Lib.hid (And.intro hat1 b1); clear hr1 hat1 b1)
    | (refine list_lit1 elemShareK rfl _ rfl (by rfl) rfl (by decide) ?_; intro w2 hw2; have hB2 := below_alloc hw2; have ho2 := obj_alloc hw2; have H2 := Lib.hid (And.intro hB2 (CfgAt.of ho2)); clear hw2 hB2 ho2))
  obtain ⟨kb, ko, ad, dc, k2, kc, rfl, _, hcs, _⟩ := H1.out.1 0 _ rfl
  have y0 : w1.cell? ⟨kb, ko, none⟩ = some (.int .i64 3) := by have := hcs 0 _ rfl; rwa [Nat.zero_mul, Nat.zero_add] at this
  have HY := Lib.hid y0
  have HR := Lib.hid (playRun_ok w1.heap.size 1 (some ⟨kb, ko, none⟩) c1 w2 H2.out.2 (H1.out.1.grow H2.out.1))
  clear hcs y0
  go_upto_region 5 with (first
    | (go_at_call 12; refine HR.out.mono ?_; rintro e w3 ⟨t, g3, c3, rfl, hc3, b3⟩)
    | (go_at_call 12; refine (playRun_nil _).mono ?_; rintro e wx ⟨rfl, hwx⟩; obtain rfl := hwx.symm))
  have hB3 := grow_trans H2.out.1 b3
  have y0 := grow_cell hB3 HY.out
  have he := encode_any (cap := c1) (H1.out.1.grow hB3) fits_pick (by decide)
  rw [encode_pick] at he
  have HE := Lib.hid he
  have H3 := Lib.hid (And.intro hB3 hc3)
  clear he hB3 b3
  go_wp2_with (go_at_call 9; refine HE.out.mono ?_; rintro e w4 ⟨v4, rfl, hr4, b4⟩; obtain ⟨g4, c4, rfl, _, _⟩ := hr4.form (by decide); have y4 : (Go.convert 22 9 (.slice (some ⟨g4, 0, none⟩) 3 c4)).run Tryz.prog w4 = .ok (.string ⟨#[3, 0, 0]⟩) w4 := conv_at c4 (BRow.bytesAt hr4).1; replace hc3 := grow_cell b4 hc3; have H4 := Lib.hid b4; clear hr4 b4)
  go_ret
  exact ⟨rfl, grow_trans (grow_trans (grow_trans HB.out H1.out.2) H3.out.1) H4.out⟩
end Go.Proofs.YtanmihhlkelgeaaGreat

/- DERIVED. What the reading of an argument tells of memory: slices of whole numbers, of arrays of whole numbers. -/
namespace Go.Proofs.YtanmihhlkelgeaaGreat
open Go.RowKit Go.ChangeShapes Go.WideShapes Go.Deep

/-- n cells from a slice's address on hold the whole numbers f 0, f 1, ..; they lie below block B. -/
def Flat (k : IntKind) (w : World) (B : Nat) (a : Option Addr) (n : Nat) (f : Nat → Int) : Prop :=
  ∃ b off, (0 < n → a = some ⟨b, off, none⟩ ∧ b < B) ∧ ∀ i, i < n → w.cell? ⟨b, off + i, none⟩ = some (.int k (f i)) ∧ (Lit.int k (f i)).wf = true

theorem Flat.below {k : IntKind} {w w' : World} {B : Nat} {a : Option Addr} {n : Nat} {f : Nat → Int} (h : Flat k w B a n f) (hb : Below B w w') : Flat k w' B a n f := by
  obtain ⟨b, off, h1, h2⟩ := h
  refine ⟨b, off, h1, fun i hi => ⟨?_, (h2 i hi).2⟩⟩
  rw [hb.cell (p := ⟨b, off + i, none⟩) (h1 (by omega)).2]
  exact (h2 i hi).1

theorem spot_of_cell {w : World} {a : Addr} {v : Value} (h : w.cell? a = some v) : a = ⟨a.block, a.off, none⟩ := by
  obtain ⟨b, o, s⟩ := a
  cases s with
  | none => rfl
  | some s => unfold World.cell? at h; split at h <;> simp at h

theorem add_off (b off i : Nat) : (⟨b, off, none⟩ : Addr).add i = ⟨b, off + i, none⟩ := by
  unfold Addr.add; split
  · rename_i h; subst h; rfl
  · rfl

section
variable {H : Type} {enc : TypeId × Value → H} {P : Program} {w : World}

theorem lt_of_cell {a : Addr} {v : Value} (h : w.cell? a = some v) : a.block < w.heap.size := World.block_lt_of_cell? w a h

/-- A slice of whole numbers. -/
theorem flat_ints {t e : TypeId} {k : IntKind} {a : Option Addr} {len cap : Nat} {d : DataW H} {p : List MemPlace} (ht : P.underlying t = some (.slice e)) (he : P.underlying e = some (.int k)) (hc : P.cellsOf e = 1)
    (h : DataW.Trod enc P w 0 (fun _ => true) true t (.slice a len cap) d p) : len ≤ maxLen ∧ ∃ f, Flat k w w.heap.size a len f := by
  obtain ⟨fuel, hf⟩ := h
  rcases open_ints ht he hc hf with ⟨hcs, _⟩ | ⟨x, l, c, zs, hcs, _, hl, hm, hz, _, hcell, hwz⟩
  · simp [Value.cells] at hcs
    obtain ⟨rfl, rfl, rfl⟩ := hcs
    exact ⟨Nat.zero_le _, fun _ => 0, 0, 0, fun h => absurd h (Nat.lt_irrefl 0), fun i hi => absurd hi (Nat.not_lt_zero i)⟩
  · simp [Value.cells] at hcs
    obtain ⟨rfl, rfl, rfl⟩ := hcs
    have hz' : zs.length = cap := by simpa using hz
    refine ⟨by omega, fun i => zs.getD i 0, x.block, x.off, fun h0 => ?_, fun i hi => ?_⟩
    · have h1 := hcell 0 (by omega)
      have e0 : x.add 0 = x := rfl
      rw [e0] at h1
      exact ⟨congrArg some (spot_of_cell h1), lt_of_cell h1⟩
    · have h1 := hcell 0 (by omega)
      have e0 : x.add 0 = x := rfl
      rw [e0] at h1
      have hx := spot_of_cell h1
      have h2 := hcell i (by omega)
      rw [hx, add_off] at h2
      refine ⟨h2, hwz _ ?_⟩
      show zs.getD i 0 ∈ zs
      rw [List.getD_eq_getElem?_getD, List.getElem?_eq_getElem (by omega)]
      exact List.getElem_mem _

/-- A slice of arrays of m whole numbers. -/
theorem flat_arrays {t e e' : TypeId} {m : Nat} {k : IntKind} {a : Option Addr} {len cap : Nat} {d : DataW H} {p : List MemPlace} (ht : P.underlying t = some (.slice e)) (he : P.underlying e = some (.array m e')) (he' : P.underlying e' = some (.int k))
    (hc' : P.cellsOf e' = 1) (hc : P.cellsOf e = m) (hm : 0 < m)
    (h : DataW.Trod enc P w 0 (fun _ => true) true t (.slice a len cap) d p) : len ≤ maxLen ∧ ∃ f, Flat k w w.heap.size a (len * m) f := by
  obtain ⟨fuel, hf⟩ := h
  rcases open_slice ht hf with ⟨hcs, _⟩ | ⟨x, l, c, mm, n, D, Pl, hcs, _, hl, hml, hmm, _, hx⟩
  · simp [Value.cells] at hcs
    obtain ⟨rfl, rfl, rfl⟩ := hcs
    exact ⟨Nat.zero_le _, fun _ => 0, 0, 0, fun h => absurd h (by simp), fun i hi => absurd hi (by simp)⟩
  · simp [Value.cells] at hcs
    obtain ⟨rfl, rfl, rfl⟩ := hcs
    have hmc : mm = cap := by simpa using hmm
    have each : ∀ i, i < len → ∀ j, j < m → ∃ z, w.cell? (x.add (i * m + j)) = some (.int k z) ∧ (Lit.int k z).wf = true := by
      intro i hi j hj
      obtain ⟨cs', h1, h2⟩ := hx i (by omega)
      obtain ⟨_, h3, h4⟩ := World.cells?_some h1
      obtain ⟨xs, q, _, _, hl', hxl, hxe⟩ := DataW.trod_array he h2
      have h5 := hxe j hj
      rw [hc', List.getElem?_eq_getElem (by omega)] at h5
      obtain ⟨z, hz, _, hw⟩ := DataW.trod_int he' h5
      refine ⟨z, ?_, hw⟩
      have h6 := h4 j (by omega)
      rw [add_add, hc] at h6
      rw [h6]
      have h7 : (cs'.drop (j * 1)).head? = some (.int k z) := by
        have := congrArg List.head? hz
        rw [List.head?_take] at this
        simpa using this
      rw [List.head?_drop, Nat.mul_one] at h7
      exact h7
    refine ⟨by omega, ?_⟩
    rcases Nat.eq_zero_or_pos len with h0 | h0
    · subst h0
      exact ⟨fun _ => 0, 0, 0, fun h => absurd h (by simp), fun i hi => absurd hi (by simp)⟩
    · obtain ⟨z0, hz0, _⟩ := each 0 h0 0 hm
      have e0 : x.add (0 * m + 0) = x := by simp [Addr.add]
      rw [e0] at hz0
      have hx0 := spot_of_cell hz0
      have all : ∀ i, i < len * m → ∃ z, w.cell? ⟨x.block, x.off + i, none⟩ = some (.int k z) ∧ (Lit.int k z).wf = true := by
        intro i hi
        obtain ⟨z, hz, hw⟩ := each (i / m) (Nat.div_lt_of_lt_mul (by rwa [Nat.mul_comm] at hi)) (i % m) (Nat.mod_lt _ hm)
        rw [Nat.div_add_mod' i m] at hz
        rw [hx0, add_off] at hz
        exact ⟨z, hz, hw⟩
      obtain ⟨f, hf⟩ := choose_lt all
      exact ⟨f, x.block, x.off, fun _ => ⟨congrArg some hx0, lt_of_cell hz0⟩, hf⟩
end
end Go.Proofs.YtanmihhlkelgeaaGreat

/- DERIVED. Bytes that came in as an argument, bytes and steps of a row of one's own, as play's functions want them. -/
namespace Go.Proofs.YtanmihhlkelgeaaGreat
open Go.RowKit Go.ChangeShapes Go.WideShapes
attribute [local go_sem] hasBlk
attribute [local irreducible] Calls
set_option maxRecDepth 100000

/-- Bytes to be read. -/
structure BArg (w : World) (a : Option Addr) (l : List UInt8) (cap : Nat) : Prop where
  bytes : BytesAt w a l
  nil : a = none → l = [] ∧ cap = 0
  le : l.length ≤ cap
  at_ : ∀ ad, a = some ad → (∃ b off, ad = ⟨b, off, none⟩) ∧ ad.block < w.heap.size
theorem BArg.below {w w' : World} {a : Option Addr} {l : List UInt8} {cap : Nat} (h : BArg w a l cap) (hb : Below w.heap.size w w') : BArg w' a l cap :=
  ⟨h.bytes.below hb, h.nil, h.le, fun ad e => ⟨(h.at_ ad e).1, Nat.lt_of_lt_of_le (h.at_ ad e).2 hb.size⟩⟩
theorem shape_lt {w : World} {b : Nat} {x : TypeId × Nat} (h : w.shape? b = some x) : b < w.heap.size := by
  rcases Nat.lt_or_ge b w.heap.size with h' | h'
  · exact h'
  · simp [World.shape?, Array.getElem?_eq_none h'] at h
theorem slice_in {P : Program} {w : World} {r : Reach} {base : Nat} {t e : TypeId} {a : Addr} {len cap : Nat} (ht : P.underlying t = some (.slice e)) (h : Value.okWide P w r base t (.slice (some a) len cap)) : (∃ b off, a = ⟨b, off, none⟩) ∧ a.block < w.heap.size ∧ len ≤ cap := by
  simp only [Value.okWide, ht, Cell.okWide, Cell.ok, World.has] at h
  obtain ⟨h1, _, _, h2, row, cells, h3, _⟩ := h
  obtain ⟨b, o, s⟩ := a
  dsimp only at h2
  subst h2
  exact ⟨⟨b, o, rfl⟩, shape_lt h3, h1⟩
theorem slice_nil {P : Program} {w : World} {r : Reach} {base : Nat} {t e : TypeId} {len cap : Nat} (ht : P.underlying t = some (.slice e)) (h : Value.okWide P w r base t (.slice none len cap)) : len = 0 ∧ cap = 0 := by
  simp only [Value.okWide, ht, Cell.okWide] at h
  cases len <;> cases cap <;> simp_all [Cell.ok]
theorem bytes_of_flat {w : World} {B len : Nat} {a : Option Addr} {f : Nat → Int} (h : Flat .u8 w B a len f) : ∃ l : List UInt8, l.length = len ∧ BytesAt w a l := by
  obtain ⟨b, off, h1, h2⟩ := h
  refine ⟨(List.range len).map fun i => UInt8.ofNat (f i).toNat, by simp, b, off, fun h => (h1 (by simpa using h)).1, fun i hi => ?_⟩
  have hi' : i < len := by simpa using hi
  obtain ⟨h3, h4⟩ := h2 i hi'
  rw [h3]
  have hb : 0 ≤ f i ∧ f i ≤ 255 := by
    have := h4
    simp [Lit.wf, IntKind.min, IntKind.max] at this
    simpa [IntKind.bits, IntKind.signed] using this
  simp only [List.getElem_map, List.getElem_range]
  rw [UInt8.toNat_ofNat']
  congr 2
  omega
theorem barg_of {H : Type} {enc : TypeId × Value → H} {d : DataW H} {p : List MemPlace} {a : Option Addr} {len cap : Nat} {w : World} {base : Nat} (h : DataW.Trod enc Tryz.prog w 0 (fun _ => true) true 22 (.slice a len cap) d p) (hok : Value.okWide Tryz.prog w .any base 22 (.slice a len cap)) :
    ∃ l : List UInt8, l.length = len ∧ BArg w a l cap := by
  obtain ⟨_, f, hf⟩ := flat_ints Tryz.underlying22 Tryz.underlying5 (by kernel_rfl) h
  obtain ⟨l, hl, hb⟩ := bytes_of_flat hf
  cases a with
  | none =>
    obtain ⟨rfl, rfl⟩ := slice_nil Tryz.underlying22 hok
    exact ⟨l, hl, hb, fun _ => ⟨List.length_eq_zero_iff.1 hl, rfl⟩, by omega, fun ad e => by cases e⟩
  | some ad =>
    obtain ⟨h1, h2, h3⟩ := slice_in Tryz.underlying22 hok
    exact ⟨l, hl, hb, fun e => (by cases e), by omega, fun ad' e => by obtain rfl := Option.some.inj e; exact ⟨h1, h2⟩⟩
theorem BRow.arg {w : World} {B : Nat} {v : Value} {l : List UInt8} (h : BRow w B v l) : ∃ a cap, v = .slice a l.length cap ∧ BArg w a l cap := by
  rcases h.2 with ⟨h', h0⟩ | ⟨g, cap, cur, h', hb, hg, h1, h2, h3, h4⟩
  · obtain rfl := List.length_eq_zero_iff.1 h0
    exact ⟨none, 0, h', ⟨0, 0, fun h => absurd h (by simp), fun i hi => absurd hi (by simp)⟩, fun _ => ⟨rfl, rfl⟩, Nat.le_refl _, fun ad e => by cases e⟩
  · subst h'
    exact ⟨some ⟨g, 0, none⟩, cap, rfl, (BRow.bytesAt h).1, fun e => (by cases e), h1, fun ad e => by obtain rfl := Option.some.inj e; exact ⟨⟨g, 0, rfl⟩, block_lt hg⟩⟩
theorem BArg.take {w : World} {a : Option Addr} {l : List UInt8} {cap : Nat} (h : BArg w a l cap) (k : Nat) (hk : k ≤ l.length) (ha : a ≠ none) : BArg w a (l.take k) cap := by
  obtain ⟨b, off, h1, h2⟩ := h.bytes
  refine ⟨⟨b, off, fun h0 => h1 (by rw [List.length_take] at h0; omega), fun i hi => ?_⟩, fun e => absurd e ha, by rw [List.length_take]; have := h.le; omega, h.at_⟩
  have hi' : i < l.length := by rw [List.length_take] at hi; omega
  rw [h2 i hi', List.getElem_take]
theorem BArg.decode {w : World} {a : Option Addr} {l : List UInt8} {cap : Nat} (h : BArg w a l cap) (hl : l.length ≤ 900000) :
    Calls Tryz.prog 8 #[.slice a l.length cap] w fun e w' => ∃ v, e = .returned v ∧ RowS w' w.heap.size v (decode l) ∧ Below w.heap.size w w' := decode_any h.bytes h.nil h.le hl h.at_
theorem RowS.arg {w : World} {B : Nat} {v : Value} {ss : List Stp} (h : RowS w B v ss) : ∃ a c, v = .slice a ss.length c ∧ StpsAt w w.heap.size a ss ∧ ss.length ≤ c ∧ (a = none → ss = [] ∧ c = 0) := by
  obtain ⟨a, c, e, h1⟩ := h.at_
  obtain ⟨xs, h2, _⟩ := h.ex
  subst e
  refine ⟨a, c, rfl, h1, ?_⟩
  rcases h2.2 with ⟨h', h0⟩ | ⟨g, cap, cur, h', hb, hg, h3, _⟩
  · rw [Value.slice.injEq] at h'
    obtain ⟨rfl, h5, rfl⟩ := h'
    exact ⟨by omega, fun _ => ⟨List.length_eq_zero_iff.1 h5, rfl⟩⟩
  · rw [Value.slice.injEq] at h'
    obtain ⟨rfl, _, rfl⟩ := h'
    exact ⟨h3, fun e => by cases e⟩
theorem StpsAt.take {w : World} {W : Nat} {a : Option Addr} {ss : List Stp} (h : StpsAt w W a ss) (n : Nat) : StpsAt w W a (ss.take n) := fun i s hs => h i s (by
  rw [List.getElem?_take] at hs
  split at hs
  · exact hs
  · cases hs)
theorem fits_say {s : Stp} (h : Say s) : s.fits := by
  obtain ⟨_, h⟩ := h
  split at h
  · obtain ⟨⟨c1, c2⟩, h2, h3, h4⟩ := h
    rw [h4]
    exact ⟨by simp, by simp, by simp, by dsimp only; omega, fun l hl => (by have := h3 l hl; omega), by dsimp only; omega⟩
  · obtain ⟨_, h⟩ := h
    split at h
    · obtain ⟨_, h1, h2, _, _, _, h3, h4, h5⟩ := h
      exact ⟨by omega, by omega, by omega, by rw [h5]; decide, fun l hl => (by rw [h5] at hl; cases hl), by rw [h4]; decide⟩
    · rw [h]
      exact ⟨by simp [Stp.of], by simp [Stp.of], by simp [Stp.of], by simp [Stp.of], fun l hl => (by simp [Stp.of] at hl), by simp [Stp.of]⟩
theorem flat_len2 {ls : List (List UInt8)} (h : ∀ l ∈ ls, l.length < 256) : (ls.flatMap textW).length ≤ ls.length * 256 := by
  induction ls with
  | nil => simp
  | cons a ls ih =>
    rw [List.flatMap_cons, List.length_append, List.length_cons]
    have h1 := ih (fun l hl => h l (by simp [hl]))
    have h2 := h a (by simp)
    have h3 : (textW a).length = 1 + a.length := by unfold textW; rw [List.length_append, ihigh_length]
    omega
theorem say_len {s : Stp} (h : Say s) : (writeStp s).length ≤ 2100 := by
  obtain ⟨_, h⟩ := h
  unfold writeStp bodyW
  split at h
  · rename_i h5
    obtain ⟨_, h2, h3, _⟩ := h
    have := flat_len2 h3
    rw [if_pos h5]
    simp only [List.length_append, ihigh_length]; omega
  · rename_i h5
    rw [if_neg h5]
    obtain ⟨_, h⟩ := h
    split at h
    · rename_i h2
      obtain ⟨_, h1, h2', _, _, _, h3, _⟩ := h
      rw [if_pos h2]
      unfold textW
      simp only [List.length_append, ihigh_length]; omega
    · rename_i h2
      rw [if_neg h2]
      simp only [List.length_append, ihigh_length, List.length_nil]; omega
theorem encode_len2 {ss : List Stp} (h : ∀ s ∈ ss, Say s) : (encode ss).length ≤ ss.length * 2100 := by
  rw [encode_say h]
  induction ss with
  | nil => simp
  | cons s ss ih =>
    rw [List.flatMap_cons, List.length_append, List.length_cons]
    have h1 := ih (fun x hx => h x (by simp [hx]))
    have h2 := say_len (h s (by simp))
    omega
theorem encode_nil {ss : List Stp} (h : ∀ s ∈ ss, Say s) (h0 : encode ss = []) : ss = [] := by
  have := decode_all h
  rw [← encode_say h, h0] at this
  exact this.symm
end Go.Proofs.YtanmihhlkelgeaaGreat

/- DERIVED. Rows appended whole: many of so many cells, none too; rows of steps; bytes. -/
namespace Go.Proofs.YtanmihhlkelgeaaGreat
open Go.RowKit
attribute [local go_sem] hasBlk
attribute [local irreducible] Calls
set_option maxRecDepth 100000

section
variable {t e : TypeId} {k bytes : Nat} {o : Oper} {a : Act} {w : World} {K : Act → World → Prop} {Q : Exit → Act → World → Prop}
theorem wp_appN (E : ElemK Tryz.prog t e k bytes) (s x : Operand) (ho : o.op = .call { callee := .builtin .append, args := #[s, x], argTypes := #[t, t] })
    {base : Nat} {v : Value} {n : Nat} {xs : List Value} (hs : a.eval s = v) (hown : w.ownsRow base e k v n xs) {u : Option Addr} {m c : Nat} {news : List Value} (hx : a.eval x = .slice u m c) (hu : u = none → m = 0 ∧ c = 0) (hl : news.length = m * k) (hnews : ∀ ad, u = some ad → ∀ j y, news[j]? = some y → w.cell? (ad.add j) = some y) (h1 : ∀ y ∈ news, y.oneCell' = true)
    (hn : n + m ≤ 1000000) (hbase : base ≤ w.heap.size)
    (h : ∀ v' w', w'.ownsRow base e k v' (n + m) (xs ++ news) → Below base w w' → K (a.put o.dst v') w') : o.wp Tryz.prog a w K Q := by
  obtain ⟨i, z, hi, hz, hsz, hby, hzs⟩ := E.info
  have hle := E.le
  have hbb : (n + m) * bytes ≤ 1000000 * 1024 := Nat.mul_le_mul hn hle
  unfold Oper.wp execOp
  simp only [ho, resolve, invoke, builtin, Sem.run_bind, Sem.run_pure, Result.andThen_ok, List.map_toArray, List.map_cons, List.map_nil, hs, hx]
  cases u with
  | none =>
    obtain ⟨rfl, rfl⟩ := hu rfl
    have : news = [] := List.length_eq_zero_iff.1 (by rw [hl, Nat.zero_mul])
    subst this
    rw [run_append_owned_none (P := Tryz.prog) (w := w) base t o.type e i k E.ht hi v n xs hown]
    exact h v w (by rw [List.append_nil]; exact hown) (Below.refl _ _)
  | some ad =>
    obtain ⟨v', w', h3, h4, h5, _⟩ := run_append_own (P := Tryz.prog) w base t o.type e i z k bytes E.ht hi hz hsz hby hzs E.pos v n xs hown ad m c news hl (hnews ad rfl) h1 (by unfold maxLen; omega) (by omega) hbase
    rw [h3]
    exact h v' w' h4 ((Below.refl base w).grown h5 hbase (fun q hq => (World.ownsRow.lt hown q hq).1))
theorem list_appN (E : ElemK Tryz.prog t e k bytes) {ops : Array Oper} {rest : List Oper} (hgd : o.guard = none) (s x : Operand) (ho : o.op = .call { callee := .builtin .append, args := #[s, x], argTypes := #[t, t] })
    {base : Nat} {v : Value} {n : Nat} {xs : List Value} (hs : a.eval s = v) (hown : w.ownsRow base e k v n xs) {u : Option Addr} {m c : Nat} {news : List Value} (hx : a.eval x = .slice u m c) (hu : u = none → m = 0 ∧ c = 0) (hl : news.length = m * k) (hnews : ∀ ad, u = some ad → ∀ j y, news[j]? = some y → w.cell? (ad.add j) = some y) (h1 : ∀ y ∈ news, y.oneCell' = true)
    (hn : n + m ≤ 1000000) (hbase : base ≤ w.heap.size)
    (h : ∀ v' w', w'.ownsRow base e k v' (n + m) (xs ++ news) → Below base w w' → wpList Tryz.prog ops Q rest (a.put o.dst v') w') : wpList Tryz.prog ops Q (o :: rest) a w :=
  wpList_plain hgd fun _ hK => wp_appN E s x ho hs hown hx hu hl hnews h1 hn hbase fun v' w' h2 h3 => hK _ _ (h v' w' h2 h3)
theorem step_appN (E : ElemK Tryz.prog t e k bytes) {ops : Array Oper} {b0 : Act} {F : Prop} (hgd : o.guard = none) (s x : Operand) (ho : o.op = .call { callee := .builtin .append, args := #[s, x], argTypes := #[t, t] })
    {base : Nat} {v : Value} {n : Nat} {xs : List Value} (hs : a.eval s = v) (hown : w.ownsRow base e k v n xs) {u : Option Addr} {m c : Nat} {news : List Value} (hx : a.eval x = .slice u m c) (hu : u = none → m = 0 ∧ c = 0) (hl : news.length = m * k) (hnews : ∀ ad, u = some ad → ∀ j y, news[j]? = some y → w.cell? (ad.add j) = some y) (h1 : ∀ y ∈ news, y.oneCell' = true)
    (hn : n + m ≤ 1000000) (hbase : base ≤ w.heap.size)
    (h : ∀ v' w', w'.ownsRow base e k v' (n + m) (xs ++ news) → Below base w w' → K (a.put o.dst v') w') : if Region.wanted o (yielded ops b0.tmps) = true then Oper.wp Tryz.prog o a w K Q else F := by
  have hw : Region.wanted o (yielded ops b0.tmps) = true := by simp [Region.wanted, hgd]
  rw [if_pos hw]
  exact wp_appN E s x ho hs hown hx hu hl hnews h1 hn hbase h
end
theorem elemByteK : ElemK Tryz.prog 22 5 1 1 := ElemK.mk' (z := .int .u8 0) Tryz.underlying22 (by kernel_rfl) rfl (by decide) (by decide)
def byteV (l : List UInt8) : List Value := l.map fun c => Value.int .u8 (c.toNat : Int)
theorem byteV_one (l : List UInt8) : ∀ y ∈ byteV l, y.oneCell' = true := by
  intro y hy
  simp only [byteV, List.mem_map] at hy
  obtain ⟨c, _, rfl⟩ := hy; rfl
theorem BArg.cells {w : World} {a : Option Addr} {l : List UInt8} {cap : Nat} (h : BArg w a l cap) : ∀ ad, a = some ad → ∀ j y, (byteV l)[j]? = some y → w.cell? (ad.add j) = some y := by
  intro ad e j y hy
  obtain ⟨b, off, h1, h2⟩ := h.bytes
  simp only [byteV, List.getElem?_map, Option.map_eq_some_iff] at hy
  obtain ⟨c, hc, rfl⟩ := hy
  obtain ⟨hj, rfl⟩ := List.getElem?_eq_some_iff.1 hc
  have e2 := h1 (by omega)
  rw [e] at e2
  obtain rfl := Option.some.inj e2
  have := h2 j hj
  unfold Addr.add
  split
  · rename_i h0; subst h0; exact this
  · exact this
theorem BArg.none0 {w : World} {a : Option Addr} {l : List UInt8} {cap : Nat} (h : BArg w a l cap) : a = none → l.length = 0 ∧ cap = 0 := fun e => ⟨by rw [(h.nil e).1]; rfl, (h.nil e).2⟩

theorem step_emptyB {ops : Array Oper} {o : Oper} {a b0 : Act} {w : World} {K : Act → World → Prop} {Q : Exit → Act → World → Prop} {F : Prop} (hgd : o.guard = none) (ho : o.op = .buildSlice 22 0 #[])
    (h : ∀ g w', g = w.heap.size → w' = w.alloc (.cells #[] 5) → K (a.put o.dst (.slice (some ⟨g, 0, none⟩) 0 0)) w') :
    if Region.wanted o (yielded ops b0.tmps) = true then Oper.wp Tryz.prog o a w K Q else F := by
  have hw : Region.wanted o (yielded ops b0.tmps) = true := by simp [Region.wanted, hgd]
  rw [if_pos hw]
  unfold Oper.wp execOp
  have hr : (Instr.buildSlice 22 0 #[]).run Tryz.prog w = .ok (.slice (some ⟨w.heap.size, 0, none⟩) 0 0) (w.alloc (.cells #[] 5)) := by
    go_simp
  simp only [ho, List.map_toArray, List.map_nil, Sem.run_bind]
  rw [hr]
  exact h _ _ rfl rfl
/-! Rows of steps. -/
def stpL (s : Stp) (d k : Value) : List Value := [.int .i64 s.kind, .int .i64 s.n, .int .i64 s.ask, .string s.path, .string s.dest, .int .i64 s.an, .int .i64 s.off, .int .i64 s.len, d, .int .i64 s.cut, k]
theorem flat_ofG {k : Nat} (hk : 0 < k) : ∀ {xs : List (List Value)}, (∀ c ∈ xs, c.length = k) → ∀ {p : Nat} {u : Value}, xs.flatten[p]? = some u → ∃ c, xs[p / k]? = some c ∧ c[p % k]? = some u
  | [], _, p, u, h => by simp at h
  | x :: xs, hx, p, u, h => by
    have hl : x.length = k := hx x (by simp)
    rw [List.flatten_cons] at h
    by_cases hp : p < k
    · rw [List.getElem?_append_left (by omega)] at h
      exact ⟨x, by rw [Nat.div_eq_of_lt hp]; rfl, by rw [Nat.mod_eq_of_lt hp]; exact h⟩
    · rw [List.getElem?_append_right (by omega), hl] at h
      obtain ⟨c, h1, h2⟩ := flat_ofG hk (fun c hc => hx c (by simp [hc])) h
      have e1 : p / k = (p - k) / k + 1 := by rw [Nat.div_eq_sub_div hk (by omega)]
      have e2 : p % k = (p - k) % k := by rw [Nat.mod_eq_sub_mod (by omega)]
      exact ⟨c, by rw [e1]; exact h1, by rw [e2]; exact h2⟩
/-- The cells of steps, one behind the other. -/
structure StpC (w : World) (W : Nat) (ss : List Stp) (xs : List Value) : Prop where
  ex : ∃ cs : List (List Value), xs = cs.flatten ∧ cs.length = ss.length ∧ (∀ c ∈ cs, c.length = 11) ∧ ∀ (i : Nat) (s : Stp) (c : List Value), ss[i]? = some s → cs[i]? = some c → ∃ ad dc ka kc, c = stpL s (.slice ad s.data.length dc) (.slice ka s.keep.length kc) ∧ StpL w W s ad ka
theorem StpC.nil (w : World) (W : Nat) : StpC w W [] [] := ⟨[], rfl, rfl, fun c hc => (by cases hc), fun i s c h _ => (by simp at h)⟩
theorem StpC.len {w : World} {W : Nat} {ss : List Stp} {xs : List Value} (h : StpC w W ss xs) : xs.length = ss.length * 11 := by
  obtain ⟨cs, rfl, h1, h2, h3⟩ := h.ex
  rw [← h1]
  clear h1 h h3
  induction cs with
  | nil => rfl
  | cons c cs ih => rw [List.flatten_cons, List.length_append, ih (fun x hx => h2 x (by simp [hx])), h2 c (by simp), List.length_cons]; omega
theorem StpC.append {w : World} {W : Nat} {s1 s2 : List Stp} {x1 x2 : List Value} (h1 : StpC w W s1 x1) (h2 : StpC w W s2 x2) : StpC w W (s1 ++ s2) (x1 ++ x2) := by
  obtain ⟨c1, rfl, a1, b1, d1⟩ := h1.ex
  obtain ⟨c2, rfl, a2, b2, d2⟩ := h2.ex
  refine ⟨c1 ++ c2, by rw [List.flatten_append], by rw [List.length_append, List.length_append, a1, a2], fun c hc => ?_, fun i s c hs hc => ?_⟩
  · rcases List.mem_append.1 hc with h | h
    · exact b1 c h
    · exact b2 c h
  · by_cases hi : i < s1.length
    · rw [List.getElem?_append_left hi] at hs
      rw [List.getElem?_append_left (by omega)] at hc
      exact d1 i s c hs hc
    · rw [List.getElem?_append_right (by omega)] at hs
      rw [List.getElem?_append_right (by omega), a1] at hc
      exact d2 _ s c hs hc
theorem StpC.one {w : World} {W : Nat} {ss : List Stp} {xs : List Value} (h : StpC w W ss xs) : ∀ y ∈ xs, y.oneCell' = true := by
  obtain ⟨cs, rfl, h1, h2, h3⟩ := h.ex
  intro y hy
  obtain ⟨c, hc, hyc⟩ := List.mem_flatten.1 hy
  obtain ⟨i, hi, rfl⟩ := List.getElem_of_mem hc
  obtain ⟨ad, dc, ka, kc, e, _⟩ := h3 i ss[i] cs[i] (List.getElem?_eq_getElem (by omega)) (List.getElem?_eq_getElem hi)
  rw [e] at hyc
  simp only [stpL, List.mem_cons, List.not_mem_nil, or_false] at hyc
  rcases hyc with rfl | rfl | rfl | rfl | rfl | rfl | rfl | rfl | rfl | rfl | rfl <;> rfl
theorem StpC.keeps {w w' : World} {W : Nat} {ss : List Stp} {xs : List Value} (h : StpC w W ss xs) {T : Nat → Prop} (hk : Keeps T w w') (hT : ∀ q, T q → W ≤ q) (hW : W ≤ w.heap.size) : StpC w' W ss xs := by
  obtain ⟨cs, h1, h2, h3, h4⟩ := h.ex
  refine ⟨cs, h1, h2, h3, fun i s c hs hc => ?_⟩
  obtain ⟨ad, dc, ka, kc, e, hl⟩ := h4 i s c hs hc
  exact ⟨ad, dc, ka, kc, e, hl.keeps hk hT hW⟩
theorem StpsAt.cells {w : World} {W : Nat} {ka : Option Addr} {ss : List Stp} (h : StpsAt w W ka ss) : ∃ xs, StpC w W ss xs ∧ ∀ ad, ka = some ad → ∀ (j : Nat) (y : Value), xs[j]? = some y → w.cell? (ad.add j) = some y := by
  obtain ⟨f, hf⟩ := Go.Deep.choose_lt (α := List Value) (n := ss.length) (p := fun i c => ∀ s, ss[i]? = some s → c.length = 11 ∧ (∃ ad dc k2 kc, c = stpL s (.slice ad s.data.length dc) (.slice k2 s.keep.length kc) ∧ StpL w W s ad k2) ∧ ∃ kb ko, ka = some ⟨kb, ko, none⟩ ∧ ∀ j v, c[j]? = some v → w.cell? ⟨kb, ko + (i * 11 + j), none⟩ = some v) (fun i hi => by
    obtain ⟨kb, ko, ad, dc, k2, kc, h1, h2, h3, h4⟩ := h i ss[i] (List.getElem?_eq_getElem hi)
    refine ⟨stpL ss[i] (.slice ad ss[i].data.length dc) (.slice k2 ss[i].keep.length kc), fun s hs => ?_⟩
    rw [List.getElem?_eq_getElem hi] at hs
    obtain rfl := Option.some.inj hs
    exact ⟨rfl, ⟨ad, dc, k2, kc, rfl, h4⟩, kb, ko, h1, fun j v hv => h3 j v (by unfold stpCells; simpa [stpL] using hv)⟩)
  have hlen : ∀ c ∈ (List.range ss.length).map f, c.length = 11 := by
    intro c hc
    simp only [List.mem_map, List.mem_range] at hc
    obtain ⟨i, hi, rfl⟩ := hc
    exact (hf i hi ss[i] (List.getElem?_eq_getElem hi)).1
  refine ⟨((List.range ss.length).map f).flatten, ⟨(List.range ss.length).map f, rfl, by simp, hlen, fun i s c hs hc => ?_⟩, fun ad e j y hy => ?_⟩
  · obtain ⟨hi, _⟩ := List.getElem?_eq_some_iff.1 hs
    rw [List.getElem?_map, List.getElem?_range hi] at hc
    obtain rfl := Option.some.inj hc
    exact (hf i hi s hs).2.1
  · obtain ⟨c, h1, h2⟩ := flat_ofG (by decide) hlen hy
    rw [List.getElem?_map, Option.map_eq_some_iff] at h1
    obtain ⟨i, hi, rfl⟩ := h1
    obtain ⟨hi2, hi3⟩ := List.getElem?_eq_some_iff.1 hi
    rw [List.getElem_range] at hi3
    have hi4 : i < ss.length := by rw [← hi3]; simpa using hi2
    obtain ⟨kb, ko, h5, h6⟩ := (hf i hi4 ss[i] (List.getElem?_eq_getElem hi4)).2.2
    rw [e] at h5
    obtain rfl := Option.some.inj h5
    have := h6 _ _ h2
    rw [← hi3, Nat.div_add_mod' j 11] at this
    unfold Addr.add
    split
    · rename_i h0; subst h0; exact this
    · exact this
theorem StpC.row {w : World} {B W : Nat} {v : Value} {ss : List Stp} {xs : List Value} (h : StpC w W ss xs) (hown : w.ownsRow B 35 11 v ss.length xs) (hW : W ≤ w.heap.size) : ∃ a c, v = .slice a ss.length c ∧ StpsAt w w.heap.size a ss ∧ (a = none → ss = [] ∧ c = 0) := by
  rcases hown.2 with ⟨h', h0⟩ | ⟨g, cap, cur, h', hb, hg, h3, _⟩
  · have hn : ss = [] := List.length_eq_zero_iff.1 h0
    subst hn
    exact ⟨none, 0, h', fun i s hs => by simp at hs, fun _ => ⟨rfl, rfl⟩⟩
  · refine ⟨some ⟨g, 0, none⟩, cap, h', fun i s hs => ?_, fun e => by cases e⟩
    obtain ⟨cs, rfl, h1, h2, h4⟩ := h.ex
    obtain ⟨hi, _⟩ := List.getElem?_eq_some_iff.1 hs
    obtain ⟨ad, dc, ka, kc, e, hl⟩ := h4 i s cs[i] hs (List.getElem?_eq_getElem (by omega))
    refine ⟨g, 0, ad, dc, ka, kc, rfl, block_lt hg, fun j u hu => ?_, hl.up hW⟩
    rw [Nat.zero_add]
    have hu' : cs[i][j]? = some u := by rw [e]; unfold stpCells at hu; simpa [stpL] using hu
    have := World.ownsRow.cells hown (g := g) (by rw [h']; rfl) (i * 11 + j) u (flat_getG h2 (List.getElem?_eq_getElem (by omega)) hu')
    rwa [add_off', Nat.zero_add] at this
end Go.Proofs.YtanmihhlkelgeaaGreat
