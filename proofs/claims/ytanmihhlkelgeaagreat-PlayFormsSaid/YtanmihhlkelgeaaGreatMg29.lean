/- DERIVED. Contracts and laws that the proofs of this seat share, part 29 of 32: PzJ PyM. -/
import Derived.Test.YtanmihhlkelgeaaGreatMg25
import Derived.Test.YtanmihhlkelgeaaGreatMg28
/- DERIVED. Contracts of sys.Make, sys.Mount, trial.New at a config of one share; and at none. -/
namespace Go.Proofs.YtanmihhlkelgeaaGreat
open Go.RowKit
attribute [local irreducible] Calls
set_option maxRecDepth 100000

theorem elemStore1 : Elem1 Tryz.prog 98 105 8 := Elem1.mk' (z := .pointer none) Tryz.underlying98 (by kernel_rfl) rfl (by decide)
theorem elemBool1 : Elem1 Tryz.prog 102 4 1 := Elem1.mk' (z := .bool false) Tryz.underlying102 (by kernel_rfl) rfl (by decide)
set_option maxHeartbeats 2000000 in
theorem storeMake_ok {w : World} {Sd : Nat → Prop} {d c : Nat} {D : Dv} (h : DevAt w Sd d D c) (hL : D.has 0 sh0.size) (hc : c < 600000) : Calls Tryz.prog 36 #[.pointer (some ⟨d, 0, none⟩), .int .i64 0, .agg #[.int .i64 0, .int .i64 0, .int .i64 8, .int .i64 16, .int .i64 1]] w fun e w' => e = .returned (.bool true) ∧ DevStep Sd w w' d (makeD D 0 sh0) (c + 11) := by
  have hB0 : Below w.heap.size w (w.alloc (.cells #[.int .i64 0, .int .i64 0, .int .i64 8, .int .i64 16, .int .i64 1] 41)) := grow_alloc (Below.refl _ _) _
  have HM := Lib.hid (Make_any (h.below hB0) hL sh0_ok hc)
  have HB := Lib.hid hB0
  clear h hB0
  go_enter Tryz.func36, Tryz.ntmps36
  go_wp2_with (go_at_call 50; refine HM.out.mono ?_; rintro e w1 ⟨rfl, h1⟩)
  go_ret
  exact ⟨rfl, DevStep.pre HB.out h1⟩
set_option maxHeartbeats 4000000 in
theorem sysMake_ok (g cap : Nat) (w : World) (h : CfgAt w g) : Calls Tryz.prog 27 #[.slice (some ⟨g, 0, none⟩) 1 cap] w fun e w' => ∃ d S, e = .returned (.tuple #[.pointer (some ⟨d, 0, none⟩), .bool true]) ∧ DevAt w' S d dv1 11 ∧ (∀ q, S q → w.heap.size ≤ q) ∧ Below w.heap.size w w' := by
  have HS := Lib.hid (Sizes_ok g cap w h)
  have H := Lib.hid h
  clear h
  go_enter Tryz.func27, Tryz.ntmps27
  go_wp2_with (first
    | (go_at_call 35; refine HS.out.mono ?_; rintro e w1 ⟨a, c, rfl, hi, b1⟩; have HN := Lib.hid (DevNew_any a [26] c w1 hi (by decide) (by decide) (by decide)))
    | (go_at_call 34; refine HN.out.mono ?_; rintro e w2 ⟨d, rfl, hd, b2⟩))
  have hB2 := grow_trans b1 b2
  have h2 := H.out.below hB2
  have c0 := h2 0 _ rfl
  have c1 := h2 1 _ rfl
  have c2 := h2 2 _ rfl
  have c3 := h2 3 _ rfl
  have c4 := h2 4 _ rfl
  have hd2 : DevAt w2 (fun q => w1.heap.size ≤ q ∧ q < w2.heap.size) d ⟨[Reg.new 26], -1⟩ 0 := hd
  have hB3 : Below w2.heap.size w2 (w2.alloc (.cells #[.int .i64 0, .int .i64 0, .int .i64 8, .int .i64 16, .int .i64 1] 41)) := grow_alloc (Below.refl _ _) _
  have HM := Lib.hid (storeMake_ok (hd2.below hB3) ⟨Reg.new 26, rfl, by kernel_rfl⟩ (by decide))
  have H2 := Lib.hid (And.intro hB2 (And.intro hB3 b1))
  clear h2 hd hd2 hB2 hB3 b1 b2
  refine wp_loop_rounds 2 ?_
  rw [rounds_succ]
  go_wp2_with (go_at_call 36; refine HM.out.mono ?_; rintro e w3 ⟨rfl, h3⟩; have H3 := Lib.hid h3; clear h3)
  rw [rounds_succ]
  go_wp2_with fail
  go_ret2
  have hb1 := H2.out.2.2.size
  have hb2 := H2.out.1.size
  have hb3 := H2.out.2.1.size
  refine ⟨d, _, rfl, H3.out.dev, fun q hq => ?_, (H2.out.1.trans (H2.out.2.1.mono hb2)).trans (H3.out.keeps.below (Nat.le_trans hb2 hb3) (fun q e => Nat.le_trans hb1 e.1))⟩
  rcases hq.2 with e | e
  · exact Nat.le_trans hb1 e.1
  · exact Nat.le_trans (Nat.le_trans hb2 hb3) e
theorem sysMake_nil (w : World) : Calls Tryz.prog 27 #[.slice none 0 0] w fun e w' => e = .returned (.tuple #[.pointer none, .bool false]) ∧ w' = w := by
  go_enter Tryz.func27, Tryz.ntmps27
  go_wp2_with (first
    | (go_at_call 35; refine (Sizes_nil _).mono ?_; rintro e wx ⟨rfl, hwx⟩; obtain rfl := hwx.symm)
    | (go_at_call 34; refine (DevNew_nil _).mono ?_; rintro e wx ⟨rfl, hwx⟩; obtain rfl := hwx.symm))
  go_ret2
  exact ⟨rfl, rfl⟩
/-- A system all of whose blocks come from B on. -/
structure SysFrom (w : World) (B p : Nat) : Prop where
  ex : ∃ f q g1 c1 gq, objAt w p = some (.cells #[f, .pointer (some ⟨q, 0, none⟩), .slice (some ⟨g1, 0, none⟩) 1 c1] 104 (0, 0)) ∧ objAt w q = some (.cells #[.slice (some ⟨gq, 0, none⟩) 1 1] 128 (0, 0)) ∧ w.cell? ⟨gq, 0, none⟩ = some (.slice none 0 0) ∧ B ≤ p ∧ B ≤ q ∧ B ≤ gq
theorem SysFrom.keeps {w w' : World} {B p : Nat} {T : Nat → Prop} (h : SysFrom w B p) (hk : Keeps T w w') (hT : ∀ x, T x → x < B) : SysAt w' p := by
  obtain ⟨f, q, g1, c1, gq, h1, h2, h3, b1, b2, b3⟩ := h.ex
  have hn : ∀ x, B ≤ x → ¬ T x := fun x hx e => by have := hT x e; omega
  exact ⟨f, q, g1, c1, hk.obj h1 (hn _ b1), ⟨gq, hk.obj h2 (hn _ b2), (World.cell?_of_block (hk.block gq (World.block_lt_of_cell? _ _ h3) (hn _ b3))).trans h3⟩⟩
set_option maxHeartbeats 8000000 in
theorem sysMount_ok {w : World} {Sd : Nat → Prop} {d c g cap : Nat} (hd : DevAt w Sd d dv1 c) (hc : c < 600000) (h : CfgAt w g) (hgS : ¬ Sd g) : Calls Tryz.prog 29 #[.pointer (some ⟨d, 0, none⟩), .slice (some ⟨g, 0, none⟩) 1 cap] w fun e w' => ∃ p, e = .returned (.tuple #[.pointer (some ⟨p, 0, none⟩), .bool true]) ∧ SysFrom w' w.heap.size p ∧ Keeps Sd w w' := by
  have HM := Lib.hid (May_ok g cap w h)
  have H := Lib.hid (And.intro hd (And.intro h hgS))
  clear hd h hgS
  go_enter Tryz.func29, Tryz.ntmps29
  go_upto_region 5 with (first
    | (go_at_call 37; refine HM.out.mono ?_; rintro e w1 ⟨rfl, b1⟩; have hrg := (H.out.1.below b1).regions; rw [dv1_len] at hrg; have HR := Lib.hid hrg; clear hrg)
    | (go_at_call 38; refine HR.out.mono ?_; rintro e wx ⟨rfl, hwx⟩; obtain rfl := hwx.symm)
    | (go_at_call 39; refine (queueNew_ok _).mono ?_; rintro e w2 ⟨q, gq, rfl, hq, hqc, hq1, hq2, b2⟩))
  obtain ⟨p, hp⟩ : ∃ p, p = w2.heap.size := ⟨_, rfl⟩
  obtain ⟨w3, hw3⟩ : ∃ w3, w3 = w2.alloc (.cells #[.pointer none, .pointer (some ⟨q, 0, none⟩), .slice none 0 0] 104) := ⟨_, rfl⟩
  have hB3 : Below w.heap.size w w3 := grow_trans (grow_trans b1 b2) (below_alloc hw3)
  have hoP : objAt w3 p = some (.cells #[.pointer none, .pointer (some ⟨q, 0, none⟩), .slice none 0 0] 104 (0, 0)) := by rw [hp]; exact obj_alloc hw3
  have hQ : objAt w3 q = some (.cells #[.slice (some ⟨gq, 0, none⟩) 1 1] 128 (0, 0)) := grow_obj (below_alloc hw3) hq
  have hQc : w3.cell? ⟨gq, 0, none⟩ = some (.slice none 0 0) := grow_cell (below_alloc hw3) hqc
  have hpw : w.heap.size ≤ p := by rw [hp]; exact (grow_trans b1 b2).size
  have hqw : w.heap.size ≤ q := Nat.le_trans b1.size hq1
  have hgw : w.heap.size ≤ gq ∧ gq < p := ⟨Nat.le_trans b1.size hq2, by rw [hp]; exact World.block_lt_of_cell? _ _ hqc⟩
  rw [← hw3, ← hp]
  have h3 := H.out.2.1.below hB3
  have c0 := h3 0 _ rfl
  have c1 := h3 1 _ rfl
  have c2 := h3 2 _ rfl
  have c3 := h3 3 _ rfl
  have c4 := h3 4 _ rfl
  have hB4 : Below w3.heap.size w3 (w3.alloc (.cells #[.int .i64 0, .int .i64 0, .int .i64 8, .int .i64 16, .int .i64 1] 41)) := grow_alloc (Below.refl _ _) _
  have HO := Lib.hid (Open_ok ((H.out.1.below hB3).below hB4) hc)
  have H3 := Lib.hid (And.intro hB3 (And.intro hoP (And.intro (And.intro hQ hQc) (And.intro hpw (And.intro hqw (And.intro hgw hB4))))))
  clear hB3 hB4 hoP hQ hQc hpw hqw hgw h3 hw3 hp hq hqc hq1 hq2 b1 b2
  go_wp2_with fail
  refine wp_loop_rounds 2 ?_
  rw [rounds_succ]
  go_upto_region 9 with (go_at_call 40; refine HO.out.mono ?_; rintro e w5 ⟨so, rfl, k5⟩)
  have hn : ∀ x, w.heap.size ≤ x → ¬ Sd x := fun x hx e => by have := H.out.1.lt x e; omega
  have hP5 := k5.obj (grow_obj H3.out.2.2.2.2.2.2 H3.out.2.1) (hn _ H3.out.2.2.2.1)
  have hQ5 := k5.obj (grow_obj H3.out.2.2.2.2.2.2 H3.out.2.2.1.1) (hn _ H3.out.2.2.2.2.1)
  have hC5 := (World.cell?_of_block (k5.block gq (World.block_lt_of_cell? _ _ (grow_cell H3.out.2.2.2.2.2.2 H3.out.2.2.1.2)) (hn _ H3.out.2.2.2.2.2.1.1))).trans (grow_cell H3.out.2.2.2.2.2.2 H3.out.2.2.1.2)
  have hK5 : Keeps Sd w w5 := (Keeps.of_below (H3.out.1.trans (H3.out.2.2.2.2.2.2.mono H3.out.1.size))).chain k5 (fun q _ e => e)
  have h5 : CfgAt w5 g := fun j v hv => (World.cell?_of_block (hK5.block g (World.block_lt_of_cell? _ _ (H.out.2.1 j v hv)) H.out.2.2)).trans (H.out.2.1 j v hv)
  have H5 := Lib.hid (And.intro hP5 (And.intro (And.intro hQ5 hC5) (And.intro hK5 h5)))
  clear hP5 hQ5 hC5 hK5 h5 k5 hn c0 c1 c2 c3 c4
  go_upto_region 10 with (at_builtin; refine wpList_app1 elemStore1 rfl _ _ rfl (World.ownsRow_nil _ w5.heap.size _ _) rfl _ (.pointer (some ⟨so, 0, none⟩)) rfl (by simp) rfl (by decide) (by simp) ?_; intro v6 w6 r6 g6 b6)
  obtain ⟨gs, cs, rfl, hgs5, _⟩ := World.ownsRow.form r6 (by decide)
  have hcs := World.ownsRow.cells r6 (g := gs) rfl 0 _ rfl
  rw [add_off', Nat.zero_add] at hcs
  have hB6 : Below w5.heap.size w5 w6 := (grow_alloc (Below.refl _ _) _).trans b6
  have hP6 := grow_obj hB6 H5.out.1
  have HB6 := Lib.hid (And.intro hB6 (And.intro hcs hgs5))
  have q2 := cell_obj hP6 2
  have HP6 := Lib.hid hP6
  clear hB6 hcs hP6 r6 g6 b6 hgs5
  go_wp2_with (at_builtin; refine wpList_app1 elemBool1 rfl _ _ rfl (World.ownsRow_nil _ w6.heap.size _ _) rfl _ (.bool false) rfl (by simp) rfl (by decide) (by simp) ?_; intro v7 w7 r7 g7 b7; obtain ⟨gt, ct, rfl, _, _⟩ := World.ownsRow.form r7 (by decide); have hB7 : Below w6.heap.size w6 w7 := (grow_alloc (Below.refl _ _) _).trans b7; have hP7 := grow_obj hB7 HP6.out; have q2 := cell_obj hP7 2; have f2 := free_obj hP7 2; have H7 := Lib.hid (And.intro hB7 hP7); clear hB7 hP7 r7 g7 b7)
  have hP8 := objAt_setCell H7.out.2 2 (.slice (some ⟨gt, 0, none⟩) 1 ct)
  have hk8 : Keeps (fun q => q = p) w7 (w7.setCell ⟨p, 2, none⟩ (.slice (some ⟨gt, 0, none⟩) 1 ct)) := Keeps.setCell _ _ _ rfl
  have hB57 := grow_trans HB6.out.1 H7.out.1
  have hpq : q ≠ p := ne_of_obj H5.out.2.1.1 H5.out.1 (by decide)
  have hp5 := block_lt H5.out.1
  have hP8' : objAt (w7.setCell ⟨p, 2, none⟩ (.slice (some ⟨gt, 0, none⟩) 1 ct)) p = some (.cells #[.pointer none, .pointer (some ⟨q, 0, none⟩), .slice (some ⟨gt, 0, none⟩) 1 ct] 104 (0, 0)) := hP8
  have hQ8 := hk8.obj (grow_obj hB57 H5.out.2.1.1) hpq
  have hC8 := (World.cell?_of_block (hk8.block gq (World.block_lt_of_cell? _ _ (grow_cell hB57 H5.out.2.1.2)) (fun e => by have := H3.out.2.2.2.2.2.1.2; omega))).trans (grow_cell hB57 H5.out.2.1.2)
  have hg8 : CfgAt (w7.setCell ⟨p, 2, none⟩ (.slice (some ⟨gt, 0, none⟩) 1 ct)) g := fun j v hv => by
    have hc := grow_cell hB57 (H5.out.2.2.2 j v hv)
    have hgw := World.block_lt_of_cell? _ _ (H.out.2.1 j v hv)
    exact (World.cell?_of_block (hk8.block g (World.block_lt_of_cell? _ _ hc) (fun e => by have := H3.out.2.2.2.1; dsimp only at hgw; omega))).trans hc
  have hs8 := (World.cell?_of_block (hk8.block gs (World.block_lt_of_cell? _ _ (grow_cell H7.out.1 HB6.out.2.1)) (fun e => by have := HB6.out.2.2; omega))).trans (grow_cell H7.out.1 HB6.out.2.1)
  have hK8 : Keeps Sd w (w7.setCell ⟨p, 2, none⟩ (.slice (some ⟨gt, 0, none⟩) 1 ct)) := (H5.out.2.2.1.trans (Keeps.of_below hB57)).chain hk8 (fun q hq e => by have := H3.out.2.2.2.1; omega)
  obtain ⟨w8, hw8⟩ : ∃ w8, w8 = w7.setCell ⟨p, 2, none⟩ (.slice (some ⟨gt, 0, none⟩) 1 ct) := ⟨_, rfl⟩
  rw [← hw8] at hP8' hQ8 hC8 hg8 hs8 hK8
  rw [← hw8]
  have HV := Lib.hid (vfsNew_ok g cap gs cs (some ⟨so, 0, none⟩) w8 hg8 hs8)
  have H8 := Lib.hid (And.intro hP8' (And.intro hQ8 (And.intro hC8 hK8)))
  clear hP8 hP8' hQ8 hC8 hg8 hs8 hK8 hk8 hB57 hpq hp5 hw8 q2 f2
  rw [rounds_succ]
  go_wp2_with (go_at_call 41; refine HV.out.mono ?_; rintro e w9 ⟨fp, rfl, b9⟩; have hP9 := grow_obj b9 H8.out.1; have q0 := cell_obj hP9 0; have f0 := free_obj hP9 0)
  go_ret2
  have hk10 : Keeps (fun q => q = p) w9 (w9.setCell ⟨p, 0, none⟩ (.pointer (some ⟨fp, 0, none⟩))) := Keeps.setCell _ _ _ rfl
  have hpq : q ≠ p := ne_of_obj H8.out.2.1 H8.out.1 (by decide)
  refine ⟨p, rfl, ⟨_, q, gt, ct, gq, objAt_setCell hP9 0 _, hk10.obj (grow_obj b9 H8.out.2.1) hpq, ?_, H3.out.2.2.2.1, H3.out.2.2.2.2.1, H3.out.2.2.2.2.2.1.1⟩, ?_⟩
  · exact (World.cell?_of_block (hk10.block gq (World.block_lt_of_cell? _ _ (grow_cell b9 H8.out.2.2.1)) (fun e => by have := H3.out.2.2.2.2.2.1.2; omega))).trans (grow_cell b9 H8.out.2.2.1)
  · exact (H8.out.2.2.2.trans (Keeps.of_below b9)).chain hk10 (fun q hq e => by have := H3.out.2.2.2.1; omega)
end Go.Proofs.YtanmihhlkelgeaaGreat

/- DERIVED. Contract of clathriref28.SameStep. -/
namespace Go.Proofs.YtanmihhlkelgeaaGreat
open Go.RowKit
attribute [local irreducible] Calls
set_option maxRecDepth 100000

theorem stpEq_no {s1 s2 : Stp} (h : s1 ≠ s2) : stpEq s1 s2 = false := by
  cases e : stpEq s1 s2 with
  | false => rfl
  | true => exact absurd (stpEq_iff.1 e) h
set_option maxHeartbeats 8000000 in
theorem sameStep_any {w : World} (s1 s2 : Stp) {a1 a2 k1 k2 : Option Addr} {c1 c2 e1 e2 : Nat} (h1 : BytesAt w a1 s1.data) (h2 : BytesAt w a2 s2.data) (g1 : KeepAt w k1 s1.keep) (g2 : KeepAt w k2 s2.keep) (hl : s1.keep.length ≤ 1000000) :
    Calls Tryz.prog 11 #[.agg (stpCells s1 (.slice a1 s1.data.length c1) (.slice k1 s1.keep.length e1)), .agg (stpCells s2 (.slice a2 s2.data.length c2) (.slice k2 s2.keep.length e2))] w fun e w' => e = .returned (.bool (stpEq s1 s2)) ∧ Below w.heap.size w w' := by
  have hB : Below w.heap.size w ((w.alloc (.cells (stpCells s1 (.slice a1 s1.data.length c1) (.slice k1 s1.keep.length e1)) 35)).alloc (.cells (stpCells s2 (.slice a2 s2.data.length c2) (.slice k2 s2.keep.length e2)) 35)) := grow_alloc (grow_alloc (Below.refl _ _) _) _
  have hg1 := g1.below hB
  have hg2 := g2.below hB
  have HK := Lib.hid (And.intro hg1 (And.intro hg2 (And.intro hl (And.intro (h1.below hB) (h2.below hB)))))
  have HB := Lib.hid hB
  clear hB h1 h2 g1 g2 hg1 hg2 hl
  unfold stpCells at *
  by_cases q0 : s1.kind = s2.kind
  · have z0 : (s1.kind != s2.kind) = false := by rw [q0]; simp
    by_cases q1 : s1.n = s2.n
    · have z1 : (s1.n != s2.n) = false := by rw [q1]; simp
      by_cases q2 : s1.cut = s2.cut
      · have z2 : (s1.cut != s2.cut) = false := by rw [q2]; simp
        by_cases q3 : s1.keep.length = s2.keep.length
        · have z3 : ((s1.keep.length : Int) != (s2.keep.length : Int)) = false := by rw [q3]; simp
          have HQ := Lib.hid (And.intro q0 (And.intro q1 (And.intro q2 q3)))
          clear q0 q1 q2 q3
          obtain ⟨G, hG⟩ : ∃ G, G = w.heap.size := ⟨_, rfl⟩
          have ho1 : objAt ((w.alloc (.cells #[.int .i64 s1.kind, .int .i64 s1.n, .int .i64 s1.ask, .string s1.path, .string s1.dest, .int .i64 s1.an, .int .i64 s1.off, .int .i64 s1.len, .slice a1 s1.data.length c1, .int .i64 s1.cut, .slice k1 s1.keep.length e1] 35)).alloc (.cells #[.int .i64 s2.kind, .int .i64 s2.n, .int .i64 s2.ask, .string s2.path, .string s2.dest, .int .i64 s2.an, .int .i64 s2.off, .int .i64 s2.len, .slice a2 s2.data.length c2, .int .i64 s2.cut, .slice k2 s2.keep.length e2] 35)) G = some (.cells #[.int .i64 s1.kind, .int .i64 s1.n, .int .i64 s1.ask, .string s1.path, .string s1.dest, .int .i64 s1.an, .int .i64 s1.off, .int .i64 s1.len, .slice a1 s1.data.length c1, .int .i64 s1.cut, .slice k1 s1.keep.length e1] 35 (0, 0)) := by rw [hG, objAt_alloc, if_neg (by simp), objAt_alloc, if_pos rfl]
          have ho2 : objAt ((w.alloc (.cells #[.int .i64 s1.kind, .int .i64 s1.n, .int .i64 s1.ask, .string s1.path, .string s1.dest, .int .i64 s1.an, .int .i64 s1.off, .int .i64 s1.len, .slice a1 s1.data.length c1, .int .i64 s1.cut, .slice k1 s1.keep.length e1] 35)).alloc (.cells #[.int .i64 s2.kind, .int .i64 s2.n, .int .i64 s2.ask, .string s2.path, .string s2.dest, .int .i64 s2.an, .int .i64 s2.off, .int .i64 s2.len, .slice a2 s2.data.length c2, .int .i64 s2.cut, .slice k2 s2.keep.length e2] 35)) (G + 1) = some (.cells #[.int .i64 s2.kind, .int .i64 s2.n, .int .i64 s2.ask, .string s2.path, .string s2.dest, .int .i64 s2.an, .int .i64 s2.off, .int .i64 s2.len, .slice a2 s2.data.length c2, .int .i64 s2.cut, .slice k2 s2.keep.length e2] 35 (0, 0)) := by rw [hG, objAt_alloc, size_alloc, if_pos rfl]
          obtain ⟨w2, hw2⟩ : ∃ w2, w2 = (w.alloc (.cells #[.int .i64 s1.kind, .int .i64 s1.n, .int .i64 s1.ask, .string s1.path, .string s1.dest, .int .i64 s1.an, .int .i64 s1.off, .int .i64 s1.len, .slice a1 s1.data.length c1, .int .i64 s1.cut, .slice k1 s1.keep.length e1] 35)).alloc (.cells #[.int .i64 s2.kind, .int .i64 s2.n, .int .i64 s2.ask, .string s2.path, .string s2.dest, .int .i64 s2.an, .int .i64 s2.off, .int .i64 s2.len, .slice a2 s2.data.length c2, .int .i64 s2.cut, .slice k2 s2.keep.length e2] 35) := ⟨_, rfl⟩
          rw [← hw2] at ho1 ho2 HK HB
          have HW := Lib.hid (And.intro hG hw2)
          have HO := Lib.hid (And.intro ho1 ho2)
          clear hG hw2 ho1 ho2
          go_enter Tryz.func11, Tryz.ntmps11
          go_upto_region 1 with fail
          rw [← HW.out.2, ← HW.out.1]
          have b0 := cell_obj HO.out.1 0
          have b1 := cell_obj HO.out.1 1
          have b9 := cell_obj HO.out.1 9
          have b10 := cell_obj HO.out.1 10
          have d0 := cell_obj HO.out.2 0
          have d1 := cell_obj HO.out.2 1
          have d9 := cell_obj HO.out.2 9
          have d10 := cell_obj HO.out.2 10
          go_upto_region 3 with fail
          clear b0 b1 b9 b10 d0 d1 d9 d10 z0 z1 z2 z3
          go_wp2_with fail
          go_loopw [5] (fun i wr => ∃ k : Nat, k ≤ s1.keep.length ∧ i = .int .i64 k ∧ s1.keep.take k = s2.keep.take k ∧ Below w2.heap.size w2 wr) (fun i _ => s1.keep.length - (Go.RowKit.intOf i).toNat)
          case atStart => exact ⟨0, Nat.zero_le _, rfl, rfl, Below.refl _ _⟩
          case round =>
            obtain ⟨k, hk, rfl, ht, hb⟩ := hrel
            have b10 : wr.cell? ⟨G, 10, none⟩ = some (.slice k1 s1.keep.length e1) := cell_obj (grow_obj hb HO.out.1) 10
            have d10 : wr.cell? ⟨G + 1, 10, none⟩ = some (.slice k2 s2.keep.length e2) := cell_obj (grow_obj hb HO.out.2) 10
            by_cases hlt : k < s1.keep.length
            · obtain ⟨x, hx⟩ : ∃ x, s1.keep[k]? = some x := ⟨_, List.getElem?_eq_getElem hlt⟩
              obtain ⟨y, hy⟩ : ∃ y, s2.keep[k]? = some y := ⟨_, List.getElem?_eq_getElem (by rw [← HQ.out.2.2.2]; exact hlt)⟩
              obtain ⟨kb1, ko1, p1, f1, rfl, cc1, bb1⟩ := (HK.out.1.below hb) k x hx
              obtain ⟨kb2, ko2, p2, f2, rfl, cc2, bb2⟩ := (HK.out.2.1.below hb) k y hy
              have hlt' : (k : Int) < (s1.keep.length : Int) := by omega
              have hlt2 : (k : Int) < (s2.keep.length : Int) := by rw [← HQ.out.2.2.2]; exact hlt'
              have hlt2n : k < s2.keep.length := by rw [← HQ.out.2.2.2]; exact hlt
              have hd : Below wr.heap.size wr wr.drew := (Below.refl _ _).drew
              have v1 := conv_at f1 (bb1.below hd)
              have v2 := conv_at f2 (bb2.below hd)
              have HX := Lib.hid (And.intro hx (And.intro hy (And.intro ht hb)))
              have hk1 := HK.out.2.2.1
              clear hx hy ht hb bb1 bb2 hd
              go_upto_region 6 with fail
              refine wp_region_held_drew (S := fun w' => w'.cell? ⟨G, 10, none⟩ = some (.slice (some ⟨kb1, ko1, none⟩) s1.keep.length e1) ∧ w'.cell? ⟨G + 1, 10, none⟩ = some (.slice (some ⟨kb2, ko2, none⟩) s2.keep.length e2) ∧ w'.cell? ⟨kb1, ko1 + k, none⟩ = some (.slice p1 x.length f1) ∧ w'.cell? ⟨kb2, ko2 + k, none⟩ = some (.slice p2 y.length f2) ∧ (Go.convert 22 9 (.slice p1 x.length f1)).run Tryz.prog w' = .ok (.string ⟨x.toArray⟩) w' ∧ (Go.convert 22 9 (.slice p2 y.length f2)).run Tryz.prog w' = .ok (.string ⟨y.toArray⟩) w' ∧ True) (by kernel_rfl) (⟨b10, d10, cc1, cc2, v1, v2, trivial⟩) (fun hHeld => ?_)
              show wpAnyH _ _ _ _ _ 13 #[false, false, false, false, false, false, false, false, false, false, false, false, false] _ _
              refine wpAnyH_take (i := 0) (v := ?kv1) rfl (by kernel_rfl) (by kernel_rfl) (by kernel_rfl) (fun _ _ _ h => h) (Or.inl ⟨by rfl, ?ky1⟩) (by assumption) ?kr1
              case ky1 => (intro w hSw; (try dsimp only at hSw); go_split_ands; (try simp only [List.getElem_toArray, List.getElem_cons_zero]); go_simp; (try with_reducible rfl))
              try simp only [Act.put, List.getElem_toArray, List.getElem_cons_zero, List.setIfInBounds_toArray, List.set_cons_zero, List.set_cons_succ]
              refine wpAnyH_take (i := 1) (v := ?kv2) rfl (by kernel_rfl) (by kernel_rfl) (by kernel_rfl) (fun _ _ _ h => h) (Or.inl ⟨by rfl, ?ky2⟩) (by assumption) ?kr2
              case ky2 => (intro w hSw; (try dsimp only at hSw); go_split_ands; (try simp only [List.getElem_toArray, List.getElem_cons_zero, List.getElem_cons_succ]); go_simp; (try with_reducible rfl))
              try simp only [Act.put, List.getElem_toArray, List.getElem_cons_zero, List.getElem_cons_succ, List.setIfInBounds_toArray, List.set_cons_zero, List.set_cons_succ]
              refine wpAnyH_take (i := 2) (v := ?kv3) rfl (by kernel_rfl) (by kernel_rfl) (by kernel_rfl) (fun _ _ _ h => h) (Or.inl ⟨by rfl, ?ky3⟩) (by assumption) ?kr3
              case ky3 => (intro w hSw; (try dsimp only at hSw); go_split_ands; (try simp only [List.getElem_toArray, List.getElem_cons_zero, List.getElem_cons_succ]); go_simp; (try with_reducible rfl))
              try simp only [Act.put, List.getElem_toArray, List.getElem_cons_zero, List.getElem_cons_succ, List.setIfInBounds_toArray, List.set_cons_zero, List.set_cons_succ]
              refine wpAnyH_take (i := 3) (v := ?kv4) rfl (by kernel_rfl) (by kernel_rfl) (by kernel_rfl) (fun _ _ _ h => h) (Or.inl ⟨by rfl, ?ky4⟩) (by assumption) ?kr4
              case ky4 => (intro w hSw; (try dsimp only at hSw); go_split_ands; (try simp only [List.getElem_toArray, List.getElem_cons_zero, List.getElem_cons_succ]); go_simp; (try with_reducible rfl))
              try simp only [Act.put, List.getElem_toArray, List.getElem_cons_zero, List.getElem_cons_succ, List.setIfInBounds_toArray, List.set_cons_zero, List.set_cons_succ]
              refine wpAnyH_take (i := 4) (v := ?kv5) rfl (by kernel_rfl) (by kernel_rfl) (by kernel_rfl) (fun _ _ _ h => h) (Or.inl ⟨by rfl, ?ky5⟩) (by assumption) ?kr5
              case ky5 => (intro w hSw; (try dsimp only at hSw); go_split_ands; (try simp only [List.getElem_toArray, List.getElem_cons_zero, List.getElem_cons_succ]); go_simp; (try with_reducible rfl))
              try simp only [Act.put, List.getElem_toArray, List.getElem_cons_zero, List.getElem_cons_succ, List.setIfInBounds_toArray, List.set_cons_zero, List.set_cons_succ]
              refine wpAnyH_take (i := 5) (v := ?kv6) rfl (by kernel_rfl) (by kernel_rfl) (by kernel_rfl) (fun _ _ _ h => h) (Or.inl ⟨by rfl, ?ky6⟩) (by assumption) ?kr6
              case ky6 => (intro w hSw; (try dsimp only at hSw); go_split_ands; (try simp only [List.getElem_toArray, List.getElem_cons_zero, List.getElem_cons_succ]); go_simp; (try with_reducible rfl))
              try simp only [Act.put, List.getElem_toArray, List.getElem_cons_zero, List.getElem_cons_succ, List.setIfInBounds_toArray, List.set_cons_zero, List.set_cons_succ]
              refine wpAnyH_take (i := 6) (v := ?kv7) rfl (by kernel_rfl) (by kernel_rfl) (by kernel_rfl) (fun _ _ _ h => h) (Or.inl ⟨by rfl, ?ky7⟩) (by assumption) ?kr7
              case ky7 => (intro w hSw; (try dsimp only at hSw); go_split_ands; (try simp only [List.getElem_toArray, List.getElem_cons_zero, List.getElem_cons_succ]); go_simp; (try with_reducible rfl))
              try simp only [Act.put, List.getElem_toArray, List.getElem_cons_zero, List.getElem_cons_succ, List.setIfInBounds_toArray, List.set_cons_zero, List.set_cons_succ]
              refine wpAnyH_take (i := 7) (v := ?kv8) rfl (by kernel_rfl) (by kernel_rfl) (by kernel_rfl) (fun _ _ _ h => h) (Or.inl ⟨by rfl, ?ky8⟩) (by assumption) ?kr8
              case ky8 => (intro w hSw; (try dsimp only at hSw); go_split_ands; (try simp only [List.getElem_toArray, List.getElem_cons_zero, List.getElem_cons_succ]); go_simp; (try with_reducible rfl))
              try simp only [Act.put, List.getElem_toArray, List.getElem_cons_zero, List.getElem_cons_succ, List.setIfInBounds_toArray, List.set_cons_zero, List.set_cons_succ]
              refine wpAnyH_take (i := 8) (v := ?kv9) rfl (by kernel_rfl) (by kernel_rfl) (by kernel_rfl) (fun _ _ _ h => h) (Or.inl ⟨by rfl, ?ky9⟩) (by assumption) ?kr9
              case ky9 => (intro w hSw; (try dsimp only at hSw); go_split_ands; (try simp only [List.getElem_toArray, List.getElem_cons_zero, List.getElem_cons_succ]); go_simp; (try with_reducible rfl))
              try simp only [Act.put, List.getElem_toArray, List.getElem_cons_zero, List.getElem_cons_succ, List.setIfInBounds_toArray, List.set_cons_zero, List.set_cons_succ]
              refine wpAnyH_take (i := 9) (v := ?kv10) rfl (by kernel_rfl) (by kernel_rfl) (by kernel_rfl) (fun _ _ _ h => h) (Or.inl ⟨by rfl, ?ky10⟩) (by assumption) ?kr10
              case ky10 => (intro w hSw; (try dsimp only at hSw); go_split_ands; (try simp only [List.getElem_toArray, List.getElem_cons_zero, List.getElem_cons_succ]); go_simp; (try with_reducible rfl))
              try simp only [Act.put, List.getElem_toArray, List.getElem_cons_zero, List.getElem_cons_succ, List.setIfInBounds_toArray, List.set_cons_zero, List.set_cons_succ]
              refine wpAnyH_take (i := 10) (v := ?kv11) rfl (by kernel_rfl) (by kernel_rfl) (by kernel_rfl) (fun _ _ _ h => h) (Or.inl ⟨by rfl, ?ky11⟩) (by assumption) ?kr11
              case ky11 => (intro w hSw; (try dsimp only at hSw); go_split_ands; (try simp only [List.getElem_toArray, List.getElem_cons_zero, List.getElem_cons_succ]); go_simp; (try with_reducible rfl))
              try simp only [Act.put, List.getElem_toArray, List.getElem_cons_zero, List.getElem_cons_succ, List.setIfInBounds_toArray, List.set_cons_zero, List.set_cons_succ]
              refine wpAnyH_take (i := 11) (v := ?kv12) rfl (by kernel_rfl) (by kernel_rfl) (by kernel_rfl) (fun _ _ _ h => h) (Or.inl ⟨by rfl, ?ky12⟩) (by assumption) ?kr12
              case ky12 => (intro w hSw; (try dsimp only at hSw); go_split_ands; (try simp only [List.getElem_toArray, List.getElem_cons_zero, List.getElem_cons_succ]); go_simp; (try with_reducible rfl))
              try simp only [Act.put, List.getElem_toArray, List.getElem_cons_zero, List.getElem_cons_succ, List.setIfInBounds_toArray, List.set_cons_zero, List.set_cons_succ]
              refine wpAnyH_take (i := 12) (v := ?kv13) rfl (by kernel_rfl) (by kernel_rfl) (by kernel_rfl) (fun _ _ _ h => h) (Or.inl ⟨by rfl, ?ky13⟩) (by assumption) ?kr13
              case ky13 => (intro w hSw; (try dsimp only at hSw); go_split_ands; (try simp only [List.getElem_toArray, List.getElem_cons_zero, List.getElem_cons_succ]); go_simp; (try with_reducible rfl))
              try simp only [Act.put, List.getElem_toArray, List.getElem_cons_zero, List.getElem_cons_succ, List.setIfInBounds_toArray, List.set_cons_zero, List.set_cons_succ]
              refine wpAnyH_done (by kernel_rfl) ?_ _
              go_upto_if 55 with fail
              by_cases hxy : x = y
              · subst hxy
                have hz : (!(x == x)) = false := by simp
                simp only [hz]
                go_wp2_with fail
                go_roundw
                case rel => exact ⟨k + 1, by omega, by go_num, take_eq_succ HX.out.2.2.1 HX.out.1 HX.out.2.1, HX.out.2.2.2.drew⟩
                case measure => simp [Go.RowKit.intOf]; omega
              · have hne : ¬ (s1 = s2) := fun e => hxy (by have h1 := HX.out.1; rw [e, HX.out.2.1] at h1; exact (Option.some.inj h1).symm)
                have Hn := Lib.hid (stpEq_no hne)
                have hz : (!(x == y)) = true := by simpa using hxy
                clear hne hxy
                simp only [hz]
                go_wp2_with fail
                go_ret
                exact ⟨by rw [Hn.out]; rfl, (grow_trans HB.out HX.out.2.2.2).drew⟩
            · obtain rfl : k = s1.keep.length := by omega
              have hkeep : s1.keep = s2.keep := by rw [List.take_length, HQ.out.2.2.2, List.take_length] at ht; exact ht
              have hnlt : ¬ ((s1.keep.length : Int) < (s1.keep.length : Int)) := by omega
              have ho1' := grow_obj hb HO.out.1
              have ho2' := grow_obj hb HO.out.2
              have hS : ∀ w', Below wr.heap.size wr w' → (w'.cell? ⟨G, 2, none⟩ = some (.int .i64 s1.ask) ∧ w'.cell? ⟨G, 3, none⟩ = some (.string s1.path) ∧ w'.cell? ⟨G, 4, none⟩ = some (.string s1.dest) ∧ w'.cell? ⟨G, 5, none⟩ = some (.int .i64 s1.an) ∧ w'.cell? ⟨G, 6, none⟩ = some (.int .i64 s1.off) ∧ w'.cell? ⟨G, 7, none⟩ = some (.int .i64 s1.len) ∧ w'.cell? ⟨G, 8, none⟩ = some (.slice a1 s1.data.length c1) ∧ w'.cell? ⟨G + 1, 2, none⟩ = some (.int .i64 s2.ask) ∧ w'.cell? ⟨G + 1, 3, none⟩ = some (.string s2.path) ∧ w'.cell? ⟨G + 1, 4, none⟩ = some (.string s2.dest) ∧ w'.cell? ⟨G + 1, 5, none⟩ = some (.int .i64 s2.an) ∧ w'.cell? ⟨G + 1, 6, none⟩ = some (.int .i64 s2.off) ∧ w'.cell? ⟨G + 1, 7, none⟩ = some (.int .i64 s2.len) ∧ w'.cell? ⟨G + 1, 8, none⟩ = some (.slice a2 s2.data.length c2) ∧ Below wr.heap.size wr w') := fun w' hb' => ⟨cell_obj (grow_obj hb' ho1') 2, cell_obj (grow_obj hb' ho1') 3, cell_obj (grow_obj hb' ho1') 4, cell_obj (grow_obj hb' ho1') 5, cell_obj (grow_obj hb' ho1') 6, cell_obj (grow_obj hb' ho1') 7, cell_obj (grow_obj hb' ho1') 8, cell_obj (grow_obj hb' ho2') 2, cell_obj (grow_obj hb' ho2') 3, cell_obj (grow_obj hb' ho2') 4, cell_obj (grow_obj hb' ho2') 5, cell_obj (grow_obj hb' ho2') 6, cell_obj (grow_obj hb' ho2') 7, cell_obj (grow_obj hb' ho2') 8, hb'⟩
              have hH := hS wr.drew (Below.refl wr.heap.size wr).drew
              have HE := Lib.hid (show stpEq s1 s2 = sReq s1 s2 by unfold stpEq; rw [HQ.out.1, HQ.out.2.1, HQ.out.2.2.1, hkeep]; simp)
              have HY1 := HK.out.2.2.2.1.below hb
              have HY2 := HK.out.2.2.2.2.below hb
              have HY := Lib.hid (And.intro HY1 (And.intro HY2 (And.intro hb (And.intro (block_lt ho1') (block_lt ho2')))))
              clear hb ho1' ho2' HY1 HY2 hkeep ht
              go_upto_region 8 with fail
              go_cut [6, 7] (fun t6 t7 wx => ∃ A B, t6 = .pointer (some ⟨A, 0, none⟩) ∧ t7 = .pointer (some ⟨B, 0, none⟩) ∧ objAt wx A = some (.cells #[.int .i64 s1.ask, .string s1.path, .string s1.dest, .int .i64 s1.an, .int .i64 s1.off, .int .i64 s1.len, .slice a1 s1.data.length c1] 32 (0, 0)) ∧ objAt wx B = some (.cells #[.int .i64 s2.ask, .string s2.path, .string s2.dest, .int .i64 s2.an, .int .i64 s2.off, .int .i64 s2.len, .slice a2 s2.data.length c2] 32 (0, 0)) ∧ Below wr.heap.size wr wx)
              case first =>
                refine wp_region_F [7] (S := fun w' => w'.cell? ⟨G, 2, none⟩ = some (.int .i64 s1.ask) ∧ w'.cell? ⟨G, 3, none⟩ = some (.string s1.path) ∧ w'.cell? ⟨G, 4, none⟩ = some (.string s1.dest) ∧ w'.cell? ⟨G, 5, none⟩ = some (.int .i64 s1.an) ∧ w'.cell? ⟨G, 6, none⟩ = some (.int .i64 s1.off) ∧ w'.cell? ⟨G, 7, none⟩ = some (.int .i64 s1.len) ∧ w'.cell? ⟨G, 8, none⟩ = some (.slice a1 s1.data.length c1) ∧ w'.cell? ⟨G + 1, 2, none⟩ = some (.int .i64 s2.ask) ∧ w'.cell? ⟨G + 1, 3, none⟩ = some (.string s2.path) ∧ w'.cell? ⟨G + 1, 4, none⟩ = some (.string s2.dest) ∧ w'.cell? ⟨G + 1, 5, none⟩ = some (.int .i64 s2.an) ∧ w'.cell? ⟨G + 1, 6, none⟩ = some (.int .i64 s2.off) ∧ w'.cell? ⟨G + 1, 7, none⟩ = some (.int .i64 s2.len) ∧ w'.cell? ⟨G + 1, 8, none⟩ = some (.slice a2 s2.data.length c2) ∧ Below wr.heap.size wr w') (by kernel_rfl) (hH) (fun hHeld => ?_)
                show wpAnyF _ _ _ _ _ _ 8 #[false, false, false, false, false, false, false, false] _ _
                refine wpAnyF_take [0, 1, 6, 7] (i := 0) (v := ?kv14) rfl (by kernel_rfl) (by kernel_rfl) (by kernel_rfl) (by kernel_rfl) (fun _ _ _ h => h) (Or.inl ⟨by rfl, ?ky14⟩) (by assumption) ?kr14
                case ky14 => (intro w hSw; (try dsimp only at hSw); go_split_ands; (try simp only [List.getElem_toArray, List.getElem_cons_zero]); go_simp; (try with_reducible rfl))
                try simp only [Act.put, List.getElem_toArray, List.getElem_cons_zero, List.setIfInBounds_toArray, List.set_cons_zero, List.set_cons_succ]
                refine wpAnyF_take [1, 6, 7] (i := 1) (v := ?kv15) rfl (by kernel_rfl) (by kernel_rfl) (by kernel_rfl) (by kernel_rfl) (fun _ _ _ h => h) (Or.inl ⟨by rfl, ?ky15⟩) (by assumption) ?kr15
                case ky15 => (intro w hSw; (try dsimp only at hSw); go_split_ands; (try simp only [List.getElem_toArray, List.getElem_cons_zero, List.getElem_cons_succ]); go_simp; (try with_reducible rfl))
                try simp only [Act.put, List.getElem_toArray, List.getElem_cons_zero, List.getElem_cons_succ, List.setIfInBounds_toArray, List.set_cons_zero, List.set_cons_succ]
                refine wpAnyF_take [2, 3, 7] (i := 2) (v := ?kv16) rfl (by kernel_rfl) (by kernel_rfl) (by kernel_rfl) (by kernel_rfl) (fun _ _ _ h => h) (Or.inl ⟨by rfl, ?ky16⟩) (by assumption) ?kr16
                case ky16 => (intro w hSw; (try dsimp only at hSw); go_split_ands; (try simp only [List.getElem_toArray, List.getElem_cons_zero, List.getElem_cons_succ]); go_simp; (try with_reducible rfl))
                try simp only [Act.put, List.getElem_toArray, List.getElem_cons_zero, List.getElem_cons_succ, List.setIfInBounds_toArray, List.set_cons_zero, List.set_cons_succ]
                refine wpAnyF_take [3, 7] (i := 3) (v := ?kv17) rfl (by kernel_rfl) (by kernel_rfl) (by kernel_rfl) (by kernel_rfl) (fun _ _ _ h => h) (Or.inl ⟨by rfl, ?ky17⟩) (by assumption) ?kr17
                case ky17 => (intro w hSw; (try dsimp only at hSw); go_split_ands; (try simp only [List.getElem_toArray, List.getElem_cons_zero, List.getElem_cons_succ]); go_simp; (try with_reducible rfl))
                try simp only [Act.put, List.getElem_toArray, List.getElem_cons_zero, List.getElem_cons_succ, List.setIfInBounds_toArray, List.set_cons_zero, List.set_cons_succ]
                refine wpAnyF_ready (rs := [4, 5]) (by kernel_rfl) (by simp) ?_
                refine (AllReadyF.cons rfl (fun K hK => ?kb18x0) (AllReadyF.cons rfl (fun K hK => ?kb18x1) AllReadyF.nil))
                case kb18x0 =>
                  refine step_newReq rfl rfl ?_; intro g6 x4 hg4 hx4; have hl0 : Below wr.heap.size wr _ := (by first | exact hld | exact (Below.refl wr.heap.size wr).drew); have l6 : wr.heap.size ≤ g6 := (by rw [hg4]; exact hl0.size); have hB4 := below_alloc hx4; have hld := grow_trans hl0 hB4; (try have h67 : g6 ≠ g7 := by have := block_lt o7; omega); (try replace o7 := grow_obj hB4 o7); have o6 := obj_alloc hx4; rw [← hg4] at o6; clear hx4 hB4 hl0 hg4
                  refine hK.out _ _ (by exact hS _ hld) (fun hHeldn => ?_)
                  clear hHeld hK K
                  have hHeld := hHeldn
                  clear hHeldn
                  try simp only [Act.put, List.getElem_toArray, List.getElem_cons_zero, List.getElem_cons_succ, List.setIfInBounds_toArray, List.set_cons_zero, List.set_cons_succ]
                  refine wpAnyF_ready (rs := [5]) (by kernel_rfl) (by simp) ?_
                  refine (AllReadyF.cons rfl (fun K hK => ?_) AllReadyF.nil)
                  refine step_newReq rfl rfl ?_; intro g7 x5 hg5 hx5; have hl0 : Below wr.heap.size wr _ := (by first | exact hld | exact (Below.refl wr.heap.size wr).drew); have l7 : wr.heap.size ≤ g7 := (by rw [hg5]; exact hl0.size); have hB5 := below_alloc hx5; have hld := grow_trans hl0 hB5; (try have h67 : g6 ≠ g7 := by have := block_lt o6; omega); (try replace o6 := grow_obj hB5 o6); have o7 := obj_alloc hx5; rw [← hg5] at o7; clear hx5 hB5 hl0 hg5
                  refine hK.out _ _ (by exact hS _ hld) (fun hHeldn => ?_)
                  clear hHeld hK K
                  have hHeld := hHeldn
                  clear hHeldn
                  try simp only [Act.put, List.getElem_toArray, List.getElem_cons_zero, List.getElem_cons_succ, List.setIfInBounds_toArray, List.set_cons_zero, List.set_cons_succ]
                  refine wpAnyF_ready (rs := [6]) (by kernel_rfl) (by simp) ?_
                  refine (AllReadyF.cons rfl (fun K hK => ?_) AllReadyF.nil)
                  refine step_storeAgg aggReq rfl (.tmp 6) (.tmp 57) rfl rfl rfl o6 rfl rfl (by simp [Value.oneCell']) ?_; intro x6 hx6; have k6 : Keeps (fun q => q = g6) _ x6 := (by rw [hx6]; exact setRow_keeps _ _ _); have hz6 := objAt_setRow o6 #[.int .i64 s1.ask, .string s1.path, .string s1.dest, .int .i64 s1.an, .int .i64 s1.off, .int .i64 s1.len, .slice a1 s1.data.length c1]; rw [← hx6] at hz6; (try replace o7 := k6.obj o7 (fun e => h67 e.symm)); replace o6 := hz6; replace hld := hld.trans (k6.below hld.size (fun q e => by rw [e]; exact l6)); clear hx6 hz6 k6
                  refine hK.out _ _ (by exact hS _ hld) (fun hHeldn => ?_)
                  clear hHeld hK K
                  have hHeld := hHeldn
                  clear hHeldn
                  try simp only [Act.put, List.getElem_toArray, List.getElem_cons_zero, List.getElem_cons_succ, List.setIfInBounds_toArray, List.set_cons_zero, List.set_cons_succ]
                  refine wpAnyF_ready (rs := [7]) (by kernel_rfl) (by simp) ?_
                  refine (AllReadyF.last rfl (by kernel_rfl) (fun K hK => ?_) AllReadyF.nil)
                  refine step_storeAgg aggReq rfl (.tmp 7) (.tmp 59) rfl rfl rfl o7 rfl rfl (by simp [Value.oneCell']) ?_; intro x7 hx7; have k7 : Keeps (fun q => q = g7) _ x7 := (by rw [hx7]; exact setRow_keeps _ _ _); have hz7 := objAt_setRow o7 #[.int .i64 s2.ask, .string s2.path, .string s2.dest, .int .i64 s2.an, .int .i64 s2.off, .int .i64 s2.len, .slice a2 s2.data.length c2]; rw [← hx7] at hz7; (try replace o6 := k7.obj o6 h67); replace o7 := hz7; replace hld := hld.trans (k7.below hld.size (fun q e => by rw [e]; exact l7)); clear hx7 hz7 k7
                  refine hK.out _ _ (trivial) (fun hHeldn => ?_)
                  clear hHeld hK K
                  have hHeld := hHeldn
                  clear hHeldn
                  try simp only [Act.put, List.getElem_toArray, List.getElem_cons_zero, List.getElem_cons_succ, List.setIfInBounds_toArray, List.set_cons_zero, List.set_cons_succ]
                  refine wpAnyF_done (by kernel_rfl) ?_ _
                  go_wp2_with fail
                  go_meet
                  exact ⟨g6, g7, rfl, rfl, o6, o7, hld⟩
                case kb18x1 =>
                  refine step_newReq rfl rfl ?_; intro g7 x5 hg5 hx5; have hl0 : Below wr.heap.size wr _ := (by first | exact hld | exact (Below.refl wr.heap.size wr).drew); have l7 : wr.heap.size ≤ g7 := (by rw [hg5]; exact hl0.size); have hB5 := below_alloc hx5; have hld := grow_trans hl0 hB5; (try have h67 : g6 ≠ g7 := by have := block_lt o6; omega); (try replace o6 := grow_obj hB5 o6); have o7 := obj_alloc hx5; rw [← hg5] at o7; clear hx5 hB5 hl0 hg5
                  refine hK.out _ _ (by exact hS _ hld) (fun hHeldn => ?_)
                  clear hHeld hK K
                  have hHeld := hHeldn
                  clear hHeldn
                  try simp only [Act.put, List.getElem_toArray, List.getElem_cons_zero, List.getElem_cons_succ, List.setIfInBounds_toArray, List.set_cons_zero, List.set_cons_succ]
                  refine wpAnyF_ready (rs := [4]) (by kernel_rfl) (by simp) ?_
                  refine (AllReadyF.cons rfl (fun K hK => ?_) AllReadyF.nil)
                  refine step_newReq rfl rfl ?_; intro g6 x4 hg4 hx4; have hl0 : Below wr.heap.size wr _ := (by first | exact hld | exact (Below.refl wr.heap.size wr).drew); have l6 : wr.heap.size ≤ g6 := (by rw [hg4]; exact hl0.size); have hB4 := below_alloc hx4; have hld := grow_trans hl0 hB4; (try have h67 : g6 ≠ g7 := by have := block_lt o7; omega); (try replace o7 := grow_obj hB4 o7); have o6 := obj_alloc hx4; rw [← hg4] at o6; clear hx4 hB4 hl0 hg4
                  refine hK.out _ _ (by exact hS _ hld) (fun hHeldn => ?_)
                  clear hHeld hK K
                  have hHeld := hHeldn
                  clear hHeldn
                  try simp only [Act.put, List.getElem_toArray, List.getElem_cons_zero, List.getElem_cons_succ, List.setIfInBounds_toArray, List.set_cons_zero, List.set_cons_succ]
                  refine wpAnyF_ready (rs := [6]) (by kernel_rfl) (by simp) ?_
                  refine (AllReadyF.cons rfl (fun K hK => ?_) AllReadyF.nil)
                  refine step_storeAgg aggReq rfl (.tmp 6) (.tmp 57) rfl rfl rfl o6 rfl rfl (by simp [Value.oneCell']) ?_; intro x6 hx6; have k6 : Keeps (fun q => q = g6) _ x6 := (by rw [hx6]; exact setRow_keeps _ _ _); have hz6 := objAt_setRow o6 #[.int .i64 s1.ask, .string s1.path, .string s1.dest, .int .i64 s1.an, .int .i64 s1.off, .int .i64 s1.len, .slice a1 s1.data.length c1]; rw [← hx6] at hz6; (try replace o7 := k6.obj o7 (fun e => h67 e.symm)); replace o6 := hz6; replace hld := hld.trans (k6.below hld.size (fun q e => by rw [e]; exact l6)); clear hx6 hz6 k6
                  refine hK.out _ _ (by exact hS _ hld) (fun hHeldn => ?_)
                  clear hHeld hK K
                  have hHeld := hHeldn
                  clear hHeldn
                  try simp only [Act.put, List.getElem_toArray, List.getElem_cons_zero, List.getElem_cons_succ, List.setIfInBounds_toArray, List.set_cons_zero, List.set_cons_succ]
                  refine wpAnyF_ready (rs := [7]) (by kernel_rfl) (by simp) ?_
                  refine (AllReadyF.last rfl (by kernel_rfl) (fun K hK => ?_) AllReadyF.nil)
                  refine step_storeAgg aggReq rfl (.tmp 7) (.tmp 59) rfl rfl rfl o7 rfl rfl (by simp [Value.oneCell']) ?_; intro x7 hx7; have k7 : Keeps (fun q => q = g7) _ x7 := (by rw [hx7]; exact setRow_keeps _ _ _); have hz7 := objAt_setRow o7 #[.int .i64 s2.ask, .string s2.path, .string s2.dest, .int .i64 s2.an, .int .i64 s2.off, .int .i64 s2.len, .slice a2 s2.data.length c2]; rw [← hx7] at hz7; (try replace o6 := k7.obj o6 h67); replace o7 := hz7; replace hld := hld.trans (k7.below hld.size (fun q e => by rw [e]; exact l7)); clear hx7 hz7 k7
                  refine hK.out _ _ (trivial) (fun hHeldn => ?_)
                  clear hHeld hK K
                  have hHeld := hHeldn
                  clear hHeldn
                  try simp only [Act.put, List.getElem_toArray, List.getElem_cons_zero, List.getElem_cons_succ, List.setIfInBounds_toArray, List.set_cons_zero, List.set_cons_succ]
                  refine wpAnyF_done (by kernel_rfl) ?_ _
                  go_wp2_with fail
                  go_meet
                  exact ⟨g6, g7, rfl, rfl, o6, o7, hld⟩
              case rest =>
                obtain ⟨A, B, rfl, rfl, oA, oB, hbl⟩ := hcut
                have v1 := conv_at c1 (HY.out.1.below hbl)
                have v2 := conv_at c2 (HY.out.2.1.below hbl)
                have cA0 := cell_obj oA 0
                have cB0 := cell_obj oB 0
                have cA1 := cell_obj oA 1
                have cB1 := cell_obj oB 1
                have cA2 := cell_obj oA 2
                have cB2 := cell_obj oB 2
                have cA3 := cell_obj oA 3
                have cB3 := cell_obj oB 3
                have cA4 := cell_obj oA 4
                have cB4 := cell_obj oB 4
                have cA5 := cell_obj oA 5
                have cB5 := cell_obj oB 5
                have cA6 := cell_obj oA 6
                have cB6 := cell_obj oB 6
                have HC := Lib.hid (grow_trans HB.out (grow_trans HY.out.2.2.1 hbl))
                clear hS hH oA oB hbl
                cases q0 : (s1.ask == s2.ask) with
                | false =>
                  have Hr := Lib.hid (show sReq s1 s2 = false by simp [sReq, reqEq, q0])
                  go_wp2_with fail
                  go_ret
                  exact ⟨by rw [HE.out, Hr.out]; rfl, HC.out⟩
                | true =>
                  cases q1 : (s1.path.toList == s2.path.toList) with
                  | false =>
                    have Hr := Lib.hid (show sReq s1 s2 = false by simp [sReq, reqEq, q0, q1])
                    go_wp2_with fail
                    go_ret
                    exact ⟨by rw [HE.out, Hr.out]; rfl, HC.out⟩
                  | true =>
                    cases q2 : (s1.dest.toList == s2.dest.toList) with
                    | false =>
                      have Hr := Lib.hid (show sReq s1 s2 = false by simp [sReq, reqEq, q0, q1, q2])
                      go_wp2_with fail
                      go_ret
                      exact ⟨by rw [HE.out, Hr.out]; rfl, HC.out⟩
                    | true =>
                      cases q3 : (s1.an == s2.an) with
                      | false =>
                        have Hr := Lib.hid (show sReq s1 s2 = false by simp [sReq, reqEq, q0, q1, q2, q3])
                        go_wp2_with fail
                        go_ret
                        exact ⟨by rw [HE.out, Hr.out]; rfl, HC.out⟩
                      | true =>
                        cases q4 : (s1.off == s2.off) with
                        | false =>
                          have Hr := Lib.hid (show sReq s1 s2 = false by simp [sReq, reqEq, q0, q1, q2, q3, q4])
                          go_wp2_with fail
                          go_ret
                          exact ⟨by rw [HE.out, Hr.out]; rfl, HC.out⟩
                        | true =>
                          cases q5 : (s1.len == s2.len) with
                          | false =>
                            have Hr := Lib.hid (show sReq s1 s2 = false by simp [sReq, reqEq, q0, q1, q2, q3, q4, q5])
                            go_wp2_with fail
                            go_ret
                            exact ⟨by rw [HE.out, Hr.out]; rfl, HC.out⟩
                          | true =>
                            have Hr := Lib.hid (show sReq s1 s2 = (s1.data == s2.data) by unfold sReq reqEq; rw [q0, q1, q2, q3, q4, q5]; rfl)
                            go_wp2_with fail
                            go_ret
                            exact ⟨by rw [HE.out, Hr.out]; first | rfl | simp, HC.out⟩
        · have z3 : ((s1.keep.length : Int) != (s2.keep.length : Int)) = true := by simpa using by omega
          have Hn := Lib.hid (stpEq_no (s1 := s1) (s2 := s2) (fun e => q3 (by rw [e])))
          clear q0 q1 q2 q3
          go_enter Tryz.func11, Tryz.ntmps11
          go_wp2_with fail
          go_ret
          exact ⟨by rw [Hn.out]; rfl, HB.out⟩
      · have z2 : (s1.cut != s2.cut) = true := by simpa using q2
        have Hn := Lib.hid (stpEq_no (s1 := s1) (s2 := s2) (fun e => q2 (by rw [e])))
        clear q0 q1 q2
        go_enter Tryz.func11, Tryz.ntmps11
        go_wp2_with fail
        go_ret
        exact ⟨by rw [Hn.out]; rfl, HB.out⟩
    · have z1 : (s1.n != s2.n) = true := by simpa using q1
      have Hn := Lib.hid (stpEq_no (s1 := s1) (s2 := s2) (fun e => q1 (by rw [e])))
      clear q0 q1
      go_enter Tryz.func11, Tryz.ntmps11
      go_wp2_with fail
      go_ret
      exact ⟨by rw [Hn.out]; rfl, HB.out⟩
  · have z0 : (s1.kind != s2.kind) = true := by simpa using q0
    have Hn := Lib.hid (stpEq_no (s1 := s1) (s2 := s2) (fun e => q0 (by rw [e])))
    clear q0
    go_enter Tryz.func11, Tryz.ntmps11
    go_wp2_with fail
    go_ret
    exact ⟨by rw [Hn.out]; rfl, HB.out⟩
end Go.Proofs.YtanmihhlkelgeaaGreat
