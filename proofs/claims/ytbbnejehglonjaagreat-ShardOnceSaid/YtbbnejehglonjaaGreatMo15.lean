/- DERIVED. Contracts and laws that the proofs of this seat share, part 15 of 36: IxB. -/
import Derived.Test.YtbbnejehglonjaaGreatMo00
import Derived.Test.YtbbnejehglonjaaGreatMo01
import Derived.Test.YtbbnejehglonjaaGreatMo04
import Derived.Test.YtbbnejehglonjaaGreatMo13
/- DERIVED. Contract of index.Take. -/
namespace Go.Proofs.YtbbnejehglonjaaGreat
open Go.RowKit
attribute [local irreducible] Calls
set_option maxRecDepth 100000

/-- A whole number appended to a row of one's own. -/
theorem step_ownI {ops : Array Oper} {o : Oper} {a b0 : Act} {w : World} {K : Act → World → Prop} {Q : Exit → Act → World → Prop} {F : Prop} (hgd : o.guard = none) (s x : Operand) (ho : o.op = .call { callee := .builtin .append, args := #[s, x], argTypes := #[33, 33] })
 {base : Nat} {v : Value} {xs : List Int} (hs : a.eval s = v) (hown : IRow w base v xs) {g2 : Nat} {y : Int} (hx : a.eval x = .slice (some ⟨g2, 0, none⟩) 1 1) (hy : w.cell? ⟨g2, 0, none⟩ = some (.int .i64 y)) (hlt : xs.length < 1000000) (hbase : base ≤ w.heap.size)
 (h : ∀ v' w', IRow w' base v' (xs ++ [y]) → Below base w w' → K (a.put o.dst v') w') :
 if Region.wanted o (yielded ops b0.tmps) = true then Oper.wp Tryz.prog o a w K Q else F := by
 have hw : Region.wanted o (yielded ops b0.tmps) = true := by simp [Region.wanted, hgd]
 rw [if_pos hw]
 have hr := step_app (P := Tryz.prog) (ops := ops) (o := o) (a := a) (w := w) (K := K) (Q := Q) (F := F) elemInt hgd s x ho hs hown ⟨g2, 0, none⟩ 1 1 [.int .i64 y] hx rfl (fun j u hj => by
  cases j with
  | zero =>
    obtain rfl := Option.some.inj hj
    exact hy
  | succ j => simp at hj) (by intro u hu; simp only [List.mem_singleton] at hu; subst hu; rfl) (by decide) (by omega) hbase (fun g cap w' h2 _ _ h5 => h _ w' (by unfold IRow; rw [List.length_append, List.map_append]; exact h2) h5)
 have hw2 : Region.wanted o (yielded ops a.tmps) = true := by simp [Region.wanted, hgd]
 rwa [if_pos hw2] at hr
theorem sub_two (b : Blk) (p : Nat) (h : p + 1 < 56) : b.sub p 2 = (b.body.getD p 0).toNat * 256 + (b.body.getD (p + 1) 0).toNat := by
 unfold Blk.sub
 rw [show (2 : Nat) = 1 + 1 from rfl, fold_num _ 1 (by rw [List.length_drop, b.len]; omega), fold_num _ 0 (by rw [List.length_drop, b.len]; omega)]
 simp [List.getD_eq_getElem?_getD, num]
set_option maxHeartbeats 1000000 in
theorem xTake_str (b : Blk) (w : World) :
 Calls Tryz.prog 144 #[.agg b.cells] w fun e w' => ∃ v, e = .returned (.tuple #[v, .bool (takeIndex b).isSome]) ∧ (IRow w' w.heap.size v ((takeIndex b).getD []) ∧ Below w.heap.size w w') ∧ (takeIndex b = none → v = .slice none 0 0) := by
 have hb1 := BlkAt.alloc_new w b
 have hB1 : Below w.heap.size w (w.alloc (.cells b.cells 37)) := (Below.refl _ _).alloc (Nat.le_refl _) _
 obtain ⟨G, hG⟩ : ∃ G, G = w.heap.size := ⟨_, rfl⟩
 go_enter Tryz.func144, Tryz.ntmps144
 go_upto_region 2 with fail
 rw [← hG] at hb1 ⊢
 generalize w.alloc (.cells b.cells 37) = w1 at *
 have H1 := Lib.hid (And.intro hG (And.intro hb1 hB1))
 clear hb1 hB1 hG
 go_wp2_with fail
 go_loopw [4, 8] (fun s4 s8 wr => ∃ (k : Nat) (V : Value), k ≤ 16 ∧ s8 = .int .i64 k ∧ V = s4 ∧ IRow wr w1.heap.size V ((indexOf b).take k) ∧ Below w1.heap.size w1 wr) (fun _ i _ => 16 - (Go.RowKit.intOf i).toNat)
 case atStart => exact ⟨0, _, Nat.zero_le _, rfl, rfl, World.ownsRow_nil _ _ _ _, Below.refl _ _⟩
 case round =>
  obtain ⟨k, V, hk, rfl, rfl, hrow, hbel⟩ := hrel
  have hl16 : (indexOf b).length = 16 := by simp [indexOf]
  by_cases hlt : k < 16
  · obtain ⟨p, hp⟩ : ∃ p, p = 2 * k := ⟨_, rfl⟩
    have hpk : 2 * (k : Int) = (p : Int) := by omega
    have hp54 : p < 55 := by omega
    have hp0 : (0 : Int) ≤ (p : Int) := Int.natCast_nonneg _
    have hA : BlkAt wr G b := H1.out.2.1.below hbel (block_lt H1.out.2.1)
    have q1 : wr.cell? ⟨G, 1 + p, none⟩ = some (.int .u8 ((b.body.getD p 0).toNat : Int)) := by rw [hA.cell p (by omega), List.getD_eq_getElem?_getD, List.getElem?_eq_getElem (by rw [b.len]; omega)]; rfl
    have q2 : wr.cell? ⟨G, 1 + (p + 1), none⟩ = some (.int .u8 ((b.body.getD (p + 1) 0).toNat : Int)) := by rw [hA.cell (p + 1) (by omega), List.getD_eq_getElem?_getD, List.getElem?_eq_getElem (by rw [b.len]; omega)]; rfl
    have hsub := sub_two b p (by omega)
    have y1 := (b.body.getD p 0).toNat_lt
    have y0 := (b.body.getD (p + 1) 0).toNat_lt
    have hidx : (indexOf b).take (k + 1) = (indexOf b).take k ++ [(b.sub p 2 : Int) - 1] := by
     rw [List.take_succ_eq_append_getElem (by omega)]; simp [indexOf, hp]
    generalize (b.body.getD p 0).toNat = c1 at *
    generalize (b.body.getD (p + 1) 0).toNat = c0 at *
    generalize b.sub p 2 = sb at *
    have hrl : ((indexOf b).take k).length < 1000000 := by rw [List.length_take]; omega
    obtain ⟨x, hx⟩ : ∃ x : Int, x = (sb : Int) - 1 := ⟨_, rfl⟩
    rw [← hx] at hidx
    have v0 : (0 : Int) ≤ (c1 : Int) := Int.natCast_nonneg _
    have v1 : (0 : Int) ≤ (c0 : Int) := Int.natCast_nonneg _
    have v2 : (c1 : Int) < 256 := by omega
    have v3 : (c0 : Int) < 256 := by omega
    have w0 : IntKind.i64.wrap (p : Int) = p := IntWalk.i64_in _ (by omega)
    have w1' : IntKind.i64.wrap ((p : Int) + 1) = (p : Int) + 1 := IntWalk.i64_in _ (by omega)
    have hp56 : (p : Int) < 56 := by omega
    have hq0 : (0 : Int) ≤ (p : Int) + 1 := by omega
    have hq56 : (p : Int) + 1 < 56 := by omega
    have hqn : ((p : Int) + 1).toNat = p + 1 := by omega
    have hch : IntKind.i64.wrap (IntKind.i64.wrap (IntKind.i64.wrap (IntKind.i64.wrap (c1 : Int) * 256) + IntKind.i64.wrap (c0 : Int)) - 1) = x := by
     rw [IntWalk.i64_in (c1 : Int) (by omega), IntWalk.i64_in (c0 : Int) (by omega), IntWalk.i64_in ((c1 : Int) * 256) (by omega), IntWalk.i64_in ((c1 : Int) * 256 + c0) (by omega), IntWalk.i64_in _ (by omega), hx]; omega
    have HCH := Lib.hid hch
    clear hch
    have HR := Lib.hid (And.intro hrow (And.intro hbel (And.intro hidx (And.intro hx hsub))))
    have HL := Lib.hid hrl
    clear hrow hbel hidx hx hsub hp hA hrl hl16 y1 y0
    have hnew : ∀ y : Int, (wr.alloc (.cells #[.int .i64 y] 3)).drew.cell? ⟨wr.heap.size, 0, none⟩ = some (.int .i64 y) := fun y => cell_obj (show objAt (wr.alloc _) _ = some (.cells #[.int .i64 y] 3 (0, 0)) by rw [objAt_alloc, if_pos rfl]) 0
    go_upto_region 5 with fail
    refine wp_region_F [18] (S := fun w' => w'.cell? ⟨G, 1 + p, none⟩ = some (.int .u8 c1) ∧ w'.cell? ⟨G, 1 + (p + 1), none⟩ = some (.int .u8 c0) ∧ Below wr.heap.size wr w') (by kernel_rfl) (And.intro q1 (And.intro q2 (Below.refl _ _).drew)) (fun hHeld => ?_)
    show wpAnyF _ _ _ _ _ _ 20 #[false, false, false, false, false, false, false, false, false, false, false, false, false, false, false, false, false, false, false, false] _ _
    refine gF [0, 18, 19] (i := 0) (v := ?kv1) rfl ?ky1 ?kr1
    case ky1 => (intro w hSw; (try dsimp only at hSw); go_split_ands; (try simp only [qA, qB]); go_simp; (try with_reducible rfl))
    try simp only [Act.put, qA, qB, qD, qE, qF]
    refine gF [1, 2, 4, 5, 6, 7, 15, 16, 17, 18, 19] (i := 1) (v := ?kv2) rfl ?ky2 ?kr2
    case ky2 => (intro w hSw; (try dsimp only at hSw); go_split_ands; (try simp only [qA, qB, qC]); go_simp; (try with_reducible rfl))
    try simp only [Act.put, qA, qB, qC, qD, qE, qF]
    refine gF [2, 4, 5, 6, 7, 15, 16, 17, 18, 19] (i := 2) (v := ?kv3) rfl ?ky3 ?kr3
    case ky3 => (intro w hSw; (try dsimp only at hSw); go_split_ands; (try simp only [qA, qB, qC]); go_simp; (try with_reducible rfl))
    try simp only [Act.put, qA, qB, qC, qD, qE, qF]
    refine gF [3, 4, 5, 6, 7, 15, 16, 17, 18, 19] (i := 3) (v := ?kv4) rfl ?ky4 ?kr4
    case ky4 => (intro w hSw; (try dsimp only at hSw); go_split_ands; (try simp only [qA, qB, qC]); go_simp; (try with_reducible rfl))
    try simp only [Act.put, qA, qB, qC, qD, qE, qF]
    refine gF [4, 5, 6, 7, 15, 16, 17, 18, 19] (i := 4) (v := ?kv5) rfl ?ky5 ?kr5
    case ky5 => (intro w hSw; (try dsimp only at hSw); go_split_ands; (try simp only [qA, qB, qC]); go_simp; (try with_reducible rfl))
    try simp only [Act.put, qA, qB, qC, qD, qE, qF]
    refine gF [5, 6, 7, 15, 16, 17, 18, 19] (i := 5) (v := ?kv6) rfl ?ky6 ?kr6
    case ky6 => (intro w hSw; (try dsimp only at hSw); go_split_ands; (try simp only [qA, qB, qC]); go_simp; (try with_reducible rfl))
    try simp only [Act.put, qA, qB, qC, qD, qE, qF]
    refine gF [6, 7, 15, 16, 17, 18, 19] (i := 6) (v := ?kv7) rfl ?ky7 ?kr7
    case ky7 => (intro w hSw; (try dsimp only at hSw); go_split_ands; (try simp only [qA, qB, qC]); go_simp; (try with_reducible rfl))
    try simp only [Act.put, qA, qB, qC, qD, qE, qF]
    refine gF [7, 15, 16, 17, 18, 19] (i := 7) (v := ?kv8) rfl ?ky8 ?kr8
    case ky8 => (intro w hSw; (try dsimp only at hSw); go_split_ands; (try simp only [qA, qB, qC]); go_simp; (try with_reducible rfl))
    try simp only [Act.put, qA, qB, qC, qD, qE, qF]
    refine gF [8, 9, 10, 12, 13, 14, 15, 16, 17, 18, 19] (i := 8) (v := ?kv9) rfl ?ky9 ?kr9
    case ky9 => (intro w hSw; (try dsimp only at hSw); go_split_ands; (try simp only [qA, qB, qC]); go_simp; (try with_reducible rfl))
    try simp only [Act.put, qA, qB, qC, qD, qE, qF]
    refine gF [9, 10, 12, 13, 14, 15, 16, 17, 18, 19] (i := 9) (v := ?kv10) rfl ?ky10 ?kr10
    case ky10 => (intro w hSw; (try dsimp only at hSw); go_split_ands; (try simp only [qA, qB, qC]); go_simp; (try with_reducible rfl))
    try simp only [Act.put, qA, qB, qC, qD, qE, qF]
    refine gF [10, 12, 13, 14, 15, 16, 17, 18, 19] (i := 10) (v := ?kv11) rfl ?ky11 ?kr11
    case ky11 => (intro w hSw; (try dsimp only at hSw); go_split_ands; (try simp only [qA, qB, qC]); go_simp; (try with_reducible rfl))
    try simp only [Act.put, qA, qB, qC, qD, qE, qF]
    refine gF [11, 12, 13, 14, 15, 16, 17, 18, 19] (i := 11) (v := ?kv12) rfl ?ky12 ?kr12
    case ky12 => (intro w hSw; (try dsimp only at hSw); go_split_ands; (try simp only [qA, qB, qC]); go_simp; (try with_reducible rfl))
    try simp only [Act.put, qA, qB, qC, qD, qE, qF]
    refine gF [12, 13, 14, 15, 16, 17, 18, 19] (i := 12) (v := ?kv13) rfl ?ky13 ?kr13
    case ky13 => (intro w hSw; (try dsimp only at hSw); go_split_ands; (try simp only [qA, qB, qC]); go_simp; (try with_reducible rfl))
    try simp only [Act.put, qA, qB, qC, qD, qE, qF]
    refine gF [13, 14, 15, 16, 17, 18, 19] (i := 13) (v := ?kv14) rfl ?ky14 ?kr14
    case ky14 => (intro w hSw; (try dsimp only at hSw); go_split_ands; (try simp only [qA, qB, qC]); go_simp; (try with_reducible rfl))
    try simp only [Act.put, qA, qB, qC, qD, qE, qF]
    refine gF [14, 15, 16, 17, 18, 19] (i := 14) (v := ?kv15) rfl ?ky15 ?kr15
    case ky15 => (intro w hSw; (try dsimp only at hSw); go_split_ands; (try simp only [qA, qB, qC]); go_simp; (try with_reducible rfl))
    try simp only [Act.put, qA, qB, qC, qD, qE, qF]
    refine gF [15, 16, 17, 18, 19] (i := 15) (v := ?kv16) rfl ?ky16 ?kr16
    case ky16 => (intro w hSw; (try dsimp only at hSw); go_split_ands; (try simp only [qA, qB, qC]); go_simp; (try with_reducible rfl))
    try simp only [Act.put, qA, qB, qC, qD, qE, qF]
    refine gF [16, 17, 18, 19] (i := 16) (v := ?kv17) rfl ?ky17 ?kr17
    case ky17 => (intro w hSw; (try dsimp only at hSw); go_split_ands; (try simp only [qA, qB, qC]); go_simp; (try with_reducible rfl))
    try simp only [Act.put, qA, qB, qC, qD, qE, qF]
    refine wpAnyF_ready (rs := [17]) (by kernel_rfl) (by simp) ?_
    refine (AllReadyF.cons rfl (fun K hK => ?_) AllReadyF.nil)
    try simp only [qA, qB, qC]
    go_simp
    refine hK.out _ _ (by exact ⟨grow_cell (grow_alloc (Below.refl _ _) _) hHeld.1, grow_cell (grow_alloc (Below.refl _ _) _) hHeld.2.1, grow_alloc hHeld.2.2 _⟩) (fun hHeldn => ?_)
    clear hHeld hK K
    have hHeld := hHeldn
    clear hHeldn
    try simp only [qD, qE, qF]
    refine wpAnyF_ready (rs := [18]) (by kernel_rfl) (by simp) ?_
    refine (AllReadyF.last rfl (by kernel_rfl) (fun K hK => ?_) AllReadyF.nil)
    refine step_ownI rfl _ _ rfl rfl (HR.out.1.below (show Below wr.heap.size wr (wr.alloc (.cells #[.int .i64 (IntKind.i64.wrap (IntKind.i64.wrap (IntKind.i64.wrap (IntKind.i64.wrap (c1 : Int) * 256) + IntKind.i64.wrap (c0 : Int)) - 1))] 3)).drew from (grow_alloc (Below.refl _ _) _).drew)) (g2 := wr.heap.size) (y := IntKind.i64.wrap (IntKind.i64.wrap (IntKind.i64.wrap (IntKind.i64.wrap (c1 : Int) * 256) + IntKind.i64.wrap (c0 : Int)) - 1)) rfl (hnew _) HL.out (Nat.le_trans HR.out.2.1.size (by show _ ≤ (wr.alloc _).heap.size; rw [size_alloc]; omega)) ?_; intro v4 w4 hr4 b4
    refine hK.out _ _ (trivial) (fun hHeldn => ?_)
    clear hHeld hK K
    have hHeld := hHeldn
    clear hHeldn
    try simp only [Act.put, qA, qB, qC, qD, qE, qF]
    refine gP (i := 19) (v := ?kv20) rfl ?ky20 ?kr20
    case ky20 => (intro w hSw; clear hSw; (try simp only [qA, qB, qC]); go_simp; (try with_reducible rfl))
    try simp only [Act.put, qA, qB, qC, qD, qE, qF]
    refine wpAnyF_done (by kernel_rfl) ?_ _
    rw [HCH.out, ← HR.out.2.2.1] at hr4
    go_wp2_with fail
    go_roundw
    case rel => exact ⟨k + 1, _, by omega, by go_num, rfl, hr4, (HR.out.2.1.trans ((grow_alloc (Below.refl _ _) _).drew.mono HR.out.2.1.size)).trans b4⟩
    case measure => simp [Go.RowKit.intOf]; omega
  · obtain rfl : k = 16 := by omega
    have hl : (indexOf b).length = 16 := by simp [indexOf]
    rw [List.take_of_length_le (by rw [hl]; exact Nat.le_refl _)] at hrow
    obtain ⟨g, cap, hV, hg1, hg2⟩ := World.ownsRow.form hrow (by rw [hl]; decide)
    rw [hl] at hV
    subst hV
    have hints : IntsAt wr (some ⟨g, 0, none⟩) (indexOf b) := ⟨g, 0, fun _ => rfl, fun i hi => by
     have := World.ownsRow.cells hrow (g := g) rfl i (.int .i64 ((indexOf b).getD i 0)) (by simp [List.getD_eq_getElem?_getD, List.getElem?_eq_getElem hi])
     rwa [add_off'] at this⟩
    obtain ⟨⟨pb, pok⟩, hp⟩ : ∃ p, putIndex (indexOf b) = p := ⟨_, rfl⟩
    have hP := xPut_any (some ⟨g, 0, none⟩) (indexOf b) cap wr hints (by rw [hl]; decide)
    rw [hp, hl] at hP
    dsimp only at hP
    have HP := Lib.hid hP
    have Hp := Lib.hid hp
    have Hrow := Lib.hid hrow
    have Hbel := Lib.hid hbel
    clear hP hp hrow hbel hints
    go_upto_region 8 with (first | (go_at_call 148; refine HP.out.mono ?_; rintro e w9 ⟨rfl, be9⟩))
    have hB9 := grow_trans Hbel.out be9
    have hB10 := grow_alloc hB9 (.cells pb.cells 37)
    have hb10 : BlkAt (w9.alloc (.cells pb.cells 37)) G b := BlkAt.below H1.out.2.1 hB10 (block_lt H1.out.2.1)
    have hk10 := BlkAt.alloc_new w9 pb
    have hR10 : IRow (w9.alloc (.cells pb.cells 37)) w1.heap.size (.slice (some ⟨g, 0, none⟩) 16 cap) (indexOf b) := by
     refine World.ownsRow.alloc (World.ownsRow.kept Hrow.out ⟨be9.os, be9.tape, be9.output, be9.size, fun k hk _ => be9.block k hk⟩ (row := none) ?_) _
     exact .inr (by simp [Value.ownBlock])
    generalize hw10 : w9.alloc (.cells pb.cells 37) = w10 at *
    generalize hK : w9.heap.size = K at *
    have hh1 := hb10.has
    have hr1 := hb10.row
    have hh2 := hk10.has
    have hr2 := hk10.row
    have HF := Lib.hid (And.intro hR10 (grow_trans H1.out.2.2 hB10))
    clear be9 hb10 hk10 hR10 hB9 hB10 hw10 hK
    have hle : w.heap.size ≤ w1.heap.size := H1.out.2.2.size
    cases pok
    · have Ht := Lib.hid (show takeIndex b = none by unfold takeIndex; rw [Hp.out, if_neg (by intro h; cases h)])
      go_wp2_with fail
      refine bodyPost_ret (results_two rfl (resOne_tmp _ _ _) (resOne_tmp _ _ _)) rfl ?_
      exact ⟨.slice none 0 0, by rw [Ht.out]; rfl, ⟨by rw [Ht.out]; exact World.ownsRow_nil _ _ _ _, HF.out.2⟩, fun _ => rfl⟩
    · by_cases hpb : pb = b
      · have d1 : decide (pb = b) = true := by simpa using hpb
        have Ht := Lib.hid (show takeIndex b = some (indexOf b) by unfold takeIndex; rw [Hp.out, if_pos (by rw [hpb])])
        clear hpb
        go_wp2_with fail
        refine bodyPost_ret (results_two rfl (resOne_tmp _ _ _) (resOne_tmp _ _ _)) rfl ?_
        exact ⟨.slice (some ⟨g, 0, none⟩) 16 cap, by rw [Ht.out]; rfl, ⟨by rw [Ht.out]; exact World.ownsRow.mono HF.out.1 hle, HF.out.2⟩, fun e => by rw [Ht.out] at e; cases e⟩
      · have d1 : decide (pb = b) = false := by simpa using hpb
        have Hpb := Lib.hid hpb
        clear hpb
        have Ht := Lib.hid (show takeIndex b = none by unfold takeIndex; rw [Hp.out, if_neg (by intro h; injection h with h1 h2; exact Hpb.out h1)])
        go_wp2_with fail
        refine bodyPost_ret (results_two rfl (resOne_tmp _ _ _) (resOne_tmp _ _ _)) rfl ?_
        exact ⟨.slice none 0 0, by rw [Ht.out]; rfl, ⟨by rw [Ht.out]; exact World.ownsRow_nil _ _ _ _, HF.out.2⟩, fun _ => rfl⟩
theorem xTake_any (b : Blk) (w : World) :
 Calls Tryz.prog 144 #[.agg b.cells] w fun e w' => ∃ v, e = .returned (.tuple #[v, .bool (takeIndex b).isSome]) ∧ IRow w' w.heap.size v ((takeIndex b).getD []) ∧ Below w.heap.size w w' :=
 (xTake_str b w).mono fun _ _ ⟨v, h1, h2, _⟩ => ⟨v, h1, h2⟩
end Go.Proofs.YtbbnejehglonjaaGreat
