/- DERIVED. Contracts and laws that the proofs of this seat share, part 15 of 36: IxB IxC IxD DvE. -/
import Derived.Test.YtbbnejehglonjaaGreatMh00
import Derived.Test.YtbbnejehglonjaaGreatMh03
import Derived.Test.YtbbnejehglonjaaGreatMh04
import Derived.Test.YtbbnejehglonjaaGreatMh06
import Derived.Test.YtbbnejehglonjaaGreatMh11
import Derived.Test.YtbbnejehglonjaaGreatMh14
namespace Go.Proofs.YtbbnejehglonjaaGreat
set_option maxHeartbeats 8000000
set_option maxRecDepth 100000
set_option linter.unusedSimpArgs false
set_option linter.unusedVariables false
section
open Go.RowKit
attribute [local irreducible] Calls

theorem step_ownI {ops : Array Oper} {o : Oper} {a b0 : Act} {w : World} {K : Act → World → Prop} {Q : Exit → Act → World → Prop} {F : Prop} (hgd : o.guard = none) (s x : Operand) (ho : o.op = .call { callee := .builtin .append, args := #[s, x], argTypes := #[33, 33] })
 {base : Nat} {v : Value} {xs : List Int} (hs : a.eval s = v) (hown : IRow w base v xs) {g2 : Nat} {y : Int} (hx : a.eval x = .slice (some ⟨g2, 0, none⟩) 1 1) (hy : w.cell? ⟨g2, 0, none⟩ = some (.int .i64 y)) (hlt : xs.length < 1000000) (hbase : base ≤ w.heap.size)
 (h : ∀ v' w', IRow w' base v' (xs ++ [y]) → Below base w w' → K (a.put o.dst v') w') :
 if Region.wanted o (yielded ops b0.tmps) = true then Oper.wp Tryz.prog o a w K Q else F := by
 have hw : Region.wanted o (yielded ops b0.tmps) = true := by simp [Region.wanted, hgd]
 rw [if_pos hw]
 have hr := step_app (P := Tryz.prog) (ops := ops) (o := o) (a := a) (w := w) (K := K) (Q := Q) (F := F) elemInt hgd s x ho hs hown ⟨g2, 0, none⟩ 1 1 [.int .i64 y] hx rfl (fun j u hj => by
  cases j with
  | zero =>
    obtain rfl := Option.some.inj hj
    exact hy
  | succ j => simp at hj) (by intro u hu; simp only [List.mem_singleton] at hu; subst hu; rfl) (by decide) (by omega) hbase (fun g cap w' h2 _ _ h5 => h _ w' (by unfold IRow; rw [List.length_append, List.map_append]; exact h2) h5)
 have hw2 : Region.wanted o (yielded ops a.tmps) = true := by simp [Region.wanted, hgd]
 rwa [if_pos hw2] at hr
theorem sub_two (b : Blk) (p : Nat) (h : p + 1 < 56) : b.sub p 2 = (b.body.getD p 0).toNat * 256 + (b.body.getD (p + 1) 0).toNat := by
 unfold Blk.sub
 rw [show (2 : Nat) = 1 + 1 from rfl, fold_num _ 1 (by rw [List.length_drop, b.len]; omega), fold_num _ 0 (by rw [List.length_drop, b.len]; omega)]
 simp [List.getD_eq_getElem?_getD, num]
theorem xTake_str (b : Blk) (w : World) :
 Calls Tryz.prog 144 #[.agg b.cells] w fun e w' => ∃ v, e = .returned (.tuple #[v, .bool (takeIndex b).isSome]) ∧ (IRow w' w.heap.size v ((takeIndex b).getD []) ∧ Below w.heap.size w w') ∧ (takeIndex b = none → v = .slice none 0 0) := by
 have hb1 := BlkAt.alloc_new w b
 have hB1 : Below w.heap.size w (w.alloc (.cells b.cells 37)) := (Below.refl _ _).alloc (Nat.le_refl _) _
 obtain ⟨G, hG⟩ : ∃ G, G = w.heap.size := ⟨_, rfl⟩
 go_enter Tryz.func144, Tryz.ntmps144
 go_upto_region 2 with fail
 rw [← hG] at hb1 ⊢
 generalize w.alloc (.cells b.cells 37) = w1 at *
 have H1 := Lib.hid (And.intro hG (And.intro hb1 hB1))
 clear hb1 hB1 hG
 go_wp2_with fail
 go_loopw [4, 8] (fun s4 s8 wr => ∃ (k : Nat) (V : Value), k ≤ 16 ∧ s8 = .int .i64 k ∧ V = s4 ∧ IRow wr w1.heap.size V ((indexOf b).take k) ∧ Below w1.heap.size w1 wr) (fun _ i _ => 16 - (Go.RowKit.intOf i).toNat)
 case atStart => exact ⟨0, _, Nat.zero_le _, rfl, rfl, World.ownsRow_nil _ _ _ _, Below.refl _ _⟩
 case round =>
  obtain ⟨k, V, hk, rfl, rfl, hrow, hbel⟩ := hrel
  have hl16 : (indexOf b).length = 16 := by simp [indexOf]
  by_cases hlt : k < 16
  · obtain ⟨p, hp⟩ : ∃ p, p = 2 * k := ⟨_, rfl⟩
    have hpk : 2 * (k : Int) = (p : Int) := by omega
    have hp54 : p < 55 := by omega
    have hp0 : (0 : Int) ≤ (p : Int) := Int.natCast_nonneg _
    have hA : BlkAt wr G b := H1.out.2.1.below hbel (block_lt H1.out.2.1)
    have q1 : wr.cell? ⟨G, 1 + p, none⟩ = some (.int .u8 ((b.body.getD p 0).toNat : Int)) := by rw [hA.cell p (by omega), List.getD_eq_getElem?_getD, List.getElem?_eq_getElem (by rw [b.len]; omega)]; rfl
    have q2 : wr.cell? ⟨G, 1 + (p + 1), none⟩ = some (.int .u8 ((b.body.getD (p + 1) 0).toNat : Int)) := by rw [hA.cell (p + 1) (by omega), List.getD_eq_getElem?_getD, List.getElem?_eq_getElem (by rw [b.len]; omega)]; rfl
    have hsub := sub_two b p (by omega)
    have y1 := (b.body.getD p 0).toNat_lt
    have y0 := (b.body.getD (p + 1) 0).toNat_lt
    have hidx : (indexOf b).take (k + 1) = (indexOf b).take k ++ [(b.sub p 2 : Int) - 1] := by
     rw [List.take_succ_eq_append_getElem (by omega)]; simp [indexOf, hp]
    generalize (b.body.getD p 0).toNat = c1 at *
    generalize (b.body.getD (p + 1) 0).toNat = c0 at *
    generalize b.sub p 2 = sb at *
    have hrl : ((indexOf b).take k).length < 1000000 := by rw [List.length_take]; omega
    obtain ⟨x, hx⟩ : ∃ x : Int, x = (sb : Int) - 1 := ⟨_, rfl⟩
    rw [← hx] at hidx
    have v0 : (0 : Int) ≤ (c1 : Int) := Int.natCast_nonneg _
    have v1 : (0 : Int) ≤ (c0 : Int) := Int.natCast_nonneg _
    have v2 : (c1 : Int) < 256 := by omega
    have v3 : (c0 : Int) < 256 := by omega
    have w0 : IntKind.i64.wrap (p : Int) = p := IntWalk.i64_in _ (by omega)
    have w1' : IntKind.i64.wrap ((p : Int) + 1) = (p : Int) + 1 := IntWalk.i64_in _ (by omega)
    have hp56 : (p : Int) < 56 := by omega
    have hq0 : (0 : Int) ≤ (p : Int) + 1 := by omega
    have hq56 : (p : Int) + 1 < 56 := by omega
    have hqn : ((p : Int) + 1).toNat = p + 1 := by omega
    have hch : IntKind.i64.wrap (IntKind.i64.wrap (IntKind.i64.wrap (IntKind.i64.wrap (c1 : Int) * 256) + IntKind.i64.wrap (c0 : Int)) - 1) = x := by
     rw [IntWalk.i64_in (c1 : Int) (by omega), IntWalk.i64_in (c0 : Int) (by omega), IntWalk.i64_in ((c1 : Int) * 256) (by omega), IntWalk.i64_in ((c1 : Int) * 256 + c0) (by omega), IntWalk.i64_in _ (by omega), hx]; omega
    have HCH := Lib.hid hch
    clear hch
    have HR := Lib.hid (And.intro hrow (And.intro hbel (And.intro hidx (And.intro hx hsub))))
    have HL := Lib.hid hrl
    clear hrow hbel hidx hx hsub hp hA hrl hl16 y1 y0
    have hnew : ∀ y : Int, (wr.alloc (.cells #[.int .i64 y] 3)).drew.cell? ⟨wr.heap.size, 0, none⟩ = some (.int .i64 y) := fun y => cell_obj (show objAt (wr.alloc _) _ = some (.cells #[.int .i64 y] 3 (0, 0)) by rw [objAt_alloc, if_pos rfl]) 0
    go_upto_region 5 with fail
    refine wp_region_F [18] (S := fun w' => w'.cell? ⟨G, 1 + p, none⟩ = some (.int .u8 c1) ∧ w'.cell? ⟨G, 1 + (p + 1), none⟩ = some (.int .u8 c0) ∧ Below wr.heap.size wr w') (by kernel_rfl) (And.intro q1 (And.intro q2 (Below.refl _ _).drew)) (fun hHeld => ?_)
    show wpAnyF _ _ _ _ _ _ 20 #[false, false, false, false, false, false, false, false, false, false, false, false, false, false, false, false, false, false, false, false] _ _
    refine gF 0 [0, 18, 19] ?_; try simp only [Act.put, qs]
    refine gF 1 [1, 2, 4, 5, 6, 7, 15, 16, 17, 18, 19] ?_; try simp only [Act.put, qs]
    refine gF 2 [2, 4, 5, 6, 7, 15, 16, 17, 18, 19] ?_; try simp only [Act.put, qs]
    refine gF 3 [3, 4, 5, 6, 7, 15, 16, 17, 18, 19] ?_; try simp only [Act.put, qs]
    refine gF 4 [4, 5, 6, 7, 15, 16, 17, 18, 19] ?_; try simp only [Act.put, qs]
    refine gF 5 [5, 6, 7, 15, 16, 17, 18, 19] ?_; try simp only [Act.put, qs]
    refine gF 6 [6, 7, 15, 16, 17, 18, 19] ?_; try simp only [Act.put, qs]
    refine gF 7 [7, 15, 16, 17, 18, 19] ?_; try simp only [Act.put, qs]
    refine gF 8 [8, 9, 10, 12, 13, 14, 15, 16, 17, 18, 19] ?_; try simp only [Act.put, qs]
    refine gF 9 [9, 10, 12, 13, 14, 15, 16, 17, 18, 19] ?_; try simp only [Act.put, qs]
    refine gF 10 [10, 12, 13, 14, 15, 16, 17, 18, 19] ?_; try simp only [Act.put, qs]
    refine gF 11 [11, 12, 13, 14, 15, 16, 17, 18, 19] ?_; try simp only [Act.put, qs]
    refine gF 12 [12, 13, 14, 15, 16, 17, 18, 19] ?_; try simp only [Act.put, qs]
    refine gF 13 [13, 14, 15, 16, 17, 18, 19] ?_; try simp only [Act.put, qs]
    refine gF 14 [14, 15, 16, 17, 18, 19] ?_; try simp only [Act.put, qs]
    refine gF 15 [15, 16, 17, 18, 19] ?_; try simp only [Act.put, qs]
    refine gF 16 [16, 17, 18, 19] ?_; try simp only [Act.put, qs]
    refine gW 17 fun K hK => ?_
    try simp only [qs]
    go_simp
    refine hK.out _ _ (by exact ⟨grow_cell (grow_alloc (Below.refl _ _) _) hHeld.1, grow_cell (grow_alloc (Below.refl _ _) _) hHeld.2.1, grow_alloc hHeld.2.2 _⟩) (fun hN => ?_); replace hHeld := hN; clear hK K hN
    try simp only [qs]
    refine gV 18 fun K hK => ?_
    refine step_ownI rfl _ _ rfl rfl (HR.out.1.below (show Below wr.heap.size wr (wr.alloc (.cells #[.int .i64 (IntKind.i64.wrap (IntKind.i64.wrap (IntKind.i64.wrap (IntKind.i64.wrap (c1 : Int) * 256) + IntKind.i64.wrap (c0 : Int)) - 1))] 3)).drew from (grow_alloc (Below.refl _ _) _).drew)) (g2 := wr.heap.size) (y := IntKind.i64.wrap (IntKind.i64.wrap (IntKind.i64.wrap (IntKind.i64.wrap (c1 : Int) * 256) + IntKind.i64.wrap (c0 : Int)) - 1)) rfl (hnew _) HL.out (Nat.le_trans HR.out.2.1.size (by show _ ≤ (wr.alloc _).heap.size; rw [size_alloc]; omega)) ?_; intro v4 w4 hr4 b4
    refine hK.out _ _ (trivial) (fun hN => ?_); replace hHeld := hN; clear hK K hN
    try simp only [Act.put, qs]
    refine gP 19 ?_; try simp only [Act.put, qs]
    refine wpAnyF_done (by kernel_rfl) ?_ _
    rw [HCH.out, ← HR.out.2.2.1] at hr4
    go_wp2_with fail
    go_roundw
    case rel => exact ⟨k + 1, _, by omega, by go_num, rfl, hr4, (HR.out.2.1.trans ((grow_alloc (Below.refl _ _) _).drew.mono HR.out.2.1.size)).trans b4⟩
    case measure => simp [Go.RowKit.intOf]; omega
  · obtain rfl : k = 16 := by omega
    have hl : (indexOf b).length = 16 := by simp [indexOf]
    rw [List.take_of_length_le (by rw [hl]; exact Nat.le_refl _)] at hrow
    obtain ⟨g, cap, hV, hg1, hg2⟩ := World.ownsRow.form hrow (by rw [hl]; decide)
    rw [hl] at hV
    subst hV
    have hints : IntsAt wr (some ⟨g, 0, none⟩) (indexOf b) := ⟨g, 0, fun _ => rfl, fun i hi => by
     have := World.ownsRow.cells hrow (g := g) rfl i (.int .i64 ((indexOf b).getD i 0)) (by simp [List.getD_eq_getElem?_getD, List.getElem?_eq_getElem hi])
     rwa [add_off'] at this⟩
    obtain ⟨⟨pb, pok⟩, hp⟩ : ∃ p, putIndex (indexOf b) = p := ⟨_, rfl⟩
    have hP := xPut_any (some ⟨g, 0, none⟩) (indexOf b) cap wr hints (by rw [hl]; decide)
    rw [hp, hl] at hP
    dsimp only at hP
    have HP := Lib.hid hP
    have Hp := Lib.hid hp
    have Hrow := Lib.hid hrow
    have Hbel := Lib.hid hbel
    clear hP hp hrow hbel hints
    go_upto_region 8 with (first | (go_at_call 148; refine HP.out.mono ?_; rintro e w9 ⟨rfl, be9⟩))
    have hB9 := grow_trans Hbel.out be9
    have hB10 := grow_alloc hB9 (.cells pb.cells 37)
    have hb10 : BlkAt (w9.alloc (.cells pb.cells 37)) G b := BlkAt.below H1.out.2.1 hB10 (block_lt H1.out.2.1)
    have hk10 := BlkAt.alloc_new w9 pb
    have hR10 : IRow (w9.alloc (.cells pb.cells 37)) w1.heap.size (.slice (some ⟨g, 0, none⟩) 16 cap) (indexOf b) := by
     refine World.ownsRow.alloc (World.ownsRow.kept Hrow.out ⟨be9.os, be9.tape, be9.output, be9.size, fun k hk _ => be9.block k hk⟩ (row := none) ?_) _
     exact .inr (by simp [Value.ownBlock])
    generalize hw10 : w9.alloc (.cells pb.cells 37) = w10 at *
    generalize hK : w9.heap.size = K at *
    have hh1 := hb10.has
    have hr1 := hb10.row
    have hh2 := hk10.has
    have hr2 := hk10.row
    have HF := Lib.hid (And.intro hR10 (grow_trans H1.out.2.2 hB10))
    clear be9 hb10 hk10 hR10 hB9 hB10 hw10 hK
    have hle : w.heap.size ≤ w1.heap.size := H1.out.2.2.size
    cases pok
    · have Ht := Lib.hid (show takeIndex b = none by unfold takeIndex; rw [Hp.out, if_neg (by intro h; cases h)])
      go_wp2_with fail
      refine bodyPost_ret (results_two rfl (resOne_tmp _ _ _) (resOne_tmp _ _ _)) rfl ?_
      exact ⟨.slice none 0 0, by rw [Ht.out]; rfl, ⟨by rw [Ht.out]; exact World.ownsRow_nil _ _ _ _, HF.out.2⟩, fun _ => rfl⟩
    · by_cases hpb : pb = b
      · have d1 : decide (pb = b) = true := by simpa using hpb
        have Ht := Lib.hid (show takeIndex b = some (indexOf b) by unfold takeIndex; rw [Hp.out, if_pos (by rw [hpb])])
        clear hpb
        go_wp2_with fail
        refine bodyPost_ret (results_two rfl (resOne_tmp _ _ _) (resOne_tmp _ _ _)) rfl ?_
        exact ⟨.slice (some ⟨g, 0, none⟩) 16 cap, by rw [Ht.out]; rfl, ⟨by rw [Ht.out]; exact World.ownsRow.mono HF.out.1 hle, HF.out.2⟩, fun e => by rw [Ht.out] at e; cases e⟩
      · have d1 : decide (pb = b) = false := by simpa using hpb
        have Hpb := Lib.hid hpb
        clear hpb
        have Ht := Lib.hid (show takeIndex b = none by unfold takeIndex; rw [Hp.out, if_neg (by intro h; injection h with h1 h2; exact Hpb.out h1)])
        go_wp2_with fail
        refine bodyPost_ret (results_two rfl (resOne_tmp _ _ _) (resOne_tmp _ _ _)) rfl ?_
        exact ⟨.slice none 0 0, by rw [Ht.out]; rfl, ⟨by rw [Ht.out]; exact World.ownsRow_nil _ _ _ _, HF.out.2⟩, fun _ => rfl⟩
theorem xTake_any (b : Blk) (w : World) :
 Calls Tryz.prog 144 #[.agg b.cells] w fun e w' => ∃ v, e = .returned (.tuple #[v, .bool (takeIndex b).isSome]) ∧ IRow w' w.heap.size v ((takeIndex b).getD []) ∧ Below w.heap.size w w' :=
 (xTake_str b w).mono fun _ _ ⟨v, h1, h2, _⟩ => ⟨v, h1, h2⟩
end
section
open Go.RowKit
attribute [local irreducible] Calls

def whereT (k : Int) : Int × Int × Bool := if k < 0 ∨ 20 ≤ k then (0, 0, false) else if k < 4 then (k, -1, true) else (-1, k - 4, true)
theorem xWhere_any (k : Int) (w : World) : Calls Tryz.prog 147 #[.int .i64 k] w fun e w' => e = .returned (.tuple #[.int .i64 (whereT k).1, .int .i64 (whereT k).2.1, .bool (whereT k).2.2]) ∧ w' = w := by
 unfold whereT
 by_cases h1 : k < 0
 · rw [if_pos (.inl h1)]
   go_enter Tryz.func147, Tryz.ntmps147
   go_wp2_with fail
   refine bodyPost_ret (results_three rfl (resOne_tmp _ _ _) (resOne_tmp _ _ _) (resOne_tmp _ _ _)) rfl ?_
   exact ⟨rfl, rfl⟩
 · by_cases h2 : 20 ≤ k
   · rw [if_pos (.inr h2)]
     go_enter Tryz.func147, Tryz.ntmps147
     go_wp2_with fail
     refine bodyPost_ret (results_three rfl (resOne_tmp _ _ _) (resOne_tmp _ _ _) (resOne_tmp _ _ _)) rfl ?_
     exact ⟨rfl, rfl⟩
   · rw [if_neg (by omega)]
     by_cases h3 : k < 4
     · rw [if_pos h3]
       go_enter Tryz.func147, Tryz.ntmps147
       go_wp2_with fail
       refine bodyPost_ret (results_three rfl (resOne_tmp _ _ _) (resOne_tmp _ _ _) (resOne_tmp _ _ _)) rfl ?_
       exact ⟨rfl, rfl⟩
     · rw [if_neg h3]
       have u1 : IntKind.i64.wrap (k - 4) = k - 4 := IntWalk.i64_in _ (by omega)
       go_enter Tryz.func147, Tryz.ntmps147
       go_wp2_with fail
       refine bodyPost_ret (results_three rfl (resOne_tmp _ _ _) (resOne_tmp _ _ _) (resOne_tmp _ _ _)) rfl ?_
       exact ⟨rfl, rfl⟩
end
section
open Go.RowKit
attribute [local irreducible] Calls

theorem aggPiece : AggOf Tryz.prog 174 3 := ⟨⟨_, Tryz.underlying174, rfl⟩, by kernel_rfl⟩
noncomputable def pieceStore (x y : Value) (w : World) : Result Unit := Sem.run Tryz.prog (Instr.storeAt 174 x y) w
def hasPiece (w : World) (g : Nat) : Bool := (rowAt w g).any (·.size == 3)
theorem hasPiece_some {w : World} {g : Nat} (h : hasPiece w g = true) : ∃ c, rowAt w g = some c ∧ c.size = 3 := by
 unfold hasPiece at h
 cases hr : rowAt w g with
 | none => rw [hr] at h; cases h
 | some c => rw [hr] at h; exact ⟨c, rfl, by simpa using h⟩
@[go_sem] theorem hasPiece_new (w : World) (c : Array Value) (t : TypeId) (n : Nat) (hn : n = w.heap.size) (hc : c.size = 3) : hasPiece (w.alloc (.cells c t)) n = true := by
 unfold hasPiece; rw [rowAt_alloc_at w c t n hn]; simp [hc]
@[go_sem] theorem hasPiece_drew (w : World) (n : Nat) : hasPiece w.drew n = hasPiece w n := rfl
@[go_sem] theorem store_piece (w : World) (gB : Nat) (k f t : Int) (hB : hasPiece w gB = true) :
 pieceStore (.pointer (some ⟨gB, 0, none⟩)) (.agg #[.int .i64 k, .int .i64 f, .int .i64 t]) w = .ok () (w.setRow gB #[.int .i64 k, .int .i64 f, .int .i64 t]) := by
 obtain ⟨c, hc, hs⟩ := hasPiece_some hB
 refine run_store_agg aggPiece w gB _ hc hs rfl ?_
 simp [Value.oneCell']
@[go_sem ↓] theorem exec_store_piece (ρ : Operand → Value) (w : World) (dst : Option Tmp) (x y : Operand) (ty : TypeId) (pos : String) (after : Array Edge) (gd : Option (Nat × Bool)) :
 (execOp ρ ⟨dst, .store 174 x y, ty, pos, after, gd⟩).run Tryz.prog w = (pieceStore (ρ x) (ρ y) w).andThen fun _ w => .ok .skip w := by
 simp only [execOp, pieceStore, Sem.run_bind]; rfl
attribute [irreducible] pieceStore
structure Pc where
 k : Nat
 from_ : Nat
 to_ : Nat
def Pc.cells (p : Pc) : Array Value := #[.int .i64 p.k, .int .i64 p.from_, .int .i64 p.to_]
def pcOf (a b : Nat) : Pc := ⟨a / 56, a % 56, min b ((a / 56 + 1) * 56) - a / 56 * 56⟩
def pcEnd (a b : Nat) : Nat := min b ((a / 56 + 1) * 56)
theorem rFirst_any (a b : Nat) (hab : a < b) (hb : b ≤ 1120) (w : World) :
 Calls Tryz.prog 146 #[cz a b] w fun e w' => e = .returned (.tuple #[.agg (pcOf a b).cells, cz (pcEnd a b) b]) ∧ Below w.heap.size w w' := by
 have hA : ∀ w, (convert 240 3 (.float .f64 (floatOfInt .f64 (a : Int)))).run Tryz.prog w = .ok (.int .i64 (a : Int)) w := fun w => fz_i64 w _ _ _ (by rw [Tryz.underlying240]; rfl) Tryz.underlying3 (smallZ_of (by omega) (by omega))
 have hB : ∀ w, (convert 240 3 (.float .f64 (floatOfInt .f64 (b : Int)))).run Tryz.prog w = .ok (.int .i64 (b : Int)) w := fun w => fz_i64 w _ _ _ (by rw [Tryz.underlying240]; rfl) Tryz.underlying3 (smallZ_of (by omega) (by omega))
 obtain ⟨q, hq⟩ : ∃ q, q = a / 56 := ⟨_, rfl⟩
 obtain ⟨e, he⟩ : ∃ e, e = min b ((q + 1) * 56) := ⟨_, rfl⟩
 have d1 : (a : Int) / 56 = (q : Int) := by omega
 have d2 : min (b : Int) (((q : Int) + 1) * 56) = (e : Int) := by omega
 have hq0 : (q : Int) ≤ 20 := by omega
 have hq1 : (0 : Int) ≤ (q : Int) := by omega
 have he1 : (e : Int) ≤ 1120 := by omega
 have he0 : (0 : Int) ≤ (e : Int) := by omega
 have ha0 : (0 : Int) ≤ (a : Int) := by omega
 have ha1 : (a : Int) ≤ 1120 := by omega
 have hb0 : (0 : Int) ≤ (b : Int) := by omega
 have hb1 : (b : Int) ≤ 1120 := by omega
 have hp : (pcOf a b).cells = #[.int .i64 q, .int .i64 ((a : Int) - (q : Int) * 56), .int .i64 ((e : Int) - (q : Int) * 56)] := by
  have f1 : ((a % 56 : Nat) : Int) = (a : Int) - (q : Int) * 56 := by omega
  have f2 : ((e - q * 56 : Nat) : Int) = (e : Int) - (q : Int) * 56 := by omega
  unfold pcOf Pc.cells
  dsimp only
  rw [← hq, ← he, f1, f2]
 have hpe : pcEnd a b = e := by unfold pcEnd; rw [← hq, ← he]
 have Hp := Lib.hid (And.intro hp hpe)
 clear hp hpe hq he hab hb
 unfold cz
 go_enter Tryz.func146, Tryz.ntmps146
 go_wp2_with fail
 have ho : rowAt (w.alloc (.cells #[.int .i64 q, .int .i64 ((a : Int) - (q : Int) * 56), .int .i64 ((e : Int) - (q : Int) * 56)] 174)) w.heap.size = some #[.int .i64 q, .int .i64 ((a : Int) - (q : Int) * 56), .int .i64 ((e : Int) - (q : Int) * 56)] := rowAt_heap (show objAt _ _ = some (.cells _ 174 (0, 0)) by rw [objAt_alloc, if_pos rfl])
 refine bodyPost_ret (results_two rfl (resOne_agg aggPiece rfl ho rfl) (resOne_tmp _ _ _)) rfl ?_
 exact ⟨by rw [Hp.out.1, Hp.out.2]; rfl, grow_alloc (Below.refl _ _) _⟩
end
section
open Go.RowKit
attribute [local go_sem] hasBlk
attribute [local irreducible] Calls

def zeros64 : List UInt8 := List.replicate 64 0
def z64 : Array Value := (List.replicate 64 (Value.int .u8 0)).toArray
theorem bytes_z64 {w : World} {b : Nat} (h : objAt w b = some (.cells z64 5 (0, 0))) : BytesAt w (some ⟨b, 0, none⟩) zeros64 := by
 refine ⟨b, 0, fun _ => rfl, fun i hi => ?_⟩
 have hi' : i < 64 := by simpa [zeros64] using hi
 rw [Nat.zero_add, cell_obj h]
 have e : ∀ h : i < zeros64.length, zeros64[i]'h = 0 := fun h => by simp only [zeros64, List.getElem_replicate]
 refine Eq.trans ?_ (congrArg (fun c : UInt8 => some (Value.int .u8 (c.toNat : Int))) (e hi).symm)
 unfold z64
 rw [List.getElem?_toArray, List.getElem?_replicate, if_pos hi']; rfl
def SeenRow (w : World) (N : Nat) (v : Value) (k : Nat) : Prop := ∃ xs, w.ownsRow 0 22 1 v k xs ∧ (∀ g, v.ownBlock = some g → N ≤ g) ∧
 ∀ i, i < k → ∃ b, xs[i]? = some (.slice (some ⟨b, 0, none⟩) 64 64) ∧ N ≤ b ∧ objAt w b = some (.cells z64 5 (0, 0))
theorem SeenRow.obj {w : World} {N : Nat} {v : Value} {k : Nat} (h : SeenRow w N v k) {g : Nat} (hg : v.ownBlock = some g) : ∃ c, objAt w g = some (.cells c 22 (0, 0)) := by
 obtain ⟨xs, h1, _⟩ := h
 rcases h1.2 with ⟨h', h0⟩ | ⟨g', cap', cur, h', hb, hg', hnc, hcm, hcs, htake⟩
 · subst h'; cases hg
 · subst h'
   obtain rfl := Option.some.inj hg
   exact ⟨cur, hg'⟩
theorem SeenRow.keeps {w w' : World} {N : Nat} {v : Value} {k : Nat} {T : Nat → Prop} (h : SeenRow w N v k) (hk : Keeps T w w') (h1 : ∀ g, v.ownBlock = some g → ¬ T g) (h2 : ∀ b q, objAt w b = some (.cells q 5 (0, 0)) → ¬ T b) : SeenRow w' N v k := by
 obtain ⟨xs, h3, h4, h5⟩ := h
 refine ⟨xs, ?_, h4, fun i hi => ?_⟩
 · rcases h3.2 with ⟨h', h0⟩ | ⟨g', cap', cur, h', hb, hg, hnc, hcm, hcs, htake⟩
   · exact ⟨h3.1, .inl ⟨h', h0⟩⟩
   · exact ⟨h3.1, .inr ⟨g', cap', cur, h', hb, (hk.block g' (block_lt hg) (h1 g' (by rw [h']; rfl))).trans hg, hnc, hcm, hcs, htake⟩⟩
 · obtain ⟨b, q1, q2, q3⟩ := h5 i hi
   exact ⟨b, q1, q2, hk.obj q3 (h2 _ _ q3)⟩
theorem SeenRow.below {w w' : World} {N : Nat} {v : Value} {k : Nat} (h : SeenRow w N v k) (hb : Below w.heap.size w w') : SeenRow w' N v k :=
 h.keeps (Keeps.of_below_size hb) (fun g hg => by obtain ⟨c, hc⟩ := h.obj hg; have := block_lt hc; omega) (fun b q hq => by have := block_lt hq; omega)
theorem SeenRow.keepsRow {w w' : World} {N N2 : Nat} {v v2 : Value} {k k2 : Nat} (h : SeenRow w N v k) (h2 : SeenRow w N2 v2 k2) (hk : Keeps (fun g => v2.ownBlock = some g) w w') (hne : ∀ g, v.ownBlock = some g → v2.ownBlock ≠ some g) : SeenRow w' N v k :=
 h.keeps hk (fun g hg e => hne g hg e) (fun b q hq e => by obtain ⟨c, hc⟩ := h2.obj e; exact ne_of_obj hq hc (by decide) rfl)
theorem SeenRow.nil (w : World) (N : Nat) : SeenRow w N (.slice none 0 0) 0 := ⟨[], World.ownsRow_nil w 0 _ 1, (fun g hg => by cases hg), fun i hi => by omega⟩

theorem step_app64 {ops : Array Oper} {o : Oper} {a b0 : Act} {w : World} {K : Act → World → Prop} {Q : Exit → Act → World → Prop} {F : Prop} (hgd : o.guard = none) (s x y : Operand) (ho : o.op = .call { callee := .builtin .append, args := #[s, x], argTypes := #[204, 204] })
 {N : Nat} {v : Value} {k : Nat} (hs : a.eval s = v) (hown : SeenRow w N v k) {g b : Nat} (hx : a.eval x = .slice (some ⟨g, 0, none⟩) 1 1) (_ : a.eval y = .slice (some ⟨b, 0, none⟩) 64 64)
 (hu : objAt w g = some (.cells #[.slice (some ⟨b, 0, none⟩) 64 64] 22 (0, 0))) (hz : objAt w b = some (.cells z64 5 (0, 0))) (hb : N ≤ b) (hN : N ≤ w.heap.size) (hk : k < 100000)
 (h : ∀ g' cap' w', SeenRow w' N (.slice (some ⟨g', 0, none⟩) (k + 1) cap') (k + 1) → Keeps (fun q => v.ownBlock = some q) w w' → (v.ownBlock = some g' ∨ g' = w.heap.size) → K (a.put o.dst (.slice (some ⟨g', 0, none⟩) (k + 1) cap')) w') :
 if Region.wanted o (yielded ops b0.tmps) = true then Oper.wp Tryz.prog o a w K Q else F := by
 have hw : Region.wanted o (yielded ops b0.tmps) = true := by simp [Region.wanted, hgd]
 rw [if_pos hw]
 obtain ⟨i, z, hi, hz0, hsz, hby, hzs⟩ := elemBytesK.info
 obtain ⟨xs, hox, hoN, hoz⟩ := id hown
 refine wp_append_lies w s x 204 ho 0 22 i z 1 24 elemBytesK.ht hi hz0 hsz hby hzs (by decide) v k xs hs hox ⟨g, 0, none⟩ 1 1 [.slice (some ⟨b, 0, none⟩) 64 64] hx rfl (fun j u hj => by
  rw [add_off', Nat.zero_add, cell_obj hu]; simpa using hj) (by simp [Value.oneCell']) (by decide) (by unfold maxLen; omega) (by omega) (Nat.zero_le _) w.heap.size rfl ?_
 intro g' cap w' hw' hgr hor hlt
 have hK : Keeps (fun q => v.ownBlock = some q) w w' := ⟨hgr.os, hgr.tape, hgr.output, hgr.size, fun k' hk' hn' => hgr.block k' hk' (fun e => hn' e.symm)⟩
 refine h g' cap w' ⟨_, hw', fun g2 hg2 => ?_, fun i hi => ?_⟩ hK hor
 · obtain rfl : g' = g2 := Option.some.inj hg2
   rcases hor with ho | ho
   · exact hoN _ ho
   · omega
 · by_cases hik : i < k
   · obtain ⟨b1, q1, q2, q3⟩ := hoz i hik
     refine ⟨b1, ?_, q2, hK.obj q3 (fun e => ?_)⟩
     · rw [List.getElem?_append_left (by have := (List.getElem?_eq_some_iff.1 q1).1; exact this)]; exact q1
     · obtain ⟨c, hc⟩ := hown.obj e
       exact ne_of_obj q3 hc (by decide) rfl
   · obtain rfl : i = k := by omega
     have hl : xs.length = i := by have := hox.1; omega
     refine ⟨b, ?_, hb, hK.obj hz (fun e => ?_)⟩
     · rw [List.getElem?_append_right (by omega), hl, Nat.sub_self]; rfl
     · obtain ⟨c, hc⟩ := hown.obj e
       exact ne_of_obj hz hc (by decide) rfl

theorem step_make64 {ops : Array Oper} {o : Oper} {a b0 : Act} {w : World} {K : Act → World → Prop} {Q : Exit → Act → World → Prop} {F : Prop} (hgd : o.guard = none) (ho : o.op = .makeSlice 22 (.const (.int .i64 64)) (.const (.int .i64 64)))
 (h : ∀ w', w' = w.alloc (.cells z64 5) → K (a.put o.dst (.slice (some ⟨w.heap.size, 0, none⟩) 64 64)) w') :
 if Region.wanted o (yielded ops b0.tmps) = true then Oper.wp Tryz.prog o a w K Q else F := by
 have hw : Region.wanted o (yielded ops b0.tmps) = true := by simp [Region.wanted, hgd]
 rw [if_pos hw]
 have hr : (Instr.makeSlice 22 (.int .i64 64) (.int .i64 64)).run Tryz.prog w = .ok (.slice (some ⟨w.heap.size, 0, none⟩) 64 64) (w.alloc (.cells z64 5)) := by
  obtain ⟨i, z, hi, hz, hs, hby, hzs⟩ := infoByte
  have hz' : i.zero = some (.int .u8 0) := by
   have : (Tryz.prog.info? 5).map (·.zero) = some (some (.int .u8 0)) := by kernel_rfl
   rw [hi] at this; simpa using this
  exact run_make1 22 5 i (.int .u8 0) Tryz.underlying22 hi hz' rfl hs (by omega) 64 w (by decide) (by decide)
 unfold Oper.wp execOp
 simp only [ho, Act.eval, Sem.run_bind]
 rw [hr]
 exact h _ rfl
theorem step_lit64 {ops : Array Oper} {o : Oper} {a b0 : Act} {w : World} {K : Act → World → Prop} {Q : Exit → Act → World → Prop} {F : Prop} (hgd : o.guard = none) (x : Operand) (ho : o.op = .buildSlice 204 1 #[(0, x)]) {g : Nat} (hx : a.eval x = .slice (some ⟨g, 0, none⟩) 64 64)
 (h : ∀ w', w' = w.alloc (.cells #[.slice (some ⟨g, 0, none⟩) 64 64] 22) → K (a.put o.dst (.slice (some ⟨w.heap.size, 0, none⟩) 1 1)) w') :
 if Region.wanted o (yielded ops b0.tmps) = true then Oper.wp Tryz.prog o a w K Q else F := by
 have hw : Region.wanted o (yielded ops b0.tmps) = true := by simp [Region.wanted, hgd]
 rw [if_pos hw]
 unfold Oper.wp execOp
 have hr : (Instr.buildSlice 204 1 #[(0, .slice (some ⟨g, 0, none⟩) 64 64)]).run Tryz.prog w = .ok (.slice (some ⟨w.heap.size, 0, none⟩) 1 1) (w.alloc (.cells #[.slice (some ⟨g, 0, none⟩) 64 64] 22)) := by
  go_simp
 simp only [ho, List.map_toArray, List.map_cons, List.map_nil, hx, Sem.run_bind]
 rw [hr]
 exact h _ rfl
theorem below_alloc {w w' : World} {o : Obj} (h : w' = w.alloc o) : Below w.heap.size w w' := by subst h; exact grow_alloc (Below.refl _ _) _
theorem obj_alloc {w w' : World} {o : Obj} (h : w' = w.alloc o) : objAt w' w.heap.size = some o := by subst h; rw [objAt_alloc, if_pos rfl]
def Reg.new (n : Nat) : Reg := ⟨List.replicate n zeros64, List.replicate n zeros64, [], []⟩
theorem Reg.new_ok {n : Nat} (h0 : 0 < n) (hn : n ≤ 1000) : (Reg.new n).Ok := by
 refine ⟨by simpa [Reg.new] using h0, by simpa [Reg.new] using hn, rfl, fun l hl => ?_, fun l hl => ?_, fun p hp => by simp [Reg.new] at hp, fun l hl => by simp [Reg.new] at hl⟩
 · rw [(List.mem_replicate.1 hl).2]; rfl
 · rw [(List.mem_replicate.1 hl).2]; rfl
theorem flatten_singles (xs : List Value) : (xs.map fun x => [x]).flatten = xs := by
 induction xs with
 | nil => rfl
 | cons x xs ih => rw [List.map_cons, List.flatten_cons, ih]; rfl
theorem SeenRow.rowB {w : World} {N k : Nat} {v : Value} {S : Nat → Prop} (h : SeenRow w N v k) (hS : ∀ q, N ≤ q → q < w.heap.size → S q) : RowB w S v (List.replicate k zeros64) := by
 have hown : ∀ g, v.ownBlock = some g → S g := fun g hg => by
  obtain ⟨c, hc⟩ := h.obj hg
  exact hS g (h.choose_spec.2.1 g hg) (block_lt hc)
 obtain ⟨xs, h1, h2, h3⟩ := h
 have hl : xs.length = k := by have := h1.1; omega
 refine ⟨⟨xs.map (fun x => [x]), ?_, by simp [hl], fun c hc => by obtain ⟨x, _, rfl⟩ := List.mem_map.1 hc; rfl, fun i a c ha hc => ?_⟩, hown⟩
 · rw [List.length_replicate, flatten_singles]
   exact h1
 · have hi : i < k := by have := (List.getElem?_eq_some_iff.1 ha).1; simpa using this
   obtain ⟨b, q1, q2, q3⟩ := h3 i hi
   rw [List.getElem?_map, q1] at hc
   obtain rfl := Option.some.inj hc
   have e : a = zeros64 := by
    rw [List.getElem?_replicate, if_pos hi] at ha
    exact (Option.some.inj ha).symm
   subst e
   exact ⟨_, rfl, ⟨b, 0, none⟩, z64, 64, rfl, bytes_z64 q3, hS b q2 (block_lt q3), q3⟩
structure NewSt (w0 w : World) (r k : Nat) : Prop where
 below : Below r w0 w
 lt : r < w.heap.size
 ex : ∃ s0 s1, objAt w r = some (.cells #[s0, s1, .slice none 0 0, .slice none 0 0] 207 (0, 0)) ∧ SeenRow w (r + 1) s0 k ∧ SeenRow w (r + 1) s1 k ∧ ∀ g, s0.ownBlock = some g → s1.ownBlock ≠ some g
theorem NewSt.next {w0 w : World} {r k : Nat} {s0 s1 v0 v1 : Value} (hb : Below r w0 w) (ho : objAt w r = some (.cells #[s0, s1, .slice none 0 0, .slice none 0 0] 207 (0, 0))) (h0 : SeenRow w (r + 1) v0 k) (h1 : SeenRow w (r + 1) v1 k) (hne : ∀ g, v0.ownBlock = some g → v1.ownBlock ≠ some g) :
 NewSt w0 ((w.setCell ⟨r, 0, none⟩ v0).setCell ⟨r, 1, none⟩ v1) r k := by
 have hK : Keeps (fun q => q = r) w ((w.setCell ⟨r, 0, none⟩ v0).setCell ⟨r, 1, none⟩ v1) := (Keeps.setCell (S := fun q => q = r) _ ⟨r, 0, none⟩ _ rfl).trans (Keeps.setCell (S := fun q => q = r) _ ⟨r, 1, none⟩ _ rfl)
 refine ⟨hb.trans ⟨hK.os, hK.tape, hK.output, hK.size, fun q hq => hK.block q (Nat.lt_of_lt_of_le hq (by have := block_lt ho; omega)) (by omega)⟩, Nat.lt_of_lt_of_le (block_lt ho) hK.size, v0, v1, ?_, ?_, ?_, hne⟩
 · rw [objAt_setCell (objAt_setCell ho 0 v0) 1 v1]; rfl
 · exact h0.keeps hK (fun g hg e => by have := h0.choose_spec.2.1 g hg; omega) (fun b q hq e => by subst e; exact ne_of_obj hq ho (by decide) rfl)
 · exact h1.keeps hK (fun g hg e => by have := h1.choose_spec.2.1 g hg; omega) (fun b q hq e => by subst e; exact ne_of_obj hq ho (by decide) rfl)
theorem NewSt.reg {w0 w : World} {r n : Nat} (h : NewSt w0 w r n) : RegAt w (fun q => r ≤ q ∧ q < w.heap.size) r (Reg.new n) := by
 obtain ⟨s0, s1, ho, h0, h1, hne⟩ := h.ex
 refine ⟨s0, s1, _, _, ho, h0.rowB (fun q hq hl => ⟨by omega, hl⟩), h1.rowB (fun q hq hl => ⟨by omega, hl⟩), RowG.nil _ _ _ _ _, RowG.nil _ _ _ _ _, hne, (fun g _ e => by cases e), (fun g _ e => by cases e), ⟨Nat.le_refl _, h.lt⟩⟩
def PEl (_ : World) (r : Nat) (c : List Value) : Prop := c = [.pointer (some ⟨r, 0, none⟩)]
structure MidV (w0 w : World) (d : Nat) (l : List Int) (k : Nat) (lv : Value) (rs : List Nat) (S : Nat → Nat → Prop) : Prop where
 below : Below w0.heap.size w0 w
 ge : w0.heap.size ≤ d
 obj : objAt w d = some (.cells #[lv, .int .i64 (-1)] 202 (0, 0))
 row : RowG w (fun q => d < q) 203 1 PEl lv rs
 len : rs.length = k
 reg : ∀ (j r : Nat) (n : Int), rs[j]? = some r → l[j]? = some n → RegAt w (S j) r (Reg.new n.toNat)
 foot : ∀ j q, S j q → d < q ∧ q < w.heap.size ∧ lv.ownBlock ≠ some q ∧ j < k
 disj : ∀ i j q, S i q → S j q → i = j
def Mid (w0 w : World) (d : Nat) (l : List Int) (k : Nat) : Prop := ∃ lv rs S, MidV w0 w d l k lv rs S
theorem MidV.grow {w0 w w' : World} {d k : Nat} {l : List Int} {lv : Value} {rs : List Nat} {S : Nat → Nat → Prop} (h : MidV w0 w d l k lv rs S) (hb : Below w.heap.size w w') : MidV w0 w' d l k lv rs S :=
 ⟨h.below.trans (hb.mono h.below.size), h.ge, grow_obj hb h.obj, h.row.keeps (Keeps.of_below_size hb) (fun g hg e => by have := h.row.lt hg; omega) (fun _ h => h) (fun _ _ h => h), h.len, fun j r n hj hn => (h.reg j r n hj hn).keeps (Keeps.of_below_size hb) (fun g hg e => by have := (h.foot j g hg).2.1; omega) (fun _ h _ => h),
  fun j q hq => ⟨(h.foot j q hq).1, Nat.lt_of_lt_of_le (h.foot j q hq).2.1 hb.size, (h.foot j q hq).2.2⟩, h.disj⟩
theorem MidV.push {w0 w1 w2 : World} {d k r n hi g' n' cap' : Nat} {l : List Int} {lv : Value} {rs : List Nat} {S : Nat → Nat → Prop} {S3 : Nat → Prop} (h : MidV w0 w1 d l k lv rs S) (hreg : RegAt w1 (fun q => r ≤ q ∧ q < hi) r (Reg.new n)) (hn : l[k]? = some (n : Int)) (hown : ∀ g, lv.ownBlock = some g → g < r) (hlo : ∀ j q, S j q → q < r) (hd : d < r) (hhi : hi ≤ w1.heap.size)
 (hrow : RowG w2 S3 203 1 PEl (.slice (some ⟨g', 0, none⟩) n' cap') (rs ++ [r])) (hS3 : ∀ q, S3 q → d < q) (hk : Keeps (fun q => lv.ownBlock = some q) w1 w2) (ho : lv.ownBlock = some g' ∨ g' = w1.heap.size) :
 objAt w2 d = some (.cells #[lv, .int .i64 (-1)] 202 (0, 0)) ∧ Mid w0 (w2.setCell ⟨d, 0, none⟩ (.slice (some ⟨g', 0, none⟩) n' cap')) d l (k + 1) := by
 have hod : objAt w2 d = some (.cells #[lv, .int .i64 (-1)] 202 (0, 0)) := hk.obj h.obj (fun e => by have := h.row.own _ e; omega)
 have hs : (w2.setCell ⟨d, 0, none⟩ (.slice (some ⟨g', 0, none⟩) n' cap')).heap.size = w2.heap.size := size_setCell _ _ _
 have hK : Keeps (fun q => q = d) w2 (w2.setCell ⟨d, 0, none⟩ (.slice (some ⟨g', 0, none⟩) n' cap')) := Keeps.setCell _ _ _ rfl
 have hrd : RowG (w2.setCell ⟨d, 0, none⟩ (.slice (some ⟨g', 0, none⟩) n' cap')) (fun q => d < q) 203 1 PEl (.slice (some ⟨g', 0, none⟩) n' cap') (rs ++ [r]) :=
  hrow.keeps hK (fun g hg e => by have := hS3 _ (hrow.own g hg); omega) hS3 (fun _ _ h => h)
 have hrl : r < w1.heap.size := by obtain ⟨_, _, _, _, hv⟩ := hreg; exact block_lt hv.obj
 have hg' : ∀ q, (q < r ∧ lv.ownBlock ≠ some q) ∨ (r ≤ q ∧ q < hi) → g' ≠ q := fun q hq e => by
  subst e
  rcases ho with ho | ho
  · rcases hq with hq | hq
    · exact hq.2 ho
    · have := hown _ ho; omega
  · rcases hq with hq | hq <;> omega
 refine ⟨hod, _, _, fun j => if j = k then (fun q => r ≤ q ∧ q < hi) else S j, ?_, h.ge, ?_, hrd, by simp [h.len], fun j r' m hj hm => ?_, fun j q hq => ?_, fun i j q hi hj => ?_⟩
 · refine (h.below.trans ⟨hk.os, hk.tape, hk.output, hk.size, fun q hq => hk.block q (Nat.lt_of_lt_of_le hq h.below.size) (fun e => by have := h.row.own q e; have := h.ge; omega)⟩).trans ⟨rfl, rfl, rfl, Nat.le_of_eq hs.symm, fun q hq => heap_setCell_ne (by have := h.ge; show q ≠ d; omega) _⟩
 · rw [objAt_setCell hod]; rfl
 · by_cases e : j = k
   · subst e
     rw [if_pos rfl]
     rw [List.getElem?_append_right (by rw [h.len]; exact Nat.le_refl _), h.len, Nat.sub_self] at hj
     obtain rfl := Option.some.inj hj
     rw [hn] at hm
     obtain rfl := Option.some.inj hm
     rw [Int.toNat_natCast]
     exact (hreg.keeps hk (fun g hg e => by have := hown _ e; omega) (fun _ h _ => h)).keeps hK (fun g hg e => by omega) (fun _ h _ => h)
   · rw [if_neg e]
     have hjk : j < k := by
      have := (List.getElem?_eq_some_iff.1 hj).1
      have hl := h.len
      simp only [List.length_append, List.length_singleton] at this; omega
     rw [List.getElem?_append_left (by rw [h.len]; exact hjk)] at hj
     exact ((h.reg j r' m hj hm).keeps hk (fun g hg e => (h.foot j g hg).2.2.1 e) (fun _ h _ => h)).keeps hK (fun g hg e => by have := (h.foot j g hg).1; omega) (fun _ h _ => h)
 · by_cases e : j = k
   · subst e
     rw [if_pos rfl] at hq
     have := hk.size
     exact ⟨by omega, by rw [hs]; omega, fun e => hg' q (.inr hq) (Option.some.inj e), Nat.lt_succ_self _⟩
   · rw [if_neg e] at hq
     have hf := h.foot j q hq
     have := hk.size
     exact ⟨hf.1, by rw [hs]; omega, fun e => hg' q (.inl ⟨hlo j q hq, hf.2.2.1⟩) (Option.some.inj e), by omega⟩
 · by_cases ei : i = k
   · by_cases ej : j = k
     · omega
     · rw [if_pos ei] at hi
       rw [if_neg ej] at hj
       have := hlo j q hj; omega
   · rw [if_neg ei] at hi
     by_cases ej : j = k
     · rw [if_pos ej] at hj
       have := hlo i q hi; omega
     · rw [if_neg ej] at hj
       exact h.disj i j q hi hj
theorem Mid.done {w0 w : World} {d k : Nat} {l : List Int} (h : Mid w0 w d l k) (h0 : 0 < k) (h8 : k ≤ 8) (hk : k = l.length) (hl : ∀ n ∈ l, 1 ≤ n ∧ n ≤ 1000) :
 DevAt w (fun q => w0.heap.size ≤ q ∧ q < w.heap.size) d ⟨l.map fun n => Reg.new n.toNat, -1⟩ 0 := by
 obtain ⟨lv, rs, S, h⟩ := h
 obtain ⟨rl, rcap, rfl⟩ := h.row.form (by rw [h.len]; exact h0)
 obtain ⟨cur, hcur⟩ := h.row.obj (g := rl) rfl
 have hrl := h.row.own rl rfl
 have hge := h.ge
 refine ⟨⟨by simpa [← hk] using h0, by simpa [← hk] using h8, fun R hR => ?_, fun R hR => ?_, fun R hR => ?_, by show (-1 : Int) ≤ -1; decide, by show (-1 : Int) ≤ 1000000; decide⟩, fun q hq => hq.2, fun j => match j with | 0 => (fun q => q = d ∨ q = rl) | j + 1 => S j, rl, rcap, rs, ⟨?_, ⟨cur, hcur, fun j r hj => ?_⟩, by simp [h.len, hk], fun j r R hj hR => ?_, .inl rfl, .inr rfl, fun i j q hi hj => ?_, fun j q hq => ?_⟩, fun j q hq => ?_⟩
 · obtain ⟨n, hn, rfl⟩ := List.mem_map.1 hR
   have := hl n hn
   exact Reg.new_ok (by omega) (by omega)
 · obtain ⟨n, _, rfl⟩ := List.mem_map.1 hR; simp [Reg.new]
 · obtain ⟨n, _, rfl⟩ := List.mem_map.1 hR; simp [Reg.new]
 · have := h.obj
   rw [h.len, hk] at this
   simpa using this
 · obtain ⟨c, hc1, hc2, hc3⟩ := h.row.cells hj
   rw [hc2] at hc3
   have := hc3 0 _ rfl
   rw [Nat.mul_one, Nat.add_zero, cell_obj hcur] at this
   exact this
 · simp only [List.getElem?_map, Option.map_eq_some_iff] at hR
   obtain ⟨n, hn, rfl⟩ := hR
   exact h.reg j r n hj hn
 · match i, j with
   | 0, 0 => rfl
   | 0, j + 1 =>
     have hf := h.foot j q hj
     rcases hi with rfl | rfl
     · omega
     · exact absurd rfl hf.2.2.1
   | i + 1, 0 =>
     have hf := h.foot i q hi
     rcases hj with rfl | rfl
     · omega
     · exact absurd rfl hf.2.2.1
   | i + 1, j + 1 => exact congrArg (· + 1) (h.disj i j q hi hj)
 · match j with
   | 0 =>
     rcases hq with rfl | rfl
     · exact block_lt h.obj
     · exact block_lt hcur
   | j + 1 => exact (h.foot j q hq).2.1
 · match j with
   | 0 =>
     rcases hq with rfl | rfl
     · exact ⟨hge, block_lt h.obj⟩
     · exact ⟨by omega, block_lt hcur⟩
   | j + 1 => have := h.foot j q hq; exact ⟨by omega, this.2.1⟩
end
end Go.Proofs.YtbbnejehglonjaaGreat
