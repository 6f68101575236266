/- DERIVED. Contracts and laws that the proofs of this seat share, part 25 of 32: PyMa PzE PzA PzB. -/
import Derived.Test.YtanmihhlkelgeaaGreatMg01
import Derived.Test.YtanmihhlkelgeaaGreatMg09
import Derived.Test.YtanmihhlkelgeaaGreatMg14
import Derived.Test.YtanmihhlkelgeaaGreatMg15
import Derived.Test.YtanmihhlkelgeaaGreatMg18
import Derived.Test.YtanmihhlkelgeaaGreatMg24
/- DERIVED. Steps of a region: a new whole of a struct, a whole stored over it. -/
namespace Go.Proofs.YtanmihhlkelgeaaGreat
open Go.RowKit
attribute [local go_sem] hasBlk
attribute [local irreducible] Calls
set_option maxRecDepth 100000

theorem step_newReq {ops : Array Oper} {o : Oper} {a b0 : Act} {w : World} {K : Act → World → Prop} {Q : Exit → Act → World → Prop} {F : Prop} (hgd : o.guard = none) (ho : o.op = .alloc 32)
    (h : ∀ g w', g = w.heap.size → w' = w.alloc (.cells #[.int .i64 0, .string ⟨#[]⟩, .string ⟨#[]⟩, .int .i64 0, .int .i64 0, .int .i64 0, .slice none 0 0] 32) → K (a.put o.dst (.pointer (some ⟨g, 0, none⟩))) w') :
    if Region.wanted o (yielded ops b0.tmps) = true then Oper.wp Tryz.prog o a w K Q else F := by
  have hw : Region.wanted o (yielded ops b0.tmps) = true := by simp [Region.wanted, hgd]
  rw [if_pos hw]
  have hr : (Instr.alloc 32 true (.tuple #[])).run Tryz.prog w = .ok (.pointer (some ⟨w.heap.size, 0, none⟩)) (w.alloc (.cells #[.int .i64 0, .string ⟨#[]⟩, .string ⟨#[]⟩, .int .i64 0, .int .i64 0, .int .i64 0, .slice none 0 0] 32)) := by kernel_rfl
  unfold Oper.wp execOp
  simp only [ho, Sem.run_bind]
  rw [hr]
  exact h _ _ rfl rfl
theorem step_storeAgg {t : TypeId} {n : Nat} (E : AggOf Tryz.prog t n) {ops : Array Oper} {o : Oper} {a b0 : Act} {w : World} {K : Act → World → Prop} {Q : Exit → Act → World → Prop} {F : Prop} (hgd : o.guard = none) (x y : Operand) (ho : o.op = .store t x y) {g : Nat} {c c' : Array Value} {ty : TypeId}
    (hx : a.eval x = .pointer (some ⟨g, 0, none⟩)) (hy : a.eval y = .agg c') (hg : objAt w g = some (.cells c ty (0, 0))) (hs : c.size = n) (hs' : c'.size = n) (h1 : ∀ v ∈ c'.toList, v.oneCell' = true)
    (h : ∀ w', w' = w.setRow g c' → K (a.put o.dst undef) w') :
    if Region.wanted o (yielded ops b0.tmps) = true then Oper.wp Tryz.prog o a w K Q else F := by
  have hw : Region.wanted o (yielded ops b0.tmps) = true := by simp [Region.wanted, hgd]
  rw [if_pos hw]
  have hr := run_store_agg E w g c' (rowAt_heap hg) hs hs' h1
  unfold Oper.wp execOp
  simp only [ho, hx, hy, Sem.run_bind]
  rw [hr]
  simp only [Result.andThen_ok, Sem.run_pure]
  exact h _ rfl
end Go.Proofs.YtanmihhlkelgeaaGreat

/- DERIVED. Contract of store.Blocks. -/
namespace Go.Proofs.YtanmihhlkelgeaaGreat
open Go.RowKit
attribute [local irreducible] Calls
set_option maxRecDepth 100000

section
variable {w : World} {Sd : Nat → Prop} {v d reg : Nat} {s : Sh} {epoch seq : Nat} {used : Int} {gb cap m : Nat} {bs : List Blk} {Dm : ML} {D : Dv} {c : Nat}
set_option maxHeartbeats 4000000 in
theorem VolP.blocksOf {so place : Nat} (h : VolP w Sd v d reg s epoch seq used gb cap m bs Dm D c) (ho : objAt w so = some (.cells #[.pointer (some ⟨v, 0, none⟩), .int .i64 place] 133 (0, 0))) :
    Calls Tryz.prog 56 #[.pointer (some ⟨so, 0, none⟩)] w fun e w' => ∃ V, e = .returned V ∧ KRow w' w.heap.size V bs ∧ Below w.heap.size w w' := by
  have hlen : bs.length ≤ 200 := by rw [← h.slen]; exact h.sok.blocks
  have c0 := cell_obj ho 0
  have HB := Lib.hid h.blocks
  have H := Lib.hid (And.intro h ho)
  clear h ho
  go_enter Tryz.func56, Tryz.ntmps56
  go_wp2_with (go_at_call 90; refine HB.out.mono ?_; rintro e wx ⟨rfl, hwx⟩; obtain rfl := hwx.symm)
  clear c0
  go_loopw [2, 13] (fun l i wr => ∃ (k : Nat) (V : Value), k ≤ bs.length ∧ i = .int .i64 k ∧ V = l ∧ KRow wr w.heap.size V (bs.take k) ∧ Below w.heap.size w wr) (fun _ i _ => bs.length - (Go.RowKit.intOf i).toNat)
  case atStart => exact ⟨0, _, Nat.zero_le _, rfl, rfl, World.ownsRow_nil _ _ _ _, Below.refl _ _⟩
  case round =>
    obtain ⟨k, V, hk, rfl, rfl, hV, hb⟩ := hrel
    by_cases hlt : k < bs.length
    · obtain ⟨b, hbk⟩ : ∃ b, bs[k]? = some b := ⟨_, List.getElem?_eq_getElem hlt⟩
      have hin : inB bs (k : Int) = true := by simp [inB]; omega
      have hget := (H.out.1.below hb).get (k : Int)
      have hgb : getB bs (k : Int) = b := by unfold getB; rw [if_pos hin, blkD_nat, List.getD_eq_getElem?_getD, hbk]; rfl
      rw [hgb, hin] at hget
      have HG := Lib.hid hget
      have c0 := cell_obj (grow_obj hb H.out.2) 0
      have hlt' : (k : Int) < (bs.length : Int) := by omega
      have HX := Lib.hid (And.intro hV (And.intro hb hbk))
      clear hV hb hbk hin hget hgb
      go_upto_region 7 with (go_at_call 91; refine HG.out.mono ?_; rintro e w2 ⟨rfl, b2⟩)
      have hb4 : Below w.heap.size w (w2.alloc (.cells b.cells 139)) := grow_alloc (grow_trans HX.out.2.1 b2) _
      have hV4 : KRow (w2.alloc (.cells b.cells 139)) w.heap.size V (bs.take k) := (HX.out.1.below b2).alloc _
      have hX4 : BlkAt (w2.alloc (.cells b.cells 139)) w2.heap.size b := BlkAt.alloc_new w2 b
      obtain ⟨w4, hw4⟩ : ∃ w4, w4 = w2.alloc (.cells b.cells 139) := ⟨_, rfl⟩
      obtain ⟨N, hN⟩ : ∃ N, N = w2.heap.size := ⟨_, rfl⟩
      rw [← hw4] at hb4 hV4 hX4
      rw [← hN] at hX4
      rw [← hw4, ← hN]
      have hbk4 := hX4.has
      have hrk4 := hX4.row
      have hdn : (bs.take k).length < 1000000 := by rw [List.length_take]; omega
      have H4 := Lib.hid (And.intro hb4 hV4)
      clear hb4 hV4 hX4 hw4 hN b2
      go_wp2_with (first | (refine list_lit1 elemBlkK rfl _ rfl (by rfl) (Blk.size_cells b) (by decide) ?_; intro w5 hw5; have hB5 := below_alloc hw5; have ho5 : BlkAt w5 w4.heap.size b := obj_alloc hw5; have HX5 := Lib.hid (And.intro (H4.out.2.below hB5) (And.intro ho5 hB5)); clear hw5 hB5 ho5) | (at_builtin; refine list_appK1 rfl _ _ rfl rfl HX5.out.1 rfl HX5.out.2.1 hdn (grow_trans H4.out.1 HX5.out.2.2).size ?_; intro g6 cap6 w6 hr6 hk6 ho6 hl6; have H6 := Lib.hid (And.intro hr6 hk6); clear hr6 hk6 ho6 hl6))
      go_roundw
      case rel =>
        have hkk : (bs.take k).length = k := by rw [List.length_take]; omega
        have h6 := H6.out.1
        have hb := HX.out.2.2
        obtain ⟨hlt2, hbe⟩ := List.getElem?_eq_some_iff.1 hb
        refine ⟨k + 1, _, by omega, by go_num, rfl, ?_, ?_⟩
        · rw [List.take_succ_eq_append_getElem hlt2, hbe]; first | exact h6 | (rw [hkk] at h6; exact h6)
        · exact (grow_trans H4.out.1 HX5.out.2.2).trans (H6.out.2.below (grow_trans H4.out.1 HX5.out.2.2).size (fun q e => (HX5.out.1.ownObj e).1))
      case measure => simp [Go.RowKit.intOf]; omega
    · obtain rfl : k = bs.length := by omega
      have HX := Lib.hid (And.intro hV hb)
      clear hV hb
      go_wp2_with fail
      go_ret
      refine ⟨V, rfl, ?_, HX.out.2⟩
      have := HX.out.1
      rwa [List.take_length] at this
end
end Go.Proofs.YtanmihhlkelgeaaGreat

/- DERIVED. A config of one share: conf.share, conf.May, area.Sizes; and of none. -/
namespace Go.Proofs.YtanmihhlkelgeaaGreat
open Go.RowKit
attribute [local go_sem] hasBlk
attribute [local irreducible] Calls
set_option maxRecDepth 100000

def sh0 : Sh := ⟨0, 0, 8, 16, 1⟩
theorem sh0_ok : sh0.Ok := ⟨by decide, by decide, by decide, by decide, by decide⟩
/-- The one share of a config, at a block's first cells. -/
def CfgAt (w : World) (g : Nat) : Prop := ∀ (j : Nat) (v : Value), (#[.int .i64 0, .int .i64 0, .int .i64 8, .int .i64 16, .int .i64 1] : Array Value)[j]? = some v → w.cell? ⟨g, j, none⟩ = some v
theorem CfgAt.below {w w' : World} {g : Nat} (h : CfgAt w g) (hb : Below w.heap.size w w') : CfgAt w' g := fun j v hv => grow_cell hb (h j v hv)
theorem CfgAt.of {w : World} {g : Nat} (h : objAt w g = some (.cells #[.int .i64 0, .int .i64 0, .int .i64 8, .int .i64 16, .int .i64 1] 41 (0, 0))) : CfgAt w g := fun j _ hv => (cell_obj h j).trans hv

theorem share1_ok (n a b : Int) (h1 : a ≤ n) (h2 : n ≤ b) (w : World) : Calls Tryz.prog 78 #[.int .i64 n, .int .i64 a, .int .i64 b] w fun e w' => e = .returned (.bool true) ∧ w' = w := by
  go_enter Tryz.func78, Tryz.ntmps78
  go_wp2_with fail
  go_ret
  exact ⟨rfl, rfl⟩
set_option maxHeartbeats 1000000 in
theorem share_ok (w : World) : Calls Tryz.prog 51 #[.agg #[.int .i64 0, .int .i64 0, .int .i64 8, .int .i64 16, .int .i64 1]] w fun e w' => e = .returned (.bool true) ∧ Below w.heap.size w w' := by
  go_enter Tryz.func51, Tryz.ntmps51
  go_wp2_with (first
    | (go_at_call 79; refine (LabelMay_ok 0 0 (by decide) (by decide) _).mono ?_; rintro e w1 ⟨rfl, b1⟩; have c2 : w1.cell? ⟨w.heap.size, 2, none⟩ = some (.int .i64 8) := grow_cell b1 (by simp); have c3 : w1.cell? ⟨w.heap.size, 3, none⟩ = some (.int .i64 16) := grow_cell b1 (by simp); have c4 : w1.cell? ⟨w.heap.size, 4, none⟩ = some (.int .i64 1) := grow_cell b1 (by simp))
    | (go_at_call 78; refine (share1_ok _ _ _ (by decide) (by decide) _).mono ?_; rintro e wx ⟨rfl, hwx⟩; obtain rfl := hwx.symm))
  go_ret
  exact ⟨rfl, grow_trans (grow_alloc (Below.refl _ _) _) b1⟩
theorem idxCfg_nil (a : Option Addr) (cap : Nat) (f : Value) (w : World) : Calls Tryz.prog 80 #[.slice a 0 cap, f] w fun e w' => e = .returned (.int .i64 (-1)) ∧ w' = w := by
  go_enter Tryz.func80, Tryz.ntmps80
  go_wp2_with fail
  refine wp_loop_rounds 1 ?_
  rw [rounds_succ]
  go_wp2_with fail
  go_ret
  exact ⟨rfl, rfl⟩
theorem hasCfg_nil (a : Option Addr) (cap : Nat) (f : Value) (w : World) : Calls Tryz.prog 52 #[.slice a 0 cap, f] w fun e w' => e = .returned (.bool false) ∧ w' = w := by
  go_enter Tryz.func52, Tryz.ntmps52
  go_wp2_with (go_at_call 80; refine (idxCfg_nil _ _ _ _).mono ?_; rintro e wx ⟨rfl, hwx⟩; obtain rfl := hwx.symm)
  go_ret
  exact ⟨rfl, rfl⟩
set_option maxHeartbeats 1000000 in
theorem May_ok (g cap : Nat) (w : World) (h : CfgAt w g) : Calls Tryz.prog 37 #[.slice (some ⟨g, 0, none⟩) 1 cap] w fun e w' => e = .returned (.bool true) ∧ Below w.heap.size w w' := by
  have c0 := h 0 _ rfl
  have c1 := h 1 _ rfl
  have c2 := h 2 _ rfl
  have c3 := h 3 _ rfl
  have c4 := h 4 _ rfl
  clear h
  go_enter Tryz.func37, Tryz.ntmps37
  go_wp2_with fail
  refine wp_loop_rounds 2 ?_
  rw [rounds_succ]
  go_wp2_with (first | (go_at_call 51; refine (share_ok _).mono ?_; rintro e w1 ⟨rfl, b1⟩) | (go_at_call 52; refine (hasCfg_nil _ _ _ _).mono ?_; rintro e wx ⟨rfl, hwx⟩; obtain rfl := hwx.symm))
  rw [rounds_succ]
  go_wp2_with fail
  go_ret
  exact ⟨rfl, grow_trans (grow_alloc (Below.refl _ _) _) b1⟩
theorem May_nil (w : World) : Calls Tryz.prog 37 #[.slice none 0 0] w fun e w' => e = .returned (.bool false) ∧ w' = w := by
  go_enter Tryz.func37, Tryz.ntmps37
  go_wp2_with fail
  refine wp_loop_rounds 1 ?_
  rw [rounds_succ]
  go_wp2_with fail
  go_ret
  exact ⟨rfl, rfl⟩
set_option maxHeartbeats 1000000 in
theorem Sizes_ok (g cap : Nat) (w : World) (h : CfgAt w g) : Calls Tryz.prog 35 #[.slice (some ⟨g, 0, none⟩) 1 cap] w fun e w' => ∃ a c, e = .returned (.slice a 1 c) ∧ IntsAt w' a [26] ∧ Below w.heap.size w w' := by
  have HM := Lib.hid (May_ok g cap w h)
  have H := Lib.hid h
  clear h
  go_enter Tryz.func35, Tryz.ntmps35
  go_wp2_with (go_at_call 37; refine HM.out.mono ?_; rintro e w1 ⟨rfl, b1⟩)
  have h1 := H.out.below b1
  have c0 := h1 0 _ rfl
  have c1 := h1 1 _ rfl
  have c2 := h1 2 _ rfl
  have c3 := h1 3 _ rfl
  have c4 := h1 4 _ rfl
  clear h1
  refine wp_loop_rounds 2 ?_
  rw [rounds_succ]
  go_wp2_with (first
    | (go_at_call 49; refine (Size_any sh0 sh0_ok _).mono ?_; rintro e w2 ⟨rfl, b2⟩)
    | (at_builtin; refine wpList_app1 elemInt rfl _ _ rfl (World.ownsRow_nil _ w2.heap.size _ _) rfl _ (.int .i64 ((sh0.size : Nat) : Int)) rfl (by simp) rfl (by decide) (by simp) ?_; intro v3 w3 r3 g3 b3))
  rw [rounds_succ]
  go_wp2_with fail
  have r3' : IRow w3 w2.heap.size v3 [26] := r3
  obtain ⟨a, c, rfl, hi⟩ := r3'.ints
  go_ret
  exact ⟨a, c, rfl, hi, grow_trans (grow_trans b1 (grow_trans (grow_alloc (Below.refl _ _) _) b2)) (((Below.refl _ _).alloc (Nat.le_refl _) _).trans b3)⟩
theorem Sizes_nil (w : World) : Calls Tryz.prog 35 #[.slice none 0 0] w fun e w' => e = .returned (.slice none 0 0) ∧ w' = w := by
  go_enter Tryz.func35, Tryz.ntmps35
  go_wp2_with (go_at_call 37; refine (May_nil _).mono ?_; rintro e wx ⟨rfl, hwx⟩; obtain rfl := hwx.symm)
  go_ret
  exact ⟨rfl, rfl⟩
theorem DevNew_nil (w : World) : Calls Tryz.prog 34 #[.slice none 0 0] w fun e w' => e = .returned (.tuple #[.pointer none, .bool false]) ∧ w' = w := by
  go_enter Tryz.func34, Tryz.ntmps34
  go_wp2_with fail
  go_ret2
  exact ⟨rfl, rfl⟩
end Go.Proofs.YtanmihhlkelgeaaGreat

/- DERIVED. Rows of many appended; clones of a config, of a row of stores; contracts of queue.New, sight.New, vfs.New. -/
namespace Go.Proofs.YtanmihhlkelgeaaGreat
open Go.RowKit
attribute [local go_sem] hasBlk
attribute [local irreducible] Calls
set_option maxRecDepth 100000

theorem owns_empty {w : World} {base g k : Nat} {e : TypeId} (h : objAt w g = some (.cells #[] e (0, 0))) (hb : base ≤ g) : w.ownsRow base e k (.slice (some ⟨g, 0, none⟩) 0 0) 0 [] :=
  ⟨by simp, .inr ⟨g, 0, #[], rfl, hb, h, Nat.le_refl _, by decide, by simp, by simp⟩⟩
/-- Many of so many cells are appended to a row. -/
theorem wp_appM {t e : TypeId} {k bytes : Nat} (E : ElemK Tryz.prog t e k bytes) {o : Oper} {a : Act} {w : World} {K : Act → World → Prop} {Q : Exit → Act → World → Prop} (s x : Operand) (ho : o.op = .call { callee := .builtin .append, args := #[s, x], argTypes := #[t, t] })
    {base : Nat} {v : Value} {n : Nat} {xs : List Value} (hs : a.eval s = v) (hown : w.ownsRow base e k v n xs) {ad : Addr} {m c : Nat} {news : List Value} (hx : a.eval x = .slice (some ad) m c) (hl : news.length = m * k) (hnews : ∀ j u, news[j]? = some u → w.cell? (ad.add j) = some u) (h1 : ∀ u ∈ news, u.oneCell' = true)
    (hm : 0 < m) (hn : n + m ≤ 1000000) (hbase : base ≤ w.heap.size)
    (h : ∀ g cap w', w'.ownsRow base e k (.slice (some ⟨g, 0, none⟩) (n + m) cap) (n + m) (xs ++ news) → Below base w w' → g < w'.heap.size → base ≤ g → K (a.put o.dst (.slice (some ⟨g, 0, none⟩) (n + m) cap)) w') :
    o.wp Tryz.prog a w K Q := by
  obtain ⟨i, z, hi, hz, hsz, hby, hzs⟩ := E.info
  have hle := E.le
  have hbb : (n + m) * bytes ≤ 1000000 * 1024 := Nat.mul_le_mul hn hle
  refine wp_append_lies w s x t ho base e i z k bytes E.ht hi hz hsz hby hzs E.pos v n xs hs hown ad m c news hx hl hnews h1 hm (by unfold maxLen; omega) (by omega) hbase w.heap.size rfl ?_
  intro g cap w' hw' hgr hor hlt
  refine h g cap w' hw' ((Below.refl base w).grown hgr hbase (fun k hk => (hown.lt k hk).1)) hlt ?_
  rcases hor with h | rfl
  · exact (hown.lt g h).1
  · exact hbase
theorem list_appM {t e : TypeId} {k bytes : Nat} (E : ElemK Tryz.prog t e k bytes) {ops : Array Oper} {o : Oper} {a : Act} {w : World} {Q : Exit → Act → World → Prop} {rest : List Oper} (hgd : o.guard = none) (s x : Operand) (ho : o.op = .call { callee := .builtin .append, args := #[s, x], argTypes := #[t, t] })
    {base : Nat} {v : Value} {n : Nat} {xs : List Value} (hs : a.eval s = v) (hown : w.ownsRow base e k v n xs) {ad : Addr} {m c : Nat} {news : List Value} (hx : a.eval x = .slice (some ad) m c) (hl : news.length = m * k) (hnews : ∀ j u, news[j]? = some u → w.cell? (ad.add j) = some u) (h1 : ∀ u ∈ news, u.oneCell' = true)
    (hm : 0 < m) (hn : n + m ≤ 1000000) (hbase : base ≤ w.heap.size)
    (h : ∀ g cap w', w'.ownsRow base e k (.slice (some ⟨g, 0, none⟩) (n + m) cap) (n + m) (xs ++ news) → Below base w w' → g < w'.heap.size → base ≤ g → wpList Tryz.prog ops Q rest (a.put o.dst (.slice (some ⟨g, 0, none⟩) (n + m) cap)) w') :
    wpList Tryz.prog ops Q (o :: rest) a w :=
  wpList_plain hgd fun _ hK => wp_appM E s x ho hs hown hx hl hnews h1 hm hn hbase fun g cap w' h2 h3 h4 h5 => hK _ _ (h g cap w' h2 h3 h4 h5)

theorem elemShareK : ElemK Tryz.prog 43 41 5 40 := ElemK.mk' (z := .agg #[.int .i64 0, .int .i64 0, .int .i64 0, .int .i64 0, .int .i64 0]) Tryz.underlying43 (by kernel_rfl) rfl (by decide) (by decide)
theorem elemStoreK : ElemK Tryz.prog 98 105 1 8 := ElemK.mk' (z := .pointer none) Tryz.underlying98 (by kernel_rfl) rfl (by decide) (by decide)
def cfgRow : List Value := [.int .i64 0, .int .i64 0, .int .i64 8, .int .i64 16, .int .i64 1]
set_option maxHeartbeats 1000000 in
theorem cloneCfg_ok (g cap : Nat) (w : World) (h : CfgAt w g) : Calls Tryz.prog 28 #[.slice (some ⟨g, 0, none⟩) 1 cap] w fun e w' => ∃ g' cap', e = .returned (.slice (some ⟨g', 0, none⟩) 1 cap') ∧ CfgAt w' g' ∧ w.heap.size ≤ g' ∧ Below w.heap.size w w' := by
  have hnil : ∀ w', (binOp .eql 43 (.slice (some ⟨g, 0, none⟩) 1 cap) (.slice none 0 0)).run Tryz.prog w' = .ok (.bool false) w' := fun w' => eqNil_some w' _ _ Tryz.underlying43 _ _ _
  have H := Lib.hid h
  clear h
  go_enter Tryz.func28, Tryz.ntmps28
  go_wp2_with (at_builtin; refine list_appM elemShareK rfl _ _ rfl rfl (owns_empty (g := w.heap.size) (base := w.heap.size) (by simp [objAt_alloc]) (Nat.le_refl _)) (m := 1) (news := cfgRow) rfl rfl (fun j u hj => by rw [add_off', Nat.zero_add]; exact grow_cell (grow_alloc (Below.refl _ _) _) (H.out j u (by simpa [cfgRow] using hj))) (by simp [cfgRow, Value.oneCell']) (by decide) (by decide) (by simp) ?_; intro g2 cap2 w2 hw2 b2 hg2 hge2)
  go_ret
  refine ⟨g2, cap2, rfl, fun j v hv => ?_, hge2, (grow_alloc (Below.refl _ _) _).trans b2⟩
  have := World.ownsRow.cells hw2 (g := g2) rfl j v (by simpa [cfgRow] using hv)
  rwa [add_off', Nat.zero_add] at this
set_option maxHeartbeats 1000000 in
theorem cloneStores_ok (g cap : Nat) (x : Option Addr) (w : World) (h : w.cell? ⟨g, 0, none⟩ = some (.pointer x)) : Calls Tryz.prog 61 #[.slice (some ⟨g, 0, none⟩) 1 cap] w fun e w' => ∃ g' cap', e = .returned (.slice (some ⟨g', 0, none⟩) 1 cap') ∧ Below w.heap.size w w' := by
  have hnil : ∀ w', (binOp .eql 98 (.slice (some ⟨g, 0, none⟩) 1 cap) (.slice none 0 0)).run Tryz.prog w' = .ok (.bool false) w' := fun w' => eqNil_some w' _ _ Tryz.underlying98 _ _ _
  have H := Lib.hid h
  clear h
  go_enter Tryz.func61, Tryz.ntmps61
  go_wp2_with (at_builtin; refine list_appM elemStoreK rfl _ _ rfl rfl (owns_empty (g := w.heap.size) (base := w.heap.size) (by simp [objAt_alloc]) (Nat.le_refl _)) (m := 1) (news := [.pointer x]) rfl rfl (fun j u hj => by cases j with | zero => obtain rfl := Option.some.inj hj; exact grow_cell (grow_alloc (Below.refl _ _) _) H.out | succ j => simp at hj) (by simp [Value.oneCell']) (by decide) (by decide) (by simp) ?_; intro g2 cap2 w2 hw2 b2 hg2 hge2)
  go_ret
  exact ⟨g2, cap2, rfl, (grow_alloc (Below.refl _ _) _).trans b2⟩
theorem queueNew_ok (w : World) : Calls Tryz.prog 39 #[.int .i64 1] w fun e w' => ∃ q g, e = .returned (.pointer (some ⟨q, 0, none⟩)) ∧ objAt w' q = some (.cells #[.slice (some ⟨g, 0, none⟩) 1 1] 128 (0, 0)) ∧ w'.cell? ⟨g, 0, none⟩ = some (.slice none 0 0) ∧ w.heap.size ≤ q ∧ w.heap.size ≤ g ∧ Below w.heap.size w w' := by
  have hmk : ∀ w, (Instr.makeSlice 126 (.int .i64 1) (.int .i64 1)).run Tryz.prog w = .ok (.slice (some ⟨w.heap.size, 0, none⟩) 1 1) (w.alloc (.cells #[.slice none 0 0] 201)) := fun w => by kernel_rfl
  go_enter Tryz.func39, Tryz.ntmps39
  have hmin : min (1 : Int) 8 = 1 := by decide
  have hmax : max (1 : Int) 1 = 1 := by decide
  go_wp2_with fail
  go_ret
  refine ⟨w.heap.size + 1, w.heap.size, rfl, ?_, ?_, by omega, by omega, grow_alloc (grow_alloc (Below.refl _ _) _) _⟩
  · rw [objAt_alloc, size_alloc, if_pos rfl]
  · have ho : objAt (w.alloc (.cells #[.slice none 0 0] 201)) w.heap.size = some (.cells #[.slice none 0 0] 201 (0, 0)) := by rw [objAt_alloc, if_pos rfl]
    exact grow_cell (grow_alloc (Below.refl _ _) _) (cell_obj ho 0)
set_option maxHeartbeats 1000000 in
theorem sightNew_ok (g cap g2 cap2 : Nat) (x : Option Addr) (w : World) (h : CfgAt w g) (h2 : w.cell? ⟨g2, 0, none⟩ = some (.pointer x)) : Calls Tryz.prog 62 #[.slice (some ⟨g, 0, none⟩) 1 cap, .slice (some ⟨g2, 0, none⟩) 1 cap2] w fun e w' => ∃ p, e = .returned (.pointer (some ⟨p, 0, none⟩)) ∧ Below w.heap.size w w' := by
  have H1 := Lib.hid (cloneCfg_ok g cap w h)
  have H2 := Lib.hid h2
  clear h h2
  go_enter Tryz.func62, Tryz.ntmps62
  go_wp2_with (first | (go_at_call 28; refine H1.out.mono ?_; rintro e w1 ⟨g3, c3, rfl, _, _, b1⟩) | (go_at_call 61; refine (cloneStores_ok g2 cap2 x _ (grow_cell b1 H2.out)).mono ?_; rintro e w2 ⟨g4, c4, rfl, b2⟩))
  go_ret
  exact ⟨_, rfl, grow_alloc (grow_trans b1 b2) _⟩
set_option maxHeartbeats 1000000 in
theorem vfsNew_ok (g cap g2 cap2 : Nat) (x : Option Addr) (w : World) (h : CfgAt w g) (h2 : w.cell? ⟨g2, 0, none⟩ = some (.pointer x)) : Calls Tryz.prog 41 #[.slice (some ⟨g, 0, none⟩) 1 cap, .slice (some ⟨g2, 0, none⟩) 1 cap2] w fun e w' => ∃ p, e = .returned (.pointer (some ⟨p, 0, none⟩)) ∧ Below w.heap.size w w' := by
  have hmm : ∀ w, (Instr.makeMap 152 none).run Tryz.prog w = .ok (.map (some w.heap.size)) (w.alloc (.map #[] 0)) := fun w => run_makeMap _ w
  have H1 := Lib.hid h
  have H2 := Lib.hid h2
  clear h h2
  go_enter Tryz.func41, Tryz.ntmps41
  go_wp2_with (first | (go_at_call 61; refine (cloneStores_ok g2 cap2 x _ H2.out).mono ?_; rintro e w1 ⟨g4, c4, rfl, b1⟩) | (go_at_call 62; refine (sightNew_ok g cap g2 cap2 x _ (H1.out.below b1) (grow_cell b1 H2.out)).mono ?_; rintro e w2 ⟨p2, rfl, b2⟩))
  go_ret
  exact ⟨_, rfl, grow_alloc (grow_alloc (grow_trans b1 b2) _) _⟩
end Go.Proofs.YtanmihhlkelgeaaGreat
