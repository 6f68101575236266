/- DERIVED. Contracts and laws that the proofs of this seat share, part 9 of 40: LibX NoA LibM. -/
import Derived.Great.BuildSlice
import Derived.ArgAppend
import Derived.Maps.OwnOps
import Derived.Maps.OwnSet
import Derived.Maps.Range
import Derived.Test.YtbbnejehglonjaaGreatMg00
import Derived.Test.YtbbnejehglonjaaGreatMg02
import Derived.Test.YtbbnejehglonjaaGreatMg07
import Derived.Test.YtbbnejehglonjaaGreatMg08
/- DERIVED. A slice literal of one element of many cells; a block appended to a row of blocks. -/
namespace Go.Proofs.YtbbnejehglonjaaGreat
open Go.RowKit
attribute [local go_sem] hasBlk
attribute [local irreducible] Calls
set_option maxRecDepth 100000

theorem run_lit1 {P : Program} {t e : TypeId} {k bytes : Nat} (E : ElemK P t e k bytes) (c : Array Value) (hc : c.size = k) (hk : k ≤ 1000) (w : World) :
    (Instr.buildSlice t 1 #[(0, .agg c)]).run P w = .ok (.slice (some ⟨w.heap.size, 0, none⟩) 1 1) (w.alloc (.cells c e)) := by
  obtain ⟨i, z, hi, hz, hs, hby, hzs⟩ := E.info
  have hp := E.pos
  refine run_buildSlice w t e 1 _ c i z E.ht hi hz (by rw [hs]; omega) (by rw [hs]; omega) ?_
  rw [hs]
  have hv : (Value.agg c).cells = c := rfl
  have hl := fill_lay 0 c ((Array.range (1 * k)).map (z.cells[· % z.cells.size]!)) (by rw [hc]; simp)
  simp only [Instr.fill, hv]
  have hn : ¬ (decide (c.size ≠ k) || decide (0 * k + c.size > ((Array.range (1 * k)).map (z.cells[· % z.cells.size]!)).size)) = true := by rw [hc]; simp
  rw [if_neg hn, Nat.zero_mul, hl]
  congr 1
  apply Array.ext'
  simp [hc]
section
variable {t e : TypeId} {k bytes : Nat} {ops : Array Oper} {o : Oper} {a b0 : Act} {w : World} {K : Act → World → Prop} {Q : Exit → Act → World → Prop} {F : Prop} {rest : List Oper}
theorem wp_lit1 (E : ElemK Tryz.prog t e k bytes) (x : Operand) (ho : o.op = .buildSlice t 1 #[(0, x)]) {c : Array Value} (hx : a.eval x = .agg c) (hc : c.size = k) (hk : k ≤ 1000)
    (h : ∀ w', w' = w.alloc (.cells c e) → K (a.put o.dst (.slice (some ⟨w.heap.size, 0, none⟩) 1 1)) w') : o.wp Tryz.prog a w K Q := by
  unfold Oper.wp execOp
  simp only [ho, List.map_toArray, List.map_cons, List.map_nil, hx, Sem.run_bind]
  rw [run_lit1 E c hc hk]
  exact h _ rfl
theorem step_lit1 (E : ElemK Tryz.prog t e k bytes) (hgd : o.guard = none) (x : Operand) (ho : o.op = .buildSlice t 1 #[(0, x)]) {c : Array Value} (hx : a.eval x = .agg c) (hc : c.size = k) (hk : k ≤ 1000)
    (h : ∀ w', w' = w.alloc (.cells c e) → K (a.put o.dst (.slice (some ⟨w.heap.size, 0, none⟩) 1 1)) w') : if Region.wanted o (yielded ops b0.tmps) = true then Oper.wp Tryz.prog o a w K Q else F := by
  have hw : Region.wanted o (yielded ops b0.tmps) = true := by simp [Region.wanted, hgd]
  rw [if_pos hw]
  exact wp_lit1 E x ho hx hc hk h
theorem list_lit1 (E : ElemK Tryz.prog t e k bytes) (hgd : o.guard = none) (x : Operand) (ho : o.op = .buildSlice t 1 #[(0, x)]) {c : Array Value} (hx : a.eval x = .agg c) (hc : c.size = k) (hk : k ≤ 1000)
    (h : ∀ w', w' = w.alloc (.cells c e) → wpList Tryz.prog ops Q rest (a.put o.dst (.slice (some ⟨w.heap.size, 0, none⟩) 1 1)) w') : wpList Tryz.prog ops Q (o :: rest) a w :=
  wpList_plain hgd fun _ hK => wp_lit1 E x ho hx hc hk fun w' hw' => hK _ _ (h w' hw')
theorem elemBlkK : ElemK Tryz.prog 23 37 57 64 := ElemK.mk' (z := .agg Blk.zero.cells) Tryz.underlying23 (by kernel_rfl) (Blk.size_cells _) (by decide) (by decide)
theorem wp_appK (s x : Operand) (ho : o.op = .call { callee := .builtin .append, args := #[s, x], argTypes := #[23, 23] }) {B : Nat} {v : Value} {bs : List Blk} (hs : a.eval s = v) (hown : KRow w B v bs) {g : Nat} {b : Blk} (hx : a.eval x = .slice (some ⟨g, 0, none⟩) 1 1) (hu : BlkAt w g b) (hn : bs.length < 1000000) (hB : B ≤ w.heap.size)
    (h : ∀ g' cap' w', KRow w' B (.slice (some ⟨g', 0, none⟩) (bs.length + 1) cap') (bs ++ [b]) → Keeps (fun q => v.ownBlock = some q) w w' → (v.ownBlock = some g' ∨ g' = w.heap.size) → g' < w'.heap.size → K (a.put o.dst (.slice (some ⟨g', 0, none⟩) (bs.length + 1) cap')) w') : o.wp Tryz.prog a w K Q := by
  obtain ⟨i, z, hi, hz, hsz, hby, hzs⟩ := elemBlkK.info
  refine wp_append_lies w s x 23 ho B 37 i z 57 64 elemBlkK.ht hi hz hsz hby hzs (by decide) v bs.length _ hs hown ⟨g, 0, none⟩ 1 1 b.cells.toList hx (by rw [b.len_cells]) (fun j u hj => by
    rw [add_off', Nat.zero_add, cell_obj hu]; simpa using hj) b.one_cells (by decide) (by unfold maxLen; omega) (by omega) hB w.heap.size rfl ?_
  intro g' cap w' hw' hgr hor hlt
  refine h g' cap w' ?_ ⟨hgr.os, hgr.tape, hgr.output, hgr.size, fun k' hk' hn' => hgr.block k' hk' (fun e => hn' e.symm)⟩ hor hlt
  unfold KRow
  rw [List.length_append, flat_append]
  simpa [flat] using hw'
theorem step_appK (hgd : o.guard = none) (s x : Operand) (ho : o.op = .call { callee := .builtin .append, args := #[s, x], argTypes := #[23, 23] }) {B : Nat} {v : Value} {bs : List Blk} (hs : a.eval s = v) (hown : KRow w B v bs) {g : Nat} {b : Blk} (hx : a.eval x = .slice (some ⟨g, 0, none⟩) 1 1) (hu : BlkAt w g b) (hn : bs.length < 1000000) (hB : B ≤ w.heap.size)
    (h : ∀ g' cap' w', KRow w' B (.slice (some ⟨g', 0, none⟩) (bs.length + 1) cap') (bs ++ [b]) → Keeps (fun q => v.ownBlock = some q) w w' → (v.ownBlock = some g' ∨ g' = w.heap.size) → g' < w'.heap.size → K (a.put o.dst (.slice (some ⟨g', 0, none⟩) (bs.length + 1) cap')) w') : if Region.wanted o (yielded ops b0.tmps) = true then Oper.wp Tryz.prog o a w K Q else F := by
  have hw : Region.wanted o (yielded ops b0.tmps) = true := by simp [Region.wanted, hgd]
  rw [if_pos hw]
  exact wp_appK s x ho hs hown hx hu hn hB h
end
end Go.Proofs.YtbbnejehglonjaaGreat

/- DERIVED. Contracts of node's places, bare, sign. -/
namespace Go.Proofs.YtbbnejehglonjaaGreat
open Go.RowKit
attribute [local irreducible] Calls
set_option maxRecDepth 100000

theorem IRow.at_ {w : World} {B g n cap : Nat} {l : List Int} (h : IRow w B (.slice (some ⟨g, 0, none⟩) n cap) l) {i : Nat} {x : Int} (hi : l[i]? = some x) : w.cell? ⟨g, i, none⟩ = some (.int .i64 x) := by
  have := World.ownsRow.cells h (g := g) rfl i (.int .i64 x) (by rw [List.getElem?_map, hi]; rfl)
  rwa [add_off', Nat.zero_add] at this
/-- A whole number appended to a slice that has no room. -/
theorem step_fullI {ops : Array Oper} {o : Oper} {a b0 : Act} {w : World} {K : Act → World → Prop} {Q : Exit → Act → World → Prop} {F : Prop} (hgd : o.guard = none) (s x : Operand) (ho : o.op = .call { callee := .builtin .append, args := #[s, x], argTypes := #[33, 33] })
    {g off n : Nat} {xs : List Int} (hs : a.eval s = .slice (some ⟨g, off, none⟩) n n) (hn : xs.length = n) (hxs : ∀ j x, xs[j]? = some x → w.cell? ⟨g, off + j, none⟩ = some (.int .i64 x)) {g2 : Nat} {y : Int} (hx : a.eval x = .slice (some ⟨g2, 0, none⟩) 1 1) (hy : w.cell? ⟨g2, 0, none⟩ = some (.int .i64 y)) (hlt : n < 1000000)
    (h : ∀ v w', IRow w' w.heap.size v (xs ++ [y]) → Below w.heap.size w w' → K (a.put o.dst v) w') :
    if Region.wanted o (yielded ops b0.tmps) = true then Oper.wp Tryz.prog o a w K Q else F := by
  have hw : Region.wanted o (yielded ops b0.tmps) = true := by simp [Region.wanted, hgd]
  rw [if_pos hw]
  obtain ⟨i, z, hi, hz, hsz, hby, hzs⟩ := elemInt.info
  obtain ⟨v', w', hr, h2, h3⟩ := run_append_arg_grows (P := Tryz.prog) (w := w) 33 o.type 3 i z 1 8 Tryz.underlying33 hi hz hsz hby hzs (by decide) ⟨g, off, none⟩ n n (xs.map fun x => .int .i64 x) (by simp [hn]) (fun j u hj => by
    rw [List.getElem?_map, Option.map_eq_some_iff] at hj
    obtain ⟨x, hx, rfl⟩ := hj
    rw [show (⟨g, off, none⟩ : Addr).add j = ⟨g, off + j, none⟩ by unfold Addr.add; split <;> simp_all]; exact hxs j x hx) ⟨g2, 0, none⟩ 1 1 [.int .i64 y] rfl (fun j u hj => by
    cases j with
    | zero =>
      obtain rfl := Option.some.inj hj
      exact hy
    | succ j => simp at hj) (by omega) (by unfold maxLen; omega) (by omega)
  unfold Oper.wp execOp
  simp only [ho, resolve, invoke, builtin, Sem.run_bind, Sem.run_pure, Result.andThen_ok, List.map_toArray, List.map_cons, List.map_nil, hs, hx]
  rw [hr]
  refine h _ _ ?_ ((Below.refl w.heap.size w).grown h3 (Nat.le_refl _) (fun k hk => by cases hk))
  unfold IRow
  rw [List.length_append, List.map_append, hn]
  exact h2

theorem Nd.c (n : Nd) {w : World} {g : Nat} (h : objAt w g = some (.cells n.cells 165 (0, 0))) (i : Nat) : w.cell? ⟨g, i, none⟩ = n.cells[i]? := cell_obj h i
set_option maxHeartbeats 1000000 in
theorem places_any (n : Nd) (w : World) : Calls Tryz.prog 190 #[.agg n.cells] w fun e w' => ∃ g cap, e = .returned (.slice (some ⟨g, 0, none⟩) 5 cap) ∧ IRow w' w.heap.size (.slice (some ⟨g, 0, none⟩) 5 cap) n.places ∧ Below w.heap.size w w' := by
  have hB0 : Below w.heap.size w (w.alloc (.cells n.cells 165)) := grow_alloc (Below.refl _ _) _
  have ho : objAt (w.alloc (.cells n.cells 165)) w.heap.size = some (.cells n.cells 165 (0, 0)) := by rw [objAt_alloc, if_pos rfl]
  obtain ⟨G, hG⟩ : ∃ G, G = w.heap.size := ⟨_, rfl⟩
  obtain ⟨w1, hw1⟩ : ∃ w1, w1 = w.alloc (.cells n.cells 165) := ⟨_, rfl⟩
  rw [← hw1] at hB0 ho
  rw [← hG] at ho
  have c7 := Nd.c n ho 7
  have H := Lib.hid (And.intro hB0 (And.intro ho (And.intro hG hw1)))
  clear hB0 ho hG hw1
  go_enter Tryz.func190, Tryz.ntmps190
  go_upto_region 1 with fail
  rw [← H.out.2.2.2, ← H.out.2.2.1]
  have e7 : w1.cell? ⟨G, 7, none⟩ = some (.int .i64 n.index) := c7
  clear c7
  have hB2 : Below w1.heap.size w1 (w1.alloc (.cells #[.int .i64 n.index] 3)).drew := (grow_alloc (Below.refl _ _) _).drew
  have hcs : ∀ j x, [n.d0, n.d1, n.d2, n.d3][j]? = some x → (w1.alloc (.cells #[.int .i64 n.index] 3)).drew.cell? ⟨G, 3 + j, none⟩ = some (.int .i64 x) := fun j x hj => by
    rw [cell_obj (grow_obj hB2 H.out.2.1)]
    match j, hj with
    | 0, hj => obtain rfl := Option.some.inj hj; rfl
    | 1, hj => obtain rfl := Option.some.inj hj; rfl
    | 2, hj => obtain rfl := Option.some.inj hj; rfl
    | 3, hj => obtain rfl := Option.some.inj hj; rfl
    | j + 4, hj => simp at hj
  have hnew : (w1.alloc (.cells #[.int .i64 n.index] 3)).drew.cell? ⟨w1.heap.size, 0, none⟩ = some (.int .i64 n.index) := by
    have : objAt (w1.alloc (.cells #[.int .i64 n.index] 3)).drew w1.heap.size = some (.cells #[.int .i64 n.index] 3 (0, 0)) := by show objAt (w1.alloc _) _ = _; rw [objAt_alloc, if_pos rfl]
    exact cell_obj this 0
  refine wp_region_F [5] (S := fun w' => w'.cell? ⟨G, 7, none⟩ = some (.int .i64 n.index) ∧ True) (by kernel_rfl) (⟨e7, trivial⟩) (fun hHeld => ?_)
  show wpAnyF _ _ _ _ _ _ 7 #[false, false, false, false, false, false, false] _ _
  refine wpAnyF_take [0, 1, 5, 6] (i := 0) (v := ?kv1) rfl (by kernel_rfl) (by kernel_rfl) (by kernel_rfl) (by kernel_rfl) (fun _ _ _ h => h) (Or.inl ⟨by rfl, ?ky1⟩) (by assumption) ?kr1
  case ky1 => (intro w hSw; (try dsimp only at hSw); go_split_ands; (try simp only [qA, qB]); go_simp; (try with_reducible rfl))
  try simp only [Act.put, qA, qB, qD, qE, qF]
  refine wpAnyF_take [1, 5, 6] (i := 1) (v := ?kv2) rfl (by kernel_rfl) (by kernel_rfl) (by kernel_rfl) (by kernel_rfl) (fun _ _ _ h => h) (Or.inl ⟨by rfl, ?ky2⟩) (by assumption) ?kr2
  case ky2 => (intro w hSw; (try dsimp only at hSw); go_split_ands; (try simp only [qA, qB, qC]); go_simp; (try with_reducible rfl))
  try simp only [Act.put, qA, qB, qC, qD, qE, qF]
  refine wpAnyF_take [2, 3, 4, 5, 6] (i := 2) (v := ?kv3) rfl (by kernel_rfl) (by kernel_rfl) (by kernel_rfl) (by kernel_rfl) (fun _ _ _ h => h) (Or.inl ⟨by rfl, ?ky3⟩) (by assumption) ?kr3
  case ky3 => (intro w hSw; (try dsimp only at hSw); go_split_ands; (try simp only [qA, qB, qC]); go_simp; (try with_reducible rfl))
  try simp only [Act.put, qA, qB, qC, qD, qE, qF]
  refine wpAnyF_take [3, 4, 5, 6] (i := 3) (v := ?kv4) rfl (by kernel_rfl) (by kernel_rfl) (by kernel_rfl) (by kernel_rfl) (fun _ _ _ h => h) (Or.inl ⟨by rfl, ?ky4⟩) (by assumption) ?kr4
  case ky4 => (intro w hSw; (try dsimp only at hSw); go_split_ands; (try simp only [qA, qB, qC]); go_simp; (try with_reducible rfl))
  try simp only [Act.put, qA, qB, qC, qD, qE, qF]
  refine wpAnyF_ready (rs := [4]) (by kernel_rfl) (by simp) ?_
  refine (AllReadyF.cons rfl (fun K hK => ?_) AllReadyF.nil)
  try simp only [qA, qB, qC]
  go_simp
  refine hK.out _ _ (by exact ⟨grow_cell (grow_alloc (Below.refl _ _).drew _) e7, trivial⟩) (fun hHeldn => ?_)
  clear hHeld hK K
  have hHeld := hHeldn
  clear hHeldn
  try simp only [qD, qE, qF]
  refine wpAnyF_ready (rs := [5]) (by kernel_rfl) (by simp) ?_
  refine (AllReadyF.last rfl (by kernel_rfl) (fun K hK => ?_) AllReadyF.nil)
  refine step_fullI rfl _ _ rfl (xs := [n.d0, n.d1, n.d2, n.d3]) (y := n.index) rfl rfl (fun j x hj => ?_) rfl ?_ (by decide) ?_; exact hcs j x hj; exact hnew; intro v4 w4 hr4 b4
  refine hK.out _ _ (trivial) (fun hHeldn => ?_)
  clear hHeld hK K
  have hHeld := hHeldn
  clear hHeldn
  try simp only [Act.put, qA, qB, qC, qD, qE, qF]
  refine wpAnyF_pure (i := 6) (v := ?kv7) rfl (by kernel_rfl) (by kernel_rfl) (by kernel_rfl) (by kernel_rfl) (fun _ _ _ h => h) (Or.inl ⟨by rfl, ?ky7⟩) (by first | (intro _; assumption) | (intro h; exact absurd h (by decide))) ?kr7
  case ky7 => (intro w hSw; clear hSw; (try simp only [qA, qB, qC]); go_simp; (try with_reducible rfl))
  try simp only [Act.put, qA, qB, qC, qD, qE, qF]
  refine wpAnyF_done (by kernel_rfl) ?_ _
  go_wp2_with fail
  go_ret
  have hs : w.heap.size ≤ (w1.alloc (.cells #[.int .i64 n.index] 3)).drew.heap.size := Nat.le_trans H.out.1.size hB2.size
  obtain ⟨g, cap, rfl, _⟩ := World.ownsRow.form hr4 (by simp)
  exact ⟨g, cap, rfl, IRow.mono hr4 hs, (H.out.1.trans (hB2.mono H.out.1.size)).trans (b4.mono hs)⟩
set_option maxHeartbeats 1000000 in
theorem bare_any (n : Nd) (w : World) : Calls Tryz.prog 219 #[.agg n.cells] w fun e w' => e = .returned (.bool (none5 n.places)) ∧ Below w.heap.size w w' := by
  have hB0 : Below w.heap.size w (w.alloc (.cells n.cells 165)) := grow_alloc (Below.refl _ _) _
  have ho : objAt (w.alloc (.cells n.cells 165)) w.heap.size = some (.cells n.cells 165 (0, 0)) := by rw [objAt_alloc, if_pos rfl]
  have hN := hasNd_obj ho
  have hrow := rowAt_heap ho
  have HP := Lib.hid (places_any n)
  have H := Lib.hid (And.intro hB0 ho)
  clear hB0
  go_enter Tryz.func219, Tryz.ntmps219
  go_wp2_with (go_at_call 190; refine (HP.out _).mono ?_; rintro e w2 ⟨g, cap, rfl, hr, b2⟩)
  have H2 := Lib.hid (And.intro hr (H.out.1.trans (b2.mono H.out.1.size)))
  clear hr b2 hN hrow ho
  go_loopw [8] (fun i wr => ∃ k : Nat, k ≤ 5 ∧ i = .int .i64 k ∧ wr = w2 ∧ none5 (n.places.take k) = true) (fun i _ => 5 - (Go.RowKit.intOf i).toNat)
  case atStart => exact ⟨0, by decide, rfl, rfl, rfl⟩
  case round =>
    obtain ⟨k, hk, rfl, rfl, hnn⟩ := hrel
    by_cases hlt : k < 5
    · have hlti : (k : Int) < 5 := by omega
      have hsucc := none5_succ (l := n.places) (k := k) hlt
      obtain ⟨x, hx⟩ : ∃ x, n.places[k]? = some x := ⟨_, List.getElem?_eq_getElem hlt⟩
      have hcx := IRow.at_ H2.out.1 hx
      have hgd : n.places.getD k 0 = x := by rw [List.getD_eq_getElem?_getD, hx]; rfl
      rw [hgd, hnn] at hsucc
      have HX := Lib.hid hsucc
      have hme : x ∈ n.places := List.mem_of_getElem? hx
      have HM := Lib.hid hme
      clear hsucc hnn hx hgd hme
      by_cases hm : x = -1
      · subst hm
        go_wp2_with fail
        go_roundw
        case rel => exact ⟨k + 1, by omega, by go_num, by first | rfl | simp, by rw [HX.out]; rfl⟩
        case measure => simp [Go.RowKit.intOf]; omega
      · have hr : none5 n.places = false := by
          cases h : none5 n.places with
          | false => rfl
          | true => exact absurd (by simpa using List.all_eq_true.1 h x HM.out) hm
        have Hr := Lib.hid hr
        have hm' : (x == -1) = false := by simpa using hm
        clear hm hr
        go_wp2_with fail
        go_ret
        exact ⟨by rw [Hr.out]; rfl, H2.out.2⟩
    · obtain rfl : k = 5 := by omega
      have Hr := Lib.hid (show none5 n.places = true from hnn)
      clear hnn
      go_wp2_with fail
      go_ret
      exact ⟨by rw [Hr.out]; rfl, H2.out.2⟩
end Go.Proofs.YtbbnejehglonjaaGreat

/- DERIVED. Maps with small whole numbers as keys: what lies in them, as a list. -/
namespace Go.Proofs.YtbbnejehglonjaaGreat
open Go.RowKit Go.ChangeMaps
set_option maxRecDepth 100000

abbrev ML := List (Int × Value)
def lk (L : ML) (k : Int) : Option Value := (L.find? (fun p => p.1 == k)).map (·.2)
def up (L : ML) (k : Int) (v : Value) : ML := match L.findIdx? (fun p => p.1 == k) with | some j => L.set j (k, v) | none => L ++ [(k, v)]
def keysL (L : ML) : List Int := L.map (·.1)
theorem lk_none {L : ML} {k : Int} : lk L k = none ↔ k ∉ keysL L := by
  unfold lk keysL
  rw [Option.map_eq_none_iff, List.find?_eq_none]
  simp only [List.mem_map, beq_iff_eq, not_exists, not_and]
theorem up_none {L : ML} {k : Int} (h : k ∉ keysL L) (v : Value) : up L k v = L ++ [(k, v)] := by
  unfold up
  have : L.findIdx? (fun p => p.1 == k) = none := by
    rw [List.findIdx?_eq_none_iff]
    intro p hp
    simp only [beq_eq_false_iff_ne, ne_eq]
    exact fun e => h (List.mem_map.2 ⟨p, hp, e⟩)
  rw [this]
theorem up_some {L : ML} {k : Int} {j : Nat} (h : L.findIdx? (fun p => p.1 == k) = some j) (v : Value) : up L k v = L.set j (k, v) := by unfold up; rw [h]
theorem idx_spec {L : ML} {k : Int} {j : Nat} (h : L.findIdx? (fun p => p.1 == k) = some j) : ∃ hj : j < L.length, L[j].1 = k ∧ lk L k = some L[j].2 := by
  rw [List.findIdx?_eq_some_iff_getElem] at h
  obtain ⟨hj, h1, h2⟩ := h
  refine ⟨hj, by simpa using h1, ?_⟩
  unfold lk
  have hf : L.find? (fun p => p.1 == k) = some L[j] := List.find?_eq_some_iff_getElem.2 ⟨h1, j, hj, rfl, fun i hi => by simpa using h2 i hi⟩
  rw [hf]; rfl
theorem keys_up {L : ML} {k : Int} (v : Value) (x : Int) : x ∈ keysL (up L k v) ↔ x = k ∨ x ∈ keysL L := by
  by_cases hk : k ∈ keysL L
  · cases hi : L.findIdx? (fun p => p.1 == k) with
    | none =>
      rw [List.findIdx?_eq_none_iff] at hi
      obtain ⟨p, hp, e⟩ := List.mem_map.1 hk
      have := hi p hp
      rw [e] at this; simp at this
    | some j =>
      obtain ⟨hj, h1, _⟩ := idx_spec hi
      rw [up_some hi]
      unfold keysL
      rw [List.map_set]
      have : (L.map (·.1)).set j k = L.map (·.1) := by
        apply List.ext_getElem
        · simp
        · intro i h2 h3
          rw [List.getElem_set]
          split
          · rename_i e; subst e; simp [h1]
          · rfl
      rw [this]
      constructor
      · exact fun h => .inr h
      · rintro (rfl | h)
        · exact hk
        · exact h
  · rw [up_none hk]
    simp [keysL, or_comm]
theorem up_length {L : ML} {k : Int} (v : Value) : (up L k v).length ≤ L.length + 1 ∧ L.length ≤ (up L k v).length := by
  cases hi : L.findIdx? (fun p => p.1 == k) with
  | none => unfold up; rw [hi]; simp
  | some j => rw [up_some hi, List.length_set]; omega

/-- A map block. -/
structure MapI (w : World) (m : Nat) (L : ML) : Prop where
  ex : ∃ es clock, objAt w m = some (.map es clock) ∧ es.toList.map (fun e => (e.key, e.val)) = L.map (fun p => (Value.int .i64 p.1, p.2)) ∧ MapKept.Stamped es clock
  range : ∀ k ∈ keysL L, 0 ≤ k ∧ k < 1000000
  small : L.length ≤ 1000000
theorem MapI.nodup {w : World} {m : Nat} {L : ML} (h : MapI w m L) : (keysL L).Nodup := by
  obtain ⟨es, clock, _, hm, _, _, hn⟩ := h.ex
  have e : es.toList.map (·.key) = (keysL L).map (Value.int .i64) := by
    have := congrArg (List.map Prod.fst) hm
    simpa [keysL, Function.comp_def] using this
  rw [e] at hn
  exact (List.pairwise_map.1 hn).imp (fun h e => h (by rw [e]))
theorem MapI.obj {w w' : World} {m : Nat} {L : ML} (h : MapI w m L) (e : objAt w' m = objAt w m) : MapI w' m L := by
  obtain ⟨es, clock, h1, h2⟩ := h.ex
  exact ⟨⟨es, clock, e.trans h1, h2⟩, h.range, h.small⟩
theorem MapI.lt {w : World} {m : Nat} {L : ML} (h : MapI w m L) : m < w.heap.size := by
  obtain ⟨es, clock, h1, _⟩ := h.ex
  exact block_lt h1
theorem MapI.below {w w' : World} {m : Nat} {L : ML} (h : MapI w m L) (hb : Below w.heap.size w w') : MapI w' m L := h.obj (hb.block m h.lt)
theorem MapI.keeps {w w' : World} {m : Nat} {L : ML} {T : Nat → Prop} (h : MapI w m L) (hk : Keeps T w w') (hT : ¬ T m) : MapI w' m L := h.obj (hk.block m h.lt hT)
theorem MapI.made (w : World) : MapI (w.alloc (.map #[] 0)) w.heap.size [] :=
  ⟨⟨#[], 0, by rw [objAt_alloc, if_pos rfl], rfl, by simp [MapKept.Stamped]⟩, fun k hk => by simp [keysL] at hk, by simp⟩

theorem findNow_int (k : Int) (L : ML) : ∀ (es : List MapEntry) (i : Nat), es.map (fun e => (e.key, e.val)) = L.map (fun p => (Value.int .i64 p.1, p.2)) →
    Instr.findNow (.int .i64) (.int .i64 k) es i = some ((L.findIdx? (fun p => p.1 == k)).bind fun j => (L[j]?).map fun p => (i + j, p.2)) := by
  induction L with
  | nil => intro es i h; cases es with
    | nil => rfl
    | cons e es => simp at h
  | cons p L ih =>
    intro es i h
    cases es with
    | nil => simp at h
    | cons e es =>
      simp only [List.map_cons, List.cons.injEq, Prod.mk.injEq] at h
      obtain ⟨⟨hk, hv⟩, ht⟩ := h
      have h1 := ih es (i + 1) ht
      unfold Instr.findNow
      rw [hk]
      by_cases hpk : p.1 = k
      · have e1 : Instr.sameNow (.int .i64) (.int .i64 k) (.int .i64 p.1) = some true := by simp [Instr.sameNow, hpk]
        rw [e1]
        simp [List.findIdx?_cons, hpk, hv]
      · have e1 : Instr.sameNow (.int .i64) (.int .i64 k) (.int .i64 p.1) = some false := by simp [Instr.sameNow]; exact fun e => hpk e.symm
        rw [e1, h1]
        simp only [List.findIdx?_cons, beq_iff_eq, hpk, if_false]
        cases L.findIdx? (fun p => p.1 == k) with
        | none => rfl
        | some j => simp; cases L[j]? with
          | none => rfl
          | some q => simp; omega
variable {P : Program}
theorem run_lookupI {w : World} {t kt et m : Nat} {L : ML} (h : MapI w m L) (ht : P.underlying t = some (.map kt et)) (hk : P.underlying kt = some (.int .i64)) {z : Value} (hz : (zeroValue et).run P w = .ok z w) (k : Int) (ok : Bool) :
    (Instr.lookup t (.map (some m)) (.int .i64 k) ok).run P w = .ok (if ok then .tuple #[(lk L k).getD z, .bool (lk L k).isSome] else (lk L k).getD z) w := by
  obtain ⟨es, clock, h1, h2, h3⟩ := h.ex
  have hc : ∀ b, (Instr.checkKey b 10000 kt (.int .i64 k)).run P w = .ok () w := fun b => MapKept.run_checkKey (k := .int .i64 k) hk (by simp [MapKept.IsKey]) b 9999
  have hf := MapKept.run_findKey (w := w) hk (findNow_int k L es.toList 0 h2)
  have hg := MapKept.run_getObj_map (P := P) (objAt_heap h1)
  cases hi : L.findIdx? (fun p => p.1 == k) with
  | none =>
    have hl : lk L k = none := by
      rw [lk_none]
      intro hm
      rw [List.findIdx?_eq_none_iff] at hi
      obtain ⟨p, hp, e⟩ := List.mem_map.1 hm
      have := hi p hp
      rw [e] at this; simp at this
    rw [hi] at hf
    simp [Instr.lookup, run_underlying ht, hg, hc, hf, hz, hl, Result.andThen]
  | some j =>
    obtain ⟨hj, e1, hl⟩ := idx_spec hi
    rw [hi] at hf
    simp only [Option.bind_some, List.getElem?_eq_getElem hj, Option.map_some] at hf
    simp [Instr.lookup, run_underlying ht, hg, hc, hf, hl, Result.andThen]
theorem MapI.set {w : World} {m : Nat} {L : ML} (h : MapI w m L) (L' : ML) (es' : Array MapEntry) (clock' : Nat) (h2 : es'.toList.map (fun e => (e.key, e.val)) = L'.map (fun p => (Value.int .i64 p.1, p.2))) (h3 : MapKept.Stamped es' clock') (hr : ∀ k ∈ keysL L', 0 ≤ k ∧ k < 1000000) (hs : L'.length ≤ 1000000) :
    MapI (setBlock w m (.map es' clock')) m L' ∧ Keeps (fun g => g = m) w (setBlock w m (.map es' clock')) := by
  obtain ⟨es, clock, h1, _⟩ := h.ex
  refine ⟨⟨⟨es', clock', heap_setBlock_same (objAt_heap h1) _, h2, h3⟩, hr, hs⟩, rfl, rfl, rfl, by simp [setBlock], fun k hk hn => heap_setBlock_other (objAt_heap h1) _ hn⟩
theorem run_updateI {w : World} {t kt et m : Nat} {L : ML} (h : MapI w m L) (ht : P.underlying t = some (.map kt et)) (hk : P.underlying kt = some (.int .i64)) (k : Int) (hk0 : 0 ≤ k) (hk1 : k < 1000000) (v : Value) (hl : L.length < 1000000) :
    ∃ w', (Instr.mapUpdate t (.map (some m)) (.int .i64 k) v).run P w = .ok () w' ∧ MapI w' m (up L k v) ∧ Keeps (fun g => g = m) w w' := by
  obtain ⟨es, clock, h1, h2, h3⟩ := h.ex
  have hc : ∀ b, (Instr.checkKey b 10000 kt (.int .i64 k)).run P w = .ok () w := fun b => MapKept.run_checkKey (k := .int .i64 k) hk (by simp [MapKept.IsKey]) b 9999
  have hf := MapKept.run_findKey (w := w) hk (findNow_int k L es.toList 0 h2)
  have hg := MapKept.run_getObj_map (P := P) (objAt_heap h1)
  have hr : ∀ x ∈ keysL (up L k v), 0 ≤ x ∧ x < 1000000 := fun x hx => by
    rcases (keys_up v x).1 hx with rfl | hx
    · exact ⟨hk0, hk1⟩
    · exact h.range x hx
  have hlen := (up_length (L := L) (k := k) v).1
  cases hi : L.findIdx? (fun p => p.1 == k) with
  | none =>
    have hnk : k ∉ keysL L := by
      intro hm
      rw [List.findIdx?_eq_none_iff] at hi
      obtain ⟨p, hp, e⟩ := List.mem_map.1 hm
      have := hi p hp
      rw [e] at this; simp at this
    rw [hi] at hf
    have hup := up_none hnk v
    have hs := MapI.set h (up L k v) (es.push { key := .int .i64 k, val := v, born := clock }) (clock + 1) (by rw [hup]; simp [h2]) ⟨?_, ?_, ?_⟩ hr (by omega)
    · refine ⟨_, ?_, hs⟩
      simp [Instr.mapUpdate, run_underlying ht, hg, hc, hf, MapKept.run_setObj_map _ (objAt_heap h1), Result.andThen, setBlock]
    · intro x hx
      simp only [Array.toList_push, List.mem_append, List.mem_singleton] at hx
      rcases hx with hx | rfl
      · have := h3.1 x hx; omega
      · show clock < clock + 1; omega
    · simp only [Array.toList_push, List.map_append, List.map_cons, List.map_nil]
      rw [List.nodup_append]
      refine ⟨h3.2.1, by simp, fun a ha b hb e => ?_⟩
      simp only [List.mem_singleton] at hb
      obtain ⟨x, hx, rfl⟩ := List.mem_map.1 ha
      have := h3.1 x hx
      omega
    · simp only [Array.toList_push, List.map_append, List.map_cons, List.map_nil]
      rw [List.nodup_append]
      refine ⟨h3.2.2, by simp, fun a ha b hb e => ?_⟩
      simp only [List.mem_singleton] at hb
      subst hb; subst e
      have e2 : es.toList.map (·.key) = (keysL L).map (Value.int .i64) := by
        have := congrArg (List.map Prod.fst) h2
        simpa [keysL, Function.comp_def] using this
      rw [e2] at ha
      obtain ⟨x, hx, e3⟩ := List.mem_map.1 ha
      simp only [Value.int.injEq, true_and] at e3
      subst e3
      exact hnk hx
  | some j =>
    obtain ⟨hj, e1, hlk⟩ := idx_spec hi
    have hup := up_some hi v
    rw [hi] at hf
    simp only [Option.bind_some, List.getElem?_eq_getElem hj, Option.map_some, Nat.zero_add] at hf
    have hjs : j < es.toList.length := by have := congrArg List.length h2; simp only [List.length_map] at this; omega
    have hkey : es.toList[j].key = .int .i64 k := by
      have := congrArg (fun l => l[j]?) h2
      simp only [List.getElem?_map, List.getElem?_eq_getElem hjs, List.getElem?_eq_getElem hj, Option.map_some, Option.some.injEq, Prod.mk.injEq] at this
      rw [this.1, e1]
    have hjs' : j < es.size := by simpa using hjs
    have hkey' : es[j].key = .int .i64 k := by simpa using hkey
    have hmod : (es.modify j fun e => { e with key := .int .i64 k, val := v }).toList = es.toList.set j { es.toList[j] with key := .int .i64 k, val := v } := by
      apply List.ext_getElem
      · simp
      · intro i h5 h6
        simp only [Array.getElem_toList, Array.getElem_modify, List.getElem_set]
        by_cases e : j = i
        · subst e; simp
        · simp [e]
    have hs := MapI.set h (up L k v) (es.modify j fun e => { e with key := .int .i64 k, val := v }) clock (by
      rw [hup, hmod, List.map_set, List.map_set, h2]) ⟨?_, ?_, ?_⟩ hr (by omega)
    · refine ⟨_, ?_, hs⟩
      have hst : (Instr.keyThatStays (.int .i64 k) (.int .i64 k)).run P w = .ok (.int .i64 k) w := by simp [Instr.keyThatStays, Instr.sameBits]
      simp [Instr.mapUpdate, run_underlying ht, hg, hc, hf, hjs', hkey', hst, MapKept.run_setObj_map _ (objAt_heap h1), Result.andThen, setBlock]
    · intro x hx
      rw [hmod] at hx
      rcases List.mem_or_eq_of_mem_set hx with hx | rfl
      · exact h3.1 x hx
      · exact h3.1 es.toList[j] (List.getElem_mem hjs)
    · rw [hmod, List.map_set]
      have : (es.toList.map (·.born)).set j es.toList[j].born = es.toList.map (·.born) := by
        apply List.ext_getElem
        · simp
        · intro i h5 h6
          rw [List.getElem_set]
          split
          · rename_i e; subst e; simp
          · rfl
      show ((es.toList.map (·.born)).set j es.toList[j].born).Nodup
      rw [this]; exact h3.2.1
    · rw [hmod, List.map_set]
      have : (es.toList.map (·.key)).set j (.int .i64 k) = es.toList.map (·.key) := by
        apply List.ext_getElem
        · simp
        · intro i h5 h6
          rw [List.getElem_set]
          split
          · rename_i e; subst e; rw [List.getElem_map]; exact hkey.symm
          · rfl
      rw [this]; exact h3.2.2
theorem run_clearI {w : World} {t kt et m : Nat} {L : ML} (h : MapI w m L) (ht : P.underlying t = some (.map kt et)) (ty : TypeId) :
    ∃ w', (Builtin.clear_ #[t] ty #[.map (some m)]).run P w = .ok (.tuple #[]) w' ∧ MapI w' m [] ∧ Keeps (fun g => g = m) w w' := by
  obtain ⟨es, clock, h1, h2, h3⟩ := h.ex
  have hg := MapKept.run_getObj_map (P := P) (objAt_heap h1)
  have hs := MapI.set h [] #[] clock rfl (by simp [MapKept.Stamped]) (fun k hk => by simp [keysL] at hk) (by simp)
  refine ⟨_, ?_, hs⟩
  simp [Builtin.clear_, run_underlying ht, hg, MapKept.run_setObj_map _ (objAt_heap h1), Result.andThen, setBlock]
end Go.Proofs.YtbbnejehglonjaaGreat
