/- DERIVED. Contracts and laws that the proofs of this seat share, part 13 of 32: LibFr RcD LibX PvF. -/
import Derived.Great.BuildSlice
import Derived.Test.YtanmihhlkelgeaaGreatMg00
import Derived.Test.YtanmihhlkelgeaaGreatMg11
import Derived.Test.YtanmihhlkelgeaaGreatMg12
/- DERIVED. A frame of so many slots. -/
namespace Go.Proofs.YtanmihhlkelgeaaGreat
open Go.RowKit
theorem frame_list (A : Array Value) (n : Nat) (h : A.size = n) : A = ((List.range n).map fun i => A.getD i undef).toArray := by
  apply Array.ext
  · simp [h]
  · intro i h1 h2
    simp [Array.getD, h1]
end Go.Proofs.YtanmihhlkelgeaaGreat

/- DERIVED. rec.Take of a log that begins with noughts. -/
namespace Go.Proofs.YtanmihhlkelgeaaGreat
open Go.RowKit
attribute [local irreducible] Calls
set_option maxRecDepth 100000

theorem frame105 (A : Array Value) (h : A.size = 105) : A = #[A.getD 0 undef, A.getD 1 undef, A.getD 2 undef, A.getD 3 undef, A.getD 4 undef, A.getD 5 undef, A.getD 6 undef, A.getD 7 undef, A.getD 8 undef, A.getD 9 undef, A.getD 10 undef, A.getD 11 undef, A.getD 12 undef, A.getD 13 undef, A.getD 14 undef, A.getD 15 undef, A.getD 16 undef, A.getD 17 undef, A.getD 18 undef, A.getD 19 undef, A.getD 20 undef, A.getD 21 undef, A.getD 22 undef, A.getD 23 undef, A.getD 24 undef, A.getD 25 undef, A.getD 26 undef, A.getD 27 undef, A.getD 28 undef, A.getD 29 undef, A.getD 30 undef, A.getD 31 undef, A.getD 32 undef, A.getD 33 undef, A.getD 34 undef, A.getD 35 undef, A.getD 36 undef, A.getD 37 undef, A.getD 38 undef, A.getD 39 undef, A.getD 40 undef, A.getD 41 undef, A.getD 42 undef, A.getD 43 undef, A.getD 44 undef, A.getD 45 undef, A.getD 46 undef, A.getD 47 undef, A.getD 48 undef, A.getD 49 undef, A.getD 50 undef, A.getD 51 undef, A.getD 52 undef, A.getD 53 undef, A.getD 54 undef, A.getD 55 undef, A.getD 56 undef, A.getD 57 undef, A.getD 58 undef, A.getD 59 undef, A.getD 60 undef, A.getD 61 undef, A.getD 62 undef, A.getD 63 undef, A.getD 64 undef, A.getD 65 undef, A.getD 66 undef, A.getD 67 undef, A.getD 68 undef, A.getD 69 undef, A.getD 70 undef, A.getD 71 undef, A.getD 72 undef, A.getD 73 undef, A.getD 74 undef, A.getD 75 undef, A.getD 76 undef, A.getD 77 undef, A.getD 78 undef, A.getD 79 undef, A.getD 80 undef, A.getD 81 undef, A.getD 82 undef, A.getD 83 undef, A.getD 84 undef, A.getD 85 undef, A.getD 86 undef, A.getD 87 undef, A.getD 88 undef, A.getD 89 undef, A.getD 90 undef, A.getD 91 undef, A.getD 92 undef, A.getD 93 undef, A.getD 94 undef, A.getD 95 undef, A.getD 96 undef, A.getD 97 undef, A.getD 98 undef, A.getD 99 undef, A.getD 100 undef, A.getD 101 undef, A.getD 102 undef, A.getD 103 undef, A.getD 104 undef] := frame_list A 105 h
def TakeJ (w : World) (x0 x1 x2 x3 : Value) (l : Nat) (a' : Act) (w' : World) : Prop :=
  Below w.heap.size w w' ∧ ((l = 0 ∧ ∃ A : Array Value, A.size = 105 ∧ (True) ∧ a' = { tmps := A, defers := [] }) ∨ (l = 1 ∧ ∃ A : Array Value, A.size = 105 ∧ (A.getD 0 undef = x0 ∧ A.getD 1 undef = x1 ∧ A.getD 2 undef = x2 ∧ A.getD 3 undef = x3 ∧ A.getD 8 undef = .slice none 0 0 ∧ A.getD 9 undef = .int .i64 0 ∧ A.getD 11 undef = .int .i64 0 ∧ True) ∧ a' = { tmps := A, defers := [] }))
set_option maxHeartbeats 4000000 in
theorem Take_none (lb : UInt8) (epoch seq : Nat) {w : World} {S : Nat → Prop} {g n cap : Nat} {ls : List (List UInt8)} (h : RowB w S (.slice (some ⟨g, 0, none⟩) n cap) ls) (hn : n ≤ 1000) {l : List UInt8} (hl : ls[0]? = some l) (h64 : l.length = 64) (h10 : l[10]? = some 0) (he : epoch < 4294967296) (hs : seq < 4294967296) :
    Calls Tryz.prog 123 #[.int .u8 (lb.toNat : Int), .int .u32 epoch, .int .u32 seq, .slice (some ⟨g, 0, none⟩) n cap] w fun e w' => e = .returned (.tuple #[.slice none 0 0, .int .i64 0, .bool false]) ∧ Below w.heap.size w w' := by
  have hlen := RowG.len h
  have hpos := (List.getElem?_eq_some_iff.1 hl).1
  obtain ⟨c, hc1, ⟨x, rfl, a, q, nx, rfl, hb, _, _⟩, hc3⟩ := RowG.cells h hl
  have c0 := hc3 0 _ rfl
  rw [Nat.zero_mul, Nat.add_zero, h64] at c0
  obtain ⟨bb, off, hba, hbc⟩ := hb
  obtain rfl := Option.some.inj (hba (by omega))
  have hi10 : 10 < l.length := by omega
  have c10 := hbc 10 hi10
  have e10 : l[10] = 0 := by rw [List.getElem?_eq_getElem hi10] at h10; exact Option.some.inj h10
  rw [e10] at c10
  replace c10 : w.cell? ⟨bb, off + 10, none⟩ = some (.int .u8 0) := c10
  have n0 : ¬ ((n : Int) = 0) := by omega
  have n1 : ((n : Int) == 0) = false := by simpa using n0
  have n2 : (0 : Int) < (n : Int) := by omega
  have n3 : ¬ ((n : Int) < 1) := by omega
  have HP := Lib.hid (fun w' => recPut_any lb epoch seq (S := fun _ => True) (RowG.nil w' _ _ _ _ : WRow w' (fun _ => True) (.slice none 0 0) []) (by decide) he hs)
  have hm0 : mayRec [] = false := by decide
  rw [hm0] at HP
  clear h hl hc1 hc3 hba hbc e10 h10 hm0 hlen hpos
  go_enter Tryz.func123, Tryz.ntmps123
  go_wp2_with fail
  refine wp_scope_labels (TakeJ w (.int .u8 (lb.toNat : Int)) (.int .u32 epoch) (.int .u32 seq) (.slice (some ⟨g, 0, none⟩) n cap)) (fun l _ _ => l) ?_ ?_ ?_
  · rintro l a w' ⟨_, ⟨rfl, _⟩ | ⟨rfl, _⟩⟩ <;> exact ⟨_, rfl⟩
  · rintro l rest a w' ⟨hb, ⟨rfl, ⟨A, hA, ⟨_⟩, rfl⟩⟩ | ⟨rfl, ⟨A, hA, ⟨hA0, hA1, hA2, hA3, hA8, hA9, hA11, _⟩, rfl⟩⟩⟩ hrest
    · obtain rfl := (Code.seq.inj (Option.some.inj hrest)).2
      rw [frame105 A hA]
      clear hrest
      go_wp2_with fail
      rw [jumps_ret]
      refine bodyPost_ret (results_three rfl (resOne_tmp _ _ _) (resOne_tmp _ _ _) (resOne_tmp _ _ _)) rfl ?_
      exact ⟨rfl, hb⟩
    · obtain rfl := (Code.seq.inj (Option.some.inj hrest)).2
      rw [frame105 A hA, hA0, hA1, hA2, hA3, hA8, hA9, hA11]
      clear hrest
      go_wp2_with (go_at_call 134; refine (HP.out _).mono ?_; rintro e w5 ⟨v5, rfl, _, b5⟩)
      go_step3
      exact ⟨⟨grow_trans hb b5, .inl ⟨rfl, ⟨_, rfl, trivial, rfl⟩⟩⟩, by decide⟩
  · intro hfall
    have HF := Lib.hid hfall
    clear hfall
    go_wp2_with fail
    go_step3
    simp only [Exit.then]
    go_step
    refine HF.out 1 _ _ _ ?_ rfl
    exact ⟨Below.refl _ _, .inr ⟨rfl, ⟨_, rfl, ⟨rfl, rfl, rfl, rfl, rfl, rfl, rfl, trivial⟩, rfl⟩⟩⟩
end Go.Proofs.YtanmihhlkelgeaaGreat

/- DERIVED. A slice literal of one element of many cells; a block appended to a row of blocks. -/
namespace Go.Proofs.YtanmihhlkelgeaaGreat
open Go.RowKit
attribute [local go_sem] hasBlk
attribute [local irreducible] Calls
set_option maxRecDepth 100000

theorem run_lit1 {P : Program} {t e : TypeId} {k bytes : Nat} (E : ElemK P t e k bytes) (c : Array Value) (hc : c.size = k) (hk : k ≤ 1000) (w : World) :
    (Instr.buildSlice t 1 #[(0, .agg c)]).run P w = .ok (.slice (some ⟨w.heap.size, 0, none⟩) 1 1) (w.alloc (.cells c e)) := by
  obtain ⟨i, z, hi, hz, hs, hby, hzs⟩ := E.info
  have hp := E.pos
  refine run_buildSlice w t e 1 _ c i z E.ht hi hz (by rw [hs]; omega) (by rw [hs]; omega) ?_
  rw [hs]
  have hv : (Value.agg c).cells = c := rfl
  have hl := fill_lay 0 c ((Array.range (1 * k)).map (z.cells[· % z.cells.size]!)) (by rw [hc]; simp)
  simp only [Instr.fill, hv]
  have hn : ¬ (decide (c.size ≠ k) || decide (0 * k + c.size > ((Array.range (1 * k)).map (z.cells[· % z.cells.size]!)).size)) = true := by rw [hc]; simp
  rw [if_neg hn, Nat.zero_mul, hl]
  congr 1
  apply Array.ext'
  simp [hc]
section
variable {t e : TypeId} {k bytes : Nat} {ops : Array Oper} {o : Oper} {a b0 : Act} {w : World} {K : Act → World → Prop} {Q : Exit → Act → World → Prop} {F : Prop} {rest : List Oper}
theorem wp_lit1 (E : ElemK Tryz.prog t e k bytes) (x : Operand) (ho : o.op = .buildSlice t 1 #[(0, x)]) {c : Array Value} (hx : a.eval x = .agg c) (hc : c.size = k) (hk : k ≤ 1000)
    (h : ∀ w', w' = w.alloc (.cells c e) → K (a.put o.dst (.slice (some ⟨w.heap.size, 0, none⟩) 1 1)) w') : o.wp Tryz.prog a w K Q := by
  unfold Oper.wp execOp
  simp only [ho, List.map_toArray, List.map_cons, List.map_nil, hx, Sem.run_bind]
  rw [run_lit1 E c hc hk]
  exact h _ rfl
theorem step_lit1 (E : ElemK Tryz.prog t e k bytes) (hgd : o.guard = none) (x : Operand) (ho : o.op = .buildSlice t 1 #[(0, x)]) {c : Array Value} (hx : a.eval x = .agg c) (hc : c.size = k) (hk : k ≤ 1000)
    (h : ∀ w', w' = w.alloc (.cells c e) → K (a.put o.dst (.slice (some ⟨w.heap.size, 0, none⟩) 1 1)) w') : if Region.wanted o (yielded ops b0.tmps) = true then Oper.wp Tryz.prog o a w K Q else F := by
  have hw : Region.wanted o (yielded ops b0.tmps) = true := by simp [Region.wanted, hgd]
  rw [if_pos hw]
  exact wp_lit1 E x ho hx hc hk h
theorem list_lit1 (E : ElemK Tryz.prog t e k bytes) (hgd : o.guard = none) (x : Operand) (ho : o.op = .buildSlice t 1 #[(0, x)]) {c : Array Value} (hx : a.eval x = .agg c) (hc : c.size = k) (hk : k ≤ 1000)
    (h : ∀ w', w' = w.alloc (.cells c e) → wpList Tryz.prog ops Q rest (a.put o.dst (.slice (some ⟨w.heap.size, 0, none⟩) 1 1)) w') : wpList Tryz.prog ops Q (o :: rest) a w :=
  wpList_plain hgd fun _ hK => wp_lit1 E x ho hx hc hk fun w' hw' => hK _ _ (h w' hw')
theorem elemBlkK : ElemK Tryz.prog 135 139 57 64 := ElemK.mk' (z := .agg Blk.zero.cells) Tryz.underlying135 (by kernel_rfl) (Blk.size_cells _) (by decide) (by decide)
theorem wp_appK (s x : Operand) (ho : o.op = .call { callee := .builtin .append, args := #[s, x], argTypes := #[135, 135] }) {B : Nat} {v : Value} {bs : List Blk} (hs : a.eval s = v) (hown : KRow w B v bs) {g : Nat} {b : Blk} (hx : a.eval x = .slice (some ⟨g, 0, none⟩) 1 1) (hu : BlkAt w g b) (hn : bs.length < 1000000) (hB : B ≤ w.heap.size)
    (h : ∀ g' cap' w', KRow w' B (.slice (some ⟨g', 0, none⟩) (bs.length + 1) cap') (bs ++ [b]) → Keeps (fun q => v.ownBlock = some q) w w' → (v.ownBlock = some g' ∨ g' = w.heap.size) → g' < w'.heap.size → K (a.put o.dst (.slice (some ⟨g', 0, none⟩) (bs.length + 1) cap')) w') : o.wp Tryz.prog a w K Q := by
  obtain ⟨i, z, hi, hz, hsz, hby, hzs⟩ := elemBlkK.info
  refine wp_append_lies w s x 135 ho B 139 i z 57 64 elemBlkK.ht hi hz hsz hby hzs (by decide) v bs.length _ hs hown ⟨g, 0, none⟩ 1 1 b.cells.toList hx (by rw [b.len_cells]) (fun j u hj => by
    rw [add_off', Nat.zero_add, cell_obj hu]; simpa using hj) b.one_cells (by decide) (by unfold maxLen; omega) (by omega) hB w.heap.size rfl ?_
  intro g' cap w' hw' hgr hor hlt
  refine h g' cap w' ?_ ⟨hgr.os, hgr.tape, hgr.output, hgr.size, fun k' hk' hn' => hgr.block k' hk' (fun e => hn' e.symm)⟩ hor hlt
  unfold KRow
  rw [List.length_append, flat_append]
  simpa [flat] using hw'
theorem step_appK (hgd : o.guard = none) (s x : Operand) (ho : o.op = .call { callee := .builtin .append, args := #[s, x], argTypes := #[135, 135] }) {B : Nat} {v : Value} {bs : List Blk} (hs : a.eval s = v) (hown : KRow w B v bs) {g : Nat} {b : Blk} (hx : a.eval x = .slice (some ⟨g, 0, none⟩) 1 1) (hu : BlkAt w g b) (hn : bs.length < 1000000) (hB : B ≤ w.heap.size)
    (h : ∀ g' cap' w', KRow w' B (.slice (some ⟨g', 0, none⟩) (bs.length + 1) cap') (bs ++ [b]) → Keeps (fun q => v.ownBlock = some q) w w' → (v.ownBlock = some g' ∨ g' = w.heap.size) → g' < w'.heap.size → K (a.put o.dst (.slice (some ⟨g', 0, none⟩) (bs.length + 1) cap')) w') : if Region.wanted o (yielded ops b0.tmps) = true then Oper.wp Tryz.prog o a w K Q else F := by
  have hw : Region.wanted o (yielded ops b0.tmps) = true := by simp [Region.wanted, hgd]
  rw [if_pos hw]
  exact wp_appK s x ho hs hown hx hu hn hB h
theorem list_appK1 (hgd : o.guard = none) (s x : Operand) (ho : o.op = .call { callee := .builtin .append, args := #[s, x], argTypes := #[135, 135] }) {B : Nat} {v : Value} {bs : List Blk} (hs : a.eval s = v) (hown : KRow w B v bs) {g : Nat} {b : Blk} (hx : a.eval x = .slice (some ⟨g, 0, none⟩) 1 1) (hu : BlkAt w g b) (hn : bs.length < 1000000) (hB : B ≤ w.heap.size)
    (h : ∀ g' cap' w', KRow w' B (.slice (some ⟨g', 0, none⟩) (bs.length + 1) cap') (bs ++ [b]) → Keeps (fun q => v.ownBlock = some q) w w' → (v.ownBlock = some g' ∨ g' = w.heap.size) → g' < w'.heap.size → wpList Tryz.prog ops Q rest (a.put o.dst (.slice (some ⟨g', 0, none⟩) (bs.length + 1) cap')) w') : wpList Tryz.prog ops Q (o :: rest) a w :=
  wpList_plain hgd fun _ hK => wp_appK s x ho hs hown hx hu hn hB fun g' cap' w' h1 h2 h3 h4 => hK _ _ (h g' cap' w' h1 h2 h3 h4)
end
end Go.Proofs.YtanmihhlkelgeaaGreat

/- DERIVED. Contracts of vol's replays (of a log of noughts), Mount (of a store that is new). -/
namespace Go.Proofs.YtanmihhlkelgeaaGreat
open Go.RowKit
attribute [local irreducible] Calls
set_option maxRecDepth 100000

/-- The rows of the log. -/
def logRows (_ : Sh) (seen : List (List UInt8)) (k : Nat) : List (List UInt8) := (List.range k).map fun i => seen.getD (2 + i) []
theorem logRows_succ (s : Sh) (seen : List (List UInt8)) (k : Nat) : logRows s seen (k + 1) = logRows s seen k ++ [seen.getD (2 + k) []] := by
  unfold logRows; rw [List.range_succ, List.map_append]; rfl
theorem logRows_length (s : Sh) (seen : List (List UInt8)) (k : Nat) : (logRows s seen k).length = k := by simp [logRows]
def ReplJ (w : World) (x0 : Value) (s : Sh) (seen : List (List UInt8)) (l : Nat) (a' : Act) (w' : World) : Prop :=
  l = 0 ∧ Below w.heap.size w w' ∧ ∃ g cap m2, MapI w' m2 [] ∧ w.heap.size ≤ m2 ∧ RowB w' (fun q => w.heap.size ≤ q) (.slice (some ⟨g, 0, none⟩) s.log cap) (logRows s seen s.log) ∧ ∃ A : Array Value, A.size = 89 ∧ (A.getD 0 undef = x0 ∧ A.getD 3 undef = .slice (some ⟨g, 0, none⟩) s.log cap ∧ A.getD 7 undef = .map (some m2) ∧ A.getD 8 undef = .slice none 0 0 ∧ A.getD 9 undef = .int .i64 0 ∧ A.getD 10 undef = .bool false ∧ True) ∧ a' = { tmps := A, defers := [] }
theorem frame89 (A : Array Value) (h : A.size = 89) : A = #[A.getD 0 undef, A.getD 1 undef, A.getD 2 undef, A.getD 3 undef, A.getD 4 undef, A.getD 5 undef, A.getD 6 undef, A.getD 7 undef, A.getD 8 undef, A.getD 9 undef, A.getD 10 undef, A.getD 11 undef, A.getD 12 undef, A.getD 13 undef, A.getD 14 undef, A.getD 15 undef, A.getD 16 undef, A.getD 17 undef, A.getD 18 undef, A.getD 19 undef, A.getD 20 undef, A.getD 21 undef, A.getD 22 undef, A.getD 23 undef, A.getD 24 undef, A.getD 25 undef, A.getD 26 undef, A.getD 27 undef, A.getD 28 undef, A.getD 29 undef, A.getD 30 undef, A.getD 31 undef, A.getD 32 undef, A.getD 33 undef, A.getD 34 undef, A.getD 35 undef, A.getD 36 undef, A.getD 37 undef, A.getD 38 undef, A.getD 39 undef, A.getD 40 undef, A.getD 41 undef, A.getD 42 undef, A.getD 43 undef, A.getD 44 undef, A.getD 45 undef, A.getD 46 undef, A.getD 47 undef, A.getD 48 undef, A.getD 49 undef, A.getD 50 undef, A.getD 51 undef, A.getD 52 undef, A.getD 53 undef, A.getD 54 undef, A.getD 55 undef, A.getD 56 undef, A.getD 57 undef, A.getD 58 undef, A.getD 59 undef, A.getD 60 undef, A.getD 61 undef, A.getD 62 undef, A.getD 63 undef, A.getD 64 undef, A.getD 65 undef, A.getD 66 undef, A.getD 67 undef, A.getD 68 undef, A.getD 69 undef, A.getD 70 undef, A.getD 71 undef, A.getD 72 undef, A.getD 73 undef, A.getD 74 undef, A.getD 75 undef, A.getD 76 undef, A.getD 77 undef, A.getD 78 undef, A.getD 79 undef, A.getD 80 undef, A.getD 81 undef, A.getD 82 undef, A.getD 83 undef, A.getD 84 undef, A.getD 85 undef, A.getD 86 undef, A.getD 87 undef, A.getD 88 undef] := frame_list A 89 h
set_option maxHeartbeats 4000000 in
theorem replays_none {w : World} {Sd : Nat → Prop} {v d reg : Nat} {s : Sh} {epoch seq m : Nat} {used : Int} {bv : Value} {D : Dv} {c : Nat} {R : Reg} (hs : s.Ok) (hv : VolO w v d reg s epoch seq used bv m) (hd : DevAt w Sd d D c) (hR : D.regs[reg]? = some R) (hsz : R.seen.length = s.size) (hl0 : 0 < s.log)
    {l : List UInt8} (hl : R.seen[2]? = some l) (h10 : l[10]? = some 0) (he : epoch < 4294967296) (hq : seq < 4294967296) :
    Calls Tryz.prog 82 #[.pointer (some ⟨v, 0, none⟩)] w fun e w' => ∃ m2, e = .returned (.map (some m2)) ∧ MapI w' m2 [] ∧ w.heap.size ≤ m2 ∧ Below w.heap.size w w' := by
  have hmm : ∀ w, (Instr.makeMap 173 none).run Tryz.prog w = .ok (.map (some w.heap.size)) (w.alloc (.map #[] 0)) := fun w => run_makeMap _ w
  have hl64 : l.length = 64 := (hd.ok.regs R (List.mem_of_getElem? hR)).l1 l (List.mem_of_getElem? hl)
  have hlog := hs.log
  have c5 := VolO.c5 hv
  have H0 := Lib.hid (And.intro hv (And.intro hd (And.intro hR (And.intro hsz (And.intro hs (And.intro hl (And.intro hl64 h10)))))))
  clear hv hd hR hsz hs hl hl64 h10
  go_enter Tryz.func82, Tryz.ntmps82
  go_wp2_with fail
  refine wp_scope_labels (ReplJ w (.pointer (some ⟨v, 0, none⟩)) s R.seen) (fun l _ _ => l) ?_ ?_ ?_
  · rintro l a w' ⟨rfl, _⟩; exact ⟨_, rfl⟩
  · rintro l rest a w1 ⟨rfl, hbel, g, cap, m2, hM, hmw, hV1, ⟨A, hA, ⟨hA0, hA3, hA7, hA8, hA9, hA10, _⟩, rfl⟩⟩ hrest
    obtain rfl := (Code.seq.inj (Option.some.inj hrest)).2
    rw [frame89 A hA, hA0, hA3, hA7, hA8, hA9, hA10]
    clear hrest
    have hfirst : (logRows s R.seen s.log)[0]? = some l := by
      unfold logRows
      rw [List.getElem?_map, List.getElem?_range hl0, Option.map_some, List.getD_eq_getElem?_getD, H0.out.2.2.2.2.2.1]; rfl
    have hv1 := grow_obj hbel H0.out.1
    have HT := Lib.hid (Take_none s.lb epoch seq (RowB.below hV1 (Below.refl _ _).drew) (by omega) hfirst H0.out.2.2.2.2.2.2.1 H0.out.2.2.2.2.2.2.2 he hq)
    have H1 := Lib.hid (And.intro hM (And.intro hbel hmw))
    have c7 := VolO.c7 hv1
    have c8 := VolO.c8 hv1
    have c9 := VolO.c9 hv1
    clear hbel hfirst hM hv1 hV1 hmw c5 hmm
    go_upto_region 13 with fail
    refine wp_region_F [13] (S := fun w' => w'.cell? ⟨v, 7, none⟩ = some (.int .u8 (s.lb.toNat : Int)) ∧ w'.cell? ⟨v, 8, none⟩ = some (.int .u32 epoch) ∧ w'.cell? ⟨v, 9, none⟩ = some (.int .u32 seq) ∧ True) (by kernel_rfl) (⟨c7, c8, c9, trivial⟩) (fun hHeld => ?_)
    show wpAnyF _ _ _ _ _ _ 21 #[false, false, false, false, false, false, false, false, false, false, false, false, false, false, false, false, false, false, false, false, false] _ _
    refine wpAnyF_take [0, 1, 2, 3, 13, 14, 15, 16, 17, 18, 19, 20] (i := 0) (v := ?kv1) rfl (by kernel_rfl) (by kernel_rfl) (by kernel_rfl) (by kernel_rfl) (fun _ _ _ h => h) (Or.inl ⟨by rfl, ?ky1⟩) (by assumption) ?kr1
    case ky1 => (intro w hSw; (try dsimp only at hSw); go_split_ands; (try simp only [List.getElem_toArray, List.getElem_cons_zero]); go_simp; (try with_reducible rfl))
    try simp only [Act.put, List.getElem_toArray, List.getElem_cons_zero, List.setIfInBounds_toArray, List.set_cons_zero, List.set_cons_succ]
    refine wpAnyF_take [1, 2, 3, 13, 14, 15, 16, 17, 18, 19, 20] (i := 1) (v := ?kv2) rfl (by kernel_rfl) (by kernel_rfl) (by kernel_rfl) (by kernel_rfl) (fun _ _ _ h => h) (Or.inl ⟨by rfl, ?ky2⟩) (by assumption) ?kr2
    case ky2 => (intro w hSw; (try dsimp only at hSw); go_split_ands; (try simp only [List.getElem_toArray, List.getElem_cons_zero, List.getElem_cons_succ]); go_simp; (try with_reducible rfl))
    try simp only [Act.put, List.getElem_toArray, List.getElem_cons_zero, List.getElem_cons_succ, List.setIfInBounds_toArray, List.set_cons_zero, List.set_cons_succ]
    refine wpAnyF_take [2, 3, 13, 14, 15, 16, 17, 18, 19, 20] (i := 2) (v := ?kv3) rfl (by kernel_rfl) (by kernel_rfl) (by kernel_rfl) (by kernel_rfl) (fun _ _ _ h => h) (Or.inl ⟨by rfl, ?ky3⟩) (by assumption) ?kr3
    case ky3 => (intro w hSw; (try dsimp only at hSw); go_split_ands; (try simp only [List.getElem_toArray, List.getElem_cons_zero, List.getElem_cons_succ]); go_simp; (try with_reducible rfl))
    try simp only [Act.put, List.getElem_toArray, List.getElem_cons_zero, List.getElem_cons_succ, List.setIfInBounds_toArray, List.set_cons_zero, List.set_cons_succ]
    refine wpAnyF_take [3, 13, 14, 15, 16, 17, 18, 19, 20] (i := 3) (v := ?kv4) rfl (by kernel_rfl) (by kernel_rfl) (by kernel_rfl) (by kernel_rfl) (fun _ _ _ h => h) (Or.inl ⟨by rfl, ?ky4⟩) (by assumption) ?kr4
    case ky4 => (intro w hSw; (try dsimp only at hSw); go_split_ands; (try simp only [List.getElem_toArray, List.getElem_cons_zero, List.getElem_cons_succ]); go_simp; (try with_reducible rfl))
    try simp only [Act.put, List.getElem_toArray, List.getElem_cons_zero, List.getElem_cons_succ, List.setIfInBounds_toArray, List.set_cons_zero, List.set_cons_succ]
    refine wpAnyF_take [4, 5, 6, 7, 13, 14, 15, 16, 17, 18, 19, 20] (i := 4) (v := ?kv5) rfl (by kernel_rfl) (by kernel_rfl) (by kernel_rfl) (by kernel_rfl) (fun _ _ _ h => h) (Or.inl ⟨by rfl, ?ky5⟩) (by assumption) ?kr5
    case ky5 => (intro w hSw; (try dsimp only at hSw); go_split_ands; (try simp only [List.getElem_toArray, List.getElem_cons_zero, List.getElem_cons_succ]); go_simp; (try with_reducible rfl))
    try simp only [Act.put, List.getElem_toArray, List.getElem_cons_zero, List.getElem_cons_succ, List.setIfInBounds_toArray, List.set_cons_zero, List.set_cons_succ]
    refine wpAnyF_take [5, 6, 7, 13, 14, 15, 16, 17, 18, 19, 20] (i := 5) (v := ?kv6) rfl (by kernel_rfl) (by kernel_rfl) (by kernel_rfl) (by kernel_rfl) (fun _ _ _ h => h) (Or.inl ⟨by rfl, ?ky6⟩) (by assumption) ?kr6
    case ky6 => (intro w hSw; (try dsimp only at hSw); go_split_ands; (try simp only [List.getElem_toArray, List.getElem_cons_zero, List.getElem_cons_succ]); go_simp; (try with_reducible rfl))
    try simp only [Act.put, List.getElem_toArray, List.getElem_cons_zero, List.getElem_cons_succ, List.setIfInBounds_toArray, List.set_cons_zero, List.set_cons_succ]
    refine wpAnyF_take [6, 7, 13, 14, 15, 16, 17, 18, 19, 20] (i := 6) (v := ?kv7) rfl (by kernel_rfl) (by kernel_rfl) (by kernel_rfl) (by kernel_rfl) (fun _ _ _ h => h) (Or.inl ⟨by rfl, ?ky7⟩) (by assumption) ?kr7
    case ky7 => (intro w hSw; (try dsimp only at hSw); go_split_ands; (try simp only [List.getElem_toArray, List.getElem_cons_zero, List.getElem_cons_succ]); go_simp; (try with_reducible rfl))
    try simp only [Act.put, List.getElem_toArray, List.getElem_cons_zero, List.getElem_cons_succ, List.setIfInBounds_toArray, List.set_cons_zero, List.set_cons_succ]
    refine wpAnyF_take [7, 13, 14, 15, 16, 17, 18, 19, 20] (i := 7) (v := ?kv8) rfl (by kernel_rfl) (by kernel_rfl) (by kernel_rfl) (by kernel_rfl) (fun _ _ _ h => h) (Or.inl ⟨by rfl, ?ky8⟩) (by assumption) ?kr8
    case ky8 => (intro w hSw; (try dsimp only at hSw); go_split_ands; (try simp only [List.getElem_toArray, List.getElem_cons_zero, List.getElem_cons_succ]); go_simp; (try with_reducible rfl))
    try simp only [Act.put, List.getElem_toArray, List.getElem_cons_zero, List.getElem_cons_succ, List.setIfInBounds_toArray, List.set_cons_zero, List.set_cons_succ]
    refine wpAnyF_take [8, 9, 10, 11, 13, 14, 15, 16, 17, 18, 19, 20] (i := 8) (v := ?kv9) rfl (by kernel_rfl) (by kernel_rfl) (by kernel_rfl) (by kernel_rfl) (fun _ _ _ h => h) (Or.inl ⟨by rfl, ?ky9⟩) (by assumption) ?kr9
    case ky9 => (intro w hSw; (try dsimp only at hSw); go_split_ands; (try simp only [List.getElem_toArray, List.getElem_cons_zero, List.getElem_cons_succ]); go_simp; (try with_reducible rfl))
    try simp only [Act.put, List.getElem_toArray, List.getElem_cons_zero, List.getElem_cons_succ, List.setIfInBounds_toArray, List.set_cons_zero, List.set_cons_succ]
    refine wpAnyF_take [9, 10, 11, 13, 14, 15, 16, 17, 18, 19, 20] (i := 9) (v := ?kv10) rfl (by kernel_rfl) (by kernel_rfl) (by kernel_rfl) (by kernel_rfl) (fun _ _ _ h => h) (Or.inl ⟨by rfl, ?ky10⟩) (by assumption) ?kr10
    case ky10 => (intro w hSw; (try dsimp only at hSw); go_split_ands; (try simp only [List.getElem_toArray, List.getElem_cons_zero, List.getElem_cons_succ]); go_simp; (try with_reducible rfl))
    try simp only [Act.put, List.getElem_toArray, List.getElem_cons_zero, List.getElem_cons_succ, List.setIfInBounds_toArray, List.set_cons_zero, List.set_cons_succ]
    refine wpAnyF_take [10, 11, 13, 14, 15, 16, 17, 18, 19, 20] (i := 10) (v := ?kv11) rfl (by kernel_rfl) (by kernel_rfl) (by kernel_rfl) (by kernel_rfl) (fun _ _ _ h => h) (Or.inl ⟨by rfl, ?ky11⟩) (by assumption) ?kr11
    case ky11 => (intro w hSw; (try dsimp only at hSw); go_split_ands; (try simp only [List.getElem_toArray, List.getElem_cons_zero, List.getElem_cons_succ]); go_simp; (try with_reducible rfl))
    try simp only [Act.put, List.getElem_toArray, List.getElem_cons_zero, List.getElem_cons_succ, List.setIfInBounds_toArray, List.set_cons_zero, List.set_cons_succ]
    refine wpAnyF_take [11, 13, 14, 15, 16, 17, 18, 19, 20] (i := 11) (v := ?kv12) rfl (by kernel_rfl) (by kernel_rfl) (by kernel_rfl) (by kernel_rfl) (fun _ _ _ h => h) (Or.inl ⟨by rfl, ?ky12⟩) (by assumption) ?kr12
    case ky12 => (intro w hSw; (try dsimp only at hSw); go_split_ands; (try simp only [List.getElem_toArray, List.getElem_cons_zero, List.getElem_cons_succ]); go_simp; (try with_reducible rfl))
    try simp only [Act.put, List.getElem_toArray, List.getElem_cons_zero, List.getElem_cons_succ, List.setIfInBounds_toArray, List.set_cons_zero, List.set_cons_succ]
    refine wpAnyF_take [12, 13, 14, 15, 16, 17, 18, 19, 20] (i := 12) (v := ?kv13) rfl (by kernel_rfl) (by kernel_rfl) (by kernel_rfl) (by kernel_rfl) (fun _ _ _ h => h) (Or.inl ⟨by rfl, ?ky13⟩) (by assumption) ?kr13
    case ky13 => (intro w hSw; (try dsimp only at hSw); go_split_ands; (try simp only [List.getElem_toArray, List.getElem_cons_zero, List.getElem_cons_succ]); go_simp; (try with_reducible rfl))
    try simp only [Act.put, List.getElem_toArray, List.getElem_cons_zero, List.getElem_cons_succ, List.setIfInBounds_toArray, List.set_cons_zero, List.set_cons_succ]
    refine wpAnyF_ready (rs := [13]) (by kernel_rfl) (by simp) ?_
    refine (AllReadyF.last rfl (by kernel_rfl) (fun K hK => ?_) AllReadyF.nil)
    try simp only [List.getElem_toArray, List.getElem_cons_zero, List.getElem_cons_succ]
    go_simp
    go_at_call 123; refine HT.out.mono ?_; rintro e x5 ⟨rfl, b5⟩
    refine hK.out _ _ (trivial) (fun hHeldn => ?_)
    clear hHeld hK K
    have hHeld := hHeldn
    clear hHeldn
    try simp only [List.setIfInBounds_toArray, List.set_cons_zero, List.set_cons_succ]
    refine wpAnyF_pure (i := 14) (v := ?kv15) rfl (by kernel_rfl) (by kernel_rfl) (by kernel_rfl) (by kernel_rfl) (fun _ _ _ h => h) (Or.inl ⟨by rfl, ?ky15⟩) (by first | (intro _; assumption) | (intro h; exact absurd h (by decide))) ?kr15
    case ky15 => (intro w hSw; clear hSw; (try simp only [List.getElem_toArray, List.getElem_cons_zero, List.getElem_cons_succ]); go_simp; (try with_reducible rfl))
    try simp only [Act.put, List.getElem_toArray, List.getElem_cons_zero, List.getElem_cons_succ, List.setIfInBounds_toArray, List.set_cons_zero, List.set_cons_succ]
    refine wpAnyF_pure (i := 15) (v := ?kv16) rfl (by kernel_rfl) (by kernel_rfl) (by kernel_rfl) (by kernel_rfl) (fun _ _ _ h => h) (Or.inl ⟨by rfl, ?ky16⟩) (by first | (intro _; assumption) | (intro h; exact absurd h (by decide))) ?kr16
    case ky16 => (intro w hSw; clear hSw; (try simp only [List.getElem_toArray, List.getElem_cons_zero, List.getElem_cons_succ]); go_simp; (try with_reducible rfl))
    try simp only [Act.put, List.getElem_toArray, List.getElem_cons_zero, List.getElem_cons_succ, List.setIfInBounds_toArray, List.set_cons_zero, List.set_cons_succ]
    refine wpAnyF_pure (i := 16) (v := ?kv17) rfl (by kernel_rfl) (by kernel_rfl) (by kernel_rfl) (by kernel_rfl) (fun _ _ _ h => h) (Or.inl ⟨by rfl, ?ky17⟩) (by first | (intro _; assumption) | (intro h; exact absurd h (by decide))) ?kr17
    case ky17 => (intro w hSw; clear hSw; (try simp only [List.getElem_toArray, List.getElem_cons_zero, List.getElem_cons_succ]); go_simp; (try with_reducible rfl))
    try simp only [Act.put, List.getElem_toArray, List.getElem_cons_zero, List.getElem_cons_succ, List.setIfInBounds_toArray, List.set_cons_zero, List.set_cons_succ]
    refine wpAnyF_pure (i := 17) (v := ?kv18) rfl (by kernel_rfl) (by kernel_rfl) (by kernel_rfl) (by kernel_rfl) (fun _ _ _ h => h) (Or.inl ⟨by rfl, ?ky18⟩) (by first | (intro _; assumption) | (intro h; exact absurd h (by decide))) ?kr18
    case ky18 => (intro w hSw; clear hSw; (try simp only [List.getElem_toArray, List.getElem_cons_zero, List.getElem_cons_succ]); go_simp; (try with_reducible rfl))
    try simp only [Act.put, List.getElem_toArray, List.getElem_cons_zero, List.getElem_cons_succ, List.setIfInBounds_toArray, List.set_cons_zero, List.set_cons_succ]
    refine wpAnyF_pure (i := 18) (v := ?kv19) rfl (by kernel_rfl) (by kernel_rfl) (by kernel_rfl) (by kernel_rfl) (fun _ _ _ h => h) (Or.inl ⟨by rfl, ?ky19⟩) (by first | (intro _; assumption) | (intro h; exact absurd h (by decide))) ?kr19
    case ky19 => (intro w hSw; clear hSw; (try simp only [List.getElem_toArray, List.getElem_cons_zero, List.getElem_cons_succ]); go_simp; (try with_reducible rfl))
    try simp only [Act.put, List.getElem_toArray, List.getElem_cons_zero, List.getElem_cons_succ, List.setIfInBounds_toArray, List.set_cons_zero, List.set_cons_succ]
    refine wpAnyF_pure (i := 19) (v := ?kv20) rfl (by kernel_rfl) (by kernel_rfl) (by kernel_rfl) (by kernel_rfl) (fun _ _ _ h => h) (Or.inl ⟨by rfl, ?ky20⟩) (by first | (intro _; assumption) | (intro h; exact absurd h (by decide))) ?kr20
    case ky20 => (intro w hSw; clear hSw; (try simp only [List.getElem_toArray, List.getElem_cons_zero, List.getElem_cons_succ]); go_simp; (try with_reducible rfl))
    try simp only [Act.put, List.getElem_toArray, List.getElem_cons_zero, List.getElem_cons_succ, List.setIfInBounds_toArray, List.set_cons_zero, List.set_cons_succ]
    refine wpAnyF_pure (i := 20) (v := ?kv21) rfl (by kernel_rfl) (by kernel_rfl) (by kernel_rfl) (by kernel_rfl) (fun _ _ _ h => h) (Or.inl ⟨by rfl, ?ky21⟩) (by first | (intro _; assumption) | (intro h; exact absurd h (by decide))) ?kr21
    case ky21 => (intro w hSw; clear hSw; (try simp only [List.getElem_toArray, List.getElem_cons_zero, List.getElem_cons_succ]); go_simp; (try with_reducible rfl))
    try simp only [Act.put, List.getElem_toArray, List.getElem_cons_zero, List.getElem_cons_succ, List.setIfInBounds_toArray, List.set_cons_zero, List.set_cons_succ]
    refine wpAnyF_done (by kernel_rfl) ?_ _
    go_wp2_with fail
    rw [jumps_ret]
    go_ret
    have hx5 : Below w1.heap.size w1 x5 := (Below.refl w1.heap.size w1).drew.trans b5
    exact ⟨m2, rfl, H1.out.1.below hx5, H1.out.2.2, grow_trans H1.out.2.1 hx5⟩
  · intro hfall
    have HF := Lib.hid hfall
    clear hfall
    go_wp2_with fail
    clear c5
    go_loopw [3, 18] (fun s3 i wr => ∃ (k : Nat) (V : Value), k ≤ s.log ∧ i = .int .i64 k ∧ V = s3 ∧ RowB wr (fun q => w.heap.size ≤ q) V (logRows s R.seen k) ∧ Below w.heap.size w wr) (fun _ i _ => s.log - (Go.RowKit.intOf i).toNat)
    case atStart => exact ⟨0, _, Nat.zero_le _, rfl, rfl, RowG.nil _ _ _ _ _, Below.refl _ _⟩
    case round =>
      obtain ⟨k, V, hk, rfl, rfl, hV, hbel⟩ := hrel
      have hvr := grow_obj hbel H0.out.1
      by_cases hlt : k < s.log
      · have hlti : (k : Int) < (s.log : Int) := by omega
        obtain ⟨lk, hlk⟩ : ∃ lk, R.seen[2 + k]? = some lk := ⟨_, List.getElem?_eq_getElem (by rw [H0.out.2.2.2.1]; unfold Sh.size; omega)⟩
        have hgl : R.seen.getD (2 + k) [] = lk := by rw [List.getD_eq_getElem?_getD, hlk]; rfl
        have hl64 : lk.length = 64 := (H0.out.2.1.ok.regs R (List.mem_of_getElem? H0.out.2.2.1)).l1 lk (List.mem_of_getElem? hlk)
        have Hrd := Lib.hid (fun w' (hb : Below wr.heap.size wr w') => ((H0.out.2.1.below hbel).below hb).read H0.out.2.2.1 hlk)
        have Hsu := Lib.hid (logRows_succ s R.seen k)
        rw [hgl] at Hsu
        have c0 := VolO.c0 hvr
        have c1 := VolO.c1 hvr
        have c2 := VolO.c2 hvr
        have c3 := VolO.c3 hvr
        have c4 := VolO.c4 hvr
        have c5 := VolO.c5 hvr
        have c6 := VolO.c6 hvr
        have hS : ∀ w', Below wr.heap.size wr w' → w'.cell? ⟨v, 0, none⟩ = some (.pointer (some ⟨d, 0, none⟩)) ∧ w'.cell? ⟨v, 1, none⟩ = some (.int .i64 reg) ∧ w'.cell? ⟨v, 2, none⟩ = some (.int .i64 s.level) ∧ w'.cell? ⟨v, 3, none⟩ = some (.int .i64 s.cats) ∧ w'.cell? ⟨v, 4, none⟩ = some (.int .i64 s.blocks) ∧ w'.cell? ⟨v, 5, none⟩ = some (.int .i64 s.log) ∧ w'.cell? ⟨v, 6, none⟩ = some (.int .i64 s.frames) ∧ True :=
          fun w' hb => ⟨grow_cell hb c0, grow_cell hb c1, grow_cell hb c2, grow_cell hb c3, grow_cell hb c4, grow_cell hb c5, grow_cell hb c6, trivial⟩
        have HV := Lib.hid (And.intro hV (And.intro hbel (And.intro hl64 hlt)))
        have hkl : (logRows s R.seen k).length < 1000000 := by rw [logRows_length]; omega
        clear hV hbel hlk hgl hl64 hvr hmm
        go_upto_region 5 with fail
        refine wp_region_F [14] (S := fun w' => w'.cell? ⟨v, 0, none⟩ = some (.pointer (some ⟨d, 0, none⟩)) ∧ w'.cell? ⟨v, 1, none⟩ = some (.int .i64 reg) ∧ w'.cell? ⟨v, 2, none⟩ = some (.int .i64 s.level) ∧ w'.cell? ⟨v, 3, none⟩ = some (.int .i64 s.cats) ∧ w'.cell? ⟨v, 4, none⟩ = some (.int .i64 s.blocks) ∧ w'.cell? ⟨v, 5, none⟩ = some (.int .i64 s.log) ∧ w'.cell? ⟨v, 6, none⟩ = some (.int .i64 s.frames) ∧ True) (by kernel_rfl) (hS _ (Below.refl _ _).drew) (fun hHeld => ?_)
        show wpAnyF _ _ _ _ _ _ 20 #[false, false, false, false, false, false, false, false, false, false, false, false, false, false, false, false, false, false, false, false] _ _
        refine wpAnyF_take [0, 1, 2, 3, 14, 15, 16, 17, 18, 19] (i := 0) (v := ?kv22) rfl (by kernel_rfl) (by kernel_rfl) (by kernel_rfl) (by kernel_rfl) (fun _ _ _ h => h) (Or.inl ⟨by rfl, ?ky22⟩) (by assumption) ?kr22
        case ky22 => (intro w hSw; (try dsimp only at hSw); go_split_ands; (try simp only [List.getElem_toArray, List.getElem_cons_zero]); go_simp; (try with_reducible rfl))
        try simp only [Act.put, List.getElem_toArray, List.getElem_cons_zero, List.setIfInBounds_toArray, List.set_cons_zero, List.set_cons_succ]
        refine wpAnyF_take [1, 2, 3, 14, 15, 16, 17, 18, 19] (i := 1) (v := ?kv23) rfl (by kernel_rfl) (by kernel_rfl) (by kernel_rfl) (by kernel_rfl) (fun _ _ _ h => h) (Or.inl ⟨by rfl, ?ky23⟩) (by assumption) ?kr23
        case ky23 => (intro w hSw; (try dsimp only at hSw); go_split_ands; (try simp only [List.getElem_toArray, List.getElem_cons_zero, List.getElem_cons_succ]); go_simp; (try with_reducible rfl))
        try simp only [Act.put, List.getElem_toArray, List.getElem_cons_zero, List.getElem_cons_succ, List.setIfInBounds_toArray, List.set_cons_zero, List.set_cons_succ]
        refine wpAnyF_take [2, 3, 14, 15, 16, 17, 18, 19] (i := 2) (v := ?kv24) rfl (by kernel_rfl) (by kernel_rfl) (by kernel_rfl) (by kernel_rfl) (fun _ _ _ h => h) (Or.inl ⟨by rfl, ?ky24⟩) (by assumption) ?kr24
        case ky24 => (intro w hSw; (try dsimp only at hSw); go_split_ands; (try simp only [List.getElem_toArray, List.getElem_cons_zero, List.getElem_cons_succ]); go_simp; (try with_reducible rfl))
        try simp only [Act.put, List.getElem_toArray, List.getElem_cons_zero, List.getElem_cons_succ, List.setIfInBounds_toArray, List.set_cons_zero, List.set_cons_succ]
        refine wpAnyF_take [3, 14, 15, 16, 17, 18, 19] (i := 3) (v := ?kv25) rfl (by kernel_rfl) (by kernel_rfl) (by kernel_rfl) (by kernel_rfl) (fun _ _ _ h => h) (Or.inl ⟨by rfl, ?ky25⟩) (by assumption) ?kr25
        case ky25 => (intro w hSw; (try dsimp only at hSw); go_split_ands; (try simp only [List.getElem_toArray, List.getElem_cons_zero, List.getElem_cons_succ]); go_simp; (try with_reducible rfl))
        try simp only [Act.put, List.getElem_toArray, List.getElem_cons_zero, List.getElem_cons_succ, List.setIfInBounds_toArray, List.set_cons_zero, List.set_cons_succ]
        refine wpAnyF_take [4, 5, 6, 7, 14, 15, 16, 17, 18, 19] (i := 4) (v := ?kv26) rfl (by kernel_rfl) (by kernel_rfl) (by kernel_rfl) (by kernel_rfl) (fun _ _ _ h => h) (Or.inl ⟨by rfl, ?ky26⟩) (by assumption) ?kr26
        case ky26 => (intro w hSw; (try dsimp only at hSw); go_split_ands; (try simp only [List.getElem_toArray, List.getElem_cons_zero, List.getElem_cons_succ]); go_simp; (try with_reducible rfl))
        try simp only [Act.put, List.getElem_toArray, List.getElem_cons_zero, List.getElem_cons_succ, List.setIfInBounds_toArray, List.set_cons_zero, List.set_cons_succ]
        refine wpAnyF_take [5, 6, 7, 14, 15, 16, 17, 18, 19] (i := 5) (v := ?kv27) rfl (by kernel_rfl) (by kernel_rfl) (by kernel_rfl) (by kernel_rfl) (fun _ _ _ h => h) (Or.inl ⟨by rfl, ?ky27⟩) (by assumption) ?kr27
        case ky27 => (intro w hSw; (try dsimp only at hSw); go_split_ands; (try simp only [List.getElem_toArray, List.getElem_cons_zero, List.getElem_cons_succ]); go_simp; (try with_reducible rfl))
        try simp only [Act.put, List.getElem_toArray, List.getElem_cons_zero, List.getElem_cons_succ, List.setIfInBounds_toArray, List.set_cons_zero, List.set_cons_succ]
        refine wpAnyF_take [6, 7, 14, 15, 16, 17, 18, 19] (i := 6) (v := ?kv28) rfl (by kernel_rfl) (by kernel_rfl) (by kernel_rfl) (by kernel_rfl) (fun _ _ _ h => h) (Or.inl ⟨by rfl, ?ky28⟩) (by assumption) ?kr28
        case ky28 => (intro w hSw; (try dsimp only at hSw); go_split_ands; (try simp only [List.getElem_toArray, List.getElem_cons_zero, List.getElem_cons_succ]); go_simp; (try with_reducible rfl))
        try simp only [Act.put, List.getElem_toArray, List.getElem_cons_zero, List.getElem_cons_succ, List.setIfInBounds_toArray, List.set_cons_zero, List.set_cons_succ]
        refine wpAnyF_take [7, 14, 15, 16, 17, 18, 19] (i := 7) (v := ?kv29) rfl (by kernel_rfl) (by kernel_rfl) (by kernel_rfl) (by kernel_rfl) (fun _ _ _ h => h) (Or.inl ⟨by rfl, ?ky29⟩) (by assumption) ?kr29
        case ky29 => (intro w hSw; (try dsimp only at hSw); go_split_ands; (try simp only [List.getElem_toArray, List.getElem_cons_zero, List.getElem_cons_succ]); go_simp; (try with_reducible rfl))
        try simp only [Act.put, List.getElem_toArray, List.getElem_cons_zero, List.getElem_cons_succ, List.setIfInBounds_toArray, List.set_cons_zero, List.set_cons_succ]
        refine wpAnyF_take [8, 9, 10, 11, 13, 14, 15, 16, 17, 18, 19] (i := 8) (v := ?kv30) rfl (by kernel_rfl) (by kernel_rfl) (by kernel_rfl) (by kernel_rfl) (fun _ _ _ h => h) (Or.inl ⟨by rfl, ?ky30⟩) (by assumption) ?kr30
        case ky30 => (intro w hSw; (try dsimp only at hSw); go_split_ands; (try simp only [List.getElem_toArray, List.getElem_cons_zero, List.getElem_cons_succ]); go_simp; (try with_reducible rfl))
        try simp only [Act.put, List.getElem_toArray, List.getElem_cons_zero, List.getElem_cons_succ, List.setIfInBounds_toArray, List.set_cons_zero, List.set_cons_succ]
        refine wpAnyF_take [9, 10, 11, 13, 14, 15, 16, 17, 18, 19] (i := 9) (v := ?kv31) rfl (by kernel_rfl) (by kernel_rfl) (by kernel_rfl) (by kernel_rfl) (fun _ _ _ h => h) (Or.inl ⟨by rfl, ?ky31⟩) (by assumption) ?kr31
        case ky31 => (intro w hSw; (try dsimp only at hSw); go_split_ands; (try simp only [List.getElem_toArray, List.getElem_cons_zero, List.getElem_cons_succ]); go_simp; (try with_reducible rfl))
        try simp only [Act.put, List.getElem_toArray, List.getElem_cons_zero, List.getElem_cons_succ, List.setIfInBounds_toArray, List.set_cons_zero, List.set_cons_succ]
        refine wpAnyF_take [10, 11, 13, 14, 15, 16, 17, 18, 19] (i := 10) (v := ?kv32) rfl (by kernel_rfl) (by kernel_rfl) (by kernel_rfl) (by kernel_rfl) (fun _ _ _ h => h) (Or.inl ⟨by rfl, ?ky32⟩) (by assumption) ?kr32
        case ky32 => (intro w hSw; (try dsimp only at hSw); go_split_ands; (try simp only [List.getElem_toArray, List.getElem_cons_zero, List.getElem_cons_succ]); go_simp; (try with_reducible rfl))
        try simp only [Act.put, List.getElem_toArray, List.getElem_cons_zero, List.getElem_cons_succ, List.setIfInBounds_toArray, List.set_cons_zero, List.set_cons_succ]
        refine wpAnyF_take [11, 13, 14, 15, 16, 17, 18, 19] (i := 11) (v := ?kv33) rfl (by kernel_rfl) (by kernel_rfl) (by kernel_rfl) (by kernel_rfl) (fun _ _ _ h => h) (Or.inl ⟨by rfl, ?ky33⟩) (by assumption) ?kr33
        case ky33 => (intro w hSw; (try dsimp only at hSw); go_split_ands; (try simp only [List.getElem_toArray, List.getElem_cons_zero, List.getElem_cons_succ]); go_simp; (try with_reducible rfl))
        try simp only [Act.put, List.getElem_toArray, List.getElem_cons_zero, List.getElem_cons_succ, List.setIfInBounds_toArray, List.set_cons_zero, List.set_cons_succ]
        refine wpAnyF_take [12, 13, 14, 15, 16, 17, 18, 19] (i := 12) (v := ?kv34) rfl (by kernel_rfl) (by kernel_rfl) (by kernel_rfl) (by kernel_rfl) (fun _ _ _ h => h) (Or.inl ⟨by rfl, ?ky34⟩) (by assumption) ?kr34
        case ky34 => (intro w hSw; (try dsimp only at hSw); go_split_ands; (try simp only [List.getElem_toArray, List.getElem_cons_zero, List.getElem_cons_succ]); go_simp; (try with_reducible rfl))
        try simp only [Act.put, List.getElem_toArray, List.getElem_cons_zero, List.getElem_cons_succ, List.setIfInBounds_toArray, List.set_cons_zero, List.set_cons_succ]
        refine wpAnyF_ready (rs := [13]) (by kernel_rfl) (by simp) ?_
        refine (AllReadyF.cons rfl (fun K hK => ?_) AllReadyF.nil)
        try simp only [List.getElem_toArray, List.getElem_cons_zero, List.getElem_cons_succ]
        go_simp
        go_at_call 122; refine (Log_any s H0.out.2.2.2.2.1 k HV.out.2.2.2 _).mono ?_; rintro e x3 ⟨rfl, b3⟩; have hx3 : Below wr.heap.size wr x3 := (Below.refl _ _).drew.trans b3
        refine hK.out _ _ (by exact hS _ hx3) (fun hHeldn => ?_)
        clear hHeld hK K
        have hHeld := hHeldn
        clear hHeldn
        try simp only [List.setIfInBounds_toArray, List.set_cons_zero, List.set_cons_succ]
        refine wpAnyF_ready (rs := [14]) (by kernel_rfl) (by simp) ?_
        refine (AllReadyF.last rfl (by kernel_rfl) (fun K hK => ?_) AllReadyF.nil)
        try simp only [List.getElem_toArray, List.getElem_cons_zero, List.getElem_cons_succ]
        go_simp
        go_at_call 73; refine (Hrd.out _ hx3).mono ?_; rintro e x4 ⟨g4, cap4, rfl, hr4, hc4, b4⟩
        refine hK.out _ _ (trivial) (fun hHeldn => ?_)
        clear hHeld hK K
        have hHeld := hHeldn
        clear hHeldn
        try simp only [List.setIfInBounds_toArray, List.set_cons_zero, List.set_cons_succ]
        refine wpAnyF_pure (i := 15) (v := ?kv37) rfl (by kernel_rfl) (by kernel_rfl) (by kernel_rfl) (by kernel_rfl) (fun _ _ _ h => h) (Or.inl ⟨by rfl, ?ky37⟩) (by first | (intro _; assumption) | (intro h; exact absurd h (by decide))) ?kr37
        case ky37 => (intro w hSw; clear hSw; (try simp only [List.getElem_toArray, List.getElem_cons_zero, List.getElem_cons_succ]); go_simp; (try with_reducible rfl))
        try simp only [Act.put, List.getElem_toArray, List.getElem_cons_zero, List.getElem_cons_succ, List.setIfInBounds_toArray, List.set_cons_zero, List.set_cons_succ]
        refine wpAnyF_pure (i := 16) (v := ?kv38) rfl (by kernel_rfl) (by kernel_rfl) (by kernel_rfl) (by kernel_rfl) (fun _ _ _ h => h) (Or.inl ⟨by rfl, ?ky38⟩) (by first | (intro _; assumption) | (intro h; exact absurd h (by decide))) ?kr38
        case ky38 => (intro w hSw; clear hSw; (try simp only [List.getElem_toArray, List.getElem_cons_zero, List.getElem_cons_succ]); go_simp; (try with_reducible rfl))
        try simp only [Act.put, List.getElem_toArray, List.getElem_cons_zero, List.getElem_cons_succ, List.setIfInBounds_toArray, List.set_cons_zero, List.set_cons_succ]
        refine wpAnyF_pure (i := 17) (v := ?kv39) rfl (by kernel_rfl) (by kernel_rfl) (by kernel_rfl) (by kernel_rfl) (fun _ _ _ h => h) (Or.inl ⟨by rfl, ?ky39⟩) (by first | (intro _; assumption) | (intro h; exact absurd h (by decide))) ?kr39
        case ky39 => (intro w hSw; clear hSw; (try simp only [List.getElem_toArray, List.getElem_cons_zero, List.getElem_cons_succ]); go_simp; (try with_reducible rfl))
        try simp only [Act.put, List.getElem_toArray, List.getElem_cons_zero, List.getElem_cons_succ, List.setIfInBounds_toArray, List.set_cons_zero, List.set_cons_succ]
        refine wpAnyF_pure (i := 18) (v := ?kv40) rfl (by kernel_rfl) (by kernel_rfl) (by kernel_rfl) (by kernel_rfl) (fun _ _ _ h => h) (Or.inl ⟨by rfl, ?ky40⟩) (by first | (intro _; assumption) | (intro h; exact absurd h (by decide))) ?kr40
        case ky40 => (intro w hSw; clear hSw; (try simp only [List.getElem_toArray, List.getElem_cons_zero, List.getElem_cons_succ]); go_simp; (try with_reducible rfl))
        try simp only [Act.put, List.getElem_toArray, List.getElem_cons_zero, List.getElem_cons_succ, List.setIfInBounds_toArray, List.set_cons_zero, List.set_cons_succ]
        refine wpAnyF_pure (i := 19) (v := ?kv41) rfl (by kernel_rfl) (by kernel_rfl) (by kernel_rfl) (by kernel_rfl) (fun _ _ _ h => h) (Or.inl ⟨by rfl, ?ky41⟩) (by first | (intro _; assumption) | (intro h; exact absurd h (by decide))) ?kr41
        case ky41 => (intro w hSw; clear hSw; (try simp only [List.getElem_toArray, List.getElem_cons_zero, List.getElem_cons_succ]); go_simp; (try with_reducible rfl))
        try simp only [Act.put, List.getElem_toArray, List.getElem_cons_zero, List.getElem_cons_succ, List.setIfInBounds_toArray, List.set_cons_zero, List.set_cons_succ]
        refine wpAnyF_done (by kernel_rfl) ?_ _
        have hx4 := grow_trans hx3 b4
        have hB6 : Below x4.heap.size x4 (x4.alloc (.cells #[.slice (some ⟨g4, 0, none⟩) 64 cap4] 22)) := grow_alloc (Below.refl _ _) _
        have hR6 := RowB.below (RowB.below HV.out.1 hx4) hB6
        have hby := BRow.byteAt (S := fun q => w.heap.size ≤ q) (hr4.below hB6) HV.out.2.2.1.symm (Nat.le_trans (Nat.le_trans HV.out.2.1.size hx3.size) (BRow.ge hr4))
        have H6 := Lib.hid (And.intro hR6 (And.intro hby (And.intro hx4 hB6)))
        clear hS hHeld c0 c1 c2 c3 c4 c5 c6 hx3 b3 b4 hr4 hc4 hx4 hB6 hR6 hby
        go_wp2_with (at_builtin; refine list_appG elemBytesK (v := V) rfl _ _ rfl rfl H6.out.1 rfl (by rw [objAt_alloc, if_pos rfl]) rfl (by simp [Value.oneCell']) hkl (BEl (fun q => w.heap.size ≤ q)) lk (fun w7 hk7 => ⟨fun a c h => BEl.own H6.out.1 (by decide) hk7 a c h, BEl.own H6.out.1 (by decide) hk7 _ _ ⟨_, rfl, H6.out.2.1⟩⟩) ?_; intro g7 cap7 w7 hv7 hk7 ho7 hl7)
        have hle : w.heap.size ≤ (x4.alloc (.cells #[.slice (some ⟨g4, 0, none⟩) 64 cap4] 22)).heap.size := Nat.le_trans HV.out.2.1.size (Nat.le_trans H6.out.2.2.1.size H6.out.2.2.2.size)
        have hfin : Below w.heap.size w w7 := (grow_trans HV.out.2.1 (grow_trans H6.out.2.2.1 H6.out.2.2.2)).trans (hk7.below hle (fun q e => H6.out.1.own q e))
        have hrow7 := RowG.mono (S2 := fun q => w.heap.size ≤ q) hv7 (fun q hq => hq.elim id (Nat.le_trans hle))
        rw [← Hsu.out] at hrow7
        go_roundw
        case rel => exact ⟨k + 1, _, by omega, by go_num, rfl, by rw [logRows_length] at hrow7 ⊢; exact hrow7, hfin⟩
        case measure => simp [Go.RowKit.intOf]; omega
      · obtain rfl : k = s.log := by omega
        obtain ⟨g, cap, rfl⟩ := RowG.form hV (by rw [logRows_length]; exact hl0)
        have hn : ¬ ((s.log : Int) < (s.log : Int)) := by omega
        have hB1 : Below wr.heap.size wr (wr.alloc (.map #[] 0)) := grow_alloc (Below.refl _ _) _
        have hV1 := RowB.below hV hB1
        rw [logRows_length] at hV1 ⊢
        have H1 := Lib.hid (And.intro (MapI.made wr) (And.intro (grow_trans hbel hB1) (And.intro hbel.size hV1)))
        clear hV hbel hvr hB1 hV1
        go_wp2_with fail
        go_step3
        simp only [Exit.then]
        go_step
        refine HF.out 0 _ _ _ ?_ rfl
        exact ⟨rfl, H1.out.2.1, g, cap, _, H1.out.1, H1.out.2.2.1, H1.out.2.2.2, ⟨_, rfl, ⟨rfl, rfl, rfl, rfl, rfl, rfl, trivial⟩, rfl⟩⟩
end Go.Proofs.YtanmihhlkelgeaaGreat
