/- DERIVED. Contracts and laws that the proofs of this seat share, part 25 of 40: DvE. -/
import Derived.Test.YtbbnejehglonjaaGreatMg00
import Derived.Test.YtbbnejehglonjaaGreatMg12
/- DERIVED. A device as it lies: New, the rows that are made. -/
namespace Go.Proofs.YtbbnejehglonjaaGreat
open Go.RowKit
attribute [local go_sem] hasBlk
attribute [local irreducible] Calls
set_option maxRecDepth 100000

def zeros64 : List UInt8 := List.replicate 64 0
def z64 : Array Value := (List.replicate 64 (Value.int .u8 0)).toArray
theorem bytes_z64 {w : World} {b : Nat} (h : objAt w b = some (.cells z64 5 (0, 0))) : BytesAt w (some ⟨b, 0, none⟩) zeros64 := by
  refine ⟨b, 0, fun _ => rfl, fun i hi => ?_⟩
  have hi' : i < 64 := by simpa [zeros64] using hi
  rw [Nat.zero_add, cell_obj h]
  have e : ∀ h : i < zeros64.length, zeros64[i]'h = 0 := fun h => by simp only [zeros64, List.getElem_replicate]
  refine Eq.trans ?_ (congrArg (fun c : UInt8 => some (Value.int .u8 (c.toNat : Int))) (e hi).symm)
  unfold z64
  rw [List.getElem?_toArray, List.getElem?_replicate, if_pos hi']; rfl
/-- A row of blocks of noughts. -/
def SeenRow (w : World) (N : Nat) (v : Value) (k : Nat) : Prop := ∃ xs, w.ownsRow 0 22 1 v k xs ∧ (∀ g, v.ownBlock = some g → N ≤ g) ∧
  ∀ i, i < k → ∃ b, xs[i]? = some (.slice (some ⟨b, 0, none⟩) 64 64) ∧ N ≤ b ∧ objAt w b = some (.cells z64 5 (0, 0))
theorem SeenRow.obj {w : World} {N : Nat} {v : Value} {k : Nat} (h : SeenRow w N v k) {g : Nat} (hg : v.ownBlock = some g) : ∃ c, objAt w g = some (.cells c 22 (0, 0)) := by
  obtain ⟨xs, h1, _⟩ := h
  rcases h1.2 with ⟨h', h0⟩ | ⟨g', cap', cur, h', hb, hg', hnc, hcm, hcs, htake⟩
  · subst h'; cases hg
  · subst h'
    obtain rfl := Option.some.inj hg
    exact ⟨cur, hg'⟩
theorem SeenRow.keeps {w w' : World} {N : Nat} {v : Value} {k : Nat} {T : Nat → Prop} (h : SeenRow w N v k) (hk : Keeps T w w') (h1 : ∀ g, v.ownBlock = some g → ¬ T g) (h2 : ∀ b q, objAt w b = some (.cells q 5 (0, 0)) → ¬ T b) : SeenRow w' N v k := by
  obtain ⟨xs, h3, h4, h5⟩ := h
  refine ⟨xs, ?_, h4, fun i hi => ?_⟩
  · rcases h3.2 with ⟨h', h0⟩ | ⟨g', cap', cur, h', hb, hg, hnc, hcm, hcs, htake⟩
    · exact ⟨h3.1, .inl ⟨h', h0⟩⟩
    · exact ⟨h3.1, .inr ⟨g', cap', cur, h', hb, (hk.block g' (block_lt hg) (h1 g' (by rw [h']; rfl))).trans hg, hnc, hcm, hcs, htake⟩⟩
  · obtain ⟨b, q1, q2, q3⟩ := h5 i hi
    exact ⟨b, q1, q2, hk.obj q3 (h2 _ _ q3)⟩
theorem SeenRow.below {w w' : World} {N : Nat} {v : Value} {k : Nat} (h : SeenRow w N v k) (hb : Below w.heap.size w w') : SeenRow w' N v k :=
  h.keeps (Keeps.of_below_size hb) (fun g hg => by obtain ⟨c, hc⟩ := h.obj hg; have := block_lt hc; omega) (fun b q hq => by have := block_lt hq; omega)
theorem SeenRow.keepsRow {w w' : World} {N N2 : Nat} {v v2 : Value} {k k2 : Nat} (h : SeenRow w N v k) (h2 : SeenRow w N2 v2 k2) (hk : Keeps (fun g => v2.ownBlock = some g) w w') (hne : ∀ g, v.ownBlock = some g → v2.ownBlock ≠ some g) : SeenRow w' N v k :=
  h.keeps hk (fun g hg e => hne g hg e) (fun b q hq e => by obtain ⟨c, hc⟩ := h2.obj e; exact ne_of_obj hq hc (by decide) rfl)
theorem SeenRow.nil (w : World) (N : Nat) : SeenRow w N (.slice none 0 0) 0 := ⟨[], World.ownsRow_nil w 0 _ 1, (fun g hg => by cases hg), fun i hi => by omega⟩

theorem step_app64 {ops : Array Oper} {o : Oper} {a b0 : Act} {w : World} {K : Act → World → Prop} {Q : Exit → Act → World → Prop} {F : Prop} (hgd : o.guard = none) (s x y : Operand) (ho : o.op = .call { callee := .builtin .append, args := #[s, x], argTypes := #[204, 204] })
    {N : Nat} {v : Value} {k : Nat} (hs : a.eval s = v) (hown : SeenRow w N v k) {g b : Nat} (hx : a.eval x = .slice (some ⟨g, 0, none⟩) 1 1) (_ : a.eval y = .slice (some ⟨b, 0, none⟩) 64 64)
    (hu : objAt w g = some (.cells #[.slice (some ⟨b, 0, none⟩) 64 64] 22 (0, 0))) (hz : objAt w b = some (.cells z64 5 (0, 0))) (hb : N ≤ b) (hN : N ≤ w.heap.size) (hk : k < 100000)
    (h : ∀ g' cap' w', SeenRow w' N (.slice (some ⟨g', 0, none⟩) (k + 1) cap') (k + 1) → Keeps (fun q => v.ownBlock = some q) w w' → (v.ownBlock = some g' ∨ g' = w.heap.size) → K (a.put o.dst (.slice (some ⟨g', 0, none⟩) (k + 1) cap')) w') :
    if Region.wanted o (yielded ops b0.tmps) = true then Oper.wp Tryz.prog o a w K Q else F := by
  have hw : Region.wanted o (yielded ops b0.tmps) = true := by simp [Region.wanted, hgd]
  rw [if_pos hw]
  obtain ⟨i, z, hi, hz0, hsz, hby, hzs⟩ := elemBytesK.info
  obtain ⟨xs, hox, hoN, hoz⟩ := id hown
  refine wp_append_lies w s x 204 ho 0 22 i z 1 24 elemBytesK.ht hi hz0 hsz hby hzs (by decide) v k xs hs hox ⟨g, 0, none⟩ 1 1 [.slice (some ⟨b, 0, none⟩) 64 64] hx rfl (fun j u hj => by
    rw [add_off', Nat.zero_add, cell_obj hu]; simpa using hj) (by simp [Value.oneCell']) (by decide) (by unfold maxLen; omega) (by omega) (Nat.zero_le _) w.heap.size rfl ?_
  intro g' cap w' hw' hgr hor hlt
  have hK : Keeps (fun q => v.ownBlock = some q) w w' := ⟨hgr.os, hgr.tape, hgr.output, hgr.size, fun k' hk' hn' => hgr.block k' hk' (fun e => hn' e.symm)⟩
  refine h g' cap w' ⟨_, hw', fun g2 hg2 => ?_, fun i hi => ?_⟩ hK hor
  · obtain rfl : g' = g2 := Option.some.inj hg2
    rcases hor with ho | ho
    · exact hoN _ ho
    · omega
  · by_cases hik : i < k
    · obtain ⟨b1, q1, q2, q3⟩ := hoz i hik
      refine ⟨b1, ?_, q2, hK.obj q3 (fun e => ?_)⟩
      · rw [List.getElem?_append_left (by have := (List.getElem?_eq_some_iff.1 q1).1; exact this)]; exact q1
      · obtain ⟨c, hc⟩ := hown.obj e
        exact ne_of_obj q3 hc (by decide) rfl
    · obtain rfl : i = k := by omega
      have hl : xs.length = i := by have := hox.1; omega
      refine ⟨b, ?_, hb, hK.obj hz (fun e => ?_)⟩
      · rw [List.getElem?_append_right (by omega), hl, Nat.sub_self]; rfl
      · obtain ⟨c, hc⟩ := hown.obj e
        exact ne_of_obj hz hc (by decide) rfl

theorem step_make64 {ops : Array Oper} {o : Oper} {a b0 : Act} {w : World} {K : Act → World → Prop} {Q : Exit → Act → World → Prop} {F : Prop} (hgd : o.guard = none) (ho : o.op = .makeSlice 22 (.const (.int .i64 64)) (.const (.int .i64 64)))
    (h : ∀ w', w' = w.alloc (.cells z64 5) → K (a.put o.dst (.slice (some ⟨w.heap.size, 0, none⟩) 64 64)) w') :
    if Region.wanted o (yielded ops b0.tmps) = true then Oper.wp Tryz.prog o a w K Q else F := by
  have hw : Region.wanted o (yielded ops b0.tmps) = true := by simp [Region.wanted, hgd]
  rw [if_pos hw]
  have hr : (Instr.makeSlice 22 (.int .i64 64) (.int .i64 64)).run Tryz.prog w = .ok (.slice (some ⟨w.heap.size, 0, none⟩) 64 64) (w.alloc (.cells z64 5)) := by
    obtain ⟨i, z, hi, hz, hs, hby, hzs⟩ := infoByte
    have hz' : i.zero = some (.int .u8 0) := by
      have : (Tryz.prog.info? 5).map (·.zero) = some (some (.int .u8 0)) := by kernel_rfl
      rw [hi] at this; simpa using this
    exact run_make1 22 5 i (.int .u8 0) Tryz.underlying22 hi hz' rfl hs (by omega) 64 w (by decide) (by decide)
  unfold Oper.wp execOp
  simp only [ho, Act.eval, Sem.run_bind]
  rw [hr]
  exact h _ rfl
theorem step_lit64 {ops : Array Oper} {o : Oper} {a b0 : Act} {w : World} {K : Act → World → Prop} {Q : Exit → Act → World → Prop} {F : Prop} (hgd : o.guard = none) (x : Operand) (ho : o.op = .buildSlice 204 1 #[(0, x)]) {g : Nat} (hx : a.eval x = .slice (some ⟨g, 0, none⟩) 64 64)
    (h : ∀ w', w' = w.alloc (.cells #[.slice (some ⟨g, 0, none⟩) 64 64] 22) → K (a.put o.dst (.slice (some ⟨w.heap.size, 0, none⟩) 1 1)) w') :
    if Region.wanted o (yielded ops b0.tmps) = true then Oper.wp Tryz.prog o a w K Q else F := by
  have hw : Region.wanted o (yielded ops b0.tmps) = true := by simp [Region.wanted, hgd]
  rw [if_pos hw]
  unfold Oper.wp execOp
  have hr : (Instr.buildSlice 204 1 #[(0, .slice (some ⟨g, 0, none⟩) 64 64)]).run Tryz.prog w = .ok (.slice (some ⟨w.heap.size, 0, none⟩) 1 1) (w.alloc (.cells #[.slice (some ⟨g, 0, none⟩) 64 64] 22)) := by
    go_simp
  simp only [ho, List.map_toArray, List.map_cons, List.map_nil, hx, Sem.run_bind]
  rw [hr]
  exact h _ rfl
theorem below_alloc {w w' : World} {o : Obj} (h : w' = w.alloc o) : Below w.heap.size w w' := by subst h; exact grow_alloc (Below.refl _ _) _
theorem obj_alloc {w w' : World} {o : Obj} (h : w' = w.alloc o) : objAt w' w.heap.size = some o := by subst h; rw [objAt_alloc, if_pos rfl]
/-- A region of so many blocks of noughts. -/
def Reg.new (n : Nat) : Reg := ⟨List.replicate n zeros64, List.replicate n zeros64, [], []⟩
theorem Reg.new_ok {n : Nat} (h0 : 0 < n) (hn : n ≤ 1000) : (Reg.new n).Ok := by
  refine ⟨by simpa [Reg.new] using h0, by simpa [Reg.new] using hn, rfl, fun l hl => ?_, fun l hl => ?_, fun p hp => by simp [Reg.new] at hp, fun l hl => by simp [Reg.new] at hl⟩
  · rw [(List.mem_replicate.1 hl).2]; rfl
  · rw [(List.mem_replicate.1 hl).2]; rfl
theorem flatten_singles (xs : List Value) : (xs.map fun x => [x]).flatten = xs := by
  induction xs with
  | nil => rfl
  | cons x xs ih => rw [List.map_cons, List.flatten_cons, ih]; rfl
theorem SeenRow.rowB {w : World} {N k : Nat} {v : Value} {S : Nat → Prop} (h : SeenRow w N v k) (hS : ∀ q, N ≤ q → q < w.heap.size → S q) : RowB w S v (List.replicate k zeros64) := by
  have hown : ∀ g, v.ownBlock = some g → S g := fun g hg => by
    obtain ⟨c, hc⟩ := h.obj hg
    exact hS g (h.choose_spec.2.1 g hg) (block_lt hc)
  obtain ⟨xs, h1, h2, h3⟩ := h
  have hl : xs.length = k := by have := h1.1; omega
  refine ⟨⟨xs.map (fun x => [x]), ?_, by simp [hl], fun c hc => by obtain ⟨x, _, rfl⟩ := List.mem_map.1 hc; rfl, fun i a c ha hc => ?_⟩, hown⟩
  · rw [List.length_replicate, flatten_singles]
    exact h1
  · have hi : i < k := by have := (List.getElem?_eq_some_iff.1 ha).1; simpa using this
    obtain ⟨b, q1, q2, q3⟩ := h3 i hi
    rw [List.getElem?_map, q1] at hc
    obtain rfl := Option.some.inj hc
    have e : a = zeros64 := by
      rw [List.getElem?_replicate, if_pos hi] at ha
      exact (Option.some.inj ha).symm
    subst e
    exact ⟨_, rfl, ⟨b, 0, none⟩, z64, 64, rfl, bytes_z64 q3, hS b q2 (block_lt q3), q3⟩
/-- In the midst of New: k blocks are there. -/
structure NewSt (w0 w : World) (r k : Nat) : Prop where
  below : Below r w0 w
  lt : r < w.heap.size
  ex : ∃ s0 s1, objAt w r = some (.cells #[s0, s1, .slice none 0 0, .slice none 0 0] 207 (0, 0)) ∧ SeenRow w (r + 1) s0 k ∧ SeenRow w (r + 1) s1 k ∧ ∀ g, s0.ownBlock = some g → s1.ownBlock ≠ some g
theorem NewSt.next {w0 w : World} {r k : Nat} {s0 s1 v0 v1 : Value} (hb : Below r w0 w) (ho : objAt w r = some (.cells #[s0, s1, .slice none 0 0, .slice none 0 0] 207 (0, 0))) (h0 : SeenRow w (r + 1) v0 k) (h1 : SeenRow w (r + 1) v1 k) (hne : ∀ g, v0.ownBlock = some g → v1.ownBlock ≠ some g) :
    NewSt w0 ((w.setCell ⟨r, 0, none⟩ v0).setCell ⟨r, 1, none⟩ v1) r k := by
  have hK : Keeps (fun q => q = r) w ((w.setCell ⟨r, 0, none⟩ v0).setCell ⟨r, 1, none⟩ v1) := (Keeps.setCell (S := fun q => q = r) _ ⟨r, 0, none⟩ _ rfl).trans (Keeps.setCell (S := fun q => q = r) _ ⟨r, 1, none⟩ _ rfl)
  refine ⟨hb.trans ⟨hK.os, hK.tape, hK.output, hK.size, fun q hq => hK.block q (Nat.lt_of_lt_of_le hq (by have := block_lt ho; omega)) (by omega)⟩, Nat.lt_of_lt_of_le (block_lt ho) hK.size, v0, v1, ?_, ?_, ?_, hne⟩
  · rw [objAt_setCell (objAt_setCell ho 0 v0) 1 v1]; rfl
  · exact h0.keeps hK (fun g hg e => by have := h0.choose_spec.2.1 g hg; omega) (fun b q hq e => by subst e; exact ne_of_obj hq ho (by decide) rfl)
  · exact h1.keeps hK (fun g hg e => by have := h1.choose_spec.2.1 g hg; omega) (fun b q hq e => by subst e; exact ne_of_obj hq ho (by decide) rfl)
theorem NewSt.reg {w0 w : World} {r n : Nat} (h : NewSt w0 w r n) : RegAt w (fun q => r ≤ q ∧ q < w.heap.size) r (Reg.new n) := by
  obtain ⟨s0, s1, ho, h0, h1, hne⟩ := h.ex
  refine ⟨s0, s1, _, _, ho, h0.rowB (fun q hq hl => ⟨by omega, hl⟩), h1.rowB (fun q hq hl => ⟨by omega, hl⟩), RowG.nil _ _ _ _ _, RowG.nil _ _ _ _ _, hne, (fun g _ e => by cases e), (fun g _ e => by cases e), ⟨Nat.le_refl _, h.lt⟩⟩
/-- In the midst of New: k regions are there. -/
def PEl (_ : World) (r : Nat) (c : List Value) : Prop := c = [.pointer (some ⟨r, 0, none⟩)]
structure MidV (w0 w : World) (d : Nat) (l : List Int) (k : Nat) (lv : Value) (rs : List Nat) (S : Nat → Nat → Prop) : Prop where
  below : Below w0.heap.size w0 w
  ge : w0.heap.size ≤ d
  obj : objAt w d = some (.cells #[lv, .int .i64 (-1)] 202 (0, 0))
  row : RowG w (fun q => d < q) 203 1 PEl lv rs
  len : rs.length = k
  reg : ∀ (j r : Nat) (n : Int), rs[j]? = some r → l[j]? = some n → RegAt w (S j) r (Reg.new n.toNat)
  foot : ∀ j q, S j q → d < q ∧ q < w.heap.size ∧ lv.ownBlock ≠ some q ∧ j < k
  disj : ∀ i j q, S i q → S j q → i = j
def Mid (w0 w : World) (d : Nat) (l : List Int) (k : Nat) : Prop := ∃ lv rs S, MidV w0 w d l k lv rs S
theorem MidV.grow {w0 w w' : World} {d k : Nat} {l : List Int} {lv : Value} {rs : List Nat} {S : Nat → Nat → Prop} (h : MidV w0 w d l k lv rs S) (hb : Below w.heap.size w w') : MidV w0 w' d l k lv rs S :=
  ⟨h.below.trans (hb.mono h.below.size), h.ge, grow_obj hb h.obj, h.row.keeps (Keeps.of_below_size hb) (fun g hg e => by have := h.row.lt hg; omega) (fun _ h => h) (fun _ _ h => h), h.len, fun j r n hj hn => (h.reg j r n hj hn).keeps (Keeps.of_below_size hb) (fun g hg e => by have := (h.foot j g hg).2.1; omega) (fun _ h _ => h),
    fun j q hq => ⟨(h.foot j q hq).1, Nat.lt_of_lt_of_le (h.foot j q hq).2.1 hb.size, (h.foot j q hq).2.2⟩, h.disj⟩
theorem MidV.push {w0 w1 w2 : World} {d k r n hi g' n' cap' : Nat} {l : List Int} {lv : Value} {rs : List Nat} {S : Nat → Nat → Prop} {S3 : Nat → Prop} (h : MidV w0 w1 d l k lv rs S) (hreg : RegAt w1 (fun q => r ≤ q ∧ q < hi) r (Reg.new n)) (hn : l[k]? = some (n : Int)) (hown : ∀ g, lv.ownBlock = some g → g < r) (hlo : ∀ j q, S j q → q < r) (hd : d < r) (hhi : hi ≤ w1.heap.size)
    (hrow : RowG w2 S3 203 1 PEl (.slice (some ⟨g', 0, none⟩) n' cap') (rs ++ [r])) (hS3 : ∀ q, S3 q → d < q) (hk : Keeps (fun q => lv.ownBlock = some q) w1 w2) (ho : lv.ownBlock = some g' ∨ g' = w1.heap.size) :
    objAt w2 d = some (.cells #[lv, .int .i64 (-1)] 202 (0, 0)) ∧ Mid w0 (w2.setCell ⟨d, 0, none⟩ (.slice (some ⟨g', 0, none⟩) n' cap')) d l (k + 1) := by
  have hod : objAt w2 d = some (.cells #[lv, .int .i64 (-1)] 202 (0, 0)) := hk.obj h.obj (fun e => by have := h.row.own _ e; omega)
  have hs : (w2.setCell ⟨d, 0, none⟩ (.slice (some ⟨g', 0, none⟩) n' cap')).heap.size = w2.heap.size := size_setCell _ _ _
  have hK : Keeps (fun q => q = d) w2 (w2.setCell ⟨d, 0, none⟩ (.slice (some ⟨g', 0, none⟩) n' cap')) := Keeps.setCell _ _ _ rfl
  have hrd : RowG (w2.setCell ⟨d, 0, none⟩ (.slice (some ⟨g', 0, none⟩) n' cap')) (fun q => d < q) 203 1 PEl (.slice (some ⟨g', 0, none⟩) n' cap') (rs ++ [r]) :=
    hrow.keeps hK (fun g hg e => by have := hS3 _ (hrow.own g hg); omega) hS3 (fun _ _ h => h)
  have hrl : r < w1.heap.size := by obtain ⟨_, _, _, _, hv⟩ := hreg; exact block_lt hv.obj
  have hg' : ∀ q, (q < r ∧ lv.ownBlock ≠ some q) ∨ (r ≤ q ∧ q < hi) → g' ≠ q := fun q hq e => by
    subst e
    rcases ho with ho | ho
    · rcases hq with hq | hq
      · exact hq.2 ho
      · have := hown _ ho; omega
    · rcases hq with hq | hq <;> omega
  refine ⟨hod, _, _, fun j => if j = k then (fun q => r ≤ q ∧ q < hi) else S j, ?_, h.ge, ?_, hrd, by simp [h.len], fun j r' m hj hm => ?_, fun j q hq => ?_, fun i j q hi hj => ?_⟩
  · refine (h.below.trans ⟨hk.os, hk.tape, hk.output, hk.size, fun q hq => hk.block q (Nat.lt_of_lt_of_le hq h.below.size) (fun e => by have := h.row.own q e; have := h.ge; omega)⟩).trans ⟨rfl, rfl, rfl, Nat.le_of_eq hs.symm, fun q hq => heap_setCell_ne (by have := h.ge; show q ≠ d; omega) _⟩
  · rw [objAt_setCell hod]; rfl
  · by_cases e : j = k
    · subst e
      rw [if_pos rfl]
      rw [List.getElem?_append_right (by rw [h.len]; exact Nat.le_refl _), h.len, Nat.sub_self] at hj
      obtain rfl := Option.some.inj hj
      rw [hn] at hm
      obtain rfl := Option.some.inj hm
      rw [Int.toNat_natCast]
      exact (hreg.keeps hk (fun g hg e => by have := hown _ e; omega) (fun _ h _ => h)).keeps hK (fun g hg e => by omega) (fun _ h _ => h)
    · rw [if_neg e]
      have hjk : j < k := by
        have := (List.getElem?_eq_some_iff.1 hj).1
        have hl := h.len
        simp only [List.length_append, List.length_singleton] at this; omega
      rw [List.getElem?_append_left (by rw [h.len]; exact hjk)] at hj
      exact ((h.reg j r' m hj hm).keeps hk (fun g hg e => (h.foot j g hg).2.2.1 e) (fun _ h _ => h)).keeps hK (fun g hg e => by have := (h.foot j g hg).1; omega) (fun _ h _ => h)
  · by_cases e : j = k
    · subst e
      rw [if_pos rfl] at hq
      have := hk.size
      exact ⟨by omega, by rw [hs]; omega, fun e => hg' q (.inr hq) (Option.some.inj e), Nat.lt_succ_self _⟩
    · rw [if_neg e] at hq
      have hf := h.foot j q hq
      have := hk.size
      exact ⟨hf.1, by rw [hs]; omega, fun e => hg' q (.inl ⟨hlo j q hq, hf.2.2.1⟩) (Option.some.inj e), by omega⟩
  · by_cases ei : i = k
    · by_cases ej : j = k
      · omega
      · rw [if_pos ei] at hi
        rw [if_neg ej] at hj
        have := hlo j q hj; omega
    · rw [if_neg ei] at hi
      by_cases ej : j = k
      · rw [if_pos ej] at hj
        have := hlo i q hi; omega
      · rw [if_neg ej] at hj
        exact h.disj i j q hi hj
theorem Mid.done {w0 w : World} {d k : Nat} {l : List Int} (h : Mid w0 w d l k) (h0 : 0 < k) (h8 : k ≤ 8) (hk : k = l.length) (hl : ∀ n ∈ l, 1 ≤ n ∧ n ≤ 1000) :
    DevAt w (fun q => w0.heap.size ≤ q ∧ q < w.heap.size) d ⟨l.map fun n => Reg.new n.toNat, -1⟩ 0 := by
  obtain ⟨lv, rs, S, h⟩ := h
  obtain ⟨rl, rcap, rfl⟩ := h.row.form (by rw [h.len]; exact h0)
  obtain ⟨cur, hcur⟩ := h.row.obj (g := rl) rfl
  have hrl := h.row.own rl rfl
  have hge := h.ge
  refine ⟨⟨by simpa [← hk] using h0, by simpa [← hk] using h8, fun R hR => ?_, fun R hR => ?_, fun R hR => ?_, by show (-1 : Int) ≤ -1; decide, by show (-1 : Int) ≤ 1000000; decide⟩, fun q hq => hq.2, fun j => match j with | 0 => (fun q => q = d ∨ q = rl) | j + 1 => S j, rl, rcap, rs, ⟨?_, ⟨cur, hcur, fun j r hj => ?_⟩, by simp [h.len, hk], fun j r R hj hR => ?_, .inl rfl, .inr rfl, fun i j q hi hj => ?_, fun j q hq => ?_⟩, fun j q hq => ?_⟩
  · obtain ⟨n, hn, rfl⟩ := List.mem_map.1 hR
    have := hl n hn
    exact Reg.new_ok (by omega) (by omega)
  · obtain ⟨n, _, rfl⟩ := List.mem_map.1 hR; simp [Reg.new]
  · obtain ⟨n, _, rfl⟩ := List.mem_map.1 hR; simp [Reg.new]
  · have := h.obj
    rw [h.len, hk] at this
    simpa using this
  · obtain ⟨c, hc1, hc2, hc3⟩ := h.row.cells hj
    rw [hc2] at hc3
    have := hc3 0 _ rfl
    rw [Nat.mul_one, Nat.add_zero, cell_obj hcur] at this
    exact this
  · simp only [List.getElem?_map, Option.map_eq_some_iff] at hR
    obtain ⟨n, hn, rfl⟩ := hR
    exact h.reg j r n hj hn
  · match i, j with
    | 0, 0 => rfl
    | 0, j + 1 =>
      have hf := h.foot j q hj
      rcases hi with rfl | rfl
      · omega
      · exact absurd rfl hf.2.2.1
    | i + 1, 0 =>
      have hf := h.foot i q hi
      rcases hj with rfl | rfl
      · omega
      · exact absurd rfl hf.2.2.1
    | i + 1, j + 1 => exact congrArg (· + 1) (h.disj i j q hi hj)
  · match j with
    | 0 =>
      rcases hq with rfl | rfl
      · exact block_lt h.obj
      · exact block_lt hcur
    | j + 1 => exact (h.foot j q hq).2.1
  · match j with
    | 0 =>
      rcases hq with rfl | rfl
      · exact ⟨hge, block_lt h.obj⟩
      · exact ⟨by omega, block_lt hcur⟩
    | j + 1 => have := h.foot j q hq; exact ⟨by omega, this.2.1⟩
end Go.Proofs.YtbbnejehglonjaaGreat
