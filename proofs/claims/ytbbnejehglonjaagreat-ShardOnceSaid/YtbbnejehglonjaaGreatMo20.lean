/- DERIVED. Contracts and laws that the proofs of this seat share, part 20 of 36: DvE DvF. -/
import Derived.Test.YtbbnejehglonjaaGreatMo00
import Derived.Test.YtbbnejehglonjaaGreatMo09
/- DERIVED. A device as it lies: New, the rows that are made. -/
namespace Go.Proofs.YtbbnejehglonjaaGreat
open Go.RowKit
attribute [local go_sem] hasBlk
attribute [local irreducible] Calls
set_option maxRecDepth 100000

def zeros64 : List UInt8 := List.replicate 64 0
def z64 : Array Value := (List.replicate 64 (Value.int .u8 0)).toArray
theorem bytes_z64 {w : World} {b : Nat} (h : objAt w b = some (.cells z64 5 (0, 0))) : BytesAt w (some ⟨b, 0, none⟩) zeros64 := by
 refine ⟨b, 0, fun _ => rfl, fun i hi => ?_⟩
 have hi' : i < 64 := by simpa [zeros64] using hi
 rw [Nat.zero_add, cell_obj h]
 have e : ∀ h : i < zeros64.length, zeros64[i]'h = 0 := fun h => by simp only [zeros64, List.getElem_replicate]
 refine Eq.trans ?_ (congrArg (fun c : UInt8 => some (Value.int .u8 (c.toNat : Int))) (e hi).symm)
 unfold z64
 rw [List.getElem?_toArray, List.getElem?_replicate, if_pos hi']; rfl
/-- A row of blocks of noughts. -/
def SeenRow (w : World) (N : Nat) (v : Value) (k : Nat) : Prop := ∃ xs, w.ownsRow 0 22 1 v k xs ∧ (∀ g, v.ownBlock = some g → N ≤ g) ∧
 ∀ i, i < k → ∃ b, xs[i]? = some (.slice (some ⟨b, 0, none⟩) 64 64) ∧ N ≤ b ∧ objAt w b = some (.cells z64 5 (0, 0))
theorem SeenRow.obj {w : World} {N : Nat} {v : Value} {k : Nat} (h : SeenRow w N v k) {g : Nat} (hg : v.ownBlock = some g) : ∃ c, objAt w g = some (.cells c 22 (0, 0)) := by
 obtain ⟨xs, h1, _⟩ := h
 rcases h1.2 with ⟨h', h0⟩ | ⟨g', cap', cur, h', hb, hg', hnc, hcm, hcs, htake⟩
 · subst h'; cases hg
 · subst h'
   obtain rfl := Option.some.inj hg
   exact ⟨cur, hg'⟩
theorem SeenRow.keeps {w w' : World} {N : Nat} {v : Value} {k : Nat} {T : Nat → Prop} (h : SeenRow w N v k) (hk : Keeps T w w') (h1 : ∀ g, v.ownBlock = some g → ¬ T g) (h2 : ∀ b q, objAt w b = some (.cells q 5 (0, 0)) → ¬ T b) : SeenRow w' N v k := by
 obtain ⟨xs, h3, h4, h5⟩ := h
 refine ⟨xs, ?_, h4, fun i hi => ?_⟩
 · rcases h3.2 with ⟨h', h0⟩ | ⟨g', cap', cur, h', hb, hg, hnc, hcm, hcs, htake⟩
   · exact ⟨h3.1, .inl ⟨h', h0⟩⟩
   · exact ⟨h3.1, .inr ⟨g', cap', cur, h', hb, (hk.block g' (block_lt hg) (h1 g' (by rw [h']; rfl))).trans hg, hnc, hcm, hcs, htake⟩⟩
 · obtain ⟨b, q1, q2, q3⟩ := h5 i hi
   exact ⟨b, q1, q2, hk.obj q3 (h2 _ _ q3)⟩
theorem SeenRow.below {w w' : World} {N : Nat} {v : Value} {k : Nat} (h : SeenRow w N v k) (hb : Below w.heap.size w w') : SeenRow w' N v k :=
 h.keeps (Keeps.of_below_size hb) (fun g hg => by obtain ⟨c, hc⟩ := h.obj hg; have := block_lt hc; omega) (fun b q hq => by have := block_lt hq; omega)
theorem SeenRow.keepsRow {w w' : World} {N N2 : Nat} {v v2 : Value} {k k2 : Nat} (h : SeenRow w N v k) (h2 : SeenRow w N2 v2 k2) (hk : Keeps (fun g => v2.ownBlock = some g) w w') (hne : ∀ g, v.ownBlock = some g → v2.ownBlock ≠ some g) : SeenRow w' N v k :=
 h.keeps hk (fun g hg e => hne g hg e) (fun b q hq e => by obtain ⟨c, hc⟩ := h2.obj e; exact ne_of_obj hq hc (by decide) rfl)
theorem SeenRow.nil (w : World) (N : Nat) : SeenRow w N (.slice none 0 0) 0 := ⟨[], World.ownsRow_nil w 0 _ 1, (fun g hg => by cases hg), fun i hi => by omega⟩

theorem step_app64 {ops : Array Oper} {o : Oper} {a b0 : Act} {w : World} {K : Act → World → Prop} {Q : Exit → Act → World → Prop} {F : Prop} (hgd : o.guard = none) (s x y : Operand) (ho : o.op = .call { callee := .builtin .append, args := #[s, x], argTypes := #[204, 204] })
 {N : Nat} {v : Value} {k : Nat} (hs : a.eval s = v) (hown : SeenRow w N v k) {g b : Nat} (hx : a.eval x = .slice (some ⟨g, 0, none⟩) 1 1) (_ : a.eval y = .slice (some ⟨b, 0, none⟩) 64 64)
 (hu : objAt w g = some (.cells #[.slice (some ⟨b, 0, none⟩) 64 64] 22 (0, 0))) (hz : objAt w b = some (.cells z64 5 (0, 0))) (hb : N ≤ b) (hN : N ≤ w.heap.size) (hk : k < 100000)
 (h : ∀ g' cap' w', SeenRow w' N (.slice (some ⟨g', 0, none⟩) (k + 1) cap') (k + 1) → Keeps (fun q => v.ownBlock = some q) w w' → (v.ownBlock = some g' ∨ g' = w.heap.size) → K (a.put o.dst (.slice (some ⟨g', 0, none⟩) (k + 1) cap')) w') :
 if Region.wanted o (yielded ops b0.tmps) = true then Oper.wp Tryz.prog o a w K Q else F := by
 have hw : Region.wanted o (yielded ops b0.tmps) = true := by simp [Region.wanted, hgd]
 rw [if_pos hw]
 obtain ⟨i, z, hi, hz0, hsz, hby, hzs⟩ := elemBytesK.info
 obtain ⟨xs, hox, hoN, hoz⟩ := id hown
 refine wp_append_lies w s x 204 ho 0 22 i z 1 24 elemBytesK.ht hi hz0 hsz hby hzs (by decide) v k xs hs hox ⟨g, 0, none⟩ 1 1 [.slice (some ⟨b, 0, none⟩) 64 64] hx rfl (fun j u hj => by
  rw [add_off', Nat.zero_add, cell_obj hu]; simpa using hj) (by simp [Value.oneCell']) (by decide) (by unfold maxLen; omega) (by omega) (Nat.zero_le _) w.heap.size rfl ?_
 intro g' cap w' hw' hgr hor hlt
 have hK : Keeps (fun q => v.ownBlock = some q) w w' := ⟨hgr.os, hgr.tape, hgr.output, hgr.size, fun k' hk' hn' => hgr.block k' hk' (fun e => hn' e.symm)⟩
 refine h g' cap w' ⟨_, hw', fun g2 hg2 => ?_, fun i hi => ?_⟩ hK hor
 · obtain rfl : g' = g2 := Option.some.inj hg2
   rcases hor with ho | ho
   · exact hoN _ ho
   · omega
 · by_cases hik : i < k
   · obtain ⟨b1, q1, q2, q3⟩ := hoz i hik
     refine ⟨b1, ?_, q2, hK.obj q3 (fun e => ?_)⟩
     · rw [List.getElem?_append_left (by have := (List.getElem?_eq_some_iff.1 q1).1; exact this)]; exact q1
     · obtain ⟨c, hc⟩ := hown.obj e
       exact ne_of_obj q3 hc (by decide) rfl
   · obtain rfl : i = k := by omega
     have hl : xs.length = i := by have := hox.1; omega
     refine ⟨b, ?_, hb, hK.obj hz (fun e => ?_)⟩
     · rw [List.getElem?_append_right (by omega), hl, Nat.sub_self]; rfl
     · obtain ⟨c, hc⟩ := hown.obj e
       exact ne_of_obj hz hc (by decide) rfl

theorem step_make64 {ops : Array Oper} {o : Oper} {a b0 : Act} {w : World} {K : Act → World → Prop} {Q : Exit → Act → World → Prop} {F : Prop} (hgd : o.guard = none) (ho : o.op = .makeSlice 22 (.const (.int .i64 64)) (.const (.int .i64 64)))
 (h : ∀ w', w' = w.alloc (.cells z64 5) → K (a.put o.dst (.slice (some ⟨w.heap.size, 0, none⟩) 64 64)) w') :
 if Region.wanted o (yielded ops b0.tmps) = true then Oper.wp Tryz.prog o a w K Q else F := by
 have hw : Region.wanted o (yielded ops b0.tmps) = true := by simp [Region.wanted, hgd]
 rw [if_pos hw]
 have hr : (Instr.makeSlice 22 (.int .i64 64) (.int .i64 64)).run Tryz.prog w = .ok (.slice (some ⟨w.heap.size, 0, none⟩) 64 64) (w.alloc (.cells z64 5)) := by
  obtain ⟨i, z, hi, hz, hs, hby, hzs⟩ := infoByte
  have hz' : i.zero = some (.int .u8 0) := by
   have : (Tryz.prog.info? 5).map (·.zero) = some (some (.int .u8 0)) := by kernel_rfl
   rw [hi] at this; simpa using this
  exact run_make1 22 5 i (.int .u8 0) Tryz.underlying22 hi hz' rfl hs (by omega) 64 w (by decide) (by decide)
 unfold Oper.wp execOp
 simp only [ho, Act.eval, Sem.run_bind]
 rw [hr]
 exact h _ rfl
theorem step_lit64 {ops : Array Oper} {o : Oper} {a b0 : Act} {w : World} {K : Act → World → Prop} {Q : Exit → Act → World → Prop} {F : Prop} (hgd : o.guard = none) (x : Operand) (ho : o.op = .buildSlice 204 1 #[(0, x)]) {g : Nat} (hx : a.eval x = .slice (some ⟨g, 0, none⟩) 64 64)
 (h : ∀ w', w' = w.alloc (.cells #[.slice (some ⟨g, 0, none⟩) 64 64] 22) → K (a.put o.dst (.slice (some ⟨w.heap.size, 0, none⟩) 1 1)) w') :
 if Region.wanted o (yielded ops b0.tmps) = true then Oper.wp Tryz.prog o a w K Q else F := by
 have hw : Region.wanted o (yielded ops b0.tmps) = true := by simp [Region.wanted, hgd]
 rw [if_pos hw]
 unfold Oper.wp execOp
 have hr : (Instr.buildSlice 204 1 #[(0, .slice (some ⟨g, 0, none⟩) 64 64)]).run Tryz.prog w = .ok (.slice (some ⟨w.heap.size, 0, none⟩) 1 1) (w.alloc (.cells #[.slice (some ⟨g, 0, none⟩) 64 64] 22)) := by
  go_simp
 simp only [ho, List.map_toArray, List.map_cons, List.map_nil, hx, Sem.run_bind]
 rw [hr]
 exact h _ rfl
theorem below_alloc {w w' : World} {o : Obj} (h : w' = w.alloc o) : Below w.heap.size w w' := by subst h; exact grow_alloc (Below.refl _ _) _
theorem obj_alloc {w w' : World} {o : Obj} (h : w' = w.alloc o) : objAt w' w.heap.size = some o := by subst h; rw [objAt_alloc, if_pos rfl]
/-- A region of so many blocks of noughts. -/
def Reg.new (n : Nat) : Reg := ⟨List.replicate n zeros64, List.replicate n zeros64, [], []⟩
theorem Reg.new_ok {n : Nat} (h0 : 0 < n) (hn : n ≤ 1000) : (Reg.new n).Ok := by
 refine ⟨by simpa [Reg.new] using h0, by simpa [Reg.new] using hn, rfl, fun l hl => ?_, fun l hl => ?_, fun p hp => by simp [Reg.new] at hp, fun l hl => by simp [Reg.new] at hl⟩
 · rw [(List.mem_replicate.1 hl).2]; rfl
 · rw [(List.mem_replicate.1 hl).2]; rfl
theorem flatten_singles (xs : List Value) : (xs.map fun x => [x]).flatten = xs := by
 induction xs with
 | nil => rfl
 | cons x xs ih => rw [List.map_cons, List.flatten_cons, ih]; rfl
theorem SeenRow.rowB {w : World} {N k : Nat} {v : Value} {S : Nat → Prop} (h : SeenRow w N v k) (hS : ∀ q, N ≤ q → q < w.heap.size → S q) : RowB w S v (List.replicate k zeros64) := by
 have hown : ∀ g, v.ownBlock = some g → S g := fun g hg => by
  obtain ⟨c, hc⟩ := h.obj hg
  exact hS g (h.choose_spec.2.1 g hg) (block_lt hc)
 obtain ⟨xs, h1, h2, h3⟩ := h
 have hl : xs.length = k := by have := h1.1; omega
 refine ⟨⟨xs.map (fun x => [x]), ?_, by simp [hl], fun c hc => by obtain ⟨x, _, rfl⟩ := List.mem_map.1 hc; rfl, fun i a c ha hc => ?_⟩, hown⟩
 · rw [List.length_replicate, flatten_singles]
   exact h1
 · have hi : i < k := by have := (List.getElem?_eq_some_iff.1 ha).1; simpa using this
   obtain ⟨b, q1, q2, q3⟩ := h3 i hi
   rw [List.getElem?_map, q1] at hc
   obtain rfl := Option.some.inj hc
   have e : a = zeros64 := by
    rw [List.getElem?_replicate, if_pos hi] at ha
    exact (Option.some.inj ha).symm
   subst e
   exact ⟨_, rfl, ⟨b, 0, none⟩, z64, 64, rfl, bytes_z64 q3, hS b q2 (block_lt q3), q3⟩
/-- In the midst of New: k blocks are there. -/
structure NewSt (w0 w : World) (r k : Nat) : Prop where
 below : Below r w0 w
 lt : r < w.heap.size
 ex : ∃ s0 s1, objAt w r = some (.cells #[s0, s1, .slice none 0 0, .slice none 0 0] 207 (0, 0)) ∧ SeenRow w (r + 1) s0 k ∧ SeenRow w (r + 1) s1 k ∧ ∀ g, s0.ownBlock = some g → s1.ownBlock ≠ some g
theorem NewSt.next {w0 w : World} {r k : Nat} {s0 s1 v0 v1 : Value} (hb : Below r w0 w) (ho : objAt w r = some (.cells #[s0, s1, .slice none 0 0, .slice none 0 0] 207 (0, 0))) (h0 : SeenRow w (r + 1) v0 k) (h1 : SeenRow w (r + 1) v1 k) (hne : ∀ g, v0.ownBlock = some g → v1.ownBlock ≠ some g) :
 NewSt w0 ((w.setCell ⟨r, 0, none⟩ v0).setCell ⟨r, 1, none⟩ v1) r k := by
 have hK : Keeps (fun q => q = r) w ((w.setCell ⟨r, 0, none⟩ v0).setCell ⟨r, 1, none⟩ v1) := (Keeps.setCell (S := fun q => q = r) _ ⟨r, 0, none⟩ _ rfl).trans (Keeps.setCell (S := fun q => q = r) _ ⟨r, 1, none⟩ _ rfl)
 refine ⟨hb.trans ⟨hK.os, hK.tape, hK.output, hK.size, fun q hq => hK.block q (Nat.lt_of_lt_of_le hq (by have := block_lt ho; omega)) (by omega)⟩, Nat.lt_of_lt_of_le (block_lt ho) hK.size, v0, v1, ?_, ?_, ?_, hne⟩
 · rw [objAt_setCell (objAt_setCell ho 0 v0) 1 v1]; rfl
 · exact h0.keeps hK (fun g hg e => by have := h0.choose_spec.2.1 g hg; omega) (fun b q hq e => by subst e; exact ne_of_obj hq ho (by decide) rfl)
 · exact h1.keeps hK (fun g hg e => by have := h1.choose_spec.2.1 g hg; omega) (fun b q hq e => by subst e; exact ne_of_obj hq ho (by decide) rfl)
theorem NewSt.reg {w0 w : World} {r n : Nat} (h : NewSt w0 w r n) : RegAt w (fun q => r ≤ q ∧ q < w.heap.size) r (Reg.new n) := by
 obtain ⟨s0, s1, ho, h0, h1, hne⟩ := h.ex
 refine ⟨s0, s1, _, _, ho, h0.rowB (fun q hq hl => ⟨by omega, hl⟩), h1.rowB (fun q hq hl => ⟨by omega, hl⟩), RowG.nil _ _ _ _ _, RowG.nil _ _ _ _ _, hne, (fun g _ e => by cases e), (fun g _ e => by cases e), ⟨Nat.le_refl _, h.lt⟩⟩
/-- In the midst of New: k regions are there. -/
def PEl (_ : World) (r : Nat) (c : List Value) : Prop := c = [.pointer (some ⟨r, 0, none⟩)]
structure MidV (w0 w : World) (d : Nat) (l : List Int) (k : Nat) (lv : Value) (rs : List Nat) (S : Nat → Nat → Prop) : Prop where
 below : Below w0.heap.size w0 w
 ge : w0.heap.size ≤ d
 obj : objAt w d = some (.cells #[lv, .int .i64 (-1)] 202 (0, 0))
 row : RowG w (fun q => d < q) 203 1 PEl lv rs
 len : rs.length = k
 reg : ∀ (j r : Nat) (n : Int), rs[j]? = some r → l[j]? = some n → RegAt w (S j) r (Reg.new n.toNat)
 foot : ∀ j q, S j q → d < q ∧ q < w.heap.size ∧ lv.ownBlock ≠ some q ∧ j < k
 disj : ∀ i j q, S i q → S j q → i = j
def Mid (w0 w : World) (d : Nat) (l : List Int) (k : Nat) : Prop := ∃ lv rs S, MidV w0 w d l k lv rs S
theorem MidV.grow {w0 w w' : World} {d k : Nat} {l : List Int} {lv : Value} {rs : List Nat} {S : Nat → Nat → Prop} (h : MidV w0 w d l k lv rs S) (hb : Below w.heap.size w w') : MidV w0 w' d l k lv rs S :=
 ⟨h.below.trans (hb.mono h.below.size), h.ge, grow_obj hb h.obj, h.row.keeps (Keeps.of_below_size hb) (fun g hg e => by have := h.row.lt hg; omega) (fun _ h => h) (fun _ _ h => h), h.len, fun j r n hj hn => (h.reg j r n hj hn).keeps (Keeps.of_below_size hb) (fun g hg e => by have := (h.foot j g hg).2.1; omega) (fun _ h _ => h),
  fun j q hq => ⟨(h.foot j q hq).1, Nat.lt_of_lt_of_le (h.foot j q hq).2.1 hb.size, (h.foot j q hq).2.2⟩, h.disj⟩
theorem MidV.push {w0 w1 w2 : World} {d k r n hi g' n' cap' : Nat} {l : List Int} {lv : Value} {rs : List Nat} {S : Nat → Nat → Prop} {S3 : Nat → Prop} (h : MidV w0 w1 d l k lv rs S) (hreg : RegAt w1 (fun q => r ≤ q ∧ q < hi) r (Reg.new n)) (hn : l[k]? = some (n : Int)) (hown : ∀ g, lv.ownBlock = some g → g < r) (hlo : ∀ j q, S j q → q < r) (hd : d < r) (hhi : hi ≤ w1.heap.size)
 (hrow : RowG w2 S3 203 1 PEl (.slice (some ⟨g', 0, none⟩) n' cap') (rs ++ [r])) (hS3 : ∀ q, S3 q → d < q) (hk : Keeps (fun q => lv.ownBlock = some q) w1 w2) (ho : lv.ownBlock = some g' ∨ g' = w1.heap.size) :
 objAt w2 d = some (.cells #[lv, .int .i64 (-1)] 202 (0, 0)) ∧ Mid w0 (w2.setCell ⟨d, 0, none⟩ (.slice (some ⟨g', 0, none⟩) n' cap')) d l (k + 1) := by
 have hod : objAt w2 d = some (.cells #[lv, .int .i64 (-1)] 202 (0, 0)) := hk.obj h.obj (fun e => by have := h.row.own _ e; omega)
 have hs : (w2.setCell ⟨d, 0, none⟩ (.slice (some ⟨g', 0, none⟩) n' cap')).heap.size = w2.heap.size := size_setCell _ _ _
 have hK : Keeps (fun q => q = d) w2 (w2.setCell ⟨d, 0, none⟩ (.slice (some ⟨g', 0, none⟩) n' cap')) := Keeps.setCell _ _ _ rfl
 have hrd : RowG (w2.setCell ⟨d, 0, none⟩ (.slice (some ⟨g', 0, none⟩) n' cap')) (fun q => d < q) 203 1 PEl (.slice (some ⟨g', 0, none⟩) n' cap') (rs ++ [r]) :=
  hrow.keeps hK (fun g hg e => by have := hS3 _ (hrow.own g hg); omega) hS3 (fun _ _ h => h)
 have hrl : r < w1.heap.size := by obtain ⟨_, _, _, _, hv⟩ := hreg; exact block_lt hv.obj
 have hg' : ∀ q, (q < r ∧ lv.ownBlock ≠ some q) ∨ (r ≤ q ∧ q < hi) → g' ≠ q := fun q hq e => by
  subst e
  rcases ho with ho | ho
  · rcases hq with hq | hq
    · exact hq.2 ho
    · have := hown _ ho; omega
  · rcases hq with hq | hq <;> omega
 refine ⟨hod, _, _, fun j => if j = k then (fun q => r ≤ q ∧ q < hi) else S j, ?_, h.ge, ?_, hrd, by simp [h.len], fun j r' m hj hm => ?_, fun j q hq => ?_, fun i j q hi hj => ?_⟩
 · refine (h.below.trans ⟨hk.os, hk.tape, hk.output, hk.size, fun q hq => hk.block q (Nat.lt_of_lt_of_le hq h.below.size) (fun e => by have := h.row.own q e; have := h.ge; omega)⟩).trans ⟨rfl, rfl, rfl, Nat.le_of_eq hs.symm, fun q hq => heap_setCell_ne (by have := h.ge; show q ≠ d; omega) _⟩
 · rw [objAt_setCell hod]; rfl
 · by_cases e : j = k
   · subst e
     rw [if_pos rfl]
     rw [List.getElem?_append_right (by rw [h.len]; exact Nat.le_refl _), h.len, Nat.sub_self] at hj
     obtain rfl := Option.some.inj hj
     rw [hn] at hm
     obtain rfl := Option.some.inj hm
     rw [Int.toNat_natCast]
     exact (hreg.keeps hk (fun g hg e => by have := hown _ e; omega) (fun _ h _ => h)).keeps hK (fun g hg e => by omega) (fun _ h _ => h)
   · rw [if_neg e]
     have hjk : j < k := by
      have := (List.getElem?_eq_some_iff.1 hj).1
      have hl := h.len
      simp only [List.length_append, List.length_singleton] at this; omega
     rw [List.getElem?_append_left (by rw [h.len]; exact hjk)] at hj
     exact ((h.reg j r' m hj hm).keeps hk (fun g hg e => (h.foot j g hg).2.2.1 e) (fun _ h _ => h)).keeps hK (fun g hg e => by have := (h.foot j g hg).1; omega) (fun _ h _ => h)
 · by_cases e : j = k
   · subst e
     rw [if_pos rfl] at hq
     have := hk.size
     exact ⟨by omega, by rw [hs]; omega, fun e => hg' q (.inr hq) (Option.some.inj e), Nat.lt_succ_self _⟩
   · rw [if_neg e] at hq
     have hf := h.foot j q hq
     have := hk.size
     exact ⟨hf.1, by rw [hs]; omega, fun e => hg' q (.inl ⟨hlo j q hq, hf.2.2.1⟩) (Option.some.inj e), by omega⟩
 · by_cases ei : i = k
   · by_cases ej : j = k
     · omega
     · rw [if_pos ei] at hi
       rw [if_neg ej] at hj
       have := hlo j q hj; omega
   · rw [if_neg ei] at hi
     by_cases ej : j = k
     · rw [if_pos ej] at hj
       have := hlo i q hi; omega
     · rw [if_neg ej] at hj
       exact h.disj i j q hi hj
theorem Mid.done {w0 w : World} {d k : Nat} {l : List Int} (h : Mid w0 w d l k) (h0 : 0 < k) (h8 : k ≤ 8) (hk : k = l.length) (hl : ∀ n ∈ l, 1 ≤ n ∧ n ≤ 1000) :
 DevAt w (fun q => w0.heap.size ≤ q ∧ q < w.heap.size) d ⟨l.map fun n => Reg.new n.toNat, -1⟩ 0 := by
 obtain ⟨lv, rs, S, h⟩ := h
 obtain ⟨rl, rcap, rfl⟩ := h.row.form (by rw [h.len]; exact h0)
 obtain ⟨cur, hcur⟩ := h.row.obj (g := rl) rfl
 have hrl := h.row.own rl rfl
 have hge := h.ge
 refine ⟨⟨by simpa [← hk] using h0, by simpa [← hk] using h8, fun R hR => ?_, fun R hR => ?_, fun R hR => ?_, by show (-1 : Int) ≤ -1; decide, by show (-1 : Int) ≤ 1000000; decide⟩, fun q hq => hq.2, fun j => match j with | 0 => (fun q => q = d ∨ q = rl) | j + 1 => S j, rl, rcap, rs, ⟨?_, ⟨cur, hcur, fun j r hj => ?_⟩, by simp [h.len, hk], fun j r R hj hR => ?_, .inl rfl, .inr rfl, fun i j q hi hj => ?_, fun j q hq => ?_⟩, fun j q hq => ?_⟩
 · obtain ⟨n, hn, rfl⟩ := List.mem_map.1 hR
   have := hl n hn
   exact Reg.new_ok (by omega) (by omega)
 · obtain ⟨n, _, rfl⟩ := List.mem_map.1 hR; simp [Reg.new]
 · obtain ⟨n, _, rfl⟩ := List.mem_map.1 hR; simp [Reg.new]
 · have := h.obj
   rw [h.len, hk] at this
   simpa using this
 · obtain ⟨c, hc1, hc2, hc3⟩ := h.row.cells hj
   rw [hc2] at hc3
   have := hc3 0 _ rfl
   rw [Nat.mul_one, Nat.add_zero, cell_obj hcur] at this
   exact this
 · simp only [List.getElem?_map, Option.map_eq_some_iff] at hR
   obtain ⟨n, hn, rfl⟩ := hR
   exact h.reg j r n hj hn
 · match i, j with
   | 0, 0 => rfl
   | 0, j + 1 =>
     have hf := h.foot j q hj
     rcases hi with rfl | rfl
     · omega
     · exact absurd rfl hf.2.2.1
   | i + 1, 0 =>
     have hf := h.foot i q hi
     rcases hj with rfl | rfl
     · omega
     · exact absurd rfl hf.2.2.1
   | i + 1, j + 1 => exact congrArg (· + 1) (h.disj i j q hi hj)
 · match j with
   | 0 =>
     rcases hq with rfl | rfl
     · exact block_lt h.obj
     · exact block_lt hcur
   | j + 1 => exact (h.foot j q hq).2.1
 · match j with
   | 0 =>
     rcases hq with rfl | rfl
     · exact ⟨hge, block_lt h.obj⟩
     · exact ⟨by omega, block_lt hcur⟩
   | j + 1 => have := h.foot j q hq; exact ⟨by omega, this.2.1⟩
end Go.Proofs.YtbbnejehglonjaaGreat

/- DERIVED. A device as it lies: contract of dev.New. -/
namespace Go.Proofs.YtbbnejehglonjaaGreat
open Go.RowKit
attribute [local go_sem] hasBlk
attribute [local irreducible] Calls
set_option maxRecDepth 100000
set_option maxHeartbeats 8000000 in
theorem DevNew_any (a : Option Addr) (l : List Int) (cap : Nat) (w : World) (hi : IntsAt w a l) (h0 : 0 < l.length) (h8 : l.length ≤ 8) (hl : ∀ n ∈ l, 1 ≤ n ∧ n ≤ 1000) :
 Calls Tryz.prog 53 #[.slice a l.length cap] w fun e w' => ∃ d, e = .returned (.tuple #[.pointer (some ⟨d, 0, none⟩), .bool true]) ∧ DevAt w' (fun q => w.heap.size ≤ q ∧ q < w'.heap.size) d ⟨l.map fun n => Reg.new n.toNat, -1⟩ 0 ∧ Below w.heap.size w w' := by
 obtain ⟨ba, off, ha, hc⟩ := hi
 obtain rfl := ha h0
 have Hc := Lib.hid (And.intro hc hl)
 have n1 : ¬ ((l.length : Int) < 1) := by omega
 have n2 : ¬ ((8 : Int) < (l.length : Int)) := by omega
 clear hc hl ha
 go_enter Tryz.func53, Tryz.ntmps53
 go_wp2_with fail
 obtain ⟨d, hd⟩ : ∃ d, d = w.heap.size := ⟨_, rfl⟩
 obtain ⟨w0, hw0⟩ : ∃ w0, w0 = w.alloc (.cells #[.slice none 0 0, .int .i64 (-1)] 202) := ⟨_, rfl⟩
 have hM0 : MidV w w0 d l 0 (.slice none 0 0) [] (fun _ _ => False) := by
  refine ⟨by rw [hw0]; exact grow_alloc (Below.refl _ _) _, by omega, by rw [hw0, hd, objAt_alloc, if_pos rfl], RowG.nil _ _ _ _ _, rfl, fun j r n hj => by simp at hj, fun j q h => h.elim, fun i j q h => h.elim⟩
 rw [← hd, ← hw0]
 have HB := Lib.hid hM0
 clear hw0 hM0 hd n1 n2
 go_loopw [20] (fun i wr => ∃ k : Nat, k ≤ l.length ∧ i = .int .i64 k ∧ Mid w wr d l k) (fun i _ => l.length - (intOf i).toNat)
 case atStart => exact ⟨0, Nat.zero_le _, rfl, _, _, _, HB.out⟩
 case round =>
  obtain ⟨ko, hko, rfl, lv, rs, SS, hM⟩ := hrel
  by_cases hlo : ko < l.length
  · have hlo' : (ko : Int) < (l.length : Int) := by omega
    have hmem : l[ko] ∈ l := List.getElem_mem hlo
    obtain ⟨n, hn⟩ := Int.eq_ofNat_of_zero_le (show 0 ≤ l[ko] by have := Hc.out.2 _ hmem; omega)
    have hge : l.getD ko 0 = (n : Int) := by rw [List.getD_eq_getElem?_getD, List.getElem?_eq_getElem hlo]; exact hn
    have hgk : l[ko]? = some (n : Int) := by rw [List.getElem?_eq_getElem hlo, hn]
    have hck := grow_cell hM.below (Hc.out.1 ko hlo)
    rw [hge] at hck
    have hb := Hc.out.2 _ hmem
    rw [hn] at hb
    have h0 : 0 < n := by omega
    have hnn : n ≤ 1000 := by omega
    have n1 : ¬ ((n : Int) < 1) := by omega
    have n2 : ¬ ((1000 : Int) < (n : Int)) := by omega
    have HM := Lib.hid (And.intro hM hgk)
    clear hM hmem hn hge hgk hb
    go_upto_region 10 with fail
    obtain ⟨r, hr⟩ : ∃ r, r = wr.heap.size := ⟨_, rfl⟩
    obtain ⟨w1, hw1⟩ : ∃ w1, w1 = wr.alloc (.cells #[.slice none 0 0, .slice none 0 0, .slice none 0 0, .slice none 0 0] 207) := ⟨_, rfl⟩
    have hr1 : objAt w1 r = some (.cells #[.slice none 0 0, .slice none 0 0, .slice none 0 0, .slice none 0 0] 207 (0, 0)) := by rw [hw1, hr, objAt_alloc, if_pos rfl]
    have hB1 : Below r wr w1 := by rw [hw1, hr]; exact grow_alloc (Below.refl _ _) _
    have hst : NewSt wr w1 r 0 := ⟨hB1, block_lt hr1, _, _, hr1, SeenRow.nil _ _, SeenRow.nil _ _, fun g hg => by cases hg⟩
    rw [← hr, ← hw1]
    obtain ⟨wo, rfl⟩ : ∃ wo, wo = wr := ⟨_, rfl⟩
    have H1 := Lib.hid (And.intro hst hr)
    clear hw1 hr hr1 hB1 hst n1 n2 hck
    go_wp2_with fail
    go_loopw [33] (fun i wi => ∃ k : Nat, k ≤ n ∧ i = .int .i64 k ∧ NewSt wo wi r k) (fun i _ => n - (intOf i).toNat)
    case atStart => exact ⟨0, Nat.zero_le _, rfl, H1.out.1⟩
    case round =>
     obtain ⟨k, hk, rfl, hst⟩ := hrel
     by_cases hlt : k < n
     · have hlt' : (k : Int) < (n : Int) := by omega
       obtain ⟨hbel, hrl, s0, s1, ho, hr0, hr1, hne⟩ := hst
       have c0 := cell_obj ho 0
       have c1 := cell_obj ho 1
       have H2 := Lib.hid (And.intro hbel (And.intro hrl (And.intro ho (And.intro hr0 (And.intro hr1 hne)))))
       clear hbel ho hne hr0
       go_upto_region 12 with fail
       have hr : ¬ s0.ownBlock = some r := fun e => by have := H2.out.2.2.2.1.choose_spec.2.1 r e; omega
       have hS : ∀ w', Keeps (fun q => s0.ownBlock = some q) wr w' → w'.cell? ⟨r, 0, none⟩ = some s0 ∧ w'.cell? ⟨r, 1, none⟩ = some s1 ∧ Keeps (fun q => s0.ownBlock = some q) wr w' := fun w' hb => ⟨cell_obj (hb.obj H2.out.2.2.1 hr) 0, cell_obj (hb.obj H2.out.2.2.1 hr) 1, hb⟩
       have hown0 : ∀ q, s0.ownBlock = some q → q < wr.heap.size := fun q hq => by obtain ⟨c, hc⟩ := H2.out.2.2.2.1.obj hq; exact block_lt hc
       have hown1 : ∀ q, s1.ownBlock = some q → q < wr.heap.size := fun q hq => by obtain ⟨c, hc⟩ := H2.out.2.2.2.2.1.obj hq; exact block_lt hc
       have f0 : SeenRow wr.drew (r + 1) s0 k := H2.out.2.2.2.1.below (Below.refl _ _).drew
       have f1 : SeenRow wr.drew (r + 1) s1 k := H2.out.2.2.2.2.1.below (Below.refl _ _).drew
       have fr : objAt wr.drew r = some (.cells #[s0, s1, .slice none 0 0, .slice none 0 0] 207 (0, 0)) := H2.out.2.2.1
       have fK : Keeps (fun q => s0.ownBlock = some q) wr wr.drew := Keeps.of_below (Below.refl _ _).drew
       clear hr1
       refine wp_region_F [15, 18, 21] (S := fun w' => w'.cell? ⟨r, 0, none⟩ = some s0 ∧ w'.cell? ⟨r, 1, none⟩ = some s1 ∧ Keeps (fun q => s0.ownBlock = some q) wr w') (by kernel_rfl) (hS _ fK) (fun hHeld => ?_)
       show wpAnyF _ _ _ _ _ _ 22 #[false, false, false, false, false, false, false, false, false, false, false, false, false, false, false, false, false, false, false, false, false, false] _ _
       refine gP (i := 0) (v := ?kv1) rfl ?ky1 ?kr1
       case ky1 => (intro w hSw; clear hSw; (try simp only [qA, qB]); go_simp; (try with_reducible rfl))
       try simp only [Act.put, qA, qB, qD, qE, qF]
       refine gP (i := 1) (v := ?kv2) rfl ?ky2 ?kr2
       case ky2 => (intro w hSw; clear hSw; (try simp only [qA, qB, qC]); go_simp; (try with_reducible rfl))
       try simp only [Act.put, qA, qB, qC, qD, qE, qF]
       refine gF [2, 3, 4, 5, 8, 15, 16, 17, 18, 19, 20, 21] (i := 2) (v := ?kv3) rfl ?ky3 ?kr3
       case ky3 => (intro w hSw; (try dsimp only at hSw); go_split_ands; (try simp only [qA, qB, qC]); go_simp; (try with_reducible rfl))
       try simp only [Act.put, qA, qB, qC, qD, qE, qF]
       refine gF [3, 4, 5, 8, 15, 16, 17, 18, 19, 20, 21] (i := 3) (v := ?kv4) rfl ?ky4 ?kr4
       case ky4 => (intro w hSw; (try dsimp only at hSw); go_split_ands; (try simp only [qA, qB, qC]); go_simp; (try with_reducible rfl))
       try simp only [Act.put, qA, qB, qC, qD, qE, qF]
       refine gF [4, 5, 8, 15, 16, 17, 18, 19, 20, 21] (i := 4) (v := ?kv5) rfl ?ky5 ?kr5
       case ky5 => (intro w hSw; (try dsimp only at hSw); go_split_ands; (try simp only [qA, qB, qC]); go_simp; (try with_reducible rfl))
       try simp only [Act.put, qA, qB, qC, qD, qE, qF]
       refine gF [5, 8, 15, 16, 17, 18, 19, 20, 21] (i := 5) (v := ?kv6) rfl ?ky6 ?kr6
       case ky6 => (intro w hSw; (try dsimp only at hSw); go_split_ands; (try simp only [qA, qB, qC]); go_simp; (try with_reducible rfl))
       try simp only [Act.put, qA, qB, qC, qD, qE, qF]
       refine gF [9, 10, 11, 12, 15, 16, 17, 18, 19, 20, 21] (i := 9) (v := ?kv7) rfl ?ky7 ?kr7
       case ky7 => (intro w hSw; (try dsimp only at hSw); go_split_ands; (try simp only [qA, qB, qC]); go_simp; (try with_reducible rfl))
       try simp only [Act.put, qA, qB, qC, qD, qE, qF]
       refine gF [10, 11, 12, 15, 16, 17, 18, 19, 20, 21] (i := 10) (v := ?kv8) rfl ?ky8 ?kr8
       case ky8 => (intro w hSw; (try dsimp only at hSw); go_split_ands; (try simp only [qA, qB, qC]); go_simp; (try with_reducible rfl))
       try simp only [Act.put, qA, qB, qC, qD, qE, qF]
       refine gF [11, 12, 15, 16, 17, 18, 19, 20, 21] (i := 11) (v := ?kv9) rfl ?ky9 ?kr9
       case ky9 => (intro w hSw; (try dsimp only at hSw); go_split_ands; (try simp only [qA, qB, qC]); go_simp; (try with_reducible rfl))
       try simp only [Act.put, qA, qB, qC, qD, qE, qF]
       refine gF [12, 15, 16, 17, 18, 19, 20, 21] (i := 12) (v := ?kv10) rfl ?ky10 ?kr10
       case ky10 => (intro w hSw; (try dsimp only at hSw); go_split_ands; (try simp only [qA, qB, qC]); go_simp; (try with_reducible rfl))
       try simp only [Act.put, qA, qB, qC, qD, qE, qF]
       refine wpAnyF_ready (rs := [6, 13]) (by kernel_rfl) (by simp) ?_
       refine (AllReadyF.cons rfl (fun K hK => ?kb11x0) (AllReadyF.cons rfl (fun K hK => ?kb11x1) AllReadyF.nil))
       case kb11x0 =>
        refine step_make64 rfl rfl ?_; intro x6 hx6; have n41 := Nat.le_trans hrl fK.size; (try replace f0 := f0.below (below_alloc hx6)); (try replace f1 := f1.below (below_alloc hx6)); (try replace f8 := f8.below (below_alloc hx6)); (try replace fz41 := grow_obj (below_alloc hx6) fz41); (try replace fu42 := grow_obj (below_alloc hx6) fu42); (try replace fz48 := grow_obj (below_alloc hx6) fz48); (try replace fu49 := grow_obj (below_alloc hx6) fu49); replace fr := grow_obj (below_alloc hx6) fr; replace fK := fK.trans (Keeps.of_below (below_alloc hx6)); have fz41 := obj_alloc hx6; clear hx6
        refine hK.out _ _ (by exact hS _ fK) (fun hHeldn => ?_)
        clear hHeld hK K
        have hHeld := hHeldn
        clear hHeldn
        try simp only [Act.put, qA, qB, qC, qD, qE, qF]
        refine wpAnyF_ready (rs := [7, 13]) (by kernel_rfl) (by simp) ?_
        refine (AllReadyF.cons rfl (fun K hK => ?kb12x0) (AllReadyF.cons rfl (fun K hK => ?kb12x1) AllReadyF.nil))
        case kb12x0 =>
         refine step_lit64 rfl _ rfl rfl ?_; intro x7 hx7; (try replace f0 := f0.below (below_alloc hx7)); (try replace f1 := f1.below (below_alloc hx7)); (try replace f8 := f8.below (below_alloc hx7)); (try replace fz41 := grow_obj (below_alloc hx7) fz41); (try replace fu42 := grow_obj (below_alloc hx7) fu42); (try replace fz48 := grow_obj (below_alloc hx7) fz48); (try replace fu49 := grow_obj (below_alloc hx7) fu49); replace fr := grow_obj (below_alloc hx7) fr; replace fK := fK.trans (Keeps.of_below (below_alloc hx7)); have fu42 := obj_alloc hx7; clear hx7
         refine hK.out _ _ (by exact hS _ fK) (fun hHeldn => ?_)
         clear hHeld hK K
         have hHeld := hHeldn
         clear hHeldn
         try simp only [Act.put, qA, qB, qC, qD, qE, qF]
         refine wpAnyF_ready (rs := [8, 13]) (by kernel_rfl) (by simp) ?_
         refine (AllReadyF.cons rfl (fun K hK => ?kb13x0) (AllReadyF.cons rfl (fun K hK => ?kb13x1) AllReadyF.nil))
         case kb13x0 =>
          refine step_app64 rfl _ _ (.tmp 41) rfl rfl f0 rfl rfl fu42 fz41 n41 (Nat.le_trans hrl fK.size) (by omega) ?_; intro g8 c8 x8 f8 k8 o8; have hg8 : ∀ q, s1.ownBlock = some q → g8 ≠ q := (fun q hq e => by rcases o8 with h | h; exact H2.out.2.2.2.2.2 g8 h (by rw [hq, e]); have := hown1 q hq; have := fK.size; omega); replace f1 := f1.keepsRow f0 k8 (fun q hq e => H2.out.2.2.2.2.2 q e hq); (try replace fz48 := k8.obj fz48 (fun e => by obtain ⟨c, hc⟩ := f0.obj e; exact ne_of_obj fz48 hc (by decide) rfl)); (try replace fu49 := k8.obj fu49 (fun e => by have := hown0 _ e; omega)); replace fr := k8.obj fr hr; replace fK := fK.trans k8; clear f0 fz41 fu42 o8 k8
          refine hK.out _ _ (by exact hS _ fK) (fun hHeldn => ?_)
          clear hHeld hK K
          have hHeld := hHeldn
          clear hHeldn
          try simp only [Act.put, qA, qB, qC, qD, qE, qF]
          refine wpAnyF_ready (rs := [13]) (by kernel_rfl) (by simp) ?_
          refine (AllReadyF.cons rfl (fun K hK => ?_) AllReadyF.nil)
          refine step_make64 rfl rfl ?_; intro x13 hx13; have n48 := Nat.le_trans hrl fK.size; (try replace f0 := f0.below (below_alloc hx13)); (try replace f1 := f1.below (below_alloc hx13)); (try replace f8 := f8.below (below_alloc hx13)); (try replace fz41 := grow_obj (below_alloc hx13) fz41); (try replace fu42 := grow_obj (below_alloc hx13) fu42); (try replace fz48 := grow_obj (below_alloc hx13) fz48); (try replace fu49 := grow_obj (below_alloc hx13) fu49); replace fr := grow_obj (below_alloc hx13) fr; replace fK := fK.trans (Keeps.of_below (below_alloc hx13)); have fz48 := obj_alloc hx13; clear hx13
          refine hK.out _ _ (by exact hS _ fK) (fun hHeldn => ?_)
          clear hHeld hK K
          have hHeld := hHeldn
          clear hHeldn
          try simp only [Act.put, qA, qB, qC, qD, qE, qF]
          refine wpAnyF_ready (rs := [14]) (by kernel_rfl) (by simp) ?_
          refine (AllReadyF.cons rfl (fun K hK => ?_) AllReadyF.nil)
          refine step_lit64 rfl _ rfl rfl ?_; intro x14 hx14; have n49 := fK.size; (try replace f0 := f0.below (below_alloc hx14)); (try replace f1 := f1.below (below_alloc hx14)); (try replace f8 := f8.below (below_alloc hx14)); (try replace fz41 := grow_obj (below_alloc hx14) fz41); (try replace fu42 := grow_obj (below_alloc hx14) fu42); (try replace fz48 := grow_obj (below_alloc hx14) fz48); (try replace fu49 := grow_obj (below_alloc hx14) fu49); replace fr := grow_obj (below_alloc hx14) fr; replace fK := fK.trans (Keeps.of_below (below_alloc hx14)); have fu49 := obj_alloc hx14; clear hx14
          refine hK.out _ _ (by exact hS _ fK) (fun hHeldn => ?_)
          clear hHeld hK K
          have hHeld := hHeldn
          clear hHeldn
          try simp only [Act.put, qA, qB, qC, qD, qE, qF]
          refine wpAnyF_ready (rs := [15]) (by kernel_rfl) (by simp) ?_
          refine (AllReadyF.last rfl (by kernel_rfl) (fun K hK => ?_) AllReadyF.nil)
          refine step_app64 rfl _ _ (.tmp 48) rfl rfl f1 rfl rfl fu49 fz48 n48 (Nat.le_trans hrl fK.size) (by omega) ?_; intro g15 c15 x15 f15 k15 o15; have hne15 : g8 ≠ g15 := (fun e => by rcases o15 with h | h; exact hg8 g15 h e; obtain ⟨c, hc⟩ := f8.obj (g := g8) rfl; have := block_lt hc; omega); replace f8 := f8.keepsRow f1 k15 (fun q hq e => hg8 q e (Option.some.inj hq)); have hr1 : ¬ s1.ownBlock = some r := (fun e => by have := f1.choose_spec.2.1 r e; omega); replace fr := k15.obj fr hr1; have fB : Below r wo x15 := H2.out.1.trans ((fK.below (Nat.le_of_lt hrl) (fun q hq => by have := H2.out.2.2.2.1.choose_spec.2.1 q hq; omega)).trans (k15.below (Nat.le_trans (Nat.le_of_lt hrl) fK.size) (fun q hq => by have := f1.choose_spec.2.1 q hq; omega))); have d0 := cell_obj fr 0; have d1 := cell_obj fr 1; have e0 := free_obj fr 0; have e1 := free_obj fr 1; clear fu49 fz48 f1
          refine hK.out _ _ (trivial) (fun hHeldn => ?_)
          clear hHeld hK K
          have hHeld := hHeldn
          clear hHeldn
          try simp only [Act.put, qA, qB, qC, qD, qE, qF]
          refine gP (i := 16) (v := ?kv17) rfl ?ky17 ?kr17
          case ky17 => (intro w hSw; clear hSw; (try simp only [qA, qB, qC]); go_simp; (try with_reducible rfl))
          try simp only [Act.put, qA, qB, qC, qD, qE, qF]
          refine gP (i := 17) (v := ?kv18) rfl ?ky18 ?kr18
          case ky18 => (intro w hSw; clear hSw; (try simp only [qA, qB, qC]); go_simp; (try with_reducible rfl))
          try simp only [Act.put, qA, qB, qC, qD, qE, qF]
          refine wpAnyF_ready (rs := [18]) (by kernel_rfl) (by simp) ?_
          refine (AllReadyF.last rfl (by kernel_rfl) (fun K hK => ?_) AllReadyF.nil)
          try simp only [qA, qB, qC]
          go_simp
          refine hK.out _ _ (trivial) (fun hHeldn => ?_)
          clear hHeld hK K
          have hHeld := hHeldn
          clear hHeldn
          try simp only [qD, qE, qF]
          refine gP (i := 19) (v := ?kv20) rfl ?ky20 ?kr20
          case ky20 => (intro w hSw; clear hSw; (try simp only [qA, qB, qC]); go_simp; (try with_reducible rfl))
          try simp only [Act.put, qA, qB, qC, qD, qE, qF]
          refine gP (i := 20) (v := ?kv21) rfl ?ky21 ?kr21
          case ky21 => (intro w hSw; clear hSw; (try simp only [qA, qB, qC]); go_simp; (try with_reducible rfl))
          try simp only [Act.put, qA, qB, qC, qD, qE, qF]
          refine wpAnyF_ready (rs := [21]) (by kernel_rfl) (by simp) ?_
          refine (AllReadyF.last rfl (by kernel_rfl) (fun K hK => ?_) AllReadyF.nil)
          try simp only [qA, qB, qC]
          go_simp
          refine hK.out _ _ (trivial) (fun hHeldn => ?_)
          clear hHeld hK K
          have hHeld := hHeldn
          clear hHeldn
          try simp only [qD, qE, qF]
          refine wpAnyF_done (by kernel_rfl) ?_ _
          have hfin := NewSt.next fB fr f8 f15 (fun q hq e => hne15 ((Option.some.inj hq).trans (Option.some.inj e).symm))
          go_wp2_with fail
          go_roundw
          case rel => exact ⟨k + 1, by omega, by go_num, hfin⟩
          case measure => simp [intOf]; omega
         case kb13x1 =>
          refine step_make64 rfl rfl ?_; intro x13 hx13; have n48 := Nat.le_trans hrl fK.size; (try replace f0 := f0.below (below_alloc hx13)); (try replace f1 := f1.below (below_alloc hx13)); (try replace f8 := f8.below (below_alloc hx13)); (try replace fz41 := grow_obj (below_alloc hx13) fz41); (try replace fu42 := grow_obj (below_alloc hx13) fu42); (try replace fz48 := grow_obj (below_alloc hx13) fz48); (try replace fu49 := grow_obj (below_alloc hx13) fu49); replace fr := grow_obj (below_alloc hx13) fr; replace fK := fK.trans (Keeps.of_below (below_alloc hx13)); have fz48 := obj_alloc hx13; clear hx13
          refine hK.out _ _ (by exact hS _ fK) (fun hHeldn => ?_)
          clear hHeld hK K
          have hHeld := hHeldn
          clear hHeldn
          try simp only [Act.put, qA, qB, qC, qD, qE, qF]
          refine wpAnyF_ready (rs := [8, 14]) (by kernel_rfl) (by simp) ?_
          refine (AllReadyF.cons rfl (fun K hK => ?kb23x0) (AllReadyF.cons rfl (fun K hK => ?kb23x1) AllReadyF.nil))
          case kb23x0 =>
           refine step_app64 rfl _ _ (.tmp 41) rfl rfl f0 rfl rfl fu42 fz41 n41 (Nat.le_trans hrl fK.size) (by omega) ?_; intro g8 c8 x8 f8 k8 o8; have hg8 : ∀ q, s1.ownBlock = some q → g8 ≠ q := (fun q hq e => by rcases o8 with h | h; exact H2.out.2.2.2.2.2 g8 h (by rw [hq, e]); have := hown1 q hq; have := fK.size; omega); replace f1 := f1.keepsRow f0 k8 (fun q hq e => H2.out.2.2.2.2.2 q e hq); (try replace fz48 := k8.obj fz48 (fun e => by obtain ⟨c, hc⟩ := f0.obj e; exact ne_of_obj fz48 hc (by decide) rfl)); (try replace fu49 := k8.obj fu49 (fun e => by have := hown0 _ e; omega)); replace fr := k8.obj fr hr; replace fK := fK.trans k8; clear f0 fz41 fu42 o8 k8
           refine hK.out _ _ (by exact hS _ fK) (fun hHeldn => ?_)
           clear hHeld hK K
           have hHeld := hHeldn
           clear hHeldn
           try simp only [Act.put, qA, qB, qC, qD, qE, qF]
           refine wpAnyF_ready (rs := [14]) (by kernel_rfl) (by simp) ?_
           refine (AllReadyF.cons rfl (fun K hK => ?_) AllReadyF.nil)
           refine step_lit64 rfl _ rfl rfl ?_; intro x14 hx14; have n49 := fK.size; (try replace f0 := f0.below (below_alloc hx14)); (try replace f1 := f1.below (below_alloc hx14)); (try replace f8 := f8.below (below_alloc hx14)); (try replace fz41 := grow_obj (below_alloc hx14) fz41); (try replace fu42 := grow_obj (below_alloc hx14) fu42); (try replace fz48 := grow_obj (below_alloc hx14) fz48); (try replace fu49 := grow_obj (below_alloc hx14) fu49); replace fr := grow_obj (below_alloc hx14) fr; replace fK := fK.trans (Keeps.of_below (below_alloc hx14)); have fu49 := obj_alloc hx14; clear hx14
           refine hK.out _ _ (by exact hS _ fK) (fun hHeldn => ?_)
           clear hHeld hK K
           have hHeld := hHeldn
           clear hHeldn
           try simp only [Act.put, qA, qB, qC, qD, qE, qF]
           refine wpAnyF_ready (rs := [15]) (by kernel_rfl) (by simp) ?_
           refine (AllReadyF.last rfl (by kernel_rfl) (fun K hK => ?_) AllReadyF.nil)
           refine step_app64 rfl _ _ (.tmp 48) rfl rfl f1 rfl rfl fu49 fz48 n48 (Nat.le_trans hrl fK.size) (by omega) ?_; intro g15 c15 x15 f15 k15 o15; have hne15 : g8 ≠ g15 := (fun e => by rcases o15 with h | h; exact hg8 g15 h e; obtain ⟨c, hc⟩ := f8.obj (g := g8) rfl; have := block_lt hc; omega); replace f8 := f8.keepsRow f1 k15 (fun q hq e => hg8 q e (Option.some.inj hq)); have hr1 : ¬ s1.ownBlock = some r := (fun e => by have := f1.choose_spec.2.1 r e; omega); replace fr := k15.obj fr hr1; have fB : Below r wo x15 := H2.out.1.trans ((fK.below (Nat.le_of_lt hrl) (fun q hq => by have := H2.out.2.2.2.1.choose_spec.2.1 q hq; omega)).trans (k15.below (Nat.le_trans (Nat.le_of_lt hrl) fK.size) (fun q hq => by have := f1.choose_spec.2.1 q hq; omega))); have d0 := cell_obj fr 0; have d1 := cell_obj fr 1; have e0 := free_obj fr 0; have e1 := free_obj fr 1; clear fu49 fz48 f1
           refine hK.out _ _ (trivial) (fun hHeldn => ?_)
           clear hHeld hK K
           have hHeld := hHeldn
           clear hHeldn
           try simp only [Act.put, qA, qB, qC, qD, qE, qF]
           refine gP (i := 16) (v := ?kv26) rfl ?ky26 ?kr26
           case ky26 => (intro w hSw; clear hSw; (try simp only [qA, qB, qC]); go_simp; (try with_reducible rfl))
           try simp only [Act.put, qA, qB, qC, qD, qE, qF]
           refine gP (i := 17) (v := ?kv27) rfl ?ky27 ?kr27
           case ky27 => (intro w hSw; clear hSw; (try simp only [qA, qB, qC]); go_simp; (try with_reducible rfl))
           try simp only [Act.put, qA, qB, qC, qD, qE, qF]
           refine wpAnyF_ready (rs := [18]) (by kernel_rfl) (by simp) ?_
           refine (AllReadyF.last rfl (by kernel_rfl) (fun K hK => ?_) AllReadyF.nil)
           try simp only [qA, qB, qC]
           go_simp
           refine hK.out _ _ (trivial) (fun hHeldn => ?_)
           clear hHeld hK K
           have hHeld := hHeldn
           clear hHeldn
           try simp only [qD, qE, qF]
           refine gP (i := 19) (v := ?kv29) rfl ?ky29 ?kr29
           case ky29 => (intro w hSw; clear hSw; (try simp only [qA, qB, qC]); go_simp; (try with_reducible rfl))
           try simp only [Act.put, qA, qB, qC, qD, qE, qF]
           refine gP (i := 20) (v := ?kv30) rfl ?ky30 ?kr30
           case ky30 => (intro w hSw; clear hSw; (try simp only [qA, qB, qC]); go_simp; (try with_reducible rfl))
           try simp only [Act.put, qA, qB, qC, qD, qE, qF]
           refine wpAnyF_ready (rs := [21]) (by kernel_rfl) (by simp) ?_
           refine (AllReadyF.last rfl (by kernel_rfl) (fun K hK => ?_) AllReadyF.nil)
           try simp only [qA, qB, qC]
           go_simp
           refine hK.out _ _ (trivial) (fun hHeldn => ?_)
           clear hHeld hK K
           have hHeld := hHeldn
           clear hHeldn
           try simp only [qD, qE, qF]
           refine wpAnyF_done (by kernel_rfl) ?_ _
           have hfin := NewSt.next fB fr f8 f15 (fun q hq e => hne15 ((Option.some.inj hq).trans (Option.some.inj e).symm))
           go_wp2_with fail
           go_roundw
           case rel => exact ⟨k + 1, by omega, by go_num, hfin⟩
           case measure => simp [intOf]; omega
          case kb23x1 =>
           refine step_lit64 rfl _ rfl rfl ?_; intro x14 hx14; have n49 := fK.size; (try replace f0 := f0.below (below_alloc hx14)); (try replace f1 := f1.below (below_alloc hx14)); (try replace f8 := f8.below (below_alloc hx14)); (try replace fz41 := grow_obj (below_alloc hx14) fz41); (try replace fu42 := grow_obj (below_alloc hx14) fu42); (try replace fz48 := grow_obj (below_alloc hx14) fz48); (try replace fu49 := grow_obj (below_alloc hx14) fu49); replace fr := grow_obj (below_alloc hx14) fr; replace fK := fK.trans (Keeps.of_below (below_alloc hx14)); have fu49 := obj_alloc hx14; clear hx14
           refine hK.out _ _ (by exact hS _ fK) (fun hHeldn => ?_)
           clear hHeld hK K
           have hHeld := hHeldn
           clear hHeldn
           try simp only [Act.put, qA, qB, qC, qD, qE, qF]
           refine wpAnyF_ready (rs := [8]) (by kernel_rfl) (by simp) ?_
           refine (AllReadyF.cons rfl (fun K hK => ?_) AllReadyF.nil)
           refine step_app64 rfl _ _ (.tmp 41) rfl rfl f0 rfl rfl fu42 fz41 n41 (Nat.le_trans hrl fK.size) (by omega) ?_; intro g8 c8 x8 f8 k8 o8; have hg8 : ∀ q, s1.ownBlock = some q → g8 ≠ q := (fun q hq e => by rcases o8 with h | h; exact H2.out.2.2.2.2.2 g8 h (by rw [hq, e]); have := hown1 q hq; have := fK.size; omega); replace f1 := f1.keepsRow f0 k8 (fun q hq e => H2.out.2.2.2.2.2 q e hq); (try replace fz48 := k8.obj fz48 (fun e => by obtain ⟨c, hc⟩ := f0.obj e; exact ne_of_obj fz48 hc (by decide) rfl)); (try replace fu49 := k8.obj fu49 (fun e => by have := hown0 _ e; omega)); replace fr := k8.obj fr hr; replace fK := fK.trans k8; clear f0 fz41 fu42 o8 k8
           refine hK.out _ _ (by exact hS _ fK) (fun hHeldn => ?_)
           clear hHeld hK K
           have hHeld := hHeldn
           clear hHeldn
           try simp only [Act.put, qA, qB, qC, qD, qE, qF]
           refine wpAnyF_ready (rs := [15]) (by kernel_rfl) (by simp) ?_
           refine (AllReadyF.last rfl (by kernel_rfl) (fun K hK => ?_) AllReadyF.nil)
           refine step_app64 rfl _ _ (.tmp 48) rfl rfl f1 rfl rfl fu49 fz48 n48 (Nat.le_trans hrl fK.size) (by omega) ?_; intro g15 c15 x15 f15 k15 o15; have hne15 : g8 ≠ g15 := (fun e => by rcases o15 with h | h; exact hg8 g15 h e; obtain ⟨c, hc⟩ := f8.obj (g := g8) rfl; have := block_lt hc; omega); replace f8 := f8.keepsRow f1 k15 (fun q hq e => hg8 q e (Option.some.inj hq)); have hr1 : ¬ s1.ownBlock = some r := (fun e => by have := f1.choose_spec.2.1 r e; omega); replace fr := k15.obj fr hr1; have fB : Below r wo x15 := H2.out.1.trans ((fK.below (Nat.le_of_lt hrl) (fun q hq => by have := H2.out.2.2.2.1.choose_spec.2.1 q hq; omega)).trans (k15.below (Nat.le_trans (Nat.le_of_lt hrl) fK.size) (fun q hq => by have := f1.choose_spec.2.1 q hq; omega))); have d0 := cell_obj fr 0; have d1 := cell_obj fr 1; have e0 := free_obj fr 0; have e1 := free_obj fr 1; clear fu49 fz48 f1
           refine hK.out _ _ (trivial) (fun hHeldn => ?_)
           clear hHeld hK K
           have hHeld := hHeldn
           clear hHeldn
           try simp only [Act.put, qA, qB, qC, qD, qE, qF]
           refine gP (i := 16) (v := ?kv34) rfl ?ky34 ?kr34
           case ky34 => (intro w hSw; clear hSw; (try simp only [qA, qB, qC]); go_simp; (try with_reducible rfl))
           try simp only [Act.put, qA, qB, qC, qD, qE, qF]
           refine gP (i := 17) (v := ?kv35) rfl ?ky35 ?kr35
           case ky35 => (intro w hSw; clear hSw; (try simp only [qA, qB, qC]); go_simp; (try with_reducible rfl))
           try simp only [Act.put, qA, qB, qC, qD, qE, qF]
           refine wpAnyF_ready (rs := [18]) (by kernel_rfl) (by simp) ?_
           refine (AllReadyF.last rfl (by kernel_rfl) (fun K hK => ?_) AllReadyF.nil)
           try simp only [qA, qB, qC]
           go_simp
           refine hK.out _ _ (trivial) (fun hHeldn => ?_)
           clear hHeld hK K
           have hHeld := hHeldn
           clear hHeldn
           try simp only [qD, qE, qF]
           refine gP (i := 19) (v := ?kv37) rfl ?ky37 ?kr37
           case ky37 => (intro w hSw; clear hSw; (try simp only [qA, qB, qC]); go_simp; (try with_reducible rfl))
           try simp only [Act.put, qA, qB, qC, qD, qE, qF]
           refine gP (i := 20) (v := ?kv38) rfl ?ky38 ?kr38
           case ky38 => (intro w hSw; clear hSw; (try simp only [qA, qB, qC]); go_simp; (try with_reducible rfl))
           try simp only [Act.put, qA, qB, qC, qD, qE, qF]
           refine wpAnyF_ready (rs := [21]) (by kernel_rfl) (by simp) ?_
           refine (AllReadyF.last rfl (by kernel_rfl) (fun K hK => ?_) AllReadyF.nil)
           try simp only [qA, qB, qC]
           go_simp
           refine hK.out _ _ (trivial) (fun hHeldn => ?_)
           clear hHeld hK K
           have hHeld := hHeldn
           clear hHeldn
           try simp only [qD, qE, qF]
           refine wpAnyF_done (by kernel_rfl) ?_ _
           have hfin := NewSt.next fB fr f8 f15 (fun q hq e => hne15 ((Option.some.inj hq).trans (Option.some.inj e).symm))
           go_wp2_with fail
           go_roundw
           case rel => exact ⟨k + 1, by omega, by go_num, hfin⟩
           case measure => simp [intOf]; omega
        case kb12x1 =>
         refine step_make64 rfl rfl ?_; intro x13 hx13; have n48 := Nat.le_trans hrl fK.size; (try replace f0 := f0.below (below_alloc hx13)); (try replace f1 := f1.below (below_alloc hx13)); (try replace f8 := f8.below (below_alloc hx13)); (try replace fz41 := grow_obj (below_alloc hx13) fz41); (try replace fu42 := grow_obj (below_alloc hx13) fu42); (try replace fz48 := grow_obj (below_alloc hx13) fz48); (try replace fu49 := grow_obj (below_alloc hx13) fu49); replace fr := grow_obj (below_alloc hx13) fr; replace fK := fK.trans (Keeps.of_below (below_alloc hx13)); have fz48 := obj_alloc hx13; clear hx13
         refine hK.out _ _ (by exact hS _ fK) (fun hHeldn => ?_)
         clear hHeld hK K
         have hHeld := hHeldn
         clear hHeldn
         try simp only [Act.put, qA, qB, qC, qD, qE, qF]
         refine wpAnyF_ready (rs := [7, 14]) (by kernel_rfl) (by simp) ?_
         refine (AllReadyF.cons rfl (fun K hK => ?kb40x0) (AllReadyF.cons rfl (fun K hK => ?kb40x1) AllReadyF.nil))
         case kb40x0 =>
          refine step_lit64 rfl _ rfl rfl ?_; intro x7 hx7; (try replace f0 := f0.below (below_alloc hx7)); (try replace f1 := f1.below (below_alloc hx7)); (try replace f8 := f8.below (below_alloc hx7)); (try replace fz41 := grow_obj (below_alloc hx7) fz41); (try replace fu42 := grow_obj (below_alloc hx7) fu42); (try replace fz48 := grow_obj (below_alloc hx7) fz48); (try replace fu49 := grow_obj (below_alloc hx7) fu49); replace fr := grow_obj (below_alloc hx7) fr; replace fK := fK.trans (Keeps.of_below (below_alloc hx7)); have fu42 := obj_alloc hx7; clear hx7
          refine hK.out _ _ (by exact hS _ fK) (fun hHeldn => ?_)
          clear hHeld hK K
          have hHeld := hHeldn
          clear hHeldn
          try simp only [Act.put, qA, qB, qC, qD, qE, qF]
          refine wpAnyF_ready (rs := [8, 14]) (by kernel_rfl) (by simp) ?_
          refine (AllReadyF.cons rfl (fun K hK => ?kb41x0) (AllReadyF.cons rfl (fun K hK => ?kb41x1) AllReadyF.nil))
          case kb41x0 =>
           refine step_app64 rfl _ _ (.tmp 41) rfl rfl f0 rfl rfl fu42 fz41 n41 (Nat.le_trans hrl fK.size) (by omega) ?_; intro g8 c8 x8 f8 k8 o8; have hg8 : ∀ q, s1.ownBlock = some q → g8 ≠ q := (fun q hq e => by rcases o8 with h | h; exact H2.out.2.2.2.2.2 g8 h (by rw [hq, e]); have := hown1 q hq; have := fK.size; omega); replace f1 := f1.keepsRow f0 k8 (fun q hq e => H2.out.2.2.2.2.2 q e hq); (try replace fz48 := k8.obj fz48 (fun e => by obtain ⟨c, hc⟩ := f0.obj e; exact ne_of_obj fz48 hc (by decide) rfl)); (try replace fu49 := k8.obj fu49 (fun e => by have := hown0 _ e; omega)); replace fr := k8.obj fr hr; replace fK := fK.trans k8; clear f0 fz41 fu42 o8 k8
           refine hK.out _ _ (by exact hS _ fK) (fun hHeldn => ?_)
           clear hHeld hK K
           have hHeld := hHeldn
           clear hHeldn
           try simp only [Act.put, qA, qB, qC, qD, qE, qF]
           refine wpAnyF_ready (rs := [14]) (by kernel_rfl) (by simp) ?_
           refine (AllReadyF.cons rfl (fun K hK => ?_) AllReadyF.nil)
           refine step_lit64 rfl _ rfl rfl ?_; intro x14 hx14; have n49 := fK.size; (try replace f0 := f0.below (below_alloc hx14)); (try replace f1 := f1.below (below_alloc hx14)); (try replace f8 := f8.below (below_alloc hx14)); (try replace fz41 := grow_obj (below_alloc hx14) fz41); (try replace fu42 := grow_obj (below_alloc hx14) fu42); (try replace fz48 := grow_obj (below_alloc hx14) fz48); (try replace fu49 := grow_obj (below_alloc hx14) fu49); replace fr := grow_obj (below_alloc hx14) fr; replace fK := fK.trans (Keeps.of_below (below_alloc hx14)); have fu49 := obj_alloc hx14; clear hx14
           refine hK.out _ _ (by exact hS _ fK) (fun hHeldn => ?_)
           clear hHeld hK K
           have hHeld := hHeldn
           clear hHeldn
           try simp only [Act.put, qA, qB, qC, qD, qE, qF]
           refine wpAnyF_ready (rs := [15]) (by kernel_rfl) (by simp) ?_
           refine (AllReadyF.last rfl (by kernel_rfl) (fun K hK => ?_) AllReadyF.nil)
           refine step_app64 rfl _ _ (.tmp 48) rfl rfl f1 rfl rfl fu49 fz48 n48 (Nat.le_trans hrl fK.size) (by omega) ?_; intro g15 c15 x15 f15 k15 o15; have hne15 : g8 ≠ g15 := (fun e => by rcases o15 with h | h; exact hg8 g15 h e; obtain ⟨c, hc⟩ := f8.obj (g := g8) rfl; have := block_lt hc; omega); replace f8 := f8.keepsRow f1 k15 (fun q hq e => hg8 q e (Option.some.inj hq)); have hr1 : ¬ s1.ownBlock = some r := (fun e => by have := f1.choose_spec.2.1 r e; omega); replace fr := k15.obj fr hr1; have fB : Below r wo x15 := H2.out.1.trans ((fK.below (Nat.le_of_lt hrl) (fun q hq => by have := H2.out.2.2.2.1.choose_spec.2.1 q hq; omega)).trans (k15.below (Nat.le_trans (Nat.le_of_lt hrl) fK.size) (fun q hq => by have := f1.choose_spec.2.1 q hq; omega))); have d0 := cell_obj fr 0; have d1 := cell_obj fr 1; have e0 := free_obj fr 0; have e1 := free_obj fr 1; clear fu49 fz48 f1
           refine hK.out _ _ (trivial) (fun hHeldn => ?_)
           clear hHeld hK K
           have hHeld := hHeldn
           clear hHeldn
           try simp only [Act.put, qA, qB, qC, qD, qE, qF]
           refine gP (i := 16) (v := ?kv44) rfl ?ky44 ?kr44
           case ky44 => (intro w hSw; clear hSw; (try simp only [qA, qB, qC]); go_simp; (try with_reducible rfl))
           try simp only [Act.put, qA, qB, qC, qD, qE, qF]
           refine gP (i := 17) (v := ?kv45) rfl ?ky45 ?kr45
           case ky45 => (intro w hSw; clear hSw; (try simp only [qA, qB, qC]); go_simp; (try with_reducible rfl))
           try simp only [Act.put, qA, qB, qC, qD, qE, qF]
           refine wpAnyF_ready (rs := [18]) (by kernel_rfl) (by simp) ?_
           refine (AllReadyF.last rfl (by kernel_rfl) (fun K hK => ?_) AllReadyF.nil)
           try simp only [qA, qB, qC]
           go_simp
           refine hK.out _ _ (trivial) (fun hHeldn => ?_)
           clear hHeld hK K
           have hHeld := hHeldn
           clear hHeldn
           try simp only [qD, qE, qF]
           refine gP (i := 19) (v := ?kv47) rfl ?ky47 ?kr47
           case ky47 => (intro w hSw; clear hSw; (try simp only [qA, qB, qC]); go_simp; (try with_reducible rfl))
           try simp only [Act.put, qA, qB, qC, qD, qE, qF]
           refine gP (i := 20) (v := ?kv48) rfl ?ky48 ?kr48
           case ky48 => (intro w hSw; clear hSw; (try simp only [qA, qB, qC]); go_simp; (try with_reducible rfl))
           try simp only [Act.put, qA, qB, qC, qD, qE, qF]
           refine wpAnyF_ready (rs := [21]) (by kernel_rfl) (by simp) ?_
           refine (AllReadyF.last rfl (by kernel_rfl) (fun K hK => ?_) AllReadyF.nil)
           try simp only [qA, qB, qC]
           go_simp
           refine hK.out _ _ (trivial) (fun hHeldn => ?_)
           clear hHeld hK K
           have hHeld := hHeldn
           clear hHeldn
           try simp only [qD, qE, qF]
           refine wpAnyF_done (by kernel_rfl) ?_ _
           have hfin := NewSt.next fB fr f8 f15 (fun q hq e => hne15 ((Option.some.inj hq).trans (Option.some.inj e).symm))
           go_wp2_with fail
           go_roundw
           case rel => exact ⟨k + 1, by omega, by go_num, hfin⟩
           case measure => simp [intOf]; omega
          case kb41x1 =>
           refine step_lit64 rfl _ rfl rfl ?_; intro x14 hx14; have n49 := fK.size; (try replace f0 := f0.below (below_alloc hx14)); (try replace f1 := f1.below (below_alloc hx14)); (try replace f8 := f8.below (below_alloc hx14)); (try replace fz41 := grow_obj (below_alloc hx14) fz41); (try replace fu42 := grow_obj (below_alloc hx14) fu42); (try replace fz48 := grow_obj (below_alloc hx14) fz48); (try replace fu49 := grow_obj (below_alloc hx14) fu49); replace fr := grow_obj (below_alloc hx14) fr; replace fK := fK.trans (Keeps.of_below (below_alloc hx14)); have fu49 := obj_alloc hx14; clear hx14
           refine hK.out _ _ (by exact hS _ fK) (fun hHeldn => ?_)
           clear hHeld hK K
           have hHeld := hHeldn
           clear hHeldn
           try simp only [Act.put, qA, qB, qC, qD, qE, qF]
           refine wpAnyF_ready (rs := [8]) (by kernel_rfl) (by simp) ?_
           refine (AllReadyF.cons rfl (fun K hK => ?_) AllReadyF.nil)
           refine step_app64 rfl _ _ (.tmp 41) rfl rfl f0 rfl rfl fu42 fz41 n41 (Nat.le_trans hrl fK.size) (by omega) ?_; intro g8 c8 x8 f8 k8 o8; have hg8 : ∀ q, s1.ownBlock = some q → g8 ≠ q := (fun q hq e => by rcases o8 with h | h; exact H2.out.2.2.2.2.2 g8 h (by rw [hq, e]); have := hown1 q hq; have := fK.size; omega); replace f1 := f1.keepsRow f0 k8 (fun q hq e => H2.out.2.2.2.2.2 q e hq); (try replace fz48 := k8.obj fz48 (fun e => by obtain ⟨c, hc⟩ := f0.obj e; exact ne_of_obj fz48 hc (by decide) rfl)); (try replace fu49 := k8.obj fu49 (fun e => by have := hown0 _ e; omega)); replace fr := k8.obj fr hr; replace fK := fK.trans k8; clear f0 fz41 fu42 o8 k8
           refine hK.out _ _ (by exact hS _ fK) (fun hHeldn => ?_)
           clear hHeld hK K
           have hHeld := hHeldn
           clear hHeldn
           try simp only [Act.put, qA, qB, qC, qD, qE, qF]
           refine wpAnyF_ready (rs := [15]) (by kernel_rfl) (by simp) ?_
           refine (AllReadyF.last rfl (by kernel_rfl) (fun K hK => ?_) AllReadyF.nil)
           refine step_app64 rfl _ _ (.tmp 48) rfl rfl f1 rfl rfl fu49 fz48 n48 (Nat.le_trans hrl fK.size) (by omega) ?_; intro g15 c15 x15 f15 k15 o15; have hne15 : g8 ≠ g15 := (fun e => by rcases o15 with h | h; exact hg8 g15 h e; obtain ⟨c, hc⟩ := f8.obj (g := g8) rfl; have := block_lt hc; omega); replace f8 := f8.keepsRow f1 k15 (fun q hq e => hg8 q e (Option.some.inj hq)); have hr1 : ¬ s1.ownBlock = some r := (fun e => by have := f1.choose_spec.2.1 r e; omega); replace fr := k15.obj fr hr1; have fB : Below r wo x15 := H2.out.1.trans ((fK.below (Nat.le_of_lt hrl) (fun q hq => by have := H2.out.2.2.2.1.choose_spec.2.1 q hq; omega)).trans (k15.below (Nat.le_trans (Nat.le_of_lt hrl) fK.size) (fun q hq => by have := f1.choose_spec.2.1 q hq; omega))); have d0 := cell_obj fr 0; have d1 := cell_obj fr 1; have e0 := free_obj fr 0; have e1 := free_obj fr 1; clear fu49 fz48 f1
           refine hK.out _ _ (trivial) (fun hHeldn => ?_)
           clear hHeld hK K
           have hHeld := hHeldn
           clear hHeldn
           try simp only [Act.put, qA, qB, qC, qD, qE, qF]
           refine gP (i := 16) (v := ?kv52) rfl ?ky52 ?kr52
           case ky52 => (intro w hSw; clear hSw; (try simp only [qA, qB, qC]); go_simp; (try with_reducible rfl))
           try simp only [Act.put, qA, qB, qC, qD, qE, qF]
           refine gP (i := 17) (v := ?kv53) rfl ?ky53 ?kr53
           case ky53 => (intro w hSw; clear hSw; (try simp only [qA, qB, qC]); go_simp; (try with_reducible rfl))
           try simp only [Act.put, qA, qB, qC, qD, qE, qF]
           refine wpAnyF_ready (rs := [18]) (by kernel_rfl) (by simp) ?_
           refine (AllReadyF.last rfl (by kernel_rfl) (fun K hK => ?_) AllReadyF.nil)
           try simp only [qA, qB, qC]
           go_simp
           refine hK.out _ _ (trivial) (fun hHeldn => ?_)
           clear hHeld hK K
           have hHeld := hHeldn
           clear hHeldn
           try simp only [qD, qE, qF]
           refine gP (i := 19) (v := ?kv55) rfl ?ky55 ?kr55
           case ky55 => (intro w hSw; clear hSw; (try simp only [qA, qB, qC]); go_simp; (try with_reducible rfl))
           try simp only [Act.put, qA, qB, qC, qD, qE, qF]
           refine gP (i := 20) (v := ?kv56) rfl ?ky56 ?kr56
           case ky56 => (intro w hSw; clear hSw; (try simp only [qA, qB, qC]); go_simp; (try with_reducible rfl))
           try simp only [Act.put, qA, qB, qC, qD, qE, qF]
           refine wpAnyF_ready (rs := [21]) (by kernel_rfl) (by simp) ?_
           refine (AllReadyF.last rfl (by kernel_rfl) (fun K hK => ?_) AllReadyF.nil)
           try simp only [qA, qB, qC]
           go_simp
           refine hK.out _ _ (trivial) (fun hHeldn => ?_)
           clear hHeld hK K
           have hHeld := hHeldn
           clear hHeldn
           try simp only [qD, qE, qF]
           refine wpAnyF_done (by kernel_rfl) ?_ _
           have hfin := NewSt.next fB fr f8 f15 (fun q hq e => hne15 ((Option.some.inj hq).trans (Option.some.inj e).symm))
           go_wp2_with fail
           go_roundw
           case rel => exact ⟨k + 1, by omega, by go_num, hfin⟩
           case measure => simp [intOf]; omega
         case kb40x1 =>
          refine step_lit64 rfl _ rfl rfl ?_; intro x14 hx14; have n49 := fK.size; (try replace f0 := f0.below (below_alloc hx14)); (try replace f1 := f1.below (below_alloc hx14)); (try replace f8 := f8.below (below_alloc hx14)); (try replace fz41 := grow_obj (below_alloc hx14) fz41); (try replace fu42 := grow_obj (below_alloc hx14) fu42); (try replace fz48 := grow_obj (below_alloc hx14) fz48); (try replace fu49 := grow_obj (below_alloc hx14) fu49); replace fr := grow_obj (below_alloc hx14) fr; replace fK := fK.trans (Keeps.of_below (below_alloc hx14)); have fu49 := obj_alloc hx14; clear hx14
          refine hK.out _ _ (by exact hS _ fK) (fun hHeldn => ?_)
          clear hHeld hK K
          have hHeld := hHeldn
          clear hHeldn
          try simp only [Act.put, qA, qB, qC, qD, qE, qF]
          refine wpAnyF_ready (rs := [7]) (by kernel_rfl) (by simp) ?_
          refine (AllReadyF.cons rfl (fun K hK => ?_) AllReadyF.nil)
          refine step_lit64 rfl _ rfl rfl ?_; intro x7 hx7; (try replace f0 := f0.below (below_alloc hx7)); (try replace f1 := f1.below (below_alloc hx7)); (try replace f8 := f8.below (below_alloc hx7)); (try replace fz41 := grow_obj (below_alloc hx7) fz41); (try replace fu42 := grow_obj (below_alloc hx7) fu42); (try replace fz48 := grow_obj (below_alloc hx7) fz48); (try replace fu49 := grow_obj (below_alloc hx7) fu49); replace fr := grow_obj (below_alloc hx7) fr; replace fK := fK.trans (Keeps.of_below (below_alloc hx7)); have fu42 := obj_alloc hx7; clear hx7
          refine hK.out _ _ (by exact hS _ fK) (fun hHeldn => ?_)
          clear hHeld hK K
          have hHeld := hHeldn
          clear hHeldn
          try simp only [Act.put, qA, qB, qC, qD, qE, qF]
          refine wpAnyF_ready (rs := [8]) (by kernel_rfl) (by simp) ?_
          refine (AllReadyF.cons rfl (fun K hK => ?_) AllReadyF.nil)
          refine step_app64 rfl _ _ (.tmp 41) rfl rfl f0 rfl rfl fu42 fz41 n41 (Nat.le_trans hrl fK.size) (by omega) ?_; intro g8 c8 x8 f8 k8 o8; have hg8 : ∀ q, s1.ownBlock = some q → g8 ≠ q := (fun q hq e => by rcases o8 with h | h; exact H2.out.2.2.2.2.2 g8 h (by rw [hq, e]); have := hown1 q hq; have := fK.size; omega); replace f1 := f1.keepsRow f0 k8 (fun q hq e => H2.out.2.2.2.2.2 q e hq); (try replace fz48 := k8.obj fz48 (fun e => by obtain ⟨c, hc⟩ := f0.obj e; exact ne_of_obj fz48 hc (by decide) rfl)); (try replace fu49 := k8.obj fu49 (fun e => by have := hown0 _ e; omega)); replace fr := k8.obj fr hr; replace fK := fK.trans k8; clear f0 fz41 fu42 o8 k8
          refine hK.out _ _ (by exact hS _ fK) (fun hHeldn => ?_)
          clear hHeld hK K
          have hHeld := hHeldn
          clear hHeldn
          try simp only [Act.put, qA, qB, qC, qD, qE, qF]
          refine wpAnyF_ready (rs := [15]) (by kernel_rfl) (by simp) ?_
          refine (AllReadyF.last rfl (by kernel_rfl) (fun K hK => ?_) AllReadyF.nil)
          refine step_app64 rfl _ _ (.tmp 48) rfl rfl f1 rfl rfl fu49 fz48 n48 (Nat.le_trans hrl fK.size) (by omega) ?_; intro g15 c15 x15 f15 k15 o15; have hne15 : g8 ≠ g15 := (fun e => by rcases o15 with h | h; exact hg8 g15 h e; obtain ⟨c, hc⟩ := f8.obj (g := g8) rfl; have := block_lt hc; omega); replace f8 := f8.keepsRow f1 k15 (fun q hq e => hg8 q e (Option.some.inj hq)); have hr1 : ¬ s1.ownBlock = some r := (fun e => by have := f1.choose_spec.2.1 r e; omega); replace fr := k15.obj fr hr1; have fB : Below r wo x15 := H2.out.1.trans ((fK.below (Nat.le_of_lt hrl) (fun q hq => by have := H2.out.2.2.2.1.choose_spec.2.1 q hq; omega)).trans (k15.below (Nat.le_trans (Nat.le_of_lt hrl) fK.size) (fun q hq => by have := f1.choose_spec.2.1 q hq; omega))); have d0 := cell_obj fr 0; have d1 := cell_obj fr 1; have e0 := free_obj fr 0; have e1 := free_obj fr 1; clear fu49 fz48 f1
          refine hK.out _ _ (trivial) (fun hHeldn => ?_)
          clear hHeld hK K
          have hHeld := hHeldn
          clear hHeldn
          try simp only [Act.put, qA, qB, qC, qD, qE, qF]
          refine gP (i := 16) (v := ?kv61) rfl ?ky61 ?kr61
          case ky61 => (intro w hSw; clear hSw; (try simp only [qA, qB, qC]); go_simp; (try with_reducible rfl))
          try simp only [Act.put, qA, qB, qC, qD, qE, qF]
          refine gP (i := 17) (v := ?kv62) rfl ?ky62 ?kr62
          case ky62 => (intro w hSw; clear hSw; (try simp only [qA, qB, qC]); go_simp; (try with_reducible rfl))
          try simp only [Act.put, qA, qB, qC, qD, qE, qF]
          refine wpAnyF_ready (rs := [18]) (by kernel_rfl) (by simp) ?_
          refine (AllReadyF.last rfl (by kernel_rfl) (fun K hK => ?_) AllReadyF.nil)
          try simp only [qA, qB, qC]
          go_simp
          refine hK.out _ _ (trivial) (fun hHeldn => ?_)
          clear hHeld hK K
          have hHeld := hHeldn
          clear hHeldn
          try simp only [qD, qE, qF]
          refine gP (i := 19) (v := ?kv64) rfl ?ky64 ?kr64
          case ky64 => (intro w hSw; clear hSw; (try simp only [qA, qB, qC]); go_simp; (try with_reducible rfl))
          try simp only [Act.put, qA, qB, qC, qD, qE, qF]
          refine gP (i := 20) (v := ?kv65) rfl ?ky65 ?kr65
          case ky65 => (intro w hSw; clear hSw; (try simp only [qA, qB, qC]); go_simp; (try with_reducible rfl))
          try simp only [Act.put, qA, qB, qC, qD, qE, qF]
          refine wpAnyF_ready (rs := [21]) (by kernel_rfl) (by simp) ?_
          refine (AllReadyF.last rfl (by kernel_rfl) (fun K hK => ?_) AllReadyF.nil)
          try simp only [qA, qB, qC]
          go_simp
          refine hK.out _ _ (trivial) (fun hHeldn => ?_)
          clear hHeld hK K
          have hHeld := hHeldn
          clear hHeldn
          try simp only [qD, qE, qF]
          refine wpAnyF_done (by kernel_rfl) ?_ _
          have hfin := NewSt.next fB fr f8 f15 (fun q hq e => hne15 ((Option.some.inj hq).trans (Option.some.inj e).symm))
          go_wp2_with fail
          go_roundw
          case rel => exact ⟨k + 1, by omega, by go_num, hfin⟩
          case measure => simp [intOf]; omega
       case kb11x1 =>
        refine step_make64 rfl rfl ?_; intro x13 hx13; have n48 := Nat.le_trans hrl fK.size; (try replace f0 := f0.below (below_alloc hx13)); (try replace f1 := f1.below (below_alloc hx13)); (try replace f8 := f8.below (below_alloc hx13)); (try replace fz41 := grow_obj (below_alloc hx13) fz41); (try replace fu42 := grow_obj (below_alloc hx13) fu42); (try replace fz48 := grow_obj (below_alloc hx13) fz48); (try replace fu49 := grow_obj (below_alloc hx13) fu49); replace fr := grow_obj (below_alloc hx13) fr; replace fK := fK.trans (Keeps.of_below (below_alloc hx13)); have fz48 := obj_alloc hx13; clear hx13
        refine hK.out _ _ (by exact hS _ fK) (fun hHeldn => ?_)
        clear hHeld hK K
        have hHeld := hHeldn
        clear hHeldn
        try simp only [Act.put, qA, qB, qC, qD, qE, qF]
        refine wpAnyF_ready (rs := [6, 14]) (by kernel_rfl) (by simp) ?_
        refine (AllReadyF.cons rfl (fun K hK => ?kb67x0) (AllReadyF.cons rfl (fun K hK => ?kb67x1) AllReadyF.nil))
        case kb67x0 =>
         refine step_make64 rfl rfl ?_; intro x6 hx6; have n41 := Nat.le_trans hrl fK.size; (try replace f0 := f0.below (below_alloc hx6)); (try replace f1 := f1.below (below_alloc hx6)); (try replace f8 := f8.below (below_alloc hx6)); (try replace fz41 := grow_obj (below_alloc hx6) fz41); (try replace fu42 := grow_obj (below_alloc hx6) fu42); (try replace fz48 := grow_obj (below_alloc hx6) fz48); (try replace fu49 := grow_obj (below_alloc hx6) fu49); replace fr := grow_obj (below_alloc hx6) fr; replace fK := fK.trans (Keeps.of_below (below_alloc hx6)); have fz41 := obj_alloc hx6; clear hx6
         refine hK.out _ _ (by exact hS _ fK) (fun hHeldn => ?_)
         clear hHeld hK K
         have hHeld := hHeldn
         clear hHeldn
         try simp only [Act.put, qA, qB, qC, qD, qE, qF]
         refine wpAnyF_ready (rs := [7, 14]) (by kernel_rfl) (by simp) ?_
         refine (AllReadyF.cons rfl (fun K hK => ?kb68x0) (AllReadyF.cons rfl (fun K hK => ?kb68x1) AllReadyF.nil))
         case kb68x0 =>
          refine step_lit64 rfl _ rfl rfl ?_; intro x7 hx7; (try replace f0 := f0.below (below_alloc hx7)); (try replace f1 := f1.below (below_alloc hx7)); (try replace f8 := f8.below (below_alloc hx7)); (try replace fz41 := grow_obj (below_alloc hx7) fz41); (try replace fu42 := grow_obj (below_alloc hx7) fu42); (try replace fz48 := grow_obj (below_alloc hx7) fz48); (try replace fu49 := grow_obj (below_alloc hx7) fu49); replace fr := grow_obj (below_alloc hx7) fr; replace fK := fK.trans (Keeps.of_below (below_alloc hx7)); have fu42 := obj_alloc hx7; clear hx7
          refine hK.out _ _ (by exact hS _ fK) (fun hHeldn => ?_)
          clear hHeld hK K
          have hHeld := hHeldn
          clear hHeldn
          try simp only [Act.put, qA, qB, qC, qD, qE, qF]
          refine wpAnyF_ready (rs := [8, 14]) (by kernel_rfl) (by simp) ?_
          refine (AllReadyF.cons rfl (fun K hK => ?kb69x0) (AllReadyF.cons rfl (fun K hK => ?kb69x1) AllReadyF.nil))
          case kb69x0 =>
           refine step_app64 rfl _ _ (.tmp 41) rfl rfl f0 rfl rfl fu42 fz41 n41 (Nat.le_trans hrl fK.size) (by omega) ?_; intro g8 c8 x8 f8 k8 o8; have hg8 : ∀ q, s1.ownBlock = some q → g8 ≠ q := (fun q hq e => by rcases o8 with h | h; exact H2.out.2.2.2.2.2 g8 h (by rw [hq, e]); have := hown1 q hq; have := fK.size; omega); replace f1 := f1.keepsRow f0 k8 (fun q hq e => H2.out.2.2.2.2.2 q e hq); (try replace fz48 := k8.obj fz48 (fun e => by obtain ⟨c, hc⟩ := f0.obj e; exact ne_of_obj fz48 hc (by decide) rfl)); (try replace fu49 := k8.obj fu49 (fun e => by have := hown0 _ e; omega)); replace fr := k8.obj fr hr; replace fK := fK.trans k8; clear f0 fz41 fu42 o8 k8
           refine hK.out _ _ (by exact hS _ fK) (fun hHeldn => ?_)
           clear hHeld hK K
           have hHeld := hHeldn
           clear hHeldn
           try simp only [Act.put, qA, qB, qC, qD, qE, qF]
           refine wpAnyF_ready (rs := [14]) (by kernel_rfl) (by simp) ?_
           refine (AllReadyF.cons rfl (fun K hK => ?_) AllReadyF.nil)
           refine step_lit64 rfl _ rfl rfl ?_; intro x14 hx14; have n49 := fK.size; (try replace f0 := f0.below (below_alloc hx14)); (try replace f1 := f1.below (below_alloc hx14)); (try replace f8 := f8.below (below_alloc hx14)); (try replace fz41 := grow_obj (below_alloc hx14) fz41); (try replace fu42 := grow_obj (below_alloc hx14) fu42); (try replace fz48 := grow_obj (below_alloc hx14) fz48); (try replace fu49 := grow_obj (below_alloc hx14) fu49); replace fr := grow_obj (below_alloc hx14) fr; replace fK := fK.trans (Keeps.of_below (below_alloc hx14)); have fu49 := obj_alloc hx14; clear hx14
           refine hK.out _ _ (by exact hS _ fK) (fun hHeldn => ?_)
           clear hHeld hK K
           have hHeld := hHeldn
           clear hHeldn
           try simp only [Act.put, qA, qB, qC, qD, qE, qF]
           refine wpAnyF_ready (rs := [15]) (by kernel_rfl) (by simp) ?_
           refine (AllReadyF.last rfl (by kernel_rfl) (fun K hK => ?_) AllReadyF.nil)
           refine step_app64 rfl _ _ (.tmp 48) rfl rfl f1 rfl rfl fu49 fz48 n48 (Nat.le_trans hrl fK.size) (by omega) ?_; intro g15 c15 x15 f15 k15 o15; have hne15 : g8 ≠ g15 := (fun e => by rcases o15 with h | h; exact hg8 g15 h e; obtain ⟨c, hc⟩ := f8.obj (g := g8) rfl; have := block_lt hc; omega); replace f8 := f8.keepsRow f1 k15 (fun q hq e => hg8 q e (Option.some.inj hq)); have hr1 : ¬ s1.ownBlock = some r := (fun e => by have := f1.choose_spec.2.1 r e; omega); replace fr := k15.obj fr hr1; have fB : Below r wo x15 := H2.out.1.trans ((fK.below (Nat.le_of_lt hrl) (fun q hq => by have := H2.out.2.2.2.1.choose_spec.2.1 q hq; omega)).trans (k15.below (Nat.le_trans (Nat.le_of_lt hrl) fK.size) (fun q hq => by have := f1.choose_spec.2.1 q hq; omega))); have d0 := cell_obj fr 0; have d1 := cell_obj fr 1; have e0 := free_obj fr 0; have e1 := free_obj fr 1; clear fu49 fz48 f1
           refine hK.out _ _ (trivial) (fun hHeldn => ?_)
           clear hHeld hK K
           have hHeld := hHeldn
           clear hHeldn
           try simp only [Act.put, qA, qB, qC, qD, qE, qF]
           refine gP (i := 16) (v := ?kv72) rfl ?ky72 ?kr72
           case ky72 => (intro w hSw; clear hSw; (try simp only [qA, qB, qC]); go_simp; (try with_reducible rfl))
           try simp only [Act.put, qA, qB, qC, qD, qE, qF]
           refine gP (i := 17) (v := ?kv73) rfl ?ky73 ?kr73
           case ky73 => (intro w hSw; clear hSw; (try simp only [qA, qB, qC]); go_simp; (try with_reducible rfl))
           try simp only [Act.put, qA, qB, qC, qD, qE, qF]
           refine wpAnyF_ready (rs := [18]) (by kernel_rfl) (by simp) ?_
           refine (AllReadyF.last rfl (by kernel_rfl) (fun K hK => ?_) AllReadyF.nil)
           try simp only [qA, qB, qC]
           go_simp
           refine hK.out _ _ (trivial) (fun hHeldn => ?_)
           clear hHeld hK K
           have hHeld := hHeldn
           clear hHeldn
           try simp only [qD, qE, qF]
           refine gP (i := 19) (v := ?kv75) rfl ?ky75 ?kr75
           case ky75 => (intro w hSw; clear hSw; (try simp only [qA, qB, qC]); go_simp; (try with_reducible rfl))
           try simp only [Act.put, qA, qB, qC, qD, qE, qF]
           refine gP (i := 20) (v := ?kv76) rfl ?ky76 ?kr76
           case ky76 => (intro w hSw; clear hSw; (try simp only [qA, qB, qC]); go_simp; (try with_reducible rfl))
           try simp only [Act.put, qA, qB, qC, qD, qE, qF]
           refine wpAnyF_ready (rs := [21]) (by kernel_rfl) (by simp) ?_
           refine (AllReadyF.last rfl (by kernel_rfl) (fun K hK => ?_) AllReadyF.nil)
           try simp only [qA, qB, qC]
           go_simp
           refine hK.out _ _ (trivial) (fun hHeldn => ?_)
           clear hHeld hK K
           have hHeld := hHeldn
           clear hHeldn
           try simp only [qD, qE, qF]
           refine wpAnyF_done (by kernel_rfl) ?_ _
           have hfin := NewSt.next fB fr f8 f15 (fun q hq e => hne15 ((Option.some.inj hq).trans (Option.some.inj e).symm))
           go_wp2_with fail
           go_roundw
           case rel => exact ⟨k + 1, by omega, by go_num, hfin⟩
           case measure => simp [intOf]; omega
          case kb69x1 =>
           refine step_lit64 rfl _ rfl rfl ?_; intro x14 hx14; have n49 := fK.size; (try replace f0 := f0.below (below_alloc hx14)); (try replace f1 := f1.below (below_alloc hx14)); (try replace f8 := f8.below (below_alloc hx14)); (try replace fz41 := grow_obj (below_alloc hx14) fz41); (try replace fu42 := grow_obj (below_alloc hx14) fu42); (try replace fz48 := grow_obj (below_alloc hx14) fz48); (try replace fu49 := grow_obj (below_alloc hx14) fu49); replace fr := grow_obj (below_alloc hx14) fr; replace fK := fK.trans (Keeps.of_below (below_alloc hx14)); have fu49 := obj_alloc hx14; clear hx14
           refine hK.out _ _ (by exact hS _ fK) (fun hHeldn => ?_)
           clear hHeld hK K
           have hHeld := hHeldn
           clear hHeldn
           try simp only [Act.put, qA, qB, qC, qD, qE, qF]
           refine wpAnyF_ready (rs := [8]) (by kernel_rfl) (by simp) ?_
           refine (AllReadyF.cons rfl (fun K hK => ?_) AllReadyF.nil)
           refine step_app64 rfl _ _ (.tmp 41) rfl rfl f0 rfl rfl fu42 fz41 n41 (Nat.le_trans hrl fK.size) (by omega) ?_; intro g8 c8 x8 f8 k8 o8; have hg8 : ∀ q, s1.ownBlock = some q → g8 ≠ q := (fun q hq e => by rcases o8 with h | h; exact H2.out.2.2.2.2.2 g8 h (by rw [hq, e]); have := hown1 q hq; have := fK.size; omega); replace f1 := f1.keepsRow f0 k8 (fun q hq e => H2.out.2.2.2.2.2 q e hq); (try replace fz48 := k8.obj fz48 (fun e => by obtain ⟨c, hc⟩ := f0.obj e; exact ne_of_obj fz48 hc (by decide) rfl)); (try replace fu49 := k8.obj fu49 (fun e => by have := hown0 _ e; omega)); replace fr := k8.obj fr hr; replace fK := fK.trans k8; clear f0 fz41 fu42 o8 k8
           refine hK.out _ _ (by exact hS _ fK) (fun hHeldn => ?_)
           clear hHeld hK K
           have hHeld := hHeldn
           clear hHeldn
           try simp only [Act.put, qA, qB, qC, qD, qE, qF]
           refine wpAnyF_ready (rs := [15]) (by kernel_rfl) (by simp) ?_
           refine (AllReadyF.last rfl (by kernel_rfl) (fun K hK => ?_) AllReadyF.nil)
           refine step_app64 rfl _ _ (.tmp 48) rfl rfl f1 rfl rfl fu49 fz48 n48 (Nat.le_trans hrl fK.size) (by omega) ?_; intro g15 c15 x15 f15 k15 o15; have hne15 : g8 ≠ g15 := (fun e => by rcases o15 with h | h; exact hg8 g15 h e; obtain ⟨c, hc⟩ := f8.obj (g := g8) rfl; have := block_lt hc; omega); replace f8 := f8.keepsRow f1 k15 (fun q hq e => hg8 q e (Option.some.inj hq)); have hr1 : ¬ s1.ownBlock = some r := (fun e => by have := f1.choose_spec.2.1 r e; omega); replace fr := k15.obj fr hr1; have fB : Below r wo x15 := H2.out.1.trans ((fK.below (Nat.le_of_lt hrl) (fun q hq => by have := H2.out.2.2.2.1.choose_spec.2.1 q hq; omega)).trans (k15.below (Nat.le_trans (Nat.le_of_lt hrl) fK.size) (fun q hq => by have := f1.choose_spec.2.1 q hq; omega))); have d0 := cell_obj fr 0; have d1 := cell_obj fr 1; have e0 := free_obj fr 0; have e1 := free_obj fr 1; clear fu49 fz48 f1
           refine hK.out _ _ (trivial) (fun hHeldn => ?_)
           clear hHeld hK K
           have hHeld := hHeldn
           clear hHeldn
           try simp only [Act.put, qA, qB, qC, qD, qE, qF]
           refine gP (i := 16) (v := ?kv80) rfl ?ky80 ?kr80
           case ky80 => (intro w hSw; clear hSw; (try simp only [qA, qB, qC]); go_simp; (try with_reducible rfl))
           try simp only [Act.put, qA, qB, qC, qD, qE, qF]
           refine gP (i := 17) (v := ?kv81) rfl ?ky81 ?kr81
           case ky81 => (intro w hSw; clear hSw; (try simp only [qA, qB, qC]); go_simp; (try with_reducible rfl))
           try simp only [Act.put, qA, qB, qC, qD, qE, qF]
           refine wpAnyF_ready (rs := [18]) (by kernel_rfl) (by simp) ?_
           refine (AllReadyF.last rfl (by kernel_rfl) (fun K hK => ?_) AllReadyF.nil)
           try simp only [qA, qB, qC]
           go_simp
           refine hK.out _ _ (trivial) (fun hHeldn => ?_)
           clear hHeld hK K
           have hHeld := hHeldn
           clear hHeldn
           try simp only [qD, qE, qF]
           refine gP (i := 19) (v := ?kv83) rfl ?ky83 ?kr83
           case ky83 => (intro w hSw; clear hSw; (try simp only [qA, qB, qC]); go_simp; (try with_reducible rfl))
           try simp only [Act.put, qA, qB, qC, qD, qE, qF]
           refine gP (i := 20) (v := ?kv84) rfl ?ky84 ?kr84
           case ky84 => (intro w hSw; clear hSw; (try simp only [qA, qB, qC]); go_simp; (try with_reducible rfl))
           try simp only [Act.put, qA, qB, qC, qD, qE, qF]
           refine wpAnyF_ready (rs := [21]) (by kernel_rfl) (by simp) ?_
           refine (AllReadyF.last rfl (by kernel_rfl) (fun K hK => ?_) AllReadyF.nil)
           try simp only [qA, qB, qC]
           go_simp
           refine hK.out _ _ (trivial) (fun hHeldn => ?_)
           clear hHeld hK K
           have hHeld := hHeldn
           clear hHeldn
           try simp only [qD, qE, qF]
           refine wpAnyF_done (by kernel_rfl) ?_ _
           have hfin := NewSt.next fB fr f8 f15 (fun q hq e => hne15 ((Option.some.inj hq).trans (Option.some.inj e).symm))
           go_wp2_with fail
           go_roundw
           case rel => exact ⟨k + 1, by omega, by go_num, hfin⟩
           case measure => simp [intOf]; omega
         case kb68x1 =>
          refine step_lit64 rfl _ rfl rfl ?_; intro x14 hx14; have n49 := fK.size; (try replace f0 := f0.below (below_alloc hx14)); (try replace f1 := f1.below (below_alloc hx14)); (try replace f8 := f8.below (below_alloc hx14)); (try replace fz41 := grow_obj (below_alloc hx14) fz41); (try replace fu42 := grow_obj (below_alloc hx14) fu42); (try replace fz48 := grow_obj (below_alloc hx14) fz48); (try replace fu49 := grow_obj (below_alloc hx14) fu49); replace fr := grow_obj (below_alloc hx14) fr; replace fK := fK.trans (Keeps.of_below (below_alloc hx14)); have fu49 := obj_alloc hx14; clear hx14
          refine hK.out _ _ (by exact hS _ fK) (fun hHeldn => ?_)
          clear hHeld hK K
          have hHeld := hHeldn
          clear hHeldn
          try simp only [Act.put, qA, qB, qC, qD, qE, qF]
          refine wpAnyF_ready (rs := [7]) (by kernel_rfl) (by simp) ?_
          refine (AllReadyF.cons rfl (fun K hK => ?_) AllReadyF.nil)
          refine step_lit64 rfl _ rfl rfl ?_; intro x7 hx7; (try replace f0 := f0.below (below_alloc hx7)); (try replace f1 := f1.below (below_alloc hx7)); (try replace f8 := f8.below (below_alloc hx7)); (try replace fz41 := grow_obj (below_alloc hx7) fz41); (try replace fu42 := grow_obj (below_alloc hx7) fu42); (try replace fz48 := grow_obj (below_alloc hx7) fz48); (try replace fu49 := grow_obj (below_alloc hx7) fu49); replace fr := grow_obj (below_alloc hx7) fr; replace fK := fK.trans (Keeps.of_below (below_alloc hx7)); have fu42 := obj_alloc hx7; clear hx7
          refine hK.out _ _ (by exact hS _ fK) (fun hHeldn => ?_)
          clear hHeld hK K
          have hHeld := hHeldn
          clear hHeldn
          try simp only [Act.put, qA, qB, qC, qD, qE, qF]
          refine wpAnyF_ready (rs := [8]) (by kernel_rfl) (by simp) ?_
          refine (AllReadyF.cons rfl (fun K hK => ?_) AllReadyF.nil)
          refine step_app64 rfl _ _ (.tmp 41) rfl rfl f0 rfl rfl fu42 fz41 n41 (Nat.le_trans hrl fK.size) (by omega) ?_; intro g8 c8 x8 f8 k8 o8; have hg8 : ∀ q, s1.ownBlock = some q → g8 ≠ q := (fun q hq e => by rcases o8 with h | h; exact H2.out.2.2.2.2.2 g8 h (by rw [hq, e]); have := hown1 q hq; have := fK.size; omega); replace f1 := f1.keepsRow f0 k8 (fun q hq e => H2.out.2.2.2.2.2 q e hq); (try replace fz48 := k8.obj fz48 (fun e => by obtain ⟨c, hc⟩ := f0.obj e; exact ne_of_obj fz48 hc (by decide) rfl)); (try replace fu49 := k8.obj fu49 (fun e => by have := hown0 _ e; omega)); replace fr := k8.obj fr hr; replace fK := fK.trans k8; clear f0 fz41 fu42 o8 k8
          refine hK.out _ _ (by exact hS _ fK) (fun hHeldn => ?_)
          clear hHeld hK K
          have hHeld := hHeldn
          clear hHeldn
          try simp only [Act.put, qA, qB, qC, qD, qE, qF]
          refine wpAnyF_ready (rs := [15]) (by kernel_rfl) (by simp) ?_
          refine (AllReadyF.last rfl (by kernel_rfl) (fun K hK => ?_) AllReadyF.nil)
          refine step_app64 rfl _ _ (.tmp 48) rfl rfl f1 rfl rfl fu49 fz48 n48 (Nat.le_trans hrl fK.size) (by omega) ?_; intro g15 c15 x15 f15 k15 o15; have hne15 : g8 ≠ g15 := (fun e => by rcases o15 with h | h; exact hg8 g15 h e; obtain ⟨c, hc⟩ := f8.obj (g := g8) rfl; have := block_lt hc; omega); replace f8 := f8.keepsRow f1 k15 (fun q hq e => hg8 q e (Option.some.inj hq)); have hr1 : ¬ s1.ownBlock = some r := (fun e => by have := f1.choose_spec.2.1 r e; omega); replace fr := k15.obj fr hr1; have fB : Below r wo x15 := H2.out.1.trans ((fK.below (Nat.le_of_lt hrl) (fun q hq => by have := H2.out.2.2.2.1.choose_spec.2.1 q hq; omega)).trans (k15.below (Nat.le_trans (Nat.le_of_lt hrl) fK.size) (fun q hq => by have := f1.choose_spec.2.1 q hq; omega))); have d0 := cell_obj fr 0; have d1 := cell_obj fr 1; have e0 := free_obj fr 0; have e1 := free_obj fr 1; clear fu49 fz48 f1
          refine hK.out _ _ (trivial) (fun hHeldn => ?_)
          clear hHeld hK K
          have hHeld := hHeldn
          clear hHeldn
          try simp only [Act.put, qA, qB, qC, qD, qE, qF]
          refine gP (i := 16) (v := ?kv89) rfl ?ky89 ?kr89
          case ky89 => (intro w hSw; clear hSw; (try simp only [qA, qB, qC]); go_simp; (try with_reducible rfl))
          try simp only [Act.put, qA, qB, qC, qD, qE, qF]
          refine gP (i := 17) (v := ?kv90) rfl ?ky90 ?kr90
          case ky90 => (intro w hSw; clear hSw; (try simp only [qA, qB, qC]); go_simp; (try with_reducible rfl))
          try simp only [Act.put, qA, qB, qC, qD, qE, qF]
          refine wpAnyF_ready (rs := [18]) (by kernel_rfl) (by simp) ?_
          refine (AllReadyF.last rfl (by kernel_rfl) (fun K hK => ?_) AllReadyF.nil)
          try simp only [qA, qB, qC]
          go_simp
          refine hK.out _ _ (trivial) (fun hHeldn => ?_)
          clear hHeld hK K
          have hHeld := hHeldn
          clear hHeldn
          try simp only [qD, qE, qF]
          refine gP (i := 19) (v := ?kv92) rfl ?ky92 ?kr92
          case ky92 => (intro w hSw; clear hSw; (try simp only [qA, qB, qC]); go_simp; (try with_reducible rfl))
          try simp only [Act.put, qA, qB, qC, qD, qE, qF]
          refine gP (i := 20) (v := ?kv93) rfl ?ky93 ?kr93
          case ky93 => (intro w hSw; clear hSw; (try simp only [qA, qB, qC]); go_simp; (try with_reducible rfl))
          try simp only [Act.put, qA, qB, qC, qD, qE, qF]
          refine wpAnyF_ready (rs := [21]) (by kernel_rfl) (by simp) ?_
          refine (AllReadyF.last rfl (by kernel_rfl) (fun K hK => ?_) AllReadyF.nil)
          try simp only [qA, qB, qC]
          go_simp
          refine hK.out _ _ (trivial) (fun hHeldn => ?_)
          clear hHeld hK K
          have hHeld := hHeldn
          clear hHeldn
          try simp only [qD, qE, qF]
          refine wpAnyF_done (by kernel_rfl) ?_ _
          have hfin := NewSt.next fB fr f8 f15 (fun q hq e => hne15 ((Option.some.inj hq).trans (Option.some.inj e).symm))
          go_wp2_with fail
          go_roundw
          case rel => exact ⟨k + 1, by omega, by go_num, hfin⟩
          case measure => simp [intOf]; omega
        case kb67x1 =>
         refine step_lit64 rfl _ rfl rfl ?_; intro x14 hx14; have n49 := fK.size; (try replace f0 := f0.below (below_alloc hx14)); (try replace f1 := f1.below (below_alloc hx14)); (try replace f8 := f8.below (below_alloc hx14)); (try replace fz41 := grow_obj (below_alloc hx14) fz41); (try replace fu42 := grow_obj (below_alloc hx14) fu42); (try replace fz48 := grow_obj (below_alloc hx14) fz48); (try replace fu49 := grow_obj (below_alloc hx14) fu49); replace fr := grow_obj (below_alloc hx14) fr; replace fK := fK.trans (Keeps.of_below (below_alloc hx14)); have fu49 := obj_alloc hx14; clear hx14
         refine hK.out _ _ (by exact hS _ fK) (fun hHeldn => ?_)
         clear hHeld hK K
         have hHeld := hHeldn
         clear hHeldn
         try simp only [Act.put, qA, qB, qC, qD, qE, qF]
         refine wpAnyF_ready (rs := [6]) (by kernel_rfl) (by simp) ?_
         refine (AllReadyF.cons rfl (fun K hK => ?_) AllReadyF.nil)
         refine step_make64 rfl rfl ?_; intro x6 hx6; have n41 := Nat.le_trans hrl fK.size; (try replace f0 := f0.below (below_alloc hx6)); (try replace f1 := f1.below (below_alloc hx6)); (try replace f8 := f8.below (below_alloc hx6)); (try replace fz41 := grow_obj (below_alloc hx6) fz41); (try replace fu42 := grow_obj (below_alloc hx6) fu42); (try replace fz48 := grow_obj (below_alloc hx6) fz48); (try replace fu49 := grow_obj (below_alloc hx6) fu49); replace fr := grow_obj (below_alloc hx6) fr; replace fK := fK.trans (Keeps.of_below (below_alloc hx6)); have fz41 := obj_alloc hx6; clear hx6
         refine hK.out _ _ (by exact hS _ fK) (fun hHeldn => ?_)
         clear hHeld hK K
         have hHeld := hHeldn
         clear hHeldn
         try simp only [Act.put, qA, qB, qC, qD, qE, qF]
         refine wpAnyF_ready (rs := [7]) (by kernel_rfl) (by simp) ?_
         refine (AllReadyF.cons rfl (fun K hK => ?_) AllReadyF.nil)
         refine step_lit64 rfl _ rfl rfl ?_; intro x7 hx7; (try replace f0 := f0.below (below_alloc hx7)); (try replace f1 := f1.below (below_alloc hx7)); (try replace f8 := f8.below (below_alloc hx7)); (try replace fz41 := grow_obj (below_alloc hx7) fz41); (try replace fu42 := grow_obj (below_alloc hx7) fu42); (try replace fz48 := grow_obj (below_alloc hx7) fz48); (try replace fu49 := grow_obj (below_alloc hx7) fu49); replace fr := grow_obj (below_alloc hx7) fr; replace fK := fK.trans (Keeps.of_below (below_alloc hx7)); have fu42 := obj_alloc hx7; clear hx7
         refine hK.out _ _ (by exact hS _ fK) (fun hHeldn => ?_)
         clear hHeld hK K
         have hHeld := hHeldn
         clear hHeldn
         try simp only [Act.put, qA, qB, qC, qD, qE, qF]
         refine wpAnyF_ready (rs := [8]) (by kernel_rfl) (by simp) ?_
         refine (AllReadyF.cons rfl (fun K hK => ?_) AllReadyF.nil)
         refine step_app64 rfl _ _ (.tmp 41) rfl rfl f0 rfl rfl fu42 fz41 n41 (Nat.le_trans hrl fK.size) (by omega) ?_; intro g8 c8 x8 f8 k8 o8; have hg8 : ∀ q, s1.ownBlock = some q → g8 ≠ q := (fun q hq e => by rcases o8 with h | h; exact H2.out.2.2.2.2.2 g8 h (by rw [hq, e]); have := hown1 q hq; have := fK.size; omega); replace f1 := f1.keepsRow f0 k8 (fun q hq e => H2.out.2.2.2.2.2 q e hq); (try replace fz48 := k8.obj fz48 (fun e => by obtain ⟨c, hc⟩ := f0.obj e; exact ne_of_obj fz48 hc (by decide) rfl)); (try replace fu49 := k8.obj fu49 (fun e => by have := hown0 _ e; omega)); replace fr := k8.obj fr hr; replace fK := fK.trans k8; clear f0 fz41 fu42 o8 k8
         refine hK.out _ _ (by exact hS _ fK) (fun hHeldn => ?_)
         clear hHeld hK K
         have hHeld := hHeldn
         clear hHeldn
         try simp only [Act.put, qA, qB, qC, qD, qE, qF]
         refine wpAnyF_ready (rs := [15]) (by kernel_rfl) (by simp) ?_
         refine (AllReadyF.last rfl (by kernel_rfl) (fun K hK => ?_) AllReadyF.nil)
         refine step_app64 rfl _ _ (.tmp 48) rfl rfl f1 rfl rfl fu49 fz48 n48 (Nat.le_trans hrl fK.size) (by omega) ?_; intro g15 c15 x15 f15 k15 o15; have hne15 : g8 ≠ g15 := (fun e => by rcases o15 with h | h; exact hg8 g15 h e; obtain ⟨c, hc⟩ := f8.obj (g := g8) rfl; have := block_lt hc; omega); replace f8 := f8.keepsRow f1 k15 (fun q hq e => hg8 q e (Option.some.inj hq)); have hr1 : ¬ s1.ownBlock = some r := (fun e => by have := f1.choose_spec.2.1 r e; omega); replace fr := k15.obj fr hr1; have fB : Below r wo x15 := H2.out.1.trans ((fK.below (Nat.le_of_lt hrl) (fun q hq => by have := H2.out.2.2.2.1.choose_spec.2.1 q hq; omega)).trans (k15.below (Nat.le_trans (Nat.le_of_lt hrl) fK.size) (fun q hq => by have := f1.choose_spec.2.1 q hq; omega))); have d0 := cell_obj fr 0; have d1 := cell_obj fr 1; have e0 := free_obj fr 0; have e1 := free_obj fr 1; clear fu49 fz48 f1
         refine hK.out _ _ (trivial) (fun hHeldn => ?_)
         clear hHeld hK K
         have hHeld := hHeldn
         clear hHeldn
         try simp only [Act.put, qA, qB, qC, qD, qE, qF]
         refine gP (i := 16) (v := ?kv99) rfl ?ky99 ?kr99
         case ky99 => (intro w hSw; clear hSw; (try simp only [qA, qB, qC]); go_simp; (try with_reducible rfl))
         try simp only [Act.put, qA, qB, qC, qD, qE, qF]
         refine gP (i := 17) (v := ?kv100) rfl ?ky100 ?kr100
         case ky100 => (intro w hSw; clear hSw; (try simp only [qA, qB, qC]); go_simp; (try with_reducible rfl))
         try simp only [Act.put, qA, qB, qC, qD, qE, qF]
         refine wpAnyF_ready (rs := [18]) (by kernel_rfl) (by simp) ?_
         refine (AllReadyF.last rfl (by kernel_rfl) (fun K hK => ?_) AllReadyF.nil)
         try simp only [qA, qB, qC]
         go_simp
         refine hK.out _ _ (trivial) (fun hHeldn => ?_)
         clear hHeld hK K
         have hHeld := hHeldn
         clear hHeldn
         try simp only [qD, qE, qF]
         refine gP (i := 19) (v := ?kv102) rfl ?ky102 ?kr102
         case ky102 => (intro w hSw; clear hSw; (try simp only [qA, qB, qC]); go_simp; (try with_reducible rfl))
         try simp only [Act.put, qA, qB, qC, qD, qE, qF]
         refine gP (i := 20) (v := ?kv103) rfl ?ky103 ?kr103
         case ky103 => (intro w hSw; clear hSw; (try simp only [qA, qB, qC]); go_simp; (try with_reducible rfl))
         try simp only [Act.put, qA, qB, qC, qD, qE, qF]
         refine wpAnyF_ready (rs := [21]) (by kernel_rfl) (by simp) ?_
         refine (AllReadyF.last rfl (by kernel_rfl) (fun K hK => ?_) AllReadyF.nil)
         try simp only [qA, qB, qC]
         go_simp
         refine hK.out _ _ (trivial) (fun hHeldn => ?_)
         clear hHeld hK K
         have hHeld := hHeldn
         clear hHeldn
         try simp only [qD, qE, qF]
         refine wpAnyF_done (by kernel_rfl) ?_ _
         have hfin := NewSt.next fB fr f8 f15 (fun q hq e => hne15 ((Option.some.inj hq).trans (Option.some.inj e).symm))
         go_wp2_with fail
         go_roundw
         case rel => exact ⟨k + 1, by omega, by go_num, hfin⟩
         case measure => simp [intOf]; omega
     · obtain rfl : k = n := by omega
       have hkk : ¬ ((k : Int) < (k : Int)) := by omega
       have hbb := hst.below
       rw [H1.out.2] at hbb
       have hM2 := HM.out.1.grow hbb
       have c0 := cell_obj hM2.obj 0
       have hM3 := hM2.grow (grow_alloc (Below.refl wr.heap.size wr) (.cells #[.pointer (some ⟨r, 0, none⟩)] 203))
       have hreg := hst.reg.keeps (S' := fun q => r ≤ q ∧ q < wr.heap.size) (Keeps.of_below_size (grow_alloc (Below.refl wr.heap.size wr) (.cells #[.pointer (some ⟨r, 0, none⟩)] 203))) (fun g hg e => by omega) (fun _ h _ => h)
       have hx3 : objAt (wr.alloc (.cells #[.pointer (some ⟨r, 0, none⟩)] 203)) wr.heap.size = some (.cells #[.pointer (some ⟨r, 0, none⟩)] 203 (0, 0)) := by rw [objAt_alloc, if_pos rfl]
       have H3 := Lib.hid (And.intro hM3 (And.intro hreg hx3))
       have hd : d < r := by rw [H1.out.2]; exact block_lt HM.out.1.obj
       have hrw := hst.lt
       have hrs : rs.length < 1000000 := by have := HM.out.1.len; omega
       clear hst hbb hM2 hM3 hreg hx3
       go_wp2_with (at_builtin; refine list_appG elemRegionK (v := lv) rfl _ _ rfl rfl H3.out.1.row rfl H3.out.2.2 rfl (by simp [Value.oneCell']) hrs PEl r (fun _ _ => ⟨fun _ _ h => h, rfl⟩) ?_; intro g2 cap2 w2 hv2 hk2 ho2 hl2; obtain ⟨hod2, hM4⟩ := H3.out.1.push H3.out.2.1 HM.out.2 (fun g hg => by rw [H1.out.2]; exact HM.out.1.row.lt hg) (fun j q hq => by rw [H1.out.2]; exact (HM.out.1.foot j q hq).2.1) hd (by rw [size_alloc]; omega) hv2 (fun q hq => hq.elim id (fun h => by rw [size_alloc] at h; have := H3.out.2.1; omega)) hk2 ho2; have d0 := cell_obj hod2 0; have e0 := free_obj hod2 0)
       go_roundw
       case rel => exact ⟨ko + 1, by omega, by go_num, hM4⟩
       case measure => simp [intOf]; omega
  · have hn : ¬ ((ko : Int) < (l.length : Int)) := by omega
    have HM := Lib.hid hM
    clear hM
    go_wp2_with fail
    go_ret2
    have hM := HM.out
    exact ⟨d, rfl, Mid.done ⟨_, _, _, hM⟩ (by omega) (by omega) (by omega) Hc.out.2, hM.below⟩
end Go.Proofs.YtbbnejehglonjaaGreat
