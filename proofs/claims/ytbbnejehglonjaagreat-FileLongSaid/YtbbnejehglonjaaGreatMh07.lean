/- DERIVED. Contracts and laws that the proofs of this seat share, part 7 of 36: LibQ PaD PaE LibR Back PaF. -/
import Derived.Laws.CopyOwn
import Derived.Test.YtbbnejehglonjaaGreatMh00
import Derived.Test.YtbbnejehglonjaaGreatMh04
import Derived.Test.YtbbnejehglonjaaGreatMh06
namespace Go.Proofs.YtbbnejehglonjaaGreat
set_option maxHeartbeats 8000000
set_option maxRecDepth 100000
set_option linter.unusedSimpArgs false
set_option linter.unusedVariables false
section
open Go.RowKit
attribute [local go_sem] hasBlk
attribute [local irreducible] Calls

theorem conv_at {w : World} {a : Option Addr} {l : List UInt8} (cap : Nat) (h : BytesAt w a l) : (Go.convert 22 9 (.slice a l.length cap)).run Tryz.prog w = .ok (.string ⟨l.toArray⟩) w := by
 obtain ⟨b, off, h1, h2⟩ := h
 cases a with
 | none =>
   have h0 : l = [] := by
    cases l with
    | nil => rfl
    | cons c l => simp at h1
   subst h0
   rw [run_convert_bytes_string (P := Tryz.prog) w 22 9 5 none _ _ Tryz.underlying22 Tryz.underlying5 Tryz.underlying9]; rfl
 | some ad =>
   refine run_convert_bytes_back (P := Tryz.prog) w 22 9 5 ad cap l Tryz.underlying22 Tryz.underlying5 Tryz.underlying9 (fun j hj => ?_)
   obtain rfl := Option.some.inj (h1 (by omega))
   have := h2 j hj
   unfold Addr.add
   split
   · rename_i e; subst e; exact this
   · exact this

theorem Equal_any (a1 a2 : Option Addr) (l1 l2 : List UInt8) (c1 c2 : Nat) (w : World) (h1 : BytesAt w a1 l1) (h2 : BytesAt w a2 l2) :
 Calls Tryz.prog 203 #[.slice a1 l1.length c1, .slice a2 l2.length c2] w fun e w' => e = .returned (.bool (l1 == l2)) ∧ w' = w := by
 have e1 := conv_at c1 h1
 have e2 := conv_at c2 h2
 go_enter Tryz.func203, Tryz.ntmps203
 go_wp2_with fail
 go_ret
 exact ⟨rfl, rfl⟩

def Blk.over (b : Blk) (l : List UInt8) : Blk := ⟨b.kind, l.take 56 ++ b.body.drop (min l.length 56), by rw [List.length_append, List.length_take, List.length_drop, b.len]; omega⟩
theorem Blk.over_cells (b : Blk) (l : List UInt8) : (b.cells.toList.take 1 ++ (l.take 56).map (fun c => Value.int .u8 (c.toNat : Int)) ++ b.cells.toList.drop (1 + (l.take 56).length)).toArray = (b.over l).cells := by
 simp only [Blk.cells, Blk.over, List.map_append, List.take_succ_cons, List.take_zero, List.length_take]
 rw [Nat.add_comm 1, List.drop_succ_cons, List.map_drop, Nat.min_comm 56]
 simp
theorem run_copyBlk {w : World} {g : Nat} {b : Blk} (hb : BlkAt w g b) {ad : Addr} {l : List UInt8} (c : Nat) (hl : BytesAt w (some ad) l) (ty : TypeId) :
 (Builtin.copy_ #[22, 22] ty #[.slice (some ⟨g, 1, none⟩) 56 56, .slice (some ad) l.length c]).run Tryz.prog w = .ok (goInt ((min l.length 56 : Nat) : Int)) (w.setRow g (b.over l).cells) := by
 obtain ⟨b', off, h1, h2⟩ := hl
 have hlen : ((l.take 56).map fun c => Value.int .u8 (c.toNat : Int)).length = min l.length 56 := by rw [List.length_map, List.length_take]; omega
 have := run_copy_row (P := Tryz.prog) w 22 22 ty 5 g 1 56 56 ad l.length c b.cells 37 ((l.take 56).map fun c => Value.int .u8 (c.toNat : Int)) Tryz.underlying22 (by kernel_rfl) hb hlen
  (by
   intro j u hj
   rw [List.getElem?_map] at hj
   cases hy : (l.take 56)[j]? with
   | none => rw [hy] at hj; cases hj
   | some x =>
     rw [hy] at hj
     obtain rfl := Option.some.inj hj
     obtain ⟨hlt, rfl⟩ := List.getElem?_eq_some_iff.1 hy
     have hjl : j < l.length := by rw [List.length_take] at hlt; omega
     obtain rfl := Option.some.inj (h1 (by omega))
     have := h2 j hjl
     rw [List.getElem_take]
     unfold Addr.add
     split
     · rename_i e; subst e; exact this
     · exact this) (by rw [b.size_cells, hlen]; omega) (by intro x hx; simp only [List.mem_map] at hx; obtain ⟨c, _, rfl⟩ := hx; rfl)
 rw [this, List.length_map, b.over_cells l, List.length_take, Nat.min_comm]
theorem wp_copyBlk {o : Oper} {a : Act} {w : World} {K : Act → World → Prop} {Q : Exit → Act → World → Prop} (d s : Operand) (ho : o.op = .call { callee := .builtin .copy, args := #[d, s], argTypes := #[22, 22] })
 {g : Nat} (hd : a.eval d = .slice (some ⟨g, 1, none⟩) 56 56) {ad : Addr} {l : List UInt8} {c : Nat} (hs : a.eval s = .slice (some ad) l.length c) {b : Blk} (hb : BlkAt w g b) (hl : BytesAt w (some ad) l)
 (h : K (a.put o.dst (goInt ((min l.length 56 : Nat) : Int))) (w.setRow g (b.over l).cells)) : o.wp Tryz.prog a w K Q := by
 unfold Oper.wp execOp
 simp only [ho, resolve, invoke, builtin, Sem.run_bind, Sem.run_pure, Result.andThen_ok, List.map_toArray, List.map_cons, List.map_nil, hd, hs]
 rw [run_copyBlk hb c hl]
 exact h
theorem step_copyBlk {ops : Array Oper} {o : Oper} {a b0 : Act} {w : World} {K : Act → World → Prop} {Q : Exit → Act → World → Prop} {F : Prop} (hgd : o.guard = none) (d s : Operand) (ho : o.op = .call { callee := .builtin .copy, args := #[d, s], argTypes := #[22, 22] })
 {g : Nat} (hd : a.eval d = .slice (some ⟨g, 1, none⟩) 56 56) {ad : Addr} {l : List UInt8} {c : Nat} (hs : a.eval s = .slice (some ad) l.length c) {b b' : Blk} (hb : BlkAt w g b) (hl : BytesAt w (some ad) l) (he : b.over l = b')
 (h : K (a.put o.dst (goInt ((min l.length 56 : Nat) : Int))) (w.setRow g b'.cells)) : if Region.wanted o (yielded ops b0.tmps) = true then Oper.wp Tryz.prog o a w K Q else F := by
 have hw : Region.wanted o (yielded ops b0.tmps) = true := by simp [Region.wanted, hgd]
 rw [if_pos hw]
 subst he
 exact wp_copyBlk d s ho hd hs hb hl h
end
section
open Go.RowKit
attribute [local irreducible] Calls

theorem sealB_body (lb : UInt8) (a : Nat) (b : Blk) : ((sealB lb a b).drop 4).take 56 = b.body := by
 unfold sealB sealHead
 simp only [List.cons_append, List.nil_append, List.drop_succ_cons, List.drop_zero]
 rw [← b.len, List.take_left]
theorem sealB_kind (lb : UInt8) (a : Nat) (b : Blk) (hk : 0 ≤ b.kind ∧ b.kind ≤ 7) : (((sealB lb a b).getD 0 0).toNat : Int) = b.kind := by
 obtain ⟨k, hk'⟩ := Int.eq_ofNat_of_zero_le hk.1
 have : (sealB lb a b).getD 0 0 = UInt8.ofNat b.kind.toNat := rfl
 rw [this, hk']
 simp; omega
theorem BytesAt.drop {w : World} {g off n : Nat} {l : List UInt8} (h : BytesAt w (some ⟨g, off, none⟩) l) (h0 : 0 < l.length) : BytesAt w (some ⟨g, off + n, none⟩) (l.drop n) := by
 obtain ⟨b, o, h1, h2⟩ := h
 have := Option.some.inj (h1 h0)
 simp only [Addr.mk.injEq, and_true] at this
 obtain ⟨rfl, rfl⟩ := this
 refine ⟨g, off + n, fun _ => rfl, fun i hi => ?_⟩
 rw [List.length_drop] at hi
 have := h2 (n + i) (by omega)
 rw [← Nat.add_assoc] at this
 rw [this, List.getElem_drop]
theorem BytesAt.take {w : World} {g off n : Nat} {l : List UInt8} (h : BytesAt w (some ⟨g, off, none⟩) l) (h0 : 0 < l.length) : BytesAt w (some ⟨g, off, none⟩) (l.take n) := by
 obtain ⟨b, o, h1, h2⟩ := h
 have := Option.some.inj (h1 h0)
 simp only [Addr.mk.injEq, and_true] at this
 obtain ⟨rfl, rfl⟩ := this
 refine ⟨g, off, fun _ => rfl, fun i hi => ?_⟩
 rw [List.length_take] at hi
 have := h2 i (by omega)
 rw [this, List.getElem_take]

theorem BlkAt.setKind {w : World} {g : Nat} {b : Blk} (h : BlkAt w g b) (k : Int) : BlkAt (w.setCell ⟨g, 0, none⟩ (.int .i64 k)) g ⟨k, b.body, b.len⟩ := by
 unfold BlkAt; rw [heap_setCell_same h]
 simp [Blk.cells]
theorem Open_any (lb : UInt8) (a : Nat) (b : Blk) (hk : 0 ≤ b.kind ∧ b.kind ≤ 7) (ha : a < 200) (g cap : Nat) (w : World) (h : BytesAt w (some ⟨g, 0, none⟩) (sealB lb a b)) (hcap : 64 ≤ cap) :
 Calls Tryz.prog 173 #[.int .u8 (lb.toNat : Int), .int .i64 a, .slice (some ⟨g, 0, none⟩) 64 cap] w fun e w' => e = .returned (.tuple #[.agg b.cells, .bool true]) ∧ Below w.heap.size w w' := by
 have hX : BlkAt ((w.alloc (.cells Blk.zero.cells 37)).alloc (.cells Blk.zero.cells 37)) w.heap.size Blk.zero := (BlkAt.alloc_new w Blk.zero).alloc _
 have hY : BlkAt ((w.alloc (.cells Blk.zero.cells 37)).alloc (.cells Blk.zero.cells 37)) (w.heap.size + 1) Blk.zero := by
  have := BlkAt.alloc_new (w.alloc (.cells Blk.zero.cells 37)) Blk.zero
  rw [size_alloc] at this
  exact this
 have hB : Below w.heap.size w ((w.alloc (.cells Blk.zero.cells 37)).alloc (.cells Blk.zero.cells 37)) := grow_alloc (grow_alloc (Below.refl _ _) _) _
 have hby := h.below hB
 have c0 : ((w.alloc (.cells Blk.zero.cells 37)).alloc (.cells Blk.zero.cells 37)).cell? ⟨g, 0, none⟩ = some (.int .u8 b.kind) := by
  obtain ⟨b', off, h1, h2⟩ := hby
  have := Option.some.inj (h1 (by rw [sealB_length]; decide))
  simp only [Addr.mk.injEq, and_true] at this
  obtain ⟨rfl, rfl⟩ := this
  have h3 := h2 0 (by rw [sealB_length]; decide)
  have h4 := sealB_kind lb a b hk
  rw [List.getD_eq_getElem?_getD, List.getElem?_eq_getElem (by rw [sealB_length]; decide), Option.getD_some] at h4
  rw [h4] at h3
  exact h3
 have hHx := hX.has
 have hHy := hY.has
 have hfy := hY.free 0
 have hcy : ((w.alloc (.cells Blk.zero.cells 37)).alloc (.cells Blk.zero.cells 37)).cell? ⟨w.heap.size + 1, 0, none⟩ = some (.int .i64 0) := by
  unfold BlkAt at hY
  simp only [World.cell?, hY]; rw [Blk.cell0]; kernel_rfl
 obtain ⟨H, hH⟩ : ∃ H, H = w.heap.size + 1 := ⟨_, rfl⟩
 obtain ⟨G, hG⟩ : ∃ G, G = w.heap.size := ⟨_, rfl⟩
 rw [← hH] at hY hHy hfy hcy
 rw [← hG] at hX hHx
 have HG := Lib.hid (And.intro hG hH)
 clear hG hH
 go_enter Tryz.func173, Tryz.ntmps173
 go_wp2_with fail
 refine wp_scope_none ?_
 go_upto_region 3 with fail
 rw [← HG.out.2, ← HG.out.1]
 obtain ⟨w0, hw0⟩ : ∃ w0, w0 = (w.alloc (.cells Blk.zero.cells 37)).alloc (.cells Blk.zero.cells 37) := ⟨_, rfl⟩
 rw [← hw0] at hX hHx hY hHy hfy hcy hB hby c0 ⊢
 clear hw0
 have hk0 := hY.setKind b.kind
 have hG1 : BlkAt (w0.setCell ⟨H, 0, none⟩ (.int .i64 b.kind)) G Blk.zero := hX.setCell_ne _ _ (by show G ≠ H; rw [HG.out.1, HG.out.2]; omega)
 have hHge : w.heap.size ≤ H := by rw [HG.out.2]; omega
 have hB1 : Below w.heap.size w (w0.setCell ⟨H, 0, none⟩ (.int .i64 b.kind)) := hB.trans ⟨rfl, rfl, rfl, by rw [size_setCell]; exact Nat.le_refl _, fun k hk => heap_setCell_ne (by show k ≠ H; omega) _⟩
 have hby1 := h.below hB1
 have HW := Lib.hid (And.intro hk0 (And.intro hG1 (And.intro hB1 hby1)))
 clear hk0 hG1 hB1 hby1 hB hby hX
 go_upto_region 4 with fail
 obtain ⟨w1, hw1⟩ : ∃ w1, w1 = w0.setCell ⟨H, 0, none⟩ (.int .i64 b.kind) := ⟨_, rfl⟩
 rw [← hw1] at HW ⊢
 clear hw1
 have hc60 : (60 : Int) ≤ (cap : Int) := by omega
 have hc4 : ¬ cap = 4 := by omega
 have hl56 : BytesAt w1 (some ⟨g, 4, none⟩) b.body := by
  have := (HW.out.2.2.2.drop (n := 4) (by rw [sealB_length]; decide)).take (n := 56) (by rw [List.length_drop, sealB_length]; decide)
  rw [sealB_body] at this; exact this
 have hov : Blk.over ⟨b.kind, Blk.zero.body, Blk.zero.len⟩ b.body = b := by
  refine Blk.ext' rfl ?_
  show b.body.take 56 ++ Blk.zero.body.drop (min b.body.length 56) = b.body
  rw [b.len, List.take_of_length_le (by rw [b.len]; exact Nat.le_refl _), List.drop_of_length_le (by rw [Blk.zero.len]; exact Nat.le_refl _), List.append_nil]
 have HL := Lib.hid (And.intro hl56 hov)
 clear hl56 hov
 refine wp_region_held_drew (S := fun w' => BlkAt w' G Blk.zero ∧ Below w.heap.size w w') (by kernel_rfl) (And.intro HW.out.2.1 HW.out.2.2.1.drew) (fun hHeld => ?_)
 show wpAnyH _ _ _ _ _ 5 #[false, false, false, false, false] _ _
 refine gT 0 ?_; try simp only [Act.put, qs]
 refine gT 1 ?_; try simp only [Act.put, qs]
 refine gT 2 ?_; try simp only [Act.put, qs]
 refine gT 3 ?_; try simp only [Act.put, qs]
 refine gY 4 fun K hK => ?_
 refine step_copyBlk rfl _ _ rfl rfl (by rw [b.len]; rfl) (show BlkAt w1.drew H _ from HW.out.1) (show BytesAt w1.drew _ _ from HL.out.1) HL.out.2 ?_
 refine hK.out _ _ (by exact ⟨by unfold BlkAt; rw [setRow_other _ _ _ _ (by rw [HG.out.1, HG.out.2]; omega)]; exact hHeld.1, hHeld.2.setRow hHge _⟩) (fun hN => ?_); replace hHeld := hN; clear hK K hN
 try simp only [Act.put, qs]
 refine wpAnyH_done (by kernel_rfl) ?_ _
 have hH2 : BlkAt (w1.drew.setRow H b.cells) H b := BlkAt.setRow (b := ⟨b.kind, Blk.zero.body, Blk.zero.len⟩) (show BlkAt w1.drew H _ from HW.out.1) b
 obtain ⟨w2, hw2⟩ : ∃ w2, w2 = w1.drew.setRow H b.cells := ⟨_, rfl⟩
 rw [← hw2] at hHeld hH2 ⊢
 clear hw2
 have hS := fun x => Seal_any lb a b hk ha x
 have H2 := Lib.hid (And.intro hHeld (And.intro hH2 hS))
 have hh2 := hH2.has
 have hr2 := hH2.row
 clear hHeld hH2 hS hHy hHx hfy hcy c0 hY
 go_wp2_with (first | (go_at_call 166; refine (H2.out.2.2 _).mono ?_; rintro e w3 ⟨g3, cap3, rfl, hb3, b3⟩; have hH3 := H2.out.2.1.below b3 (block_lt H2.out.2.1); have hG3 := H2.out.1.1.below b3 (block_lt H2.out.1.1); have hB3 := H2.out.1.2.trans (b3.mono H2.out.1.2.size); have hby3 := h.below hB3; have heq := Equal_any (some ⟨g3, 0, none⟩) (some ⟨g, 0, none⟩) (sealB lb a b) (sealB lb a b) cap3 cap w3 (BRow.bytesAt hb3).1 hby3; have hh4 := hH3.has; have hr4 := hH3.row; have hg4 := hG3.has) | (go_at_call 203; rw [sealB_length] at heq; refine heq.mono ?_; rintro e w4 ⟨rfl, rfl⟩))
 rw [jumps_ret]
 refine bodyPost_ret (results_two rfl (resOne_blk rfl (BlkAt.setRow hG3 b).row) (resOne_tmp _ _ _)) rfl ?_
 exact ⟨rfl, hB3.setRow (by rw [HG.out.1]; exact Nat.le_refl _) _⟩
end
section
open Go.RowKit
attribute [local go_sem] hasBlk
attribute [local irreducible] Calls

theorem high_take_succ (v n k : Nat) (h : k < n) : (high v n).take (k + 1) = (high v n).take k ++ [UInt8.ofNat (v / 256 ^ (n - 1 - k) % 256)] := by
 rw [List.take_succ_eq_append_getElem (by rw [high_length]; exact h), high_get v n k h]

theorem Keeps.chain {T S' : Nat → Prop} {w a b : World} (h1 : Keeps T w a) (h2 : Keeps S' a b) (h : ∀ k, k < w.heap.size → S' k → T k) : Keeps T w b :=
 ⟨h2.os.trans h1.os, h2.tape.trans h1.tape, h2.output.trans h1.output, Nat.le_trans h1.size h2.size, fun k hk hn => (h2.block k (Nat.lt_of_lt_of_le hk h1.size) (fun e => hn (h k hk e))).trans (h1.block k hk hn)⟩
theorem list_appOwn {ops : Array Oper} {o : Oper} {a : Act} {w : World} {Q : Exit → Act → World → Prop} {rest : List Oper} (hgd : o.guard = none) (s x : Operand) (ho : o.op = .call { callee := .builtin .append, args := #[s, x], argTypes := #[22, 22] })
 {base : Nat} {v : Value} {xs : List UInt8} (hs : a.eval s = v) (hown : BRow w base v xs) {b2 : Nat} {u : Value} {ys : List UInt8} (hx : a.eval x = u) (hu : BRow w b2 u ys) (hys : 0 < ys.length) (hsz : xs.length + ys.length < 2000000000) (hbase : base ≤ w.heap.size)
 (h : ∀ g cap w', BRow w' base (.slice (some ⟨g, 0, none⟩) (xs.length + ys.length) cap) (xs ++ ys) → Below base w w' → Keeps (fun q => v.ownBlock = some q) w w' → (v.ownBlock = some g ∨ g = w.heap.size) → wpList Tryz.prog ops Q rest (a.put o.dst (.slice (some ⟨g, 0, none⟩) (xs.length + ys.length) cap)) w') :
 wpList Tryz.prog ops Q (o :: rest) a w := by
 obtain ⟨g2, cap2, rfl, _, _⟩ := hu.form hys
 obtain ⟨i, z, hi, hz, hsi, hby, hzs⟩ := infoByte
 refine wpList_append_lies (P := Tryz.prog) w hgd s x 22 ho base 5 i z 1 1 Tryz.underlying22 hi hz hsi hby hzs (by decide) v xs.length _ hs hown ⟨g2, 0, none⟩ ys.length cap2 (ys.map fun c => Value.int .u8 c.toNat) hx
  (by simp) (World.ownsRow.cells hu (g := g2) rfl) (by intro x hx; simp only [List.mem_map] at hx; obtain ⟨c, _, rfl⟩ := hx; rfl) hys (by unfold maxLen; omega) (by omega) hbase w.heap.size rfl ?_
 intro g cap w' h2 h3 h4 _
 refine h g cap w' ?_ ((Below.refl base w).grown h3 hbase (fun k hk => (World.ownsRow.lt hown k hk).1)) ⟨h3.os, h3.tape, h3.output, h3.size, fun k' hk' hn' => h3.block k' hk' (fun e => hn' e.symm)⟩ h4
 unfold BRow
 rw [List.length_append, List.map_append]; exact h2
def But (v : Value) : Nat → Prop := fun q => v.ownBlock = some q

theorem number_own (v : Value) (xs : List UInt8) (x n : Nat) (B : Nat) (w : World) (hB : B ≤ w.heap.size) (h : BRow w B v xs) (hx : x < 4294967296) (hn : n ≤ 4) (hl : xs.length ≤ 1000) :
 Calls Tryz.prog 201 #[v, .int .u32 x, .int .i64 n] w fun e w' => ∃ v', e = .returned v' ∧ BRow w' B v' (xs ++ high x n) ∧ Below B w w' ∧ Keeps (But v) w w' ∧ (∀ g, v'.ownBlock = some g → v.ownBlock = some g ∨ w.heap.size ≤ g) := by
 go_enter Tryz.func201, Tryz.ntmps201
 go_wp2_with fail
 go_loopw [0, 7] (fun b i wr => ∃ (k : Nat) (V : Value), k ≤ n ∧ i = .int .i64 ((n : Int) - 1 - k) ∧ V = b ∧ BRow wr B V (xs ++ (high x n).take k) ∧ Below B w wr ∧ Keeps (But v) w wr ∧ (∀ g, V.ownBlock = some g → v.ownBlock = some g ∨ w.heap.size ≤ g)) (fun _ i _ => (intOf i + 1).toNat)
 case atStart => exact ⟨0, v, Nat.zero_le _, by simp, rfl, by rw [List.take_zero, List.append_nil]; exact h, Below.refl _ _, Keeps.refl _ _, fun g hg => .inl hg⟩
 case round =>
  obtain ⟨k, V, hk, rfl, rfl, hV, bV, kV, oV⟩ := hrel
  have HV := Lib.hid (And.intro hV (And.intro bV (And.intro kV oV)))
  clear hV bV kV oV h
  by_cases hlt : k < n
  · have Hs := Lib.hid (high_take_succ x n k hlt)
    have hlen : (xs ++ (high x n).take k).length ≤ 1004 := by rw [List.length_append, List.length_take, high_length]; omega
    have h4 : n - 1 - k < 4 := by omega
    obtain ⟨j, hj⟩ : ∃ j, j = n - 1 - k := ⟨_, rfl⟩
    have hji : (n : Int) - 1 - k = (j : Int) := by omega
    rw [hji]
    rw [← hj] at Hs h4
    have Hj := Lib.hid (And.intro hj hji)
    generalize hy : xs ++ (high x n).take k = ys at *
    have HY := Lib.hid hy
    clear hj hji hy
    have HB2 := Lib.hid (show ∀ o, B ≤ (wr.alloc o).heap.size from fun o => by rw [size_alloc]; have := HV.out.2.1.size; omega)
    obtain ⟨c, hc⟩ : ∃ c, c = UInt8.ofNat (x / 256 ^ j % 256) := ⟨_, rfl⟩
    rw [← hc] at Hs
    have hcase : j = 0 ∨ j = 1 ∨ j = 2 ∨ j = 3 := by omega
    rcases hcase with rfl | rfl | rfl | rfl
    · have hv : (x : Int) % 256 = (c.toNat : Int) := by rw [hc, ofNat_mod]; omega
      clear hc
      go_wp2_with (at_builtin; refine list_appOwn rfl _ _ rfl rfl (HV.out.1.alloc _) rfl (BRow.lit (B := 0) c rfl (by rw [objAt_alloc, if_pos rfl]) (Nat.zero_le _)) (by simp) (by show ys.length + 1 < 2000000000; omega) (HB2.out _) ?_; intro g2 cap2 w2 hB2 b2 k2 o2)
      have hb3 : Below B w w2 := (HV.out.2.1.alloc (Nat.le_trans hB HV.out.2.1.size) _).trans b2
      have e9 : ys ++ [c] = xs ++ (high x n).take (k + 1) := by rw [← HY.out, List.append_assoc, ← Hs.out]
      rw [e9] at hB2
      have hjj := Hj.out
      have hk3 : Keeps (But v) w w2 := (HV.out.2.2.1.trans (Keeps.of_below (grow_alloc (Below.refl _ _) _))).chain k2 (fun q hq e => (HV.out.2.2.2 q e).resolve_right (by omega))
      have ho3 : ∀ g, (Value.slice (some ⟨g2, 0, none⟩) (ys.length + 1) cap2).ownBlock = some g → v.ownBlock = some g ∨ w.heap.size ≤ g := fun g hg => by
       obtain rfl : g2 = g := Option.some.inj hg
       rcases o2 with o2 | o2
       · exact HV.out.2.2.2 _ o2
       · exact .inr (by rw [o2, size_alloc]; exact Nat.le_succ_of_le HV.out.2.2.1.size)
      go_roundw
      case rel => exact ⟨k + 1, _, by omega, by congr 1; omega, rfl, hB2, hb3, hk3, ho3⟩
      case measure => simp [intOf]
    · have hv : (x : Int) / 256 % 256 = (c.toNat : Int) := by rw [hc, ofNat_mod]; omega
      clear hc
      go_wp2_with (at_builtin; refine list_appOwn rfl _ _ rfl rfl (HV.out.1.alloc _) rfl (BRow.lit (B := 0) c rfl (by rw [objAt_alloc, if_pos rfl]) (Nat.zero_le _)) (by simp) (by show ys.length + 1 < 2000000000; omega) (HB2.out _) ?_; intro g2 cap2 w2 hB2 b2 k2 o2)
      have hb3 : Below B w w2 := (HV.out.2.1.alloc (Nat.le_trans hB HV.out.2.1.size) _).trans b2
      have e9 : ys ++ [c] = xs ++ (high x n).take (k + 1) := by rw [← HY.out, List.append_assoc, ← Hs.out]
      rw [e9] at hB2
      have hjj := Hj.out
      have hk3 : Keeps (But v) w w2 := (HV.out.2.2.1.trans (Keeps.of_below (grow_alloc (Below.refl _ _) _))).chain k2 (fun q hq e => (HV.out.2.2.2 q e).resolve_right (by omega))
      have ho3 : ∀ g, (Value.slice (some ⟨g2, 0, none⟩) (ys.length + 1) cap2).ownBlock = some g → v.ownBlock = some g ∨ w.heap.size ≤ g := fun g hg => by
       obtain rfl : g2 = g := Option.some.inj hg
       rcases o2 with o2 | o2
       · exact HV.out.2.2.2 _ o2
       · exact .inr (by rw [o2, size_alloc]; exact Nat.le_succ_of_le HV.out.2.2.1.size)
      go_roundw
      case rel => exact ⟨k + 1, _, by omega, by congr 1; omega, rfl, hB2, hb3, hk3, ho3⟩
      case measure => simp [intOf]
    · have hv : (x : Int) / 65536 % 256 = (c.toNat : Int) := by rw [hc, ofNat_mod]; omega
      clear hc
      go_wp2_with (at_builtin; refine list_appOwn rfl _ _ rfl rfl (HV.out.1.alloc _) rfl (BRow.lit (B := 0) c rfl (by rw [objAt_alloc, if_pos rfl]) (Nat.zero_le _)) (by simp) (by show ys.length + 1 < 2000000000; omega) (HB2.out _) ?_; intro g2 cap2 w2 hB2 b2 k2 o2)
      have hb3 : Below B w w2 := (HV.out.2.1.alloc (Nat.le_trans hB HV.out.2.1.size) _).trans b2
      have e9 : ys ++ [c] = xs ++ (high x n).take (k + 1) := by rw [← HY.out, List.append_assoc, ← Hs.out]
      rw [e9] at hB2
      have hjj := Hj.out
      have hk3 : Keeps (But v) w w2 := (HV.out.2.2.1.trans (Keeps.of_below (grow_alloc (Below.refl _ _) _))).chain k2 (fun q hq e => (HV.out.2.2.2 q e).resolve_right (by omega))
      have ho3 : ∀ g, (Value.slice (some ⟨g2, 0, none⟩) (ys.length + 1) cap2).ownBlock = some g → v.ownBlock = some g ∨ w.heap.size ≤ g := fun g hg => by
       obtain rfl : g2 = g := Option.some.inj hg
       rcases o2 with o2 | o2
       · exact HV.out.2.2.2 _ o2
       · exact .inr (by rw [o2, size_alloc]; exact Nat.le_succ_of_le HV.out.2.2.1.size)
      go_roundw
      case rel => exact ⟨k + 1, _, by omega, by congr 1; omega, rfl, hB2, hb3, hk3, ho3⟩
      case measure => simp [intOf]
    · have hv : (x : Int) / 16777216 = (c.toNat : Int) := by rw [hc, ofNat_mod]; omega
      clear hc
      go_wp2_with (at_builtin; refine list_appOwn rfl _ _ rfl rfl (HV.out.1.alloc _) rfl (BRow.lit (B := 0) c rfl (by rw [objAt_alloc, if_pos rfl]) (Nat.zero_le _)) (by simp) (by show ys.length + 1 < 2000000000; omega) (HB2.out _) ?_; intro g2 cap2 w2 hB2 b2 k2 o2)
      have hb3 : Below B w w2 := (HV.out.2.1.alloc (Nat.le_trans hB HV.out.2.1.size) _).trans b2
      have e9 : ys ++ [c] = xs ++ (high x n).take (k + 1) := by rw [← HY.out, List.append_assoc, ← Hs.out]
      rw [e9] at hB2
      have hjj := Hj.out
      have hk3 : Keeps (But v) w w2 := (HV.out.2.2.1.trans (Keeps.of_below (grow_alloc (Below.refl _ _) _))).chain k2 (fun q hq e => (HV.out.2.2.2 q e).resolve_right (by omega))
      have ho3 : ∀ g, (Value.slice (some ⟨g2, 0, none⟩) (ys.length + 1) cap2).ownBlock = some g → v.ownBlock = some g ∨ w.heap.size ≤ g := fun g hg => by
       obtain rfl : g2 = g := Option.some.inj hg
       rcases o2 with o2 | o2
       · exact HV.out.2.2.2 _ o2
       · exact .inr (by rw [o2, size_alloc]; exact Nat.le_succ_of_le HV.out.2.2.1.size)
      go_roundw
      case rel => exact ⟨k + 1, _, by omega, by congr 1; omega, rfl, hB2, hb3, hk3, ho3⟩
      case measure => simp [intOf]
  · have hkn : k = n := by omega
    subst hkn
    have hneg : ¬ ((0 : Int) ≤ (k : Int) - 1 - (k : Int)) := by omega
    go_wp2_with fail
    go_ret
    have := HV.out.1
    rw [List.take_of_length_le (by rw [high_length]; exact Nat.le_refl _)] at this
    exact ⟨_, rfl, this, HV.out.2.1, HV.out.2.2.1, HV.out.2.2.2⟩
theorem number_any (v : Value) (xs : List UInt8) (x n : Nat) (B : Nat) (w : World) (hB : B ≤ w.heap.size) (h : BRow w B v xs) (hx : x < 4294967296) (hn : n ≤ 4) (hl : xs.length ≤ 1000) :
 Calls Tryz.prog 201 #[v, .int .u32 x, .int .i64 n] w fun e w' => ∃ v', e = .returned v' ∧ BRow w' B v' (xs ++ high x n) ∧ Below B w w' :=
 (number_own v xs x n B w hB h hx hn hl).mono fun _ _ ⟨v', h1, h2, h3, _⟩ => ⟨v', h1, h2, h3⟩
end
section
open Go.RowKit
attribute [local go_sem] hasBlk
attribute [local irreducible] Calls

theorem zeroCells_one (z : Value) (n : Nat) : Builtin.zeroCells #[z] n = (List.replicate n z).toArray := by
 apply Array.ext
 · simp [Builtin.zeroCells]
 · intro i h1 h2
   simp [Builtin.zeroCells]
   have : i % 1 = 0 := Nat.mod_one i
   simp [this]

theorem run_appZ {w : World} {base : Nat} {v : Value} {xs : List UInt8} (hown : BRow w base v xs) (k : Nat) (hsz : xs.length + k ≤ 1000000) (hbase : base ≤ w.heap.size) (ty : TypeId) :
 ∃ v' w', (Builtin.append_ #[22, 3] ty #[v, .int .i64 k]).run Tryz.prog w = .ok v' w' ∧ BRow w' base v' (xs ++ List.replicate k 0) ∧ Below base w w' := by
 obtain ⟨i, z, hi, hz, hs, hby, hzs⟩ := infoByte
 have hz' : i.zero = some (.int .u8 0) := by
  have : (Tryz.prog.info? 5).map (·.zero) = some (some (.int .u8 0)) := by kernel_rfl
  rw [hi] at this; simpa using this
 obtain rfl : z = .int .u8 0 := by rw [hz'] at hz; exact (Option.some.inj hz).symm
 have hw : IntKind.i64.wrap (k : Int) = k := by rw [IntKind.wrap_i64]; omega
 have hneg : ¬ ((k : Int) < 0) := by omega
 have h48i : ¬ (281474976710656 < (k : Int)) := by omega
 have hrep : (List.replicate k (0 : UInt8)).map (fun c => Value.int .u8 (c.toNat : Int)) = List.replicate k (.int .u8 0) := by
  rw [List.map_replicate]; rfl
 have hlen : (xs ++ List.replicate k (0 : UInt8)).length = xs.length + k := by rw [List.length_append, List.length_replicate]
 have hw0 : IntKind.i64.wrap 0 = 0 := by decide
 by_cases hk : k = 0
 · subst hk
   refine ⟨v, w, ?_, by rw [List.replicate_zero, List.append_nil]; exact hown, Below.refl _ _⟩
   rcases hown.2 with ⟨rfl, h0⟩ | ⟨g, cap, cur, rfl, hbg, hg, hnc, hcm, hcs, htake⟩
   · simp [Builtin.append_, run_underlying Tryz.underlying22, run_underlying Tryz.underlying3, sizeOf, typeInfo, zeroValue, hi, hz', asInt, asIntOf, hby, hw0]
   · simp [Builtin.append_, run_underlying Tryz.underlying22, run_underlying Tryz.underlying3, sizeOf, typeInfo, zeroValue, hi, hz', asInt, asIntOf, hby, hw0, hnc, storeCells]
 · have hgrow : ∀ (b : Option Addr) (cap : Nat), cap < xs.length + k → v = .slice b xs.length cap → (Builtin.firstCells i.size xs.length v).run Tryz.prog w.drew = .ok (xs.map fun c => Value.int .u8 (c.toNat : Int)).toArray w.drew →
    ∃ v' w', (Builtin.append_ #[22, 3] ty #[v, .int .i64 k]).run Tryz.prog w = .ok v' w' ∧ BRow w' base v' (xs ++ List.replicate k 0) ∧ Below base w w' := by
    intro b cap hc hv hold
    subst hv
    have hr := Lib.run_append_grow_zeros w 22 3 ty 5 i (.int .u8 0) .i64 .i64 Tryz.underlying22 Tryz.underlying3 hi hz' b xs.length cap _ hold k (by omega) (by omega) hc (by omega) (by rw [hby]; omega)
     (by rw [hby]; exact growslice_fits hc (by omega))
    refine ⟨_, _, hr, ?_, (Below.refl base w).drew.alloc hbase _⟩
    have hge := grownCap_ge w (xs.length + k) cap 5
    have hcm := grownCap_le_maxLen w (xs.length + k) cap 5 (by unfold maxLen; omega)
    refine ⟨by rw [List.length_map, Nat.mul_one], .inr ⟨w.heap.size, grownCap w (xs.length + k) cap 5, _, by rw [hlen], hbase, heap_alloc_new w.drew _, by rw [hlen]; exact hge, hcm, ?_, ?_⟩⟩
    · show (_ ++ Builtin.zeroCells #[.int .u8 0] _ ++ Builtin.zeroCells #[.int .u8 0] _).size = _
      rw [zeroCells_one, zeroCells_one]
      simp; omega
    · show List.take _ (_ ++ Builtin.zeroCells #[.int .u8 0] _ ++ Builtin.zeroCells #[.int .u8 0] _).toList = _
      rw [zeroCells_one, zeroCells_one, List.map_append, hrep, hlen, Nat.mul_one]
      simp only [Array.toList_append]
      rw [List.take_left' (by simp)]
   rcases hown.2 with ⟨rfl, h0⟩ | ⟨g, cap, cur, rfl, hbg, hg, hnc, hcm, hcs, htake⟩
   · obtain rfl : xs = [] := List.length_eq_zero_iff.1 h0
     exact hgrow none 0 (by simp; omega) rfl (by exact run_firstCells_none w.drew i.size 0 0 0)
   · by_cases hroom : xs.length + k ≤ cap
     · have hst := run_storeCells_at (P := Tryz.prog) g xs.length 5 (List.replicate k (.int .u8 0)) 0 cur w hg (by rw [List.length_replicate, hcs]; omega) (by intro v hv; rw [List.mem_replicate] at hv; rw [hv.2]; rfl)
       obtain ⟨C, hC⟩ : ∃ C, C = (cur.toList.take (xs.length + 0) ++ List.replicate k (Value.int .u8 0) ++ cur.toList.drop (xs.length + 0 + (List.replicate k (Value.int .u8 0)).length)).toArray := ⟨_, rfl⟩
       rw [← hC] at hst
       have hCs : C.size = cap * 1 := by rw [hC]; simp; omega
       have hCt : C.toList.take ((xs ++ List.replicate k (0 : UInt8)).length * 1) = (xs ++ List.replicate k (0 : UInt8)).map fun c => Value.int .u8 (c.toNat : Int) := by
        rw [hC, hlen, List.map_append, hrep, Nat.mul_one, Nat.add_zero]
        rw [Nat.mul_one] at htake
        rw [htake]
        simp only []
        rw [List.take_left' (by simp)]
       have ha : (⟨g, 0, none⟩ : Addr).add xs.length = ⟨g, xs.length, none⟩ := by rw [add_off', Nat.zero_add]
       refine ⟨.slice (some ⟨g, 0, none⟩) (xs.length + k) cap, w.setRow g C, ?_, ⟨by rw [List.length_map, Nat.mul_one], .inr ⟨g, cap, C, by rw [hlen], hbg, setRow_heap w g cur C 5 _ hg, by rw [hlen]; exact hroom, hcm, hCs, hCt⟩⟩, (Below.refl base w).setRow hbg _⟩
       have hzc : (Value.int .u8 0).cells = #[.int .u8 0] := rfl
       simp [Builtin.append_, run_underlying Tryz.underlying22, run_underlying Tryz.underlying3, sizeOf, typeInfo, zeroValue, hi, hz', asInt, asIntOf, hs, hby, hw, hneg, h48i, hk, hroom, ha, hzc, zeroCells_one, hst]
     · exact hgrow (some ⟨g, 0, none⟩) cap (by omega) rfl (by rw [hs]; exact run_firstCells_some w.drew 1 xs.length ⟨g, 0, none⟩ xs.length cap _ (by simp) (fun j u hj => World.ownsRow.cells hown (g := g) rfl j u hj))
theorem list_appZ {ops : Array Oper} {o : Oper} {a : Act} {w : World} {Q : Exit → Act → World → Prop} {rest : List Oper} (hgd : o.guard = none) (s x : Operand) (ho : o.op = .call { callee := .builtin .append, args := #[s, x], argTypes := #[22, 3] })
 {base : Nat} {v : Value} {xs : List UInt8} (hs : a.eval s = v) (hown : BRow w base v xs) {k : Nat} {y : Int} (hx : a.eval x = .int .i64 y) (hy : y = (k : Int)) (hsz : xs.length + k ≤ 1000000) (hbase : base ≤ w.heap.size)
 (h : ∀ v' w', BRow w' base v' (xs ++ List.replicate k 0) → Below base w w' → wpList Tryz.prog ops Q rest (a.put o.dst v') w') :
 wpList Tryz.prog ops Q (o :: rest) a w :=
 wpList_plain hgd fun K hK => by
  subst hy
  obtain ⟨v', w', hr, h2, h4⟩ := run_appZ hown k hsz hbase o.type
  unfold Oper.wp execOp
  simp only [ho, resolve, invoke, builtin, Sem.run_bind, Sem.run_pure, Result.andThen_ok, List.map_toArray, List.map_cons, List.map_nil, hs, hx]
  rw [hr]
  exact hK _ _ (h v' w' h2 h4)
end
section
open Go.RowKit
attribute [local go_sem] hasBlk
theorem high_succ (v n : Nat) : high v (n + 1) = high (v / 256) n ++ [UInt8.ofNat (v % 256)] := by
 unfold high
 rw [List.range_succ, List.map_append]
 congr 1
 · apply List.map_congr_left
   intro j hj
   rw [List.mem_range] at hj
   rw [Nat.div_div_eq_div_mul, ← Nat.pow_succ']
   congr 4; omega
 · simp
theorem num_high (n : Nat) : ∀ v, v < 256 ^ n → num (high v n) = v := by
 induction n with
 | zero => intro v h; simp at h; subst h; rfl
 | succ n ih =>
   intro v h
   rw [Nat.pow_succ] at h
   rw [high_succ, num_snoc, ih _ (by omega)]
   have : (UInt8.ofNat (v % 256)).toNat = v % 256 := by simp
   omega
theorem sub_of (b : Blk) (off n : Nat) (v : Nat) (pre post : List UInt8) (h : b.body = pre ++ high v n ++ post) (hp : pre.length = off) (hv : v < 256 ^ n) : b.sub off n = v := by
 unfold Blk.sub
 rw [h, List.append_assoc, List.drop_append, hp, List.drop_of_length_le (by omega), Nat.sub_self, List.nil_append, List.drop_zero, List.take_append_of_le_length (by rw [high_length]; exact Nat.le_refl _),
  List.take_of_length_le (by rw [high_length]; exact Nat.le_refl _), num_high n v hv]
theorem fill56_pad (l : List UInt8) (h : l.length ≤ 56) : ∃ p, fill56 l = l ++ p := by
 refine ⟨List.replicate (56 - l.length) 0, ?_⟩
 unfold fill56
 rw [List.take_append, List.take_of_length_le h, List.take_replicate]
 congr 2; omega
theorem nodeBytes_length (n : Nd) : (nodeBytes n).length = 21 + n.target.size := by
 simp [nodeBytes, nodeHead, ats_length, high_length, Nd.direct]; omega
theorem ats_four (a b c d : Int) : ats [a, b, c, d] = high (a + 1).toNat 2 ++ (high (b + 1).toNat 2 ++ (high (c + 1).toNat 2 ++ high (d + 1).toNat 2)) := by simp [ats]
theorem nodeOf_put (kind : Int) (n : Nd) (hs : n.small) (hw : n.wf) : nodeOf (Blk.of kind (nodeBytes n)) = n := by
 obtain ⟨gen, links, size, d0, d1, d2, d3, index, t⟩ := n
 obtain ⟨h1, h2, h3, h4, h5, h6, h7⟩ := hs
 obtain ⟨g0, g1, _⟩ := hw
 dsimp only at h1 h2 h3 h4 h5 h6 g0 g1
 have p0 := h7 0 (by decide); have p1 := h7 1 (by decide); have p2 := h7 2 (by decide); have p3 := h7 3 (by decide); have p4 := h7 4 (by decide)
 simp only [Nd.places, List.getD_cons_zero, List.getD_cons_succ] at p0 p1 p2 p3 p4
 clear h7
 obtain ⟨p, hp⟩ := fill56_pad (nodeBytes ⟨gen, links, size, d0, d1, d2, d3, index, t⟩) (by rw [nodeBytes_length]; dsimp only; omega)
 have hb : (Blk.of kind (nodeBytes ⟨gen, links, size, d0, d1, d2, d3, index, t⟩)).body = high gen.toNat 4 ++ (high links.toNat 2 ++ (high size.toNat 4 ++ (high (d0 + 1).toNat 2 ++ (high (d1 + 1).toNat 2 ++ (high (d2 + 1).toNat 2 ++ (high (d3 + 1).toNat 2 ++ (high (index + 1).toNat 2 ++ ([UInt8.ofNat t.size] ++ (t.data.toList ++ p))))))))) := by
  rw [Blk.of_body, hp]
  simp only [nodeBytes, nodeHead, Nd.direct, ats_four, List.append_assoc]
 generalize Blk.of kind (nodeBytes ⟨gen, links, size, d0, d1, d2, d3, index, t⟩) = b at hb
 have e0 := sub_of b 0 4 gen.toNat [] _ (by rw [hb, List.nil_append]) rfl (by omega)
 have e1 := sub_of b 4 2 links.toNat (high gen.toNat 4) _ (by rw [hb, List.append_assoc]) (by simp [high_length]) (by omega)
 have e2 := sub_of b 6 4 size.toNat (high gen.toNat 4 ++ high links.toNat 2) _ (by rw [hb]; simp only [List.append_assoc]; rfl) (by simp [high_length]) (by omega)
 have e3 := sub_of b 10 2 (d0 + 1).toNat (high gen.toNat 4 ++ high links.toNat 2 ++ high size.toNat 4) _ (by rw [hb]; simp only [List.append_assoc]; rfl) (by simp [high_length]) (by omega)
 have e4 := sub_of b 12 2 (d1 + 1).toNat (high gen.toNat 4 ++ high links.toNat 2 ++ high size.toNat 4 ++ high (d0 + 1).toNat 2) _ (by rw [hb]; simp only [List.append_assoc]; rfl) (by simp [high_length]) (by omega)
 have e5 := sub_of b 14 2 (d2 + 1).toNat (high gen.toNat 4 ++ high links.toNat 2 ++ high size.toNat 4 ++ high (d0 + 1).toNat 2 ++ high (d1 + 1).toNat 2) _ (by rw [hb]; simp only [List.append_assoc]; rfl) (by simp [high_length]) (by omega)
 have e6 := sub_of b 16 2 (d3 + 1).toNat (high gen.toNat 4 ++ high links.toNat 2 ++ high size.toNat 4 ++ high (d0 + 1).toNat 2 ++ high (d1 + 1).toNat 2 ++ high (d2 + 1).toNat 2) _ (by rw [hb]; simp only [List.append_assoc]; rfl) (by simp [high_length]) (by omega)
 have e7 := sub_of b 18 2 (index + 1).toNat (high gen.toNat 4 ++ high links.toNat 2 ++ high size.toNat 4 ++ high (d0 + 1).toNat 2 ++ high (d1 + 1).toNat 2 ++ high (d2 + 1).toNat 2 ++ high (d3 + 1).toNat 2) _ (by rw [hb]; simp only [List.append_assoc]; rfl) (by simp [high_length]) (by omega)
 have hpre : b.body = (high gen.toNat 4 ++ high links.toNat 2 ++ high size.toNat 4 ++ high (d0 + 1).toNat 2 ++ high (d1 + 1).toNat 2 ++ high (d2 + 1).toNat 2 ++ high (d3 + 1).toNat 2 ++ high (index + 1).toNat 2) ++ (UInt8.ofNat t.size :: (t.data.toList ++ p)) := by
  rw [hb]; simp only [List.append_assoc, List.singleton_append]
 generalize hq : (high gen.toNat 4 ++ high links.toNat 2 ++ high size.toNat 4 ++ high (d0 + 1).toNat 2 ++ high (d1 + 1).toNat 2 ++ high (d2 + 1).toNat 2 ++ high (d3 + 1).toNat 2 ++ high (index + 1).toNat 2) = q at hpre
 have hql : q.length = 20 := by rw [← hq]; simp [high_length]
 have hlong : b.long = t.size := by
  unfold Blk.long
  rw [hpre, List.getD_eq_getElem?_getD, List.getElem?_append_right (by omega), hql]
  simp; omega
 have htl : t.data.toList.length = t.size := by simp
 have htar : (b.body.drop 21).take b.long = t.data.toList := by
  rw [hlong, hpre, List.drop_append, List.drop_of_length_le (by omega), hql, List.nil_append]
  show ((UInt8.ofNat t.size :: (t.data.toList ++ p)).drop 1).take t.size = _
  rw [List.drop_succ_cons, List.drop_zero, List.take_append_of_le_length (by omega), List.take_of_length_le (by omega)]
 unfold nodeOf
 rw [e0, e1, e2, e3, e4, e5, e6, e7, htar]
 simp only [Nd.mk.injEq]
 exact ⟨by omega, by omega, by omega, by omega, by omega, by omega, by omega, by omega, trivial⟩
theorem take_putNode {kind : Int} {n : Nd} (h : mayNode kind n = true) (hw : n.wf) : takeNode (putNode kind n).1 = (n, true) := by
 have hs := mayNode_small h
 have hp : putNode kind n = (Blk.of kind (nodeBytes n), true) := by unfold putNode; rw [if_pos h]
 rw [hp]
 have hn := nodeOf_put kind n hs hw
 have hl : (Blk.of kind (nodeBytes n)).long = n.target.size := by
  have := congrArg (fun m : Nd => m.target.size) hn
  have h2 : ((((Blk.of kind (nodeBytes n)).body.drop 21).take (Blk.of kind (nodeBytes n)).long).toArray).size = n.target.size := this
  have hb := (Blk.of kind (nodeBytes n)).len
  have hlt : (Blk.of kind (nodeBytes n)).long = (UInt8.ofNat n.target.size).toNat := by
   unfold Blk.long
   obtain ⟨p, hpp⟩ := fill56_pad (nodeBytes n) (by rw [nodeBytes_length]; have := hs.target; omega)
   rw [Blk.of_body, hpp]
   have : nodeBytes n = (nodeHead n ++ ats n.direct ++ high (n.index + 1).toNat 2) ++ (UInt8.ofNat n.target.size :: n.target.data.toList) := by
    simp [nodeBytes]
   rw [this, List.append_assoc, List.getD_eq_getElem?_getD, List.getElem?_append_right (by simp [nodeHead, ats_length, high_length, Nd.direct])]
   simp [nodeHead, ats_length, high_length, Nd.direct]
  rw [hlt]; have := hs.target; simp; omega
 unfold takeNode
 rw [if_neg (by rw [hl]; have := hs.target; omega), Blk.of_kind, hn, hp, if_pos rfl]
end
section
open Go.RowKit
attribute [local go_sem] hasBlk
attribute [local irreducible] Calls

def full (b : List UInt8) : List UInt8 := b ++ List.replicate (60 - b.length) 0
def sealR (b : List UInt8) : List UInt8 := full b ++ high (sum32 (full b)) 4
theorem full_length {b : List UInt8} (h : b.length ≤ 60) : (full b).length = 60 := by rw [full, List.length_append, List.length_replicate]; omega
theorem sealR_length {b : List UInt8} (h : b.length ≤ 60) : (sealR b).length = 64 := by rw [sealR, List.length_append, full_length h, high_length]
def anchorB (lb : UInt8) (e : Nat) : List UInt8 := sealR ([65, 78, lb] ++ high e 4)
theorem anchorB_length (lb : UInt8) (e : Nat) : (anchorB lb e).length = 64 := sealR_length (by simp [high_length])

theorem Sum_len (a : Option Addr) (l : List UInt8) (n cap : Nat) (w : World) (hn : n = l.length) (h : BytesAt w a l) (hl : n ≤ 100000) :
 Calls Tryz.prog 199 #[.slice a n cap] w fun e w' => e = .returned (.int .u32 (sum32 l)) ∧ w' = w := by
 subst hn; exact Sum_any a l cap w h hl
theorem Sealed_any (v : Value) (xs : List UInt8) (B : Nat) (w : World) (hB : B ≤ w.heap.size) (h : BRow w B v xs) (hl : xs.length ≤ 60) (h0 : 0 < xs.length) :
 Calls Tryz.prog 200 #[v] w fun e w' => ∃ v', e = .returned v' ∧ BRow w' B v' (sealR xs) ∧ Below B w w' := by
 obtain ⟨g, cap, rfl, hg, _⟩ := h.form h0
 have hk : (60 : Int) - (xs.length : Int) = ((60 - xs.length : Nat) : Int) := by omega
 have h60 : xs.length + (60 - xs.length) ≤ 1000000 := by omega
 have HK := Lib.hid (And.intro hk h60)
 have Hh := Lib.hid h
 have hi : (xs.length : Int) ≤ 60 := by omega
 have Hf := Lib.hid (full_length hl)
 clear hk h60 h
 go_enter Tryz.func200, Tryz.ntmps200
 go_wp2_with (first | (at_builtin; refine list_appZ rfl _ _ rfl rfl Hh.out rfl HK.out.1 HK.out.2 hB ?_; intro v1 w1 hB1 b1; change BRow w1 B v1 (full xs) at hB1; obtain ⟨g1, cap1, rfl, _, _⟩ := BRow.form hB1 (by rw [Hf.out]; decide); rw [Hf.out] at hB1 ⊢; have HX := Lib.hid (And.intro hB1 b1); clear hB1 b1) | (go_at_call 199; refine (Sum_len _ (full xs) 60 _ _ Hf.out.symm (BRow.bytesAt HX.out.1).1 (by decide)).mono ?_; rintro e w2 ⟨rfl, rfl⟩) | (go_at_call 201; refine (number_any _ (full xs) (sum32 (full xs)) 4 B _ (Nat.le_trans hB HX.out.2.size) HX.out.1 (sum32_lt _) (by decide) (by rw [Hf.out]; decide)).mono ?_; rintro e w3 ⟨v3, rfl, hB3, b3⟩))
 go_ret
 exact ⟨v3, rfl, hB3, HX.out.2.trans b3⟩

theorem Anchor_epoch (lb : UInt8) (e : Nat) (he : e < 4294967296) (w : World) :
 Calls Tryz.prog 170 #[.int .u8 (lb.toNat : Int), .int .u32 e] w fun x w' => ∃ v, x = .returned v ∧ BRow w' w.heap.size v (anchorB lb e) ∧ Below w.heap.size w w' := by
 have hlit : BRow (w.alloc (.cells #[.int .u8 65, .int .u8 78, .int .u8 (lb.toNat : Int)] 5)) w.heap.size (.slice (some ⟨w.heap.size, 0, none⟩) 3 3) [65, 78, lb] :=
  ⟨rfl, .inr ⟨w.heap.size, 3, _, rfl, Nat.le_refl _, objAt_heap (by rw [objAt_alloc, if_pos rfl]), Nat.le_refl _, by decide, rfl, rfl⟩⟩
 have Hl := Lib.hid hlit
 have hs : w.heap.size ≤ (w.alloc (.cells #[.int .u8 65, .int .u8 78, .int .u8 (lb.toNat : Int)] 5)).heap.size := by rw [size_alloc]; omega
 have Hs := Lib.hid hs
 clear hlit hs
 go_enter Tryz.func170, Tryz.ntmps170
 go_wp2_with (first | (go_at_call 201; refine (number_any _ [65, 78, lb] e 4 w.heap.size _ Hs.out Hl.out he (by decide) (by simp)).mono ?_; rintro x w3 ⟨v3, rfl, hB3, b3⟩) | (go_at_call 200; refine (Sealed_any _ _ w.heap.size _ (Nat.le_trans Hs.out b3.size) hB3 (by simp [high_length]) (by simp)).mono ?_; rintro x w4 ⟨v4, rfl, hB4, b4⟩))
 go_ret
 exact ⟨v4, rfl, hB4, (grow_alloc (Below.refl _ _) _).trans (b3.trans b4)⟩

theorem bits_or_u32_nat (a b : Nat) (ha : a < 4294967296) (hb : b < 4294967296) : bits .or .u32 (a : Int) (b : Int) = ((a ||| b : Nat) : Int) := by
 have hx : a ||| b < 2 ^ 32 := Nat.or_lt_two_pow (by omega) (by omega)
 have h1 : (BitVec.ofInt 32 (a : Int)).toNat = a := by
  rw [BitVec.ofInt_natCast, BitVec.toNat_ofNat]; exact Nat.mod_eq_of_lt (by omega)
 have h2 : (BitVec.ofInt 32 (b : Int)).toNat = b := by
  rw [BitVec.ofInt_natCast, BitVec.toNat_ofNat]; exact Nat.mod_eq_of_lt (by omega)
 show IntKind.u32.wrap ((BitVec.ofInt 32 (a : Int) ||| BitVec.ofInt 32 (b : Int)).toNat : Int) = _
 rw [BitVec.toNat_or, h1, h2, IntKind.wrap_u32]
 omega
theorem or_byte (u c : Nat) (hu : u < 16777216) (hc : c < 2 ^ 8) : bits .or .u32 ((u : Int) * 256) (c : Int) = ((u * 256 + c : Nat) : Int) := by
 have := bits_or_u32_nat (u * 256) c (by omega) (by omega)
 rw [Int.natCast_mul] at this
 rw [show ((u : Int) * 256) = (u : Int) * ((256 : Nat) : Int) from rfl, this]
 have h := Nat.two_pow_add_eq_or_of_lt hc u
 rw [show (2 : Nat) ^ 8 = 256 from rfl, Nat.mul_comm] at h
 rw [h]
theorem num32_any (a : Option Addr) (l : List UInt8) (cap : Nat) (w : World) (h : BytesAt w a l) (hl : l.length ≤ 4) :
 Calls Tryz.prog 202 #[.slice a l.length cap] w fun e w' => e = .returned (.int .u32 (num l : Nat)) ∧ w' = w := by
 obtain ⟨b, off, h1, h2⟩ := h
 go_enter Tryz.func202, Tryz.ntmps202
 go_wp2_with fail
 go_loop [2, 7] (fun v i => ∃ k : Nat, k ≤ l.length ∧ i = .int .i64 k ∧ v = .int .u32 (num (l.take k) : Nat)) (fun _ i => l.length - (intOf i).toNat)
 case atStart => exact ⟨0, Nat.zero_le _, rfl, rfl⟩
 case round =>
  obtain ⟨k, hk, rfl, rfl⟩ := hrel
  by_cases hlt : k < l.length
  · have hc := h2 k hlt
    obtain rfl := h1 (by omega)
    have Hs := Lib.hid (num_take_succ l k hlt)
    have hb1 : num (l.take k) < 256 ^ 3 := num_le _ 3 (by rw [List.length_take]; omega)
    have hb2 := (l[k]).toNat_lt
    generalize (l[k]).toNat = c at *
    generalize num (l.take k) = u at *
    clear h1 h2
    have hb3 : u < 16777216 := hb1
    clear hb1
    go_wp2_with fail
    go_round
    case rel => exact ⟨k + 1, by omega, by go_num, by rw [Hs.out, or_byte u c hb3 hb2]⟩
    case measure => simp [intOf]; omega
  · go_wp2_with fail
    go_ret
    exact ⟨by rw [List.take_of_length_le (by omega : l.length ≤ k)]; rfl, rfl⟩
theorem num32_len (a : Option Addr) (l : List UInt8) (n cap : Nat) (w : World) (hn : n = l.length) (h : BytesAt w a l) (hl : n ≤ 4) :
 Calls Tryz.prog 202 #[.slice a n cap] w fun e w' => e = .returned (.int .u32 (num l : Nat)) ∧ w' = w := by
 subst hn; exact num32_any a l cap w h hl
theorem Equal_len (a1 a2 : Option Addr) (l1 l2 : List UInt8) (n1 n2 c1 c2 : Nat) (w : World) (e1 : n1 = l1.length) (e2 : n2 = l2.length) (h1 : BytesAt w a1 l1) (h2 : BytesAt w a2 l2) :
 Calls Tryz.prog 203 #[.slice a1 n1 c1, .slice a2 n2 c2] w fun e w' => e = .returned (.bool (l1 == l2)) ∧ w' = w := by
 subst e1 e2; exact Equal_any a1 a2 l1 l2 c1 c2 w h1 h2
def takeAnchor (lb : UInt8) (l : List UInt8) : Nat × Bool :=
 if num ((l.drop 3).take 4) = 4294967295 then (0, false) else if anchorB lb (num ((l.drop 3).take 4)) == l then (num ((l.drop 3).take 4), true) else (0, false)

theorem TakeAnchor_any (lb : UInt8) (l : List UInt8) (hl : l.length = 64) (g cap : Nat) (w : World) (h : BytesAt w (some ⟨g, 0, none⟩) l) (hcap : 64 ≤ cap) :
 Calls Tryz.prog 171 #[.int .u8 (lb.toNat : Int), .slice (some ⟨g, 0, none⟩) 64 cap] w fun e w' => e = .returned (.tuple #[.int .u32 (takeAnchor lb l).1, .bool (takeAnchor lb l).2]) ∧ Below w.heap.size w w' := by
 have hc7 : (7 : Int) ≤ (cap : Int) := by omega
 have hc3 : ¬ cap = 3 := by omega
 have hl4 : (((l.drop 3).take 4)).length = 4 := by rw [List.length_take, List.length_drop, hl]; rfl
 have h4 := ((h.drop (n := 3) (by omega)).take (n := 4) (by rw [List.length_drop]; omega))
 have hn := num32_len (some ⟨g, 3, none⟩) _ 4 (cap - 3) w hl4.symm h4 (by decide)
 obtain ⟨e, he⟩ : ∃ e, e = num ((l.drop 3).take 4) := ⟨_, rfl⟩
 have hlt : e < 4294967296 := by rw [he]; exact num_le _ 4 (by rw [hl4]; exact Nat.le_refl _)
 have ht : takeAnchor lb l = if e = 4294967295 then (0, false) else if anchorB lb e == l then (e, true) else (0, false) := by rw [he]; rfl
 rw [← he] at hn
 have HN := Lib.hid (And.intro hn (And.intro h hl))
 have HE := Lib.hid he
 clear hn h4 hl4 h hl he
 by_cases hm : e = 4294967295
 · rw [if_pos hm] at ht
   have hm2 : (e : Int) = 4294967295 := by omega
   have HT := Lib.hid ht
   clear ht hm
   go_enter Tryz.func171, Tryz.ntmps171
   go_wp2_with (go_at_call 202; refine HN.out.1.mono ?_; rintro e w2 ⟨rfl, rfl⟩)
   go_ret2
   rw [HT.out]
   exact ⟨rfl, Below.refl _ _⟩
 · rw [if_neg hm] at ht
   have hm2 : ((e : Int) == 4294967295) = false := beq_false_of_ne (by omega)
   obtain ⟨q, hq⟩ : ∃ q, q = (anchorB lb e == l) := ⟨_, rfl⟩
   rw [← hq] at ht
   have HT := Lib.hid (And.intro ht hq)
   clear ht hm hq
   go_enter Tryz.func171, Tryz.ntmps171
   cases q
   all_goals
    go_wp2_with (first | (go_at_call 202; refine HN.out.1.mono ?_; rintro e w2 ⟨rfl, rfl⟩) | (go_at_call 170; refine (Anchor_epoch lb e hlt _).mono ?_; rintro x w3 ⟨v3, rfl, hB3, b3⟩; obtain ⟨g3, cap3, rfl, _, _⟩ := hB3.form (by rw [anchorB_length]; decide); rw [anchorB_length] at hB3 ⊢) | (go_at_call 203; refine (Equal_len _ _ (anchorB lb e) l 64 64 _ _ _ (by rw [anchorB_length]) HN.out.2.2.symm (BRow.bytesAt hB3).1 (HN.out.2.1.below b3)).mono ?_; rintro x w4 ⟨rfl, rfl⟩; rw [← HT.out.2]))
    go_ret2
    rw [HT.out.1]
    exact ⟨rfl, b3⟩
end
end Go.Proofs.YtbbnejehglonjaaGreat
