/- DERIVED. Contracts and laws that the proofs of this seat share, part 26 of 36: LibCp Rf15G Rf15H Rf15I Rf15J. -/
import Derived.Test.YtbbnejehglonjaaGreatMf00
import Derived.Test.YtbbnejehglonjaaGreatMf07
import Derived.Test.YtbbnejehglonjaaGreatMf22
import Derived.Test.YtbbnejehglonjaaGreatMf25
namespace Go.Proofs.YtbbnejehglonjaaGreat
set_option maxHeartbeats 8000000
set_option maxRecDepth 100000
set_option linter.unusedSimpArgs false
set_option linter.unusedVariables false
section
open Go.RowKit
attribute [local irreducible] Calls

theorem Blk.cover_cells (b : Blk) (a : Nat) (l : List UInt8) (h : a + l.length ≤ 56) : (b.cells.toList.take (1 + a) ++ l.map (fun c => Value.int .u8 (c.toNat : Int)) ++ b.cells.toList.drop (1 + a + l.length)).toArray = (b.cover a l).cells := by
 have hb := b.len
 have e : (b.cover a l).body = b.body.take a ++ l ++ b.body.drop (a + l.length) := by
  apply List.ext_getElem
  · simp [Blk.cover, hb]; omega
  · intro i h1 h2
    have hi : i < 56 := by rw [(b.cover a l).len] at h1; exact h1
    simp only [Blk.cover, List.getElem_map, List.getElem_range]
    by_cases c1 : i < a
    · rw [if_neg (by omega), List.getElem_append_left (by simp [hb]; omega), List.getElem_append_left (by simp [hb]; omega), List.getElem_take, List.getD_eq_getElem?_getD, List.getElem?_eq_getElem (by rw [hb]; exact hi)]; rfl
    · by_cases c2 : i < a + l.length
      · rw [if_pos (by omega), List.getElem_append_left (by simp [hb]; omega), List.getElem_append_right (by simp [hb]; omega), List.getD_eq_getElem?_getD, List.getElem?_eq_getElem (by omega)]
        simp only [Option.getD_some, List.length_take, hb]
        congr 1; omega
      · rw [if_neg (by omega), List.getElem_append_right (by simp [hb]; omega), List.getElem_drop, List.getD_eq_getElem?_getD, List.getElem?_eq_getElem (by rw [hb]; exact hi)]
        simp only [Option.getD_some, List.length_append, List.length_take, hb]
        congr 1; omega
 rw [Blk.cells_def, Blk.cells_def, e]
 simp only [List.map_append, List.map_take, List.map_drop]
 rw [Nat.add_comm 1 a, List.take_succ_cons, show a + 1 + l.length = (a + l.length) + 1 by omega, List.drop_succ_cons]
 rfl
theorem run_copyAt {w : World} {g : Nat} {b : Blk} (hb : BlkAt w g b) {f n dc : Nat} (hf : f + n ≤ 56) {ad : Addr} {l : List UInt8} (c : Nat) (hl : BytesAt w (some ad) l) (hn : n ≤ l.length) (ty : TypeId) :
 (Builtin.copy_ #[22, 22] ty #[.slice (some ⟨g, 1 + f, none⟩) n dc, .slice (some ad) l.length c]).run Tryz.prog w = .ok (goInt (n : Int)) (w.setRow g (b.cover f (l.take n)).cells) := by
 obtain ⟨b', off, h1, h2⟩ := hl
 have hlen : ((l.take n).map fun c => Value.int .u8 (c.toNat : Int)).length = n := by rw [List.length_map, List.length_take]; omega
 have := run_copy_row (P := Tryz.prog) w 22 22 ty 5 g (1 + f) n dc ad l.length c b.cells 37 ((l.take n).map fun c => Value.int .u8 (c.toNat : Int)) Tryz.underlying22 (by kernel_rfl) hb (by rw [hlen]; exact (Nat.min_eq_right hn).symm)
  (by
   intro j u hj
   rw [List.getElem?_map] at hj
   cases hy : (l.take n)[j]? with
   | none => rw [hy] at hj; cases hj
   | some x =>
     rw [hy] at hj
     obtain rfl := Option.some.inj hj
     obtain ⟨hlt, rfl⟩ := List.getElem?_eq_some_iff.1 hy
     have hjl : j < l.length := by rw [List.length_take] at hlt; omega
     obtain rfl := Option.some.inj (h1 (by omega))
     have := h2 j hjl
     rw [List.getElem_take]
     unfold Addr.add
     split
     · rename_i e; subst e; exact this
     · exact this) (by rw [b.size_cells, hlen]; omega) (by intro x hx; simp only [List.mem_map] at hx; obtain ⟨c, _, rfl⟩ := hx; rfl)
 rw [this, List.length_map, b.cover_cells f (l.take n) (by rw [List.length_take]; omega)]
 congr 2
 rw [List.length_take]; omega
section
variable {ops : Array Oper} {o : Oper} {a b0 : Act} {w : World} {K : Act → World → Prop} {Q : Exit → Act → World → Prop} {F : Prop} {rest : List Oper}
theorem wp_copyAt (d s : Operand) (ho : o.op = .call { callee := .builtin .copy, args := #[d, s], argTypes := #[22, 22] })
 {g f n dc : Nat} (hd : a.eval d = .slice (some ⟨g, 1 + f, none⟩) n dc) {ad : Addr} {l : List UInt8} {m c : Nat} (hs : a.eval s = .slice (some ad) m c) (hm : m = l.length) {b : Blk} (hb : BlkAt w g b) (hl : BytesAt w (some ad) l) (hf : f + n ≤ 56) (hn : n ≤ l.length)
 (h : K (a.put o.dst (goInt (n : Int))) (w.setRow g (b.cover f (l.take n)).cells)) : o.wp Tryz.prog a w K Q := by
 subst hm
 unfold Oper.wp execOp
 simp only [ho, resolve, invoke, builtin, Sem.run_bind, Sem.run_pure, Result.andThen_ok, List.map_toArray, List.map_cons, List.map_nil, hd, hs]
 rw [run_copyAt hb hf c hl hn]
 exact h
theorem step_copyAt (hgd : o.guard = none) (d s : Operand) (ho : o.op = .call { callee := .builtin .copy, args := #[d, s], argTypes := #[22, 22] })
 {g f n dc : Nat} (hd : a.eval d = .slice (some ⟨g, 1 + f, none⟩) n dc) {ad : Addr} {l : List UInt8} {m c : Nat} (hs : a.eval s = .slice (some ad) m c) (hm : m = l.length) {b : Blk} (hb : BlkAt w g b) (hl : BytesAt w (some ad) l) (hf : f + n ≤ 56) (hn : n ≤ l.length)
 (h : K (a.put o.dst (goInt (n : Int))) (w.setRow g (b.cover f (l.take n)).cells)) : if Region.wanted o (yielded ops b0.tmps) = true then Oper.wp Tryz.prog o a w K Q else F := by
 have hw : Region.wanted o (yielded ops b0.tmps) = true := by simp [Region.wanted, hgd]
 rw [if_pos hw]
 exact wp_copyAt d s ho hd hs hm hb hl hf hn h
theorem run_clearAt {w : World} {g : Nat} {b : Blk} (hb : BlkAt w g b) {f n c : Nat} (hn : 0 < n) (hf : f + n ≤ 56) (ty : TypeId) :
 (Builtin.clear_ #[22] ty #[.slice (some ⟨g, 1 + f, none⟩) n c]).run Tryz.prog w = .ok (.tuple #[]) (w.setRow g (b.cover f (List.replicate n 0)).cells) := by
 obtain ⟨i, z, hi, hz, hsz, hby, hzs⟩ := elemByte.info
 have hk : (Tryz.prog.info? 5).bind (fun i => i.zero) = some (.int .u8 0) := by kernel_rfl
 rw [hi, Option.bind_some, hz] at hk
 obtain rfl := Option.some.inj hk
 have hzc : (Builtin.zeroCells (Value.int .u8 0).cells n).toList = List.replicate n (.int .u8 0) := by
  simp [Builtin.zeroCells, Value.cells]
  apply List.ext_getElem
  · simp
  · intro i h1 h2
    simp [Nat.mod_one]
 have hst := run_storeCells_at Tryz.prog g (1 + f) 37 (List.replicate n (.int .u8 0)) 0 b.cells w hb (by rw [List.length_replicate, b.size_cells]; omega) (by intro v hv; rw [List.eq_of_mem_replicate hv]; rfl)
 rw [List.length_replicate, Nat.add_zero] at hst
 have hv : (zeroValue 5).run Tryz.prog w = .ok (.int .u8 0) w := by simp [zeroValue, typeInfo, hi, hz]
 obtain ⟨m, rfl⟩ : ∃ m, n = m + 1 := ⟨n - 1, by omega⟩
 have hcc := b.cover_cells f (List.replicate (m + 1) 0) (by rw [List.length_replicate]; exact hf)
 rw [List.length_replicate, List.map_replicate] at hcc
 rw [← hcc]
 simp [Builtin.clear_, run_underlying Tryz.underlying22, hv, hzc, hst]
theorem list_clearAt (hgd : o.guard = none) (x : Operand) (ho : o.op = .call { callee := .builtin .clear, args := #[x], argTypes := #[22] })
 {g f n c : Nat} (hx : a.eval x = .slice (some ⟨g, 1 + f, none⟩) n c) {b : Blk} (hb : BlkAt w g b) (hn : 0 < n) (hf : f + n ≤ 56)
 (h : ∀ w', w' = w.setRow g (b.cover f (List.replicate n 0)).cells → wpList Tryz.prog ops Q rest (a.put o.dst (.tuple #[])) w') : wpList Tryz.prog ops Q (o :: rest) a w :=
 wpList_plain hgd fun _ hK => by
  unfold Oper.wp execOp
  simp only [ho, resolve, invoke, builtin, Sem.run_bind, Sem.run_pure, Result.andThen_ok, List.map_toArray, List.map_cons, List.map_nil, hx]
  rw [run_clearAt hb hn hf]
  exact hK _ _ (h _ rfl)
def mArr (n : Nat) : Array Value := (List.replicate n (Value.int .i64 (-1)) ++ List.replicate (16 - n) (Value.int .i64 0)).toArray
theorem run_copyM {w : World} {g n m k c1 c2 : Nat} {ad : Addr} (hg : objAt w g = some (.cells (mArr n) 3 (0, 0))) (hs : ∀ j, j < m → w.cell? (ad.add j) = some (.int .i64 (-1))) (hm : m ≤ k) (hf : n + m ≤ 16) (ty : TypeId) :
 (Builtin.copy_ #[33, 33] ty #[.slice (some ⟨g, n, none⟩) k c1, .slice (some ad) m c2]).run Tryz.prog w = .ok (goInt (m : Int)) (w.setRow g (mArr (n + m))) := by
 have hz : (mArr n).size = 16 := by simp [mArr]; omega
 have := run_copy_row (P := Tryz.prog) w 33 33 ty 3 g n k c1 ad m c2 (mArr n) 3 (List.replicate m (.int .i64 (-1))) Tryz.underlying33 (by kernel_rfl) hg (by rw [List.length_replicate]; exact (Nat.min_eq_left hm).symm)
  (by
   intro j v hj
   rw [List.getElem?_replicate] at hj
   split at hj
   · rename_i hjm
     obtain rfl := Option.some.inj hj
     exact hs j hjm
   · cases hj) (by rw [List.length_replicate, hz]; exact hf) (by intro v hv; rw [List.eq_of_mem_replicate hv]; rfl)
 rw [this, List.length_replicate]
 congr 2
 unfold mArr
 rw [List.toList_toArray, List.take_append, List.length_replicate, Nat.sub_self, List.take_zero, List.append_nil, List.take_of_length_le (by rw [List.length_replicate]; exact Nat.le_refl _),
  List.drop_append, List.length_replicate, List.drop_of_length_le (by rw [List.length_replicate]; omega), List.nil_append, List.replicate_append_replicate, List.drop_replicate]
 congr 3; omega
theorem list_copyM (hgd : o.guard = none) (d s : Operand) (ho : o.op = .call { callee := .builtin .copy, args := #[d, s], argTypes := #[33, 33] })
 {g n m k c1 c2 : Nat} {ad : Addr} (hd : a.eval d = .slice (some ⟨g, n, none⟩) k c1) (hx : a.eval s = .slice (some ad) m c2) (hg : objAt w g = some (.cells (mArr n) 3 (0, 0))) (hs : ∀ j, j < m → w.cell? (ad.add j) = some (.int .i64 (-1))) (hm : m ≤ k) (hf : n + m ≤ 16)
 (h : ∀ w', w' = w.setRow g (mArr (n + m)) → wpList Tryz.prog ops Q rest (a.put o.dst (goInt (m : Int))) w') : wpList Tryz.prog ops Q (o :: rest) a w :=
 wpList_plain hgd fun _ hK => by
  unfold Oper.wp execOp
  simp only [ho, resolve, invoke, builtin, Sem.run_bind, Sem.run_pure, Result.andThen_ok, List.map_toArray, List.map_cons, List.map_nil, hd, hx]
  rw [run_copyM hg hs hm hf]
  exact hK _ _ (h _ rfl)
theorem step_copyM (hgd : o.guard = none) (d s : Operand) (ho : o.op = .call { callee := .builtin .copy, args := #[d, s], argTypes := #[33, 33] })
 {g n m k c1 c2 : Nat} {ad : Addr} (hd : a.eval d = .slice (some ⟨g, n, none⟩) k c1) (hx : a.eval s = .slice (some ad) m c2) (hg : objAt w g = some (.cells (mArr n) 3 (0, 0))) (hs : ∀ j, j < m → w.cell? (ad.add j) = some (.int .i64 (-1))) (hm : m ≤ k) (hf : n + m ≤ 16)
 (h : ∀ w', w' = w.setRow g (mArr (n + m)) → K (a.put o.dst (goInt (m : Int))) w') : if Region.wanted o (yielded ops b0.tmps) = true then Oper.wp Tryz.prog o a w K Q else F := by
 have hw : Region.wanted o (yielded ops b0.tmps) = true := by simp [Region.wanted, hgd]
 rw [if_pos hw]
 unfold Oper.wp execOp
 simp only [ho, resolve, invoke, builtin, Sem.run_bind, Sem.run_pure, Result.andThen_ok, List.map_toArray, List.map_cons, List.map_nil, hd, hx]
 rw [run_copyM hg hs hm hf]
 exact h _ rfl
end
end
section
open Go.RowKit
attribute [local irreducible] Calls
theorem KRow.bytes0 {w : World} {B g n cap : Nat} {bs : List Blk} (h : KRow w B (.slice (some ⟨g, 0, none⟩) n cap) bs) (h0 : 0 < bs.length) (m : Nat) (hm : m ≤ 56) : BytesAt w (some ⟨g, 1, none⟩) ((bs.getD 0 Blk.zero).body.take m) := by
 refine ⟨g, 1, fun _ => rfl, fun i hi => ?_⟩
 rw [List.length_take] at hi
 have := h.byte 0 i h0 (by omega)
 rw [Nat.zero_mul, Nat.zero_add] at this
 rw [this, List.getElem_take]
 rw [List.getD_eq_getElem?_getD, List.getElem?_eq_getElem (by omega), Option.getD_some]
def nextOf (bs : List Blk) : Nat := (bs.getD 0 Blk.zero).sub 0 4
theorem next_any (g cap : Nat) (bs : List Blk) (w : World) (h : KRow w 0 (.slice (some ⟨g, 0, none⟩) bs.length cap) bs) (h0 : 0 < bs.length) :
 Calls Tryz.prog 81 #[.slice (some ⟨g, 0, none⟩) bs.length cap] w fun e w' => e = .returned (.int .u32 (nextOf bs : Nat)) ∧ w = w' := by
 have hN := Num_any (some ⟨g, 1, none⟩) ((bs.getD 0 Blk.zero).body.take 4) 56 w (h.bytes0 h0 4 (by decide)) (by rw [List.length_take]; omega)
 have hl4 : ((bs.getD 0 Blk.zero).body.take 4).length = 4 := by rw [List.length_take, Blk.len]; rfl
 rw [hl4] at hN
 have Hn := Lib.hid (show nextOf bs = num ((bs.getD 0 Blk.zero).body.take 4) from rfl)
 have hlt : nextOf bs < 256 ^ 4 := (bs.getD 0 Blk.zero).sub_lt 0 4
 rw [← Hn.out] at hN
 have u1 : IntKind.u32.wrap (nextOf bs : Int) = nextOf bs := IntWalk.u32_in _ (by omega)
 have HN := Lib.hid hN
 have h0' : (0 : Int) < (bs.length : Int) := by omega
 clear hN hl4 hlt h
 go_enter Tryz.func81, Tryz.ntmps81
 go_wp2_with (go_at_call 139; refine HN.out.mono ?_; rintro e w1 ⟨rfl, rfl⟩)
 go_ret
 exact ⟨rfl, rfl⟩

def folderAt (bs : List Blk) (i : Id) : Bool := inB bs i.at_ && (blkD bs i.at_).kind == 2 && (takeNode (blkD bs i.at_)).2 && ((takeNode (blkD bs i.at_)).1.gen == i.gen)
end
section
open Go.RowKit
attribute [local irreducible] Calls
theorem mk_ints (n : Int) (w : World) (h0 : 0 ≤ n) (h1 : n ≤ 1000000) :
 (Instr.makeSlice 33 (.int .i64 n) (.int .i64 n)).run Tryz.prog w = .ok (.slice (some ⟨w.heap.size, 0, none⟩) n.toNat n.toNat) (w.alloc (.cells (List.replicate n.toNat (.int .i64 0)).toArray 3)) :=
 run_make1 _ _ _ (.int .i64 0) (by kernel_rfl) (Option.some_get (by kernel_rfl)).symm (by kernel_rfl) rfl (by kernel_rfl) (by decide +kernel) n w h0 h1
end
section
open Go.RowKit
attribute [local irreducible] Calls
theorem run_copyK {w : World} {base : Nat} {v : Value} (hown : w.ownsRow base 37 57 v 0 []) {B g cap : Nat} {bs : List Blk} (hK : KRow w B (.slice (some ⟨g, 0, none⟩) bs.length cap) bs) (h0 : 0 < bs.length) (hl : bs.length ≤ 1000)
 (hbase : base ≤ w.heap.size) (ty : TypeId) :
 ∃ g' cap' w', (Builtin.append_ #[23, 23] ty #[v, .slice (some ⟨g, 0, none⟩) bs.length cap]).run Tryz.prog w = .ok (.slice (some ⟨g', 0, none⟩) bs.length cap') w' ∧ KRow w' base (.slice (some ⟨g', 0, none⟩) bs.length cap') bs ∧ Below base w w' := by
 obtain ⟨i, z, hi, hz, hs, hby, hzs⟩ := elemBlk
 obtain ⟨g', cap', w', h1, h2, h3, _, _⟩ := run_append_lies (P := Tryz.prog) w 23 ty base 37 i z 57 64 Tryz.underlying23 hi hz hs hby (by rw [hzs, Blk.size_cells]) (by decide) v 0 [] hown ⟨g, 0, none⟩ bs.length cap (flat bs)
  (flat_length bs) (World.ownsRow.cells hK (g := g) rfl) (by
   intro u hu
   simp only [flat, List.mem_flatMap] at hu
   obtain ⟨b, _, hb⟩ := hu
   exact b.one_cells u hb) h0 (by unfold maxLen; omega) (by omega) hbase w.heap.size rfl
 rw [Nat.zero_add] at h1 h2
 exact ⟨g', cap', w', h1, h2, (Below.refl base w).grown h3 hbase (fun k hk => (World.ownsRow.lt hown k hk).1)⟩
theorem list_copyK {ops : Array Oper} {o : Oper} {a : Act} {w : World} {Q : Exit → Act → World → Prop} {rest : List Oper} (hgd : o.guard = none) (s x : Operand) (ho : o.op = .call { callee := .builtin .append, args := #[s, x], argTypes := #[23, 23] })
 {base : Nat} {v : Value} (hs : a.eval s = v) (hown : w.ownsRow base 37 57 v 0 []) {B g cap : Nat} {bs : List Blk} (hx : a.eval x = .slice (some ⟨g, 0, none⟩) bs.length cap) (hK : KRow w B (.slice (some ⟨g, 0, none⟩) bs.length cap) bs) (h0 : 0 < bs.length) (hl : bs.length ≤ 1000)
 (hbase : base ≤ w.heap.size)
 (h : ∀ g' cap' w', KRow w' base (.slice (some ⟨g', 0, none⟩) bs.length cap') bs → Below base w w' → wpList Tryz.prog ops Q rest (a.put o.dst (.slice (some ⟨g', 0, none⟩) bs.length cap')) w') :
 wpList Tryz.prog ops Q (o :: rest) a w :=
 wpList_plain hgd fun K hK' => by
  obtain ⟨g', cap', w', hr, h2, h4⟩ := run_copyK hown hK h0 hl hbase o.type
  unfold Oper.wp execOp
  simp only [ho, resolve, invoke, builtin, Sem.run_bind, Sem.run_pure, Result.andThen_ok, List.map_toArray, List.map_cons, List.map_nil, hs, hx, hr]
  exact hK' _ _ (h g' cap' w' h2 h4)
theorem owns_emptyK {w : World} {base g : Nat} (h : objAt w g = some (.cells #[] 37 (0, 0))) (hb : base ≤ g) : w.ownsRow base 37 57 (.slice (some ⟨g, 0, none⟩) 0 0) 0 [] :=
 ⟨rfl, .inr ⟨g, 0, #[], rfl, hb, h, Nat.le_refl _, by decide, rfl, rfl⟩⟩

theorem firstOf_lt {u : List Bool} : firstOf u < (u.length : Int) := by
 unfold firstOf
 split
 · rename_i j h
   rw [List.findIdx?_eq_some_iff_getElem] at h
   obtain ⟨h1, _⟩ := h
   omega
 · omega
theorem first_lt (bs : List Blk) (l : List Int) : first bs l < bs.length := by
 have := firstOf_lt (u := markAll (used bs) l)
 rw [markAll_length, used_length] at this; exact this
def addName (bs : List Blk) (n : Nm) : List Blk × Int :=
 if (putEntry n).2 = true then (if 0 ≤ (find bs n.dir n.name).2 then (bs, 4) else if first bs [] < 0 then (bs, 9) else (bs.set (first bs []).toNat (putEntry n).1, 0)) else (bs, 1)
structure Handed (w w' : World) (v : Value) (n : Nat) (bs : List Blk) (er : Int) : Prop where
 form : ∃ g cap, v = .slice (some ⟨g, 0, none⟩) n cap
 row : KRow w' 0 v bs
 own : er = 0 → KRow w' w.heap.size v bs
 len : n = bs.length

theorem nil_ints (w : World) : IntsAt w none [] := ⟨0, 0, fun h => by simp at h, fun i hi => by simp at hi⟩
theorem Add_of (g cap : Nat) (bs : List Blk) (n : Nm) (w : World) (h : KRow w 0 (.slice (some ⟨g, 0, none⟩) bs.length cap) bs) (hl : bs.length ≤ 1000) (hpos : 0 < bs.length) (hF : ∀ w', Below w.heap.size w w' → Calls Tryz.prog 49 #[.slice (some ⟨g, 0, none⟩) bs.length cap, .agg n.dir.cells, .string n.name] w' fun e w2 => e = .returned (.tuple #[.agg (find bs n.dir n.name).1.cells, .int .i64 (find bs n.dir n.name).2]) ∧ Below w'.heap.size w' w2) (hP : ∀ w, Calls Tryz.prog 106 #[.agg n.cells] w fun e w' => e = .returned (.tuple #[.agg (putEntry n).1.cells, .bool (putEntry n).2]) ∧ Below w.heap.size w w') :
 Calls Tryz.prog 51 #[.slice (some ⟨g, 0, none⟩) bs.length cap, .agg n.cells] w fun e w' => ∃ v, e = .returned (.tuple #[v, .int .i64 (addName bs n).2]) ∧ Handed w w' v bs.length (addName bs n).1 (addName bs n).2 ∧ Below w.heap.size w w' := by
 have hFi := fun w' hb => First_any g cap bs none 0 [] w' (KRow.below h hb) hl (nil_ints w') (by decide) (fun x hx => by simp at hx)
 have Ho := Lib.hid (show addName bs n = if (putEntry n).2 = true then (if 0 ≤ (find bs n.dir n.name).2 then (bs, 4) else if first bs [] < 0 then (bs, 9) else (bs.set (first bs []).toNat (putEntry n).1, 0)) else (bs, 1) from rfl)
 have hlt := first_lt bs []
 rw [show n.cells = #[.int .i64 n.dir.label, .int .i64 n.dir.at_, .int .u32 n.dir.gen, .string n.name, .int .i64 n.at_, .int .u32 n.gen] from rfl] at hP ⊢
 rw [show n.dir.cells = #[.int .i64 n.dir.label, .int .i64 n.dir.at_, .int .u32 n.dir.gen] from rfl] at hF
 generalize find bs n.dir n.name = f at *
 generalize putEntry n = pe at *
 obtain ⟨pb, pok⟩ := pe
 obtain ⟨N, p⟩ := f
 dsimp only at hF Ho hP
 rw [show N.cells = #[.int .i64 N.dir.label, .int .i64 N.dir.at_, .int .u32 N.dir.gen, .string N.name, .int .i64 N.at_, .int .u32 N.gen] from rfl] at hF
 obtain ⟨⟨dl, da, dg⟩, name, na, ng⟩ := n
 dsimp only at hF hP ⊢
 have HF := Lib.hid hF
 have HP := Lib.hid hP
 have HFi := Lib.hid hFi
 have Hrow := Lib.hid h
 have hA : objAt (w.alloc (.cells #[.int .i64 dl, .int .i64 da, .int .u32 dg, .string name, .int .i64 na, .int .u32 ng] 100)) w.heap.size = some (.cells #[.int .i64 dl, .int .i64 da, .int .u32 dg, .string name, .int .i64 na, .int .u32 ng] 100 (0, 0)) := by rw [objAt_alloc, if_pos rfl]
 have hB := (Below.refl w.heap.size w).alloc (Nat.le_refl _) (.cells #[.int .i64 dl, .int .i64 da, .int .u32 dg, .string name, .int .i64 na, .int .u32 ng] 100)
 obtain ⟨G, hG⟩ : ∃ G, G = w.heap.size := ⟨_, rfl⟩
 rw [← hG] at hA
 clear h hF hP hFi 
 go_enter Tryz.func51, Tryz.ntmps51
 go_upto_region 1 with (fail)
 rw [← hG]
 generalize w.alloc (.cells #[.int .i64 dl, .int .i64 da, .int .u32 dg, .string name, .int .i64 na, .int .u32 ng] 100) = w0 at *
 have e0 : w0.cell? ⟨G, 0, none⟩ = some (.int .i64 dl) := by rw [cell_of_row w0 G 0 _ _ _ hA]; rfl
 have e1 : w0.cell? ⟨G, 1, none⟩ = some (.int .i64 da) := by rw [cell_of_row w0 G 1 _ _ _ hA]; rfl
 have e2 : w0.cell? ⟨G, 2, none⟩ = some (.int .u32 dg) := by rw [cell_of_row w0 G 2 _ _ _ hA]; rfl
 have e3 : w0.cell? ⟨G, 3, none⟩ = some (.string name) := by rw [cell_of_row w0 G 3 _ _ _ hA]; rfl
 have e4 : w0.cell? ⟨G, 4, none⟩ = some (.int .i64 na) := by rw [cell_of_row w0 G 4 _ _ _ hA]; rfl
 have e5 : w0.cell? ⟨G, 5, none⟩ = some (.int .u32 ng) := by rw [cell_of_row w0 G 5 _ _ _ hA]; rfl
 have HB := Lib.hid (And.intro hB hA)
 clear hG hA hB
 cases pok
 · rw [if_neg (by decide)] at Ho
   go_wp2_with (go_at_call 106; refine (HP.out _).mono ?_; rintro e w1 ⟨rfl, b1⟩)
   refine bodyPost_ret (results_two rfl (resOne_tmp _ _ _) (resOne_tmp _ _ _)) rfl ?_
   have hb := grow_alloc (grow_trans HB.out.1 b1) (.cells pb.cells 37)
   rw [Ho.out]
   exact ⟨_, rfl, ⟨⟨_, _, rfl⟩, Hrow.out.below hb, fun h => absurd (show (1 : Int) = 0 from h) (by decide), rfl⟩, hb⟩
 · rw [if_pos rfl] at Ho
   go_upto_region 4 with (go_at_call 106; refine (HP.out _).mono ?_; rintro e w1 ⟨rfl, b1⟩)
   have hb1 := grow_alloc b1 (.cells pb.cells 37)
   have hO1 := grow_obj hb1 HB.out.2
   have hblk := BlkAt.alloc_new w1 pb
   clear e0 e1 e2 e3 e4 e5
   generalize hw2 : w1.alloc (.cells pb.cells 37) = w2 at *
   generalize w1.heap.size = X at *
   have e0 : w2.cell? ⟨G, 0, none⟩ = some (.int .i64 dl) := by rw [cell_of_row w2 G 0 _ _ _ hO1]; rfl
   have e1 : w2.cell? ⟨G, 1, none⟩ = some (.int .i64 da) := by rw [cell_of_row w2 G 1 _ _ _ hO1]; rfl
   have e2 : w2.cell? ⟨G, 2, none⟩ = some (.int .u32 dg) := by rw [cell_of_row w2 G 2 _ _ _ hO1]; rfl
   have e3 : w2.cell? ⟨G, 3, none⟩ = some (.string name) := by rw [cell_of_row w2 G 3 _ _ _ hO1]; rfl
   have HB2 := Lib.hid (And.intro (grow_trans HB.out.1 hb1) hblk)
   clear hw2 b1 hb1 hO1 hblk
   by_cases hp : 0 ≤ p
   · rw [if_pos hp] at Ho
     go_wp2_with (go_at_call 49; refine (HF.out _ HB2.out.1).mono ?_; rintro e w3 ⟨rfl, b3⟩)
     refine bodyPost_ret (results_two rfl (resOne_tmp _ _ _) (resOne_tmp _ _ _)) rfl ?_
     have hb := grow_alloc (grow_trans HB2.out.1 b3) (.cells #[.int .i64 N.dir.label, .int .i64 N.dir.at_, .int .u32 N.dir.gen, .string N.name, .int .i64 N.at_, .int .u32 N.gen] 100)
     rw [Ho.out]
     exact ⟨_, rfl, ⟨⟨_, _, rfl⟩, Hrow.out.below hb, fun h => absurd (show (4 : Int) = 0 from h) (by decide), rfl⟩, hb⟩
   · rw [if_neg hp] at Ho
     go_upto_region 7 with (go_at_call 49; refine (HF.out _ HB2.out.1).mono ?_; rintro e w3 ⟨rfl, b3⟩)
     have hb3 := grow_alloc b3 (.cells #[.int .i64 N.dir.label, .int .i64 N.dir.at_, .int .u32 N.dir.gen, .string N.name, .int .i64 N.at_, .int .u32 N.gen] 100)
     generalize w3.alloc (.cells #[.int .i64 N.dir.label, .int .i64 N.dir.at_, .int .u32 N.dir.gen, .string N.name, .int .i64 N.at_, .int .u32 N.gen] 100) = w4 at *
     have HB4 := Lib.hid (And.intro (grow_trans HB2.out.1 hb3) (BlkAt.below HB2.out.2 hb3 (block_lt HB2.out.2)))
     clear b3 hb3 e0 e1 e2 e3
     obtain ⟨q, hq⟩ : ∃ q, q = first bs [] := ⟨_, rfl⟩
     rw [← hq] at Ho hlt HFi
     clear hq
     by_cases hneg : q < 0
     · rw [if_pos hneg] at Ho
       go_wp2_with (go_at_call 20; refine (HFi.out _ HB4.out.1).mono ?_; rintro e w5 ⟨rfl, b5⟩)
       refine bodyPost_ret (results_two rfl (resOne_tmp _ _ _) (resOne_tmp _ _ _)) rfl ?_
       have hb := grow_trans HB4.out.1 b5
       rw [Ho.out]
       exact ⟨_, rfl, ⟨⟨_, _, rfl⟩, Hrow.out.below hb, fun h => absurd (show (9 : Int) = 0 from h) (by decide), rfl⟩, hb⟩
     · rw [if_neg hneg] at Ho
       obtain ⟨j, rfl⟩ := Int.eq_ofNat_of_zero_le (show 0 ≤ q by omega)
       have hj : j < bs.length := by omega
       have j0 : (0 : Int) ≤ (j : Int) := Int.natCast_nonneg _
       have j1 : (j : Int) < (bs.length : Int) := by omega
       clear hneg hlt
       go_wp2_with (first | (go_at_call 20; refine (HFi.out _ HB4.out.1).mono ?_; rintro e w5 ⟨rfl, b5⟩; have hb := grow_alloc (grow_trans HB4.out.1 b5) (.cells #[] 37)) | (at_builtin; refine list_copyK rfl _ _ rfl rfl (base := w5.heap.size) (owns_emptyK (by first | (simp [objAt_alloc]; done) | rfl) (Nat.le_refl _)) rfl (Hrow.out.below hb) hpos hl (by simp) ?_; intro g2 cap2 w6 hK6 b6; have hh6 := hK6.has j hj; have hl5 := block_lt (BlkAt.below HB4.out.2 b5 (block_lt HB4.out.2)); have hx6 := (BlkAt.below (BlkAt.alloc (BlkAt.below HB4.out.2 b5 (block_lt HB4.out.2)) (.cells #[] 37)) b6 hl5); have hX6 := hx6.has; have hR6 := hx6.row))
       have hfin := (hK6.mono (grow_trans HB4.out.1 b5).size).put j hj pb
       have hg2 : w.heap.size ≤ g2 := by obtain ⟨cur, _, _, _, _, _, h'⟩ := (hK6.mono (grow_trans HB4.out.1 b5).size).obj; exact h'
       have hbel := putOff_below (hb.trans (b6.mono (grow_trans HB4.out.1 b5).size)) hg2 (j * 57) pb.cells
       refine bodyPost_ret (results_two rfl (resOne_tmp _ _ _) (resOne_tmp _ _ _)) rfl ?_
       rw [Ho.out]
       exact ⟨_, rfl, ⟨⟨_, _, rfl⟩, KRow.mono hfin (Nat.zero_le _), fun _ => hfin, by rw [List.length_set]⟩, hbel⟩
end
section
open Go.RowKit
attribute [local irreducible] Calls
structure StoreAt (w : World) (p : Nat) (place : Int) (g cap : Nat) (bs : List Blk) : Prop where
 box : objAt w p = some (.cells #[.int .i64 place, .slice (some ⟨g, 0, none⟩) bs.length cap] 58 (0, 0))
 row : KRow w 0 (.slice (some ⟨g, 0, none⟩) bs.length cap) bs
 ne : g ≠ p
theorem StoreAt.below {w w' : World} {p g cap : Nat} {place : Int} {bs : List Blk} (h : StoreAt w p place g cap bs) (hb : Below w.heap.size w w') : StoreAt w' p place g cap bs := ⟨grow_obj hb h.box, h.row.below hb, h.ne⟩
theorem StoreAt.c0 {w : World} {p g cap : Nat} {place : Int} {bs : List Blk} (h : StoreAt w p place g cap bs) : w.cell? ⟨p, 0, none⟩ = some (.int .i64 place) := by rw [cell_of_row w p 0 _ _ _ h.box]; rfl
theorem StoreAt.c1 {w : World} {p g cap : Nat} {place : Int} {bs : List Blk} (h : StoreAt w p place g cap bs) : w.cell? ⟨p, 1, none⟩ = some (.slice (some ⟨g, 0, none⟩) bs.length cap) := by rw [cell_of_row w p 1 _ _ _ h.box]; rfl

theorem cell_setRow_ne {w : World} {g : Nat} {c : Array Value} {a : Addr} (h : a.block ≠ g) : (w.setRow g c).cell? a = w.cell? a :=
 World.cell?_of_block (by simp only [World.setRow, Array.getElem?_modify]; rw [if_neg (fun e => h e.symm)])
theorem sid_any (p : Nat) (place : Int) (sl : Value) (n : Nm) (w : World) (h : objAt w p = some (.cells #[.int .i64 place, sl] 58 (0, 0))) :
 Calls Tryz.prog 137 #[.pointer (some ⟨p, 0, none⟩), .agg n.cells] w fun e w' => e = .returned (.agg (Id.mk place n.at_ n.gen).cells) ∧ Below w.heap.size w w' := by
 obtain ⟨⟨l, a, g⟩, nm, at_, gen⟩ := n
 rw [show (⟨⟨l, a, g⟩, nm, at_, gen⟩ : Nm).cells = #[.int .i64 l, .int .i64 a, .int .u32 g, .string nm, .int .i64 at_, .int .u32 gen] from rfl]
 have hb := ((Below.refl w.heap.size w).alloc (Nat.le_refl _) (.cells #[.int .i64 l, .int .i64 a, .int .u32 g, .string nm, .int .i64 at_, .int .u32 gen] 100)).alloc (by rw [size_alloc]; omega) (.cells #[.int .i64 0, .int .i64 0, .int .u32 0] 66)
 have hO : objAt ((w.alloc (.cells #[.int .i64 l, .int .i64 a, .int .u32 g, .string nm, .int .i64 at_, .int .u32 gen] 100)).alloc (.cells #[.int .i64 0, .int .i64 0, .int .u32 0] 66)) w.heap.size = some (.cells #[.int .i64 l, .int .i64 a, .int .u32 g, .string nm, .int .i64 at_, .int .u32 gen] 100 (0, 0)) := by
  rw [objAt_alloc, if_neg (by simp), objAt_alloc, if_pos rfl]
 have hZ : objAt ((w.alloc (.cells #[.int .i64 l, .int .i64 a, .int .u32 g, .string nm, .int .i64 at_, .int .u32 gen] 100)).alloc (.cells #[.int .i64 0, .int .i64 0, .int .u32 0] 66)) (w.heap.size + 1) = some (.cells #[.int .i64 0, .int .i64 0, .int .u32 0] 66 (0, 0)) := by rw [objAt_alloc, size_alloc, if_pos rfl]
 have hbox := grow_obj hb h
 obtain ⟨G, hG⟩ : ∃ G, G = w.heap.size := ⟨_, rfl⟩
 rw [← hG] at hO hZ
 have HG := Lib.hid hG
 have h0 := h
 clear h
 go_enter Tryz.func137, Tryz.ntmps137
 go_upto_region 1 with (fail)
 generalize (w.alloc (.cells #[.int .i64 l, .int .i64 a, .int .u32 g, .string nm, .int .i64 at_, .int .u32 gen] 100)).alloc (.cells #[.int .i64 0, .int .i64 0, .int .u32 0] 66) = w0 at *
 rw [← hG]
 have c0 : w0.cell? ⟨p, 0, none⟩ = some (.int .i64 place) := by rw [cell_of_row w0 p 0 _ _ _ hbox]; rfl
 have c4 : w0.cell? ⟨G, 4, none⟩ = some (.int .i64 at_) := by rw [cell_of_row w0 G 4 _ _ _ hO]; rfl
 have c5 : w0.cell? ⟨G, 5, none⟩ = some (.int .u32 gen) := by rw [cell_of_row w0 G 5 _ _ _ hO]; rfl
 have hg := hasId_obj hZ rfl
 have HZ := Lib.hid (And.intro hZ hb)
 have hpG : p ≠ G + 1 := by have := block_lt h0; omega
 clear hG hO hZ hbox hb
 refine wp_region_held_drew (S := fun w' => w'.cell? ⟨p, 0, none⟩ = some (.int .i64 place) ∧ w'.cell? ⟨G, 4, none⟩ = some (.int .i64 at_) ∧ w'.cell? ⟨G, 5, none⟩ = some (.int .u32 gen) ∧ True) (by kernel_rfl) (And.intro c0 (And.intro c4 (And.intro c5 trivial))) (fun hHeld => ?_)
 show wpAnyH _ _ _ _ _ 10 #[false, false, false, false, false, false, false, false, false, false] _ _
 refine gT 0 ?_; try simp only [Act.put, qs]
 refine gT 1 ?_; try simp only [Act.put, qs]
 refine gT 2 ?_; try simp only [Act.put, qs]
 refine gT 3 ?_; try simp only [Act.put, qs]
 refine gT 4 ?_; try simp only [Act.put, qs]
 refine gT 5 ?_; try simp only [Act.put, qs]
 refine gT 6 ?_; try simp only [Act.put, qs]
 refine gT 7 ?_; try simp only [Act.put, qs]
 refine gT 8 ?_; try simp only [Act.put, qs]
 refine wpAnyH_ready (rs := [9]) (by kernel_rfl) (by simp) ?_
 refine (AllReadyH.cons rfl (fun K hK => ?_) AllReadyH.nil)
 try simp only [qs]
 go_simp
 refine hK.out _ _ (by exact ⟨(cell_setRow_ne hpG).trans hHeld.1, (cell_setRow_ne (by show G ≠ G + 1; omega)).trans hHeld.2.1, (cell_setRow_ne (by show G ≠ G + 1; omega)).trans hHeld.2.2.1, trivial⟩) (fun hN => ?_); replace hHeld := hN; clear hK K hN
 try simp only [qs]
 refine wpAnyH_done (by kernel_rfl) ?_ _
 go_wp2_with fail
 refine bodyPost_ret (results_one rfl (resOne_agg aggId rfl (rowAt_heap (objAt_setRow HZ.out.1 _)) rfl)) rfl ?_
 exact ⟨rfl, HZ.out.2.drew.setRow (by rw [HG.out]; exact Nat.le_succ _) _⟩

def sFind (place : Int) (bs : List Blk) (dir : Id) (name : ByteArray) : Id × Bool := if (find bs dir name).2 < 0 then (Id.zero, false) else (⟨place, (find bs dir name).1.at_, (find bs dir name).1.gen⟩, true)
theorem sFind_none {place : Int} {bs : List Blk} {dir : Id} {name : ByteArray} (h : (find bs dir name).2 < 0) : sFind place bs dir name = (Id.zero, false) := by unfold sFind; rw [if_pos h]
theorem sFind_some {place : Int} {bs : List Blk} {dir : Id} {name : ByteArray} (h : ¬ (find bs dir name).2 < 0) : sFind place bs dir name = (⟨place, (find bs dir name).1.at_, (find bs dir name).1.gen⟩, true) := by unfold sFind; rw [if_neg h]

theorem sFind_of (p : Nat) (place : Int) (g cap : Nat) (bs : List Blk) (dir : Id) (name : ByteArray) (w : World) (h : StoreAt w p place g cap bs) (hF : ∀ w', Below w.heap.size w w' → Calls Tryz.prog 49 #[.slice (some ⟨g, 0, none⟩) bs.length cap, .agg dir.cells, .string name] w' fun e w2 => e = .returned (.tuple #[.agg (find bs dir name).1.cells, .int .i64 (find bs dir name).2]) ∧ Below w'.heap.size w' w2) :
 Calls Tryz.prog 80 #[.pointer (some ⟨p, 0, none⟩), .agg dir.cells, .string name] w fun e w' => e = .returned (.tuple #[.agg (sFind place bs dir name).1.cells, .bool (sFind place bs dir name).2]) ∧ Below w.heap.size w w' := by
 have h1 := sFind_none (place := place) (bs := bs) (dir := dir) (name := name)
 have h2 := sFind_some (place := place) (bs := bs) (dir := dir) (name := name)
 generalize find bs dir name = f at *
 generalize sFind place bs dir name = r at *
 obtain ⟨N, q⟩ := f
 dsimp only at hF h1 h2
 have hid := fun w' hb => sid_any p place (.slice (some ⟨g, 0, none⟩) bs.length cap) N w' (grow_obj hb h.box)
 obtain ⟨dl, da, dg⟩ := dir
 rw [show (⟨dl, da, dg⟩ : Id).cells = #[.int .i64 dl, .int .i64 da, .int .u32 dg] from rfl] at hF ⊢
 rw [show N.cells = #[.int .i64 N.dir.label, .int .i64 N.dir.at_, .int .u32 N.dir.gen, .string N.name, .int .i64 N.at_, .int .u32 N.gen] from rfl] at hF hid
 rw [show (Id.mk place N.at_ N.gen).cells = #[.int .i64 place, .int .i64 N.at_, .int .u32 N.gen] from rfl] at hid
 have HF := Lib.hid hF
 have Hid := Lib.hid hid
 have Hst := Lib.hid h
 have hO : objAt ((w.alloc (.cells #[.int .i64 dl, .int .i64 da, .int .u32 dg] 66)).alloc (.cells #[.int .i64 0, .int .i64 0, .int .u32 0] 66)) w.heap.size = some (.cells #[.int .i64 dl, .int .i64 da, .int .u32 dg] 66 (0, 0)) := by
  rw [objAt_alloc, if_neg (by simp), objAt_alloc, if_pos rfl]
 have hZ : objAt ((w.alloc (.cells #[.int .i64 dl, .int .i64 da, .int .u32 dg] 66)).alloc (.cells #[.int .i64 0, .int .i64 0, .int .u32 0] 66)) (w.heap.size + 1) = some (.cells Id.zero.cells 66 (0, 0)) := by rw [objAt_alloc, size_alloc, if_pos rfl]; rfl
 have hB := ((Below.refl w.heap.size w).alloc (Nat.le_refl _) (.cells #[.int .i64 dl, .int .i64 da, .int .u32 dg] 66)).alloc (by rw [size_alloc]; omega) (.cells #[.int .i64 0, .int .i64 0, .int .u32 0] 66)
 obtain ⟨G, hG⟩ : ∃ G, G = w.heap.size := ⟨_, rfl⟩
 rw [← hG] at hO hZ
 have HG := Lib.hid hG
 clear h hF hid
 go_enter Tryz.func80, Tryz.ntmps80
 go_upto_region 1 with (fail)
 generalize (w.alloc (.cells #[.int .i64 dl, .int .i64 da, .int .u32 dg] 66)).alloc (.cells #[.int .i64 0, .int .i64 0, .int .u32 0] 66) = w0 at *
 rw [← hG]
 have c1 := (Hst.out.below hB).c1
 have d0 : w0.cell? ⟨G, 0, none⟩ = some (.int .i64 dl) := by rw [cell_of_row w0 G 0 _ _ _ hO]; rfl
 have d1 : w0.cell? ⟨G, 1, none⟩ = some (.int .i64 da) := by rw [cell_of_row w0 G 1 _ _ _ hO]; rfl
 have d2 : w0.cell? ⟨G, 2, none⟩ = some (.int .u32 dg) := by rw [cell_of_row w0 G 2 _ _ _ hO]; rfl
 have HX := Lib.hid (And.intro hB hZ)
 clear hG hO hZ hB
 have hS : ∀ w', Below w0.heap.size w0 w' → (w'.cell? ⟨p, 1, none⟩ = some (.slice (some ⟨g, 0, none⟩) bs.length cap) ∧ w'.cell? ⟨G, 0, none⟩ = some (.int .i64 dl) ∧ w'.cell? ⟨G, 1, none⟩ = some (.int .i64 da) ∧ w'.cell? ⟨G, 2, none⟩ = some (.int .u32 dg) ∧ Below w0.heap.size w0 w') :=
  fun w' hb => ⟨grow_cell hb c1, grow_cell hb d0, grow_cell hb d1, grow_cell hb d2, hb⟩
 go_cut [8, 9] (fun s8 s9 wx => ∃ H, s8 = .pointer (some ⟨H, 0, none⟩) ∧ s9 = .int .i64 q ∧ w0.heap.size ≤ H ∧ Below w0.heap.size w0 wx ∧ objAt wx H = some (.cells N.cells 100 (0, 0)))
 case first =>
  refine wp_region_held_drew (S := fun w' => w'.cell? ⟨p, 1, none⟩ = some (.slice (some ⟨g, 0, none⟩) bs.length cap) ∧ w'.cell? ⟨G, 0, none⟩ = some (.int .i64 dl) ∧ w'.cell? ⟨G, 1, none⟩ = some (.int .i64 da) ∧ w'.cell? ⟨G, 2, none⟩ = some (.int .u32 dg) ∧ Below w0.heap.size w0 w') (by kernel_rfl) (hS _ (Below.refl _ _).drew) (fun hHeld => ?_)
  show wpAnyH _ _ _ _ _ 13 #[false, false, false, false, false, false, false, false, false, false, false, false, false] _ _
  refine gT 0 ?_; try simp only [Act.put, qs]
  refine gT 1 ?_; try simp only [Act.put, qs]
  refine gT 2 ?_; try simp only [Act.put, qs]
  refine gT 3 ?_; try simp only [Act.put, qs]
  refine gT 4 ?_; try simp only [Act.put, qs]
  refine gT 5 ?_; try simp only [Act.put, qs]
  refine wpAnyH_ready (rs := [6, 10]) (by kernel_rfl) (by simp) ?_
  refine (AllReadyH.cons rfl (fun K hK => ?kb17x0) (AllReadyH.cons rfl (fun K hK => ?kb17x1) AllReadyH.nil))
  case kb17x0 =>
   try simp only [qs]
   go_simp
   go_at_call 49; refine (HF.out _ (grow_trans HX.out.1 hHeld.2.2.2.2)).mono ?_; rintro e x1 ⟨rfl, b1⟩; have hx1 := grow_trans hHeld.2.2.2.2 b1; (try have hz1 := grow_obj b1 (show objAt _ w0.heap.size = some (.cells #[.int .i64 0, .int .i64 0, .int .u32 0, .string ⟨#[]⟩, .int .i64 0, .int .u32 0] 100 (0, 0)) by rw [objAt_drew, objAt_alloc, if_pos rfl])); (try have hnm1 := hasNm_obj hz1 rfl)
   refine hK.out _ _ (by exact hS _ hx1) (fun hN => ?_); replace hHeld := hN; clear hK K hN
   try simp only [qs]
   refine gT 7 ?_; try simp only [Act.put, qs]
   refine gT 8 ?_; try simp only [Act.put, qs]
   refine gT 9 ?_; try simp only [Act.put, qs]
   refine wpAnyH_ready (rs := [10]) (by kernel_rfl) (by simp) ?_
   refine (AllReadyH.cons rfl (fun K hK => ?_) AllReadyH.nil)
   try simp only [qs]
   go_simp
   refine hK.out _ _ (by exact hS _ (grow_alloc hHeld.2.2.2.2 _)) (fun hN => ?_); replace hHeld := hN; clear hK K hN
   try simp only [qs]
   refine wpAnyH_ready (rs := [11]) (by kernel_rfl) (by simp) ?_
   refine (AllReadyH.cons rfl (fun K hK => ?_) AllReadyH.nil)
   try simp only [qs]
   go_simp
   refine hK.out _ _ (by exact hS _ (by first | exact Below.setRow hHeld.2.2.2.2 (by first | exact hx1.size | exact Nat.le_refl _) _ | exact grow_alloc hx1 _)) (fun hN => ?_); replace hHeld := hN; clear hK K hN
   try simp only [qs]
   refine gT 12 ?_; try simp only [Act.put, qs]
   refine wpAnyH_done (by kernel_rfl) ?_ _
   go_wp2_with fail
   go_meet
   exact ⟨_, rfl, rfl, by first | exact hx1.size | exact Nat.le_refl _, hHeld.2.2.2.2, by first | (rw [objAt_alloc, if_pos rfl]; rfl) | (rw [objAt_drew, objAt_alloc, if_pos rfl]; rfl) | exact objAt_setRow hz1 _⟩
  case kb17x1 =>
   try simp only [qs]
   go_simp
   refine hK.out _ _ (by exact hS _ (grow_alloc hHeld.2.2.2.2 _)) (fun hN => ?_); replace hHeld := hN; clear hK K hN
   try simp only [qs]
   refine wpAnyH_ready (rs := [6]) (by kernel_rfl) (by simp) ?_
   refine (AllReadyH.cons rfl (fun K hK => ?_) AllReadyH.nil)
   try simp only [qs]
   go_simp
   go_at_call 49; refine (HF.out _ (grow_trans HX.out.1 hHeld.2.2.2.2)).mono ?_; rintro e x1 ⟨rfl, b1⟩; have hx1 := grow_trans hHeld.2.2.2.2 b1; (try have hz1 := grow_obj b1 (show objAt _ w0.heap.size = some (.cells #[.int .i64 0, .int .i64 0, .int .u32 0, .string ⟨#[]⟩, .int .i64 0, .int .u32 0] 100 (0, 0)) by rw [objAt_drew, objAt_alloc, if_pos rfl])); (try have hnm1 := hasNm_obj hz1 rfl)
   refine hK.out _ _ (by exact hS _ hx1) (fun hN => ?_); replace hHeld := hN; clear hK K hN
   try simp only [qs]
   refine gT 7 ?_; try simp only [Act.put, qs]
   refine gT 8 ?_; try simp only [Act.put, qs]
   refine gT 9 ?_; try simp only [Act.put, qs]
   refine wpAnyH_ready (rs := [11]) (by kernel_rfl) (by simp) ?_
   refine (AllReadyH.cons rfl (fun K hK => ?_) AllReadyH.nil)
   try simp only [qs]
   go_simp
   refine hK.out _ _ (by exact hS _ (by first | exact Below.setRow hHeld.2.2.2.2 (by first | exact hx1.size | exact Nat.le_refl _) _ | exact grow_alloc hx1 _)) (fun hN => ?_); replace hHeld := hN; clear hK K hN
   try simp only [qs]
   refine gT 12 ?_; try simp only [Act.put, qs]
   refine wpAnyH_done (by kernel_rfl) ?_ _
   go_wp2_with fail
   go_meet
   exact ⟨_, rfl, rfl, by first | exact hx1.size | exact Nat.le_refl _, hHeld.2.2.2.2, by first | (rw [objAt_alloc, if_pos rfl]; rfl) | (rw [objAt_drew, objAt_alloc, if_pos rfl]; rfl) | exact objAt_setRow hz1 _⟩
 case rest =>
  obtain ⟨H, rfl, rfl, hH, hbel, hobj⟩ := hcut
  have hB1 := grow_trans HX.out.1 hbel
  have hO1 := grow_obj hbel HX.out.2
  have hg1 := hasId_obj hO1 rfl
  have k0 : wc.cell? ⟨H, 0, none⟩ = some (.int .i64 N.dir.label) := by rw [cell_of_row wc H 0 _ _ _ hobj]; rfl
  have k1 : wc.cell? ⟨H, 1, none⟩ = some (.int .i64 N.dir.at_) := by rw [cell_of_row wc H 1 _ _ _ hobj]; rfl
  have k2 : wc.cell? ⟨H, 2, none⟩ = some (.int .u32 N.dir.gen) := by rw [cell_of_row wc H 2 _ _ _ hobj]; rfl
  have k3 : wc.cell? ⟨H, 3, none⟩ = some (.string N.name) := by rw [cell_of_row wc H 3 _ _ _ hobj]; rfl
  have k4 : wc.cell? ⟨H, 4, none⟩ = some (.int .i64 N.at_) := by rw [cell_of_row wc H 4 _ _ _ hobj]; rfl
  have k5 : wc.cell? ⟨H, 5, none⟩ = some (.int .u32 N.gen) := by rw [cell_of_row wc H 5 _ _ _ hobj]; rfl
  have HF1 := Lib.hid (And.intro hB1 hO1)
  clear hS c1 d0 d1 d2 hB1 hO1 hobj
  by_cases hq : q < 0
  · have Hr := Lib.hid (h1 hq)
    clear h1 h2
    go_wp2_with fail
    refine bodyPost_ret (results_two rfl (resOne_agg aggId rfl (rowAt_heap (objAt_setRow HF1.out.2 _)) rfl) (resOne_tmp _ _ _)) rfl ?_
    exact ⟨by rw [Hr.out]; rfl, HF1.out.1.setRow (by rw [HG.out]; exact Nat.le_succ _) _⟩
  · have Hr := Lib.hid (h2 hq)
    clear h1 h2
    go_wp2_with (go_at_call 137; refine (Hid.out _ HF1.out.1).mono ?_; rintro e w2 ⟨rfl, b2⟩; have hO2 := grow_obj b2 HF1.out.2; have hg2 := hasId_obj hO2 rfl)
    refine bodyPost_ret (results_two rfl (resOne_agg aggId rfl (rowAt_heap (objAt_setRow hO2 _)) rfl) (resOne_tmp _ _ _)) rfl ?_
    exact ⟨by rw [Hr.out]; rfl, (grow_trans HF1.out.1 b2).setRow (by rw [HG.out]; exact Nat.le_succ _) _⟩
def dirOk (place : Int) (bs : List Blk) (i : Id) : Bool := (i.label != place) || folderAt bs i
end
end Go.Proofs.YtbbnejehglonjaaGreat
