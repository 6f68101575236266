/- DERIVED. Contracts and laws that the proofs of this seat share, part 32 of 36: ShF ShL. -/
import Derived.Test.YtbbnejehglonjaaGreatMo00
import Derived.Test.YtbbnejehglonjaaGreatMo31
/- DERIVED. Contracts of slices.SortStableFunc (fewer than twenty), IndexFunc over names. -/
namespace Go.Proofs.YtbbnejehglonjaaGreat
open Go.RowKit
attribute [local irreducible] Calls
set_option maxRecDepth 100000

set_option maxHeartbeats 2000000 in
theorem stable_any {w : World} {S : Nat → Prop} {l : List Nm} {a : Option Addr} {cap : Nat} (h : NmRow w S (.slice a l.length cap) l) (hl : l.length < 20) :
 Calls Tryz.prog 158 #[.slice a l.length cap, .int .i64 l.length, .func (.func 103) #[] #[]] w fun e w' => e = .returned (.tuple #[]) ∧ ∃ l', inOrder l' ∧ SoAt w w' S (.slice a l.length cap) l l' := by
 have HI := Lib.hid (insSort_any h (by omega))
 have n1 : ¬ ((20 : Int) ≤ (l.length : Int)) := by omega
 have n2 : ¬ ((20 : Int) < (l.length : Int)) := by omega
 clear h
 go_enter Tryz.func158, Tryz.ntmps158
 go_wp2_with fail
 refine wp_loop_rounds 1 ?_
 rw [rounds_succ]
 go_wp2_with (go_at_call 195; refine HI.out.mono ?_; rintro e w1 ⟨rfl, l', hin, hso⟩; have H1 := Lib.hid (And.intro hin hso); clear hin hso)
 refine wp_loop_rounds 1 ?_
 rw [rounds_succ]
 go_wp2_with fail
 first | go_end0 | refine bodyPost_end (results_none rfl _ _ _) rfl ?_
 exact ⟨rfl, l', H1.out.1, H1.out.2⟩
theorem sortStable_any {w : World} {S : Nat → Prop} {l : List Nm} {a : Option Addr} {cap : Nat} (h : NmRow w S (.slice a l.length cap) l) (hl : l.length < 20) :
 Calls Tryz.prog 102 #[.slice a l.length cap, .func (.func 103) #[] #[]] w fun e w' => e = .returned (.tuple #[]) ∧ ∃ l', inOrder l' ∧ SoAt w w' S (.slice a l.length cap) l l' := by
 have HI := Lib.hid (stable_any h hl)
 clear h
 go_enter Tryz.func102, Tryz.ntmps102
 go_wp2_with (go_at_call 158; refine HI.out.mono ?_; rintro e w1 ⟨rfl, l', hin, hso⟩; have H1 := Lib.hid (And.intro hin hso); clear hin hso)
 first | go_end0 | refine bodyPost_end (results_none rfl _ _ _) rfl ?_
 exact ⟨rfl, l', H1.out.1, H1.out.2⟩
/-- Where the first name of another folder is. -/
theorem indexNm_any {w : World} {S : Nat → Prop} {l : List Nm} {u : Value} {J : Nat} {i : Id} (h : NmRow w S u l) (hJ : objAt w J = some (.cells i.cells 66 (0, 0))) (hl : l.length ≤ 1000) :
 Calls Tryz.prog 157 #[u, .func (.func 101) #[] #[.pointer (some ⟨J, 0, none⟩)]] w fun e w' => ((e = .returned (.int .i64 (-1)) ∧ ∀ x ∈ l, x.dir = i) ∨ ∃ k : Nat, e = .returned (.int .i64 k) ∧ k < l.length ∧ (∀ j x, j < k → l[j]? = some x → x.dir = i) ∧ ∃ x, l[k]? = some x ∧ x.dir ≠ i) ∧ Below w.heap.size w w' := by
 obtain ⟨a, cap, rfl, _⟩ := RowG.slice h
 have H0 := Lib.hid (And.intro h hJ)
 clear h hJ
 go_enter Tryz.func157, Tryz.ntmps157
 go_wp2_with fail
 go_loopw [8] (fun q wr => ∃ k : Nat, k ≤ l.length ∧ q = .int .i64 k ∧ (∀ j x, j < k → l[j]? = some x → x.dir = i) ∧ Below w.heap.size w wr) (fun q _ => l.length - (Go.RowKit.intOf q).toNat)
 case atStart => exact ⟨0, Nat.zero_le _, rfl, fun j x hj => by omega, Below.refl _ _⟩
 case round =>
  obtain ⟨k, hk, rfl, hno, hbel⟩ := hrel
  by_cases hlt : k < l.length
  · obtain ⟨x, hx⟩ : ∃ x, l[k]? = some x := ⟨_, List.getElem?_eq_getElem hlt⟩
    have hWr := H0.out.1.grow hbel (fun _ _ h => h)
    obtain ⟨g, cap', hf⟩ := RowG.form hWr (by omega)
    simp only [Value.slice.injEq] at hf
    obtain ⟨rfl, hleq, rfl⟩ := hf
    clear hleq
    obtain ⟨x0, x1, x2, x3, x4, x5⟩ := NmRow.at_ hWr hx
    have hlti : (k : Int) < (l.length : Int) := by omega
    have hk2 : (k : Int) < 1000 := by omega
    have Hc := Lib.hid (list1_any x wr (grow_obj hbel H0.out.2))
    have HX := Lib.hid (And.intro hno (And.intro hbel hx))
    clear hno hbel hx hWr
    by_cases hp : x.dir = i
    · rw [decide_eq_true hp] at Hc
      have Hp := Lib.hid hp
      clear hp
      go_wp2_with (go_at_call 101; refine Hc.out.mono ?_; rintro e w2 ⟨rfl, b2⟩)
      go_roundw
      case rel =>
       refine ⟨k + 1, by omega, by go_num, fun j y hj hy => ?_, grow_trans HX.out.2.1 b2⟩
       by_cases e : j = k
       · subst e
         rw [HX.out.2.2] at hy
         obtain rfl := Option.some.inj hy
         exact Hp.out
       · exact HX.out.1 j y (by omega) hy
      case measure => simp [Go.RowKit.intOf]; omega
    · rw [decide_eq_false hp] at Hc
      have Hp := Lib.hid hp
      clear hp
      go_wp2_with (go_at_call 101; refine Hc.out.mono ?_; rintro e w2 ⟨rfl, b2⟩)
      go_ret
      exact ⟨.inr ⟨k, rfl, hlt, HX.out.1, x, HX.out.2.2, Hp.out⟩, grow_trans HX.out.2.1 b2⟩
  · obtain rfl : k = l.length := by omega
    have hn : ¬ ((l.length : Int) < (l.length : Int)) := by omega
    have hall : ∀ x ∈ l, x.dir = i := fun x hx => by
     obtain ⟨j, hj⟩ := List.getElem?_of_mem hx
     exact hno j x (List.getElem?_eq_some_iff.1 hj).1 hj
    have HX := Lib.hid (And.intro hall hbel)
    clear hno hbel hall
    go_wp2_with fail
    go_ret
    exact ⟨.inl ⟨rfl, HX.out.1⟩, HX.out.2⟩
end Go.Proofs.YtbbnejehglonjaaGreat

/- DERIVED. Rows of which only the first elements are kept; the builtin clear on what is behind them; what DeleteFunc leaves. -/
namespace Go.Proofs.YtbbnejehglonjaaGreat
open Go.RowKit

section
variable {α : Type} {w : World} {S : Nat → Prop} {e : TypeId} {k : Nat} {R : World → α → List Value → Prop} {al : List α}
theorem flatK_take {k : Nat} : ∀ {xs : List (List Value)} {i : Nat}, (∀ x ∈ xs, x.length = k) → i ≤ xs.length → (xs.take i).flatten = xs.flatten.take (i * k)
 | _, 0, _, _ => by simp
 | [], i + 1, _, hi => by simp at hi
 | x :: xs, i + 1, hx, hi => by
   have hl : x.length = k := hx x (by simp)
   have e : (i + 1) * k = x.length + i * k := by rw [hl, Nat.succ_mul, Nat.add_comm]
   rw [List.take_succ_cons, List.flatten_cons, List.flatten_cons, e, List.take_length_add_append, flatK_take (fun y hy => hx y (by simp [hy])) (by simpa using hi)]
theorem flatK_len {k : Nat} : ∀ {xs : List (List Value)}, (∀ x ∈ xs, x.length = k) → xs.flatten.length = xs.length * k
 | [], _ => by simp
 | x :: xs, hx => by rw [List.flatten_cons, List.length_append, flatK_len (fun y hy => hx y (by simp [hy])), hx x (by simp), List.length_cons, Nat.succ_mul, Nat.add_comm]
theorem RowG.capLe {g n cap : Nat} (h : RowG w S e k R (.slice (some ⟨g, 0, none⟩) n cap) al) : al.length ≤ cap := by
 obtain ⟨xs, h1, _⟩ := h.ex
 rcases h1.2 with ⟨h', h0⟩ | ⟨g', cap', cur', h', hb, hg', hnc, hcm, hcs, htake⟩
 · cases h'
 · simp only [Value.slice.injEq] at h'
   obtain ⟨_, _, rfl⟩ := h'
   exact hnc
/-- The first elements of a row, the others whatever they are. -/
theorem RowG.takeK {g n cap : Nat} (h : RowG w S e k R (.slice (some ⟨g, 0, none⟩) n cap) al) {i : Nat} (hi : i ≤ al.length) {cur r : Array Value} {ty : TypeId} (hg : objAt w g = some (.cells cur ty (0, 0))) (hr : r.size = cur.size) (hpre : r.toList.take (i * k) = cur.toList.take (i * k)) {w' : World} (hw' : objAt w' g = some (.cells r ty (0, 0)))
 {R' : World → α → List Value → Prop} (hR : ∀ a c, R w a c → R' w' a c) :
 RowG w' S e k R' (.slice (some ⟨g, 0, none⟩) i cap) (al.take i) := by
 obtain ⟨xs, h1, h2, h3, h4⟩ := h.ex
 refine ⟨⟨xs.take i, ?_, by rw [List.length_take, List.length_take, h2], fun y hy => h3 y (List.mem_of_mem_take hy), fun j b y hb hy => ?_⟩, h.own⟩
 · rcases h1.2 with ⟨h', h0⟩ | ⟨g', cap', cur', h', hb, hg', hnc, hcm, hcs, htake⟩
   · cases h'
   · simp only [Value.slice.injEq, Option.some.injEq, Addr.mk.injEq] at h'
     obtain ⟨⟨rfl, _⟩, hn, rfl⟩ := h'
     have hg2 : objAt w g = some (.cells cur' e (0, 0)) := hg'
     rw [hg] at hg2
     simp only [Option.some.injEq, Obj.cells.injEq] at hg2
     obtain ⟨rfl, rfl, _⟩ := hg2
     have hlt : (al.take i).length = i := by rw [List.length_take]; omega
     have hfl := flatK_take (i := i) h3 (by omega)
     have hle : i * k ≤ al.length * k := Nat.mul_le_mul_right k hi
     refine ⟨?_, .inr ⟨g, cap, r, by rw [hlt], hb, hw', by rw [hlt]; omega, hcm, by rw [hr, hcs], ?_⟩⟩
     · rw [hlt, flatK_len (fun y hy => h3 y (List.mem_of_mem_take hy)), List.length_take]
       congr 1; omega
     · rw [hlt, hpre, hfl, ← htake, List.take_take, Nat.min_eq_left hle]
 · rw [List.getElem?_take] at hb hy
   by_cases hj : j < i
   · rw [if_pos hj] at hb hy
     exact hR b y (h4 j b y hb hy)
   · rw [if_neg hj] at hb; cases hb
end
/-- What is behind some place of a row is cleared. -/
theorem run_clearK {t e ty : TypeId} {k bytes : Nat} (E : ElemK Tryz.prog t e k bytes) (h1 : ∀ i, Tryz.prog.info? e = some i → ∀ z, i.zero = some z → ∀ v ∈ z.cells.toList, v.oneCell' = true) {w : World} {g o n c : Nat} {cur : Array Value} {ty' : TypeId} (hn : 0 < n) (hg : objAt w g = some (.cells cur ty' (0, 0))) (hle : o + n * k ≤ cur.size) :
 ∃ Z : List Value, Z.length = n * k ∧ (Builtin.clear_ #[t] ty #[.slice (some ⟨g, o, none⟩) n c]).run Tryz.prog w = .ok (.tuple #[]) (w.setRow g (cur.toList.take o ++ Z ++ cur.toList.drop (o + n * k)).toArray) := by
 obtain ⟨i, z, hi, hz, hsz, hby, hzs⟩ := E.info
 have hlen : (Builtin.zeroCells z.cells n).toList.length = n * k := by simp [Builtin.zeroCells, hzs]
 refine ⟨(Builtin.zeroCells z.cells n).toList, hlen, ?_⟩
 have hpos := E.pos
 have hone : ∀ v ∈ (Builtin.zeroCells z.cells n).toList, v.oneCell' = true := fun v hv => by
  simp only [Builtin.zeroCells, Array.toList_map, List.mem_map] at hv
  obtain ⟨j, _, rfl⟩ := hv
  have hlt : j % z.cells.size < z.cells.size := Nat.mod_lt _ (by omega)
  have hge : z.cells[j % z.cells.size]! = z.cells[j % z.cells.size] := getElem!_pos z.cells (j % z.cells.size) hlt
  rw [hge]
  exact h1 i hi z hz _ (by simp)
 have hst := run_storeCells_at Tryz.prog g o ty' (Builtin.zeroCells z.cells n).toList 0 cur w hg (by rw [hlen]; omega) hone
 rw [hlen, Nat.add_zero] at hst
 have hv : (zeroValue e).run Tryz.prog w = .ok z w := by simp [zeroValue, typeInfo, hi, hz]
 obtain ⟨m, rfl⟩ : ∃ m, n = m + 1 := ⟨n - 1, by omega⟩
 simp [Builtin.clear_, run_underlying E.ht, hv, hst]
theorem list_clearK {ops : Array Oper} {o : Oper} {a : Act} {w : World} {Q : Exit → Act → World → Prop} {rest : List Oper} {t e : TypeId} {k bytes : Nat} (E : ElemK Tryz.prog t e k bytes) (h1 : ∀ i, Tryz.prog.info? e = some i → ∀ z, i.zero = some z → ∀ v ∈ z.cells.toList, v.oneCell' = true) (hgd : o.guard = none) (x : Operand) (ho : o.op = .call { callee := .builtin .clear, args := #[x], argTypes := #[t] })
 {g b n c : Nat} {cur : Array Value} {ty' : TypeId} (hx : a.eval x = .slice (some ⟨g, b, none⟩) n c) (hn : 0 < n) (hg : objAt w g = some (.cells cur ty' (0, 0))) (hle : b + n * k ≤ cur.size)
 (h : ∀ Z : List Value, Z.length = n * k → wpList Tryz.prog ops Q rest (a.put o.dst (.tuple #[])) (w.setRow g (cur.toList.take b ++ Z ++ cur.toList.drop (b + n * k)).toArray)) : wpList Tryz.prog ops Q (o :: rest) a w :=
 wpList_plain hgd fun _ hK => by
  obtain ⟨Z, hZ, hr⟩ := run_clearK (ty := o.type) (c := c) E h1 hn hg hle
  unfold Oper.wp execOp
  simp only [ho, resolve, invoke, builtin, Sem.run_bind, Sem.run_pure, Result.andThen_ok, List.map_toArray, List.map_cons, List.map_nil, hx]
  rw [hr]
  exact hK _ _ (h Z hZ)
theorem list_storeOff {t : TypeId} {n : Nat} (E : AggOf Tryz.prog t n) {ops : Array Oper} {o : Oper} {a : Act} {w : World} {Q : Exit → Act → World → Prop} {rest : List Oper} (hgd : o.guard = none) (x y : Operand) (ho : o.op = .store t x y) {g j : Nat} {c c' : Array Value} {ty : TypeId}
 (hx : a.eval x = .pointer (some ⟨g, j, none⟩)) (hy : a.eval y = .agg c') (hg : objAt w g = some (.cells c ty (0, 0))) (hs' : c'.size = n) (hj : j + n ≤ c.size) (h1 : ∀ v ∈ c'.toList, v.oneCell' = true)
 (h : ∀ w', w' = w.setRow g (c.toList.take j ++ c'.toList ++ c.toList.drop (j + n)).toArray → wpList Tryz.prog ops Q rest (a.put o.dst undef) w') : wpList Tryz.prog ops Q (o :: rest) a w :=
 wpList_plain hgd fun _ hK => by
  have hr := run_storeOff E w g j ty hg hs' hj h1
  unfold Oper.wp execOp
  simp only [ho, hx, hy, Sem.run_bind]
  rw [hr]
  simp only [Result.andThen_ok, Sem.run_pure]
  exact hK _ _ (h _ rfl)
theorem zeroName_one : ∀ i, Tryz.prog.info? 100 = some i → ∀ z, i.zero = some z → ∀ v ∈ z.cells.toList, v.oneCell' = true := by
 have hk : (Tryz.prog.info? 100).bind (fun i => i.zero) = some (.agg #[.int .i64 0, .int .i64 0, .int .u32 0, .string ⟨#[]⟩, .int .i64 0, .int .u32 0]) := by kernel_rfl
 intro i hi z hz v hv
 rw [hi, Option.bind_some, hz] at hk
 obtain rfl := Option.some.inj hk
 simp only [Value.cells, List.mem_cons, List.not_mem_nil, or_false] at hv
 rcases hv with rfl | rfl | rfl | rfl | rfl | rfl <;> rfl

/-- Names of a folder. -/
def keptD (d : Id) (l : List Nm) : List Nm := l.filter fun x => decide (x.dir = d)
/-- As DeleteFunc has them on its way: the first i are what is kept of the first j, from j on all are as they were. -/
structure DelAt (d : Id) (l cur : List Nm) (i j : Nat) : Prop where
 len : cur.length = l.length
 le : i ≤ j
 jle : j ≤ l.length
 lo : cur.take i = keptD d (l.take j)
 hi : ∀ q, j ≤ q → cur[q]? = l[q]?
theorem DelAt.start {d : Id} {l : List Nm} {k : Nat} (hk : k < l.length) (hno : ∀ j x, j < k → l[j]? = some x → x.dir = d) {x : Nm} (hx : l[k]? = some x) (hne : x.dir ≠ d) : DelAt d l l k (k + 1) := by
 refine ⟨rfl, by omega, by omega, ?_, fun _ _ => rfl⟩
 rw [List.take_add_one, hx]
 unfold keptD
 rw [List.filter_append]
 have h1 : (l.take k).filter (fun x => decide (x.dir = d)) = l.take k := List.filter_eq_self.2 fun y hy => by
  obtain ⟨j, hj⟩ := List.getElem?_of_mem hy
  rw [List.getElem?_take] at hj
  by_cases hjk : j < k
  · rw [if_pos hjk] at hj; simpa using hno j y hjk hj
  · rw [if_neg hjk] at hj; cases hj
 have h2 : ((some x).toList).filter (fun x => decide (x.dir = d)) = [] := by simp [hne]
 rw [h1, h2, List.append_nil]
theorem DelAt.drop {d : Id} {l cur : List Nm} {i j : Nat} (h : DelAt d l cur i j) {x : Nm} (hx : l[j]? = some x) (hne : x.dir ≠ d) : DelAt d l cur i (j + 1) := by
 have hj := (List.getElem?_eq_some_iff.1 hx).1
 refine ⟨h.len, by have := h.le; omega, by omega, ?_, fun q hq => h.hi q (by omega)⟩
 rw [h.lo, List.take_add_one, hx]
 unfold keptD
 rw [List.filter_append]
 have h2 : ((some x).toList).filter (fun x => decide (x.dir = d)) = [] := by simp [hne]
 rw [h2, List.append_nil]
theorem DelAt.keep {d : Id} {l cur : List Nm} {i j : Nat} (h : DelAt d l cur i j) {x : Nm} (hx : l[j]? = some x) (he : x.dir = d) : DelAt d l (cur.set i x) (i + 1) (j + 1) := by
 have hj := (List.getElem?_eq_some_iff.1 hx).1
 have hl := h.len
 have hij := h.le
 refine ⟨by rw [List.length_set, h.len], by omega, by omega, ?_, fun q hq => ?_⟩
 · rw [List.take_add_one, List.take_add_one, hx, List.getElem?_set_self (by omega), List.take_set_of_le (Nat.le_refl _), h.lo]
   unfold keptD
   rw [List.filter_append]
   congr 1
   simp [he]
 · rw [List.getElem?_set_ne (by omega)]
   exact h.hi q (by omega)
theorem DelAt.end_ {d : Id} {l cur : List Nm} {i : Nat} (h : DelAt d l cur i l.length) : cur.take i = keptD d l := by
 rw [h.lo, List.take_length]
theorem keptD_all {d : Id} {l : List Nm} (h : ∀ x ∈ l, x.dir = d) : keptD d l = l := List.filter_eq_self.2 fun x hx => by simpa using h x hx
end Go.Proofs.YtbbnejehglonjaaGreat
