/- DERIVED. Contracts and laws that the proofs of this seat share, part 24 of 32: PyI PyJ PyK PyL. -/
import Derived.Test.YtanmihhlkelgeaaGreatMg04
import Derived.Test.YtanmihhlkelgeaaGreatMg23
/- DERIVED. Contracts of slices.EqualFunc over rows of bytes, play.request. -/
namespace Go.Proofs.YtanmihhlkelgeaaGreat
open Go.RowKit
attribute [local irreducible] Calls
set_option maxRecDepth 100000

/-- Rows of bytes, wherever. -/
def KeepAt (w : World) (ka : Option Addr) (ls : List (List UInt8)) : Prop := ∀ (i : Nat) (l : List UInt8), ls[i]? = some l → ∃ kb ko p c, ka = some ⟨kb, ko, none⟩ ∧ w.cell? ⟨kb, ko + i, none⟩ = some (.slice p l.length c) ∧ BytesAt w p l
theorem take_eq_succ {l1 l2 : List (List UInt8)} {k : Nat} {x : List UInt8} (h : l1.take k = l2.take k) (h1 : l1[k]? = some x) (h2 : l2[k]? = some x) : l1.take (k + 1) = l2.take (k + 1) := by
  obtain ⟨a, rfl⟩ := List.getElem?_eq_some_iff.1 h1
  obtain ⟨b, e⟩ := List.getElem?_eq_some_iff.1 h2
  rw [List.take_succ_eq_append_getElem a, List.take_succ_eq_append_getElem b, h, e]
set_option maxHeartbeats 2000000 in
theorem eqFunc_any {w : World} {k1 k2 : Option Addr} {c1 c2 : Nat} {l1 l2 : List (List UInt8)} (h1 : KeepAt w k1 l1) (h2 : KeepAt w k2 l2) (hlen : l1.length ≤ 1000000) :
    Calls Tryz.prog 25 #[.slice k1 l1.length c1, .slice k2 l2.length c2, .func (.func 26) #[] #[]] w fun e w' => e = .returned (.bool (decide (l1 = l2))) ∧ w' = w := by
  by_cases hl : l1.length = l2.length
  · have hb : ((l1.length : Int) != (l2.length : Int)) = false := by rw [hl]; simp
    rw [← hl]
    have H := Lib.hid (And.intro h1 (And.intro h2 hl))
    clear h1 h2 hl hb
    go_enter Tryz.func25, Tryz.ntmps25
    go_wp2_with fail
    go_loop [17] (fun i => ∃ k : Nat, k ≤ l1.length ∧ i = .int .i64 k ∧ l1.take k = l2.take k) (fun i => l1.length - (Go.RowKit.intOf i).toNat)
    case atStart => exact ⟨0, Nat.zero_le _, rfl, rfl⟩
    case round =>
      obtain ⟨k, hk, rfl, ht⟩ := hrel
      by_cases hlt : k < l1.length
      · obtain ⟨x, hx⟩ : ∃ x, l1[k]? = some x := ⟨_, List.getElem?_eq_getElem hlt⟩
        obtain ⟨y, hy⟩ : ∃ y, l2[k]? = some y := ⟨_, List.getElem?_eq_getElem (by rw [← H.out.2.2]; exact hlt)⟩
        obtain ⟨kb1, ko1, p1, d1, rfl, cc1, bb1⟩ := H.out.1 k x hx
        obtain ⟨kb2, ko2, p2, d2, rfl, cc2, bb2⟩ := H.out.2.1 k y hy
        have HE := Lib.hid (Equal_any p1 p2 x y d1 d2 w bb1 bb2)
        have hlt' : (k : Int) < (l1.length : Int) := by omega
        have HX := Lib.hid (And.intro hx (And.intro hy ht))
        obtain ⟨b, hb⟩ : ∃ b, b = (x == y) := ⟨_, rfl⟩
        rw [← hb] at HE
        have HB := Lib.hid hb
        clear hx hy ht bb1 bb2 hb
        cases b with
        | true =>
          go_wp2_with (go_at_call 26; refine HE.out.mono ?_; rintro e w2 ⟨rfl, rfl⟩)
          go_round
          case rel => exact ⟨k + 1, by omega, by go_num, take_eq_succ HX.out.2.2 HX.out.1 (by rw [HX.out.2.1]; have := HB.out; rw [eq_comm, beq_iff_eq] at this; rw [this])⟩
          case measure => simp [Go.RowKit.intOf]; omega
        | false =>
          have hne : ¬ l1 = l2 := fun e => by
            have h1 := HX.out.1
            rw [e, HX.out.2.1] at h1
            obtain rfl := Option.some.inj h1
            have := HB.out
            simp at this
          have Hn := Lib.hid (decide_eq_false hne)
          clear hne
          go_wp2_with (go_at_call 26; refine HE.out.mono ?_; rintro e w2 ⟨rfl, rfl⟩)
          go_ret
          exact ⟨by rw [Hn.out]; rfl, rfl⟩
      · obtain rfl : k = l1.length := by omega
        rw [List.take_length, H.out.2.2, List.take_length] at ht
        have Hn := Lib.hid (decide_eq_true ht)
        clear ht
        go_wp2_with fail
        go_ret
        exact ⟨by rw [Hn.out]; rfl, rfl⟩
  · have hb : ((l1.length : Int) != (l2.length : Int)) = true := by simpa using by omega
    have Hn := Lib.hid (decide_eq_false (fun e : l1 = l2 => hl (by rw [e])))
    clear h1 h2 hl
    go_enter Tryz.func25, Tryz.ntmps25
    go_wp2_with fail
    go_ret
    exact ⟨by rw [Hn.out]; rfl, rfl⟩
/-- Are two requests the same? -/
def reqEq (a1 a2 : Int) (p1 p2 t1 t2 : ByteArray) (x1 x2 o1 o2 l1 l2 : Int) (d1 d2 : List UInt8) : Bool := (a1 == a2) && ((p1.toList == p2.toList) && ((t1.toList == t2.toList) && ((x1 == x2) && ((o1 == o2) && ((l1 == l2) && (d1 == d2))))))
set_option maxHeartbeats 8000000 in
theorem prequest_any {w : World} (a1 a2 : Int) (p1 p2 t1 t2 : ByteArray) (x1 x2 o1 o2 l1 l2 : Int) {k1 k2 : Option Addr} {c1 c2 : Nat} {d1 d2 : List UInt8} (h1 : BytesAt w k1 d1) (h2 : BytesAt w k2 d2) :
    Calls Tryz.prog 24 #[.agg (rqCells a1 p1 t1 x1 o1 l1 (.slice k1 d1.length c1)), .agg (rqCells a2 p2 t2 x2 o2 l2 (.slice k2 d2.length c2))] w fun e w' => e = .returned (.bool (reqEq a1 a2 p1 p2 t1 t2 x1 x2 o1 o2 l1 l2 d1 d2)) ∧ Below w.heap.size w w' := by
  have hB : Below w.heap.size w ((w.alloc (.cells (rqCells a1 p1 t1 x1 o1 l1 (.slice k1 d1.length c1)) 32)).alloc (.cells (rqCells a2 p2 t2 x2 o2 l2 (.slice k2 d2.length c2)) 32)) := grow_alloc (grow_alloc (Below.refl _ _) _) _
  have HE := Lib.hid (Equal_any k1 k2 d1 d2 c1 c2 _ (h1.below hB) (h2.below hB))
  have HB := Lib.hid hB
  clear hB h1 h2
  unfold reqEq
  unfold rqCells at *
  cases q0 : (a1 == a2) with
  | false =>
    rw [Bool.false_and]
    clear HE
    go_enter Tryz.func24, Tryz.ntmps24
    go_wp2_with fail
    go_ret
    exact ⟨rfl, HB.out⟩
  | true =>
    rw [Bool.true_and]
    cases q1 : (p1.toList == p2.toList) with
    | false =>
      rw [Bool.false_and]
      clear HE
      go_enter Tryz.func24, Tryz.ntmps24
      go_wp2_with fail
      go_ret
      exact ⟨rfl, HB.out⟩
    | true =>
      rw [Bool.true_and]
      cases q2 : (t1.toList == t2.toList) with
      | false =>
        rw [Bool.false_and]
        clear HE
        go_enter Tryz.func24, Tryz.ntmps24
        go_wp2_with fail
        go_ret
        exact ⟨rfl, HB.out⟩
      | true =>
        rw [Bool.true_and]
        cases q3 : (x1 == x2) with
        | false =>
          rw [Bool.false_and]
          clear HE
          go_enter Tryz.func24, Tryz.ntmps24
          go_wp2_with fail
          go_ret
          exact ⟨rfl, HB.out⟩
        | true =>
          rw [Bool.true_and]
          cases q4 : (o1 == o2) with
          | false =>
            rw [Bool.false_and]
            clear HE
            go_enter Tryz.func24, Tryz.ntmps24
            go_wp2_with fail
            go_ret
            exact ⟨rfl, HB.out⟩
          | true =>
            rw [Bool.true_and]
            cases q5 : (l1 == l2) with
            | false =>
              rw [Bool.false_and]
              clear HE
              go_enter Tryz.func24, Tryz.ntmps24
              go_wp2_with fail
              go_ret
              exact ⟨rfl, HB.out⟩
            | true =>
              rw [Bool.true_and]
              obtain ⟨b, hb⟩ : ∃ b, b = (d1 == d2) := ⟨_, rfl⟩
              rw [← hb] at HE ⊢
              clear hb
              go_enter Tryz.func24, Tryz.ntmps24
              go_wp2_with (go_at_call 26; refine HE.out.mono ?_; rintro e w2 ⟨rfl, rfl⟩)
              go_ret
              exact ⟨by first | rfl | simp, HB.out⟩
end Go.Proofs.YtanmihhlkelgeaaGreat

/- DERIVED. Contract of play's same. -/
namespace Go.Proofs.YtanmihhlkelgeaaGreat
open Go.RowKit
attribute [local irreducible] Calls
set_option maxRecDepth 100000

theorem KeepAt.below {w w' : World} {ka : Option Addr} {ls : List (List UInt8)} (h : KeepAt w ka ls) (hb : Below w.heap.size w w') : KeepAt w' ka ls := fun i l hl => by
  obtain ⟨kb, ko, p, c, h1, h2, h3⟩ := h i l hl
  exact ⟨kb, ko, p, c, h1, grow_cell hb h2, h3.below hb⟩
def sReq (s1 s2 : Stp) : Bool := reqEq s1.ask s2.ask s1.path s2.path s1.dest s2.dest s1.an s2.an s1.off s2.off s1.len s2.len s1.data s2.data
def stpEq (s1 s2 : Stp) : Bool := (s1.kind == s2.kind) && ((s1.n == s2.n) && (sReq s1 s2 && ((s1.cut == s2.cut) && decide (s1.keep = s2.keep))))
theorem stpEq_iff {s1 s2 : Stp} : stpEq s1 s2 = true ↔ s1 = s2 := by
  obtain ⟨k, n, a, p, d, x, o, l, da, c, ke⟩ := s1
  obtain ⟨k', n', a', p', d', x', o', l', da', c', ke'⟩ := s2
  simp only [stpEq, sReq, reqEq, Bool.and_eq_true, beq_iff_eq, decide_eq_true_eq, Stp.mk.injEq]
  have e : ∀ s t : ByteArray, s.toList = t.toList ↔ s = t := fun s t => ⟨fun h => by
    rw [ByteArray.toList_eq, ByteArray.toList_eq] at h
    exact Go.WideShapes.bytes_inj h, fun h => by rw [h]⟩
  rw [e, e]
  constructor
  · rintro ⟨h1, h2, ⟨h3, h4, h5, h6, h7, h8, h9⟩, h10, h11⟩
    exact ⟨h1, h2, h3, h4, h5, h6, h7, h8, h9, h10, h11⟩
  · rintro ⟨h1, h2, h3, h4, h5, h6, h7, h8, h9, h10, h11⟩
    exact ⟨h1, h2, ⟨h3, h4, h5, h6, h7, h8, h9⟩, h10, h11⟩
set_option maxHeartbeats 8000000 in
theorem psame_any {w : World} (s1 s2 : Stp) {a1 a2 k1 k2 : Option Addr} {c1 c2 e1 e2 : Nat} (h1 : BytesAt w a1 s1.data) (h2 : BytesAt w a2 s2.data) (g1 : KeepAt w k1 s1.keep) (g2 : KeepAt w k2 s2.keep) (hl : s1.keep.length ≤ 1000000) :
    Calls Tryz.prog 16 #[.agg (stpCells s1 (.slice a1 s1.data.length c1) (.slice k1 s1.keep.length e1)), .agg (stpCells s2 (.slice a2 s2.data.length c2) (.slice k2 s2.keep.length e2))] w fun e w' => e = .returned (.bool (stpEq s1 s2)) ∧ Below w.heap.size w w' := by
  have hB : Below w.heap.size w ((w.alloc (.cells (stpCells s1 (.slice a1 s1.data.length c1) (.slice k1 s1.keep.length e1)) 35)).alloc (.cells (stpCells s2 (.slice a2 s2.data.length c2) (.slice k2 s2.keep.length e2)) 35)) := grow_alloc (grow_alloc (Below.refl _ _) _) _
  have HR := Lib.hid (prequest_any s1.ask s2.ask s1.path s2.path s1.dest s2.dest s1.an s2.an s1.off s2.off s1.len s2.len (c1 := c1) (c2 := c2) (h1.below hB) (h2.below hB))
  have HK := Lib.hid (And.intro (g1.below hB) (And.intro (g2.below hB) hl))
  have HB := Lib.hid hB
  have ho1 : objAt ((w.alloc (.cells (stpCells s1 (.slice a1 s1.data.length c1) (.slice k1 s1.keep.length e1)) 35)).alloc (.cells (stpCells s2 (.slice a2 s2.data.length c2) (.slice k2 s2.keep.length e2)) 35)) w.heap.size = some (.cells (stpCells s1 (.slice a1 s1.data.length c1) (.slice k1 s1.keep.length e1)) 35 (0, 0)) := by rw [objAt_alloc, if_neg (by simp), objAt_alloc, if_pos rfl]
  have ho2 : objAt ((w.alloc (.cells (stpCells s1 (.slice a1 s1.data.length c1) (.slice k1 s1.keep.length e1)) 35)).alloc (.cells (stpCells s2 (.slice a2 s2.data.length c2) (.slice k2 s2.keep.length e2)) 35)) (w.heap.size + 1) = some (.cells (stpCells s2 (.slice a2 s2.data.length c2) (.slice k2 s2.keep.length e2)) 35 (0, 0)) := by rw [objAt_alloc, size_alloc, if_pos rfl]
  have HO := Lib.hid (And.intro ho1 ho2)
  clear hB h1 h2 g1 g2 hl ho1 ho2
  unfold stpEq
  unfold rqCells at HR
  unfold stpCells at *
  rw [show reqEq s1.ask s2.ask s1.path s2.path s1.dest s2.dest s1.an s2.an s1.off s2.off s1.len s2.len s1.data s2.data = sReq s1 s2 from rfl] at HR
  cases q0 : (s1.kind == s2.kind) with
  | false =>
    rw [Bool.false_and]
    clear HR
    go_enter Tryz.func16, Tryz.ntmps16
    go_wp2_with fail
    go_ret
    exact ⟨rfl, HB.out⟩
  | true =>
    rw [Bool.true_and]
    cases q1 : (s1.n == s2.n) with
    | false =>
      rw [Bool.false_and]
      clear HR
      go_enter Tryz.func16, Tryz.ntmps16
      go_wp2_with fail
      go_ret
      exact ⟨rfl, HB.out⟩
    | true =>
      rw [Bool.true_and]
      cases q2 : sReq s1 s2 with
      | false =>
        rw [Bool.false_and]
        rw [q2] at HR
        clear q2
        go_enter Tryz.func16, Tryz.ntmps16
        go_wp2_with (go_at_call 24; refine HR.out.mono ?_; rintro e w2 ⟨rfl, b2⟩)
        go_ret
        exact ⟨rfl, grow_trans HB.out b2⟩
      | true =>
        rw [Bool.true_and]
        rw [q2] at HR
        clear q2
        cases q3 : (s1.cut == s2.cut) with
        | false =>
          rw [Bool.false_and]
          go_enter Tryz.func16, Tryz.ntmps16
          go_wp2_with (go_at_call 24; refine HR.out.mono ?_; rintro e w2 ⟨rfl, b2⟩; have z1 := cell_obj (grow_obj b2 HO.out.1) 9; have z2 := cell_obj (grow_obj b2 HO.out.2) 9)
          go_ret
          exact ⟨rfl, grow_trans HB.out b2⟩
        | true =>
          rw [Bool.true_and]
          go_enter Tryz.func16, Tryz.ntmps16
          go_wp2_with (first | (go_at_call 24; refine HR.out.mono ?_; rintro e w2 ⟨rfl, b2⟩; have z1 := cell_obj (grow_obj b2 HO.out.1) 9; have z2 := cell_obj (grow_obj b2 HO.out.2) 9; have z3 := cell_obj (grow_obj b2 HO.out.1) 10; have z4 := cell_obj (grow_obj b2 HO.out.2) 10; have HF := Lib.hid (eqFunc_any (c1 := e1) (c2 := e2) (HK.out.1.below b2) (HK.out.2.1.below b2) HK.out.2.2)) | (go_at_call 25; refine HF.out.mono ?_; rintro e w3 ⟨rfl, rfl⟩))
          go_ret
          exact ⟨by first | rfl | simp, grow_trans HB.out b2⟩
end Go.Proofs.YtanmihhlkelgeaaGreat

/- DERIVED. Steps in cells of their own as steps that lie below; towards play's Encode. -/
namespace Go.Proofs.YtanmihhlkelgeaaGreat
open Go.RowKit
attribute [local irreducible] Calls
set_option maxRecDepth 100000

theorem BRow.low {w : World} {B : Nat} {v : Value} {l : List UInt8} (h : BRow w B v l) : ∃ a c, v = .slice a l.length c ∧ BytesAt w a l ∧ ∀ p, a = some p → p.block < w.heap.size := by
  obtain ⟨a, c, e, hb⟩ := h.val
  refine ⟨a, c, e, hb, fun p hp => ?_⟩
  subst hp
  obtain ⟨_, q, hq⟩ := BRow.ownObj h (g := p.block) (by rw [e]; rfl)
  exact block_lt hq
theorem StpV.low {w : World} {B : Nat} {s : Stp} {c : Array Value} (h : StpV w B s c) : ∃ ad dc ka kc, c = stpCells s (.slice ad s.data.length dc) (.slice ka s.keep.length kc) ∧ StpL w w.heap.size s ad ka ∧ KeepAt w ka s.keep := by
  obtain ⟨ad, dn, dc, ka, kn, kc, e, hd, hk⟩ := h.ex
  obtain ⟨a1, c1, e1, hb1, hl1⟩ := hd.low
  rw [Value.slice.injEq] at e1
  obtain ⟨rfl, rfl, rfl⟩ := e1
  obtain ⟨k2, c2, e2, _⟩ := RowG.slice hk
  rw [Value.slice.injEq] at e2
  obtain ⟨rfl, rfl, rfl⟩ := e2
  have hall : ∀ i l, s.keep[i]? = some l → ∃ kb ko p c, ka = some ⟨kb, ko, none⟩ ∧ kb < w.heap.size ∧ w.cell? ⟨kb, ko + i, none⟩ = some (.slice p l.length c) ∧ BytesAt w p l ∧ (0 < l.length → ∀ q, p = some q → q.block < w.heap.size) := fun i l hl => by
    have hi := (List.getElem?_eq_some_iff.1 hl).1
    obtain ⟨g, cap, e3⟩ := RowG.form hk (by omega)
    rw [Value.slice.injEq] at e3
    obtain ⟨rfl, _, rfl⟩ := e3
    obtain ⟨cl, hc1, ⟨x, rfl, hx⟩, hc⟩ := RowG.cells hk hl
    obtain ⟨p, c, rfl, hb, hlt⟩ := hx.low
    have := hc 0 _ rfl
    rw [show i * 1 + 0 = 0 + i by omega] at this
    exact ⟨g, 0, p, c, rfl, RowG.lt hk rfl, this, hb, fun _ => hlt⟩
  exact ⟨ad, dc, ka, kc, e, ⟨hb1, hl1, hall⟩, fun i l hl => by
    obtain ⟨kb, ko, p, c, h1, _, h2, h3, _⟩ := hall i l hl
    exact ⟨kb, ko, p, c, h1, h2, h3⟩⟩
theorem StpL.keepAt {w : World} {W : Nat} {s : Stp} {ad ka : Option Addr} (h : StpL w W s ad ka) : KeepAt w ka s.keep := fun i l hl => by
  obtain ⟨kb, ko, p, c, h1, _, h2, h3, _⟩ := h.keep i l hl
  exact ⟨kb, ko, p, c, h1, h2, h3⟩
/-- A row of steps, wherever below W. -/
def StpsAt (w : World) (W : Nat) (ka : Option Addr) (ss : List Stp) : Prop := ∀ (i : Nat) (s : Stp), ss[i]? = some s → ∃ kb ko ad dc k2 kc, ka = some ⟨kb, ko, none⟩ ∧ kb < W ∧ (∀ j v, (stpCells s (.slice ad s.data.length dc) (.slice k2 s.keep.length kc))[j]? = some v → w.cell? ⟨kb, ko + (i * 11 + j), none⟩ = some v) ∧ StpL w W s ad k2
theorem RowS.at_ {w : World} {B : Nat} {v : Value} {ss : List Stp} (h : RowS w B v ss) : ∃ a c, v = .slice a ss.length c ∧ StpsAt w w.heap.size a ss := by
  obtain ⟨a, c, e, _⟩ := RowG.slice h
  refine ⟨a, c, e, fun i s hs => ?_⟩
  have hi := (List.getElem?_eq_some_iff.1 hs).1
  obtain ⟨g, cap, e3⟩ := RowG.form h (by omega)
  rw [e, Value.slice.injEq] at e3
  obtain ⟨rfl, _, rfl⟩ := e3
  subst e
  obtain ⟨cl, hc1, hx, hc⟩ := RowG.cells h hs
  obtain ⟨ad, dc, ka, kc, e2, hl, _⟩ := StpV.low hx
  refine ⟨g, 0, ad, dc, ka, kc, rfl, RowG.lt h rfl, fun j v hv => ?_, hl⟩
  rw [Nat.zero_add]
  exact hc j v (by rw [← e2] at hv; simpa using hv)
end Go.Proofs.YtanmihhlkelgeaaGreat

/- DERIVED. Contract of play's Encode. -/
namespace Go.Proofs.YtanmihhlkelgeaaGreat
open Go.RowKit
attribute [local irreducible] Calls
set_option maxRecDepth 100000

theorem StpsAt.keeps {w w' : World} {W : Nat} {ka : Option Addr} {ss : List Stp} (h : StpsAt w W ka ss) {T : Nat → Prop} (hk : Keeps T w w') (hT : ∀ q, T q → W ≤ q) (hW : W ≤ w.heap.size) : StpsAt w' W ka ss := fun i s hs => by
  obtain ⟨kb, ko, ad, dc, k2, kc, h1, h2, h3, h4⟩ := h i s hs
  refine ⟨kb, ko, ad, dc, k2, kc, h1, h2, fun j v hv => ?_, h4.keeps hk hT hW⟩
  rw [World.cell?_of_block (hk.block kb (by omega) (fun e => by have := hT _ e; omega))]
  exact h3 j v hv
theorem StpL.up {w : World} {W W' : Nat} {s : Stp} {ad ka : Option Addr} (h : StpL w W s ad ka) (hW : W ≤ W') : StpL w W' s ad ka :=
  ⟨h.data, fun p hp => Nat.lt_of_lt_of_le (h.dlt p hp) hW, fun i l hl => by
    obtain ⟨kb, ko, p, c, h1, h2, h3, h4, h5⟩ := h.keep i l hl
    exact ⟨kb, ko, p, c, h1, Nat.lt_of_lt_of_le h2 hW, h3, h4, fun h0 q hq => Nat.lt_of_lt_of_le (h5 h0 q hq) hW⟩⟩
theorem say_keep {s : Stp} (h : Say s) : s.keep.length ≤ 1000000 := by
  obtain ⟨_, h⟩ := h
  split at h
  · have := h.2.1; omega
  · obtain ⟨_, h⟩ := h
    split at h
    · rw [h.2.2.2.2.2.2.2.2]; decide
    · rw [h]; exact Nat.zero_le _
theorem encode_take {ss : List Stp} {k : Nat} {s : Stp} (h : ss[k]? = some s) : encode (ss.take (k + 1)) = encode (ss.take k) ++ encOne s := by
  obtain ⟨hk, rfl⟩ := List.getElem?_eq_some_iff.1 h
  unfold encode
  rw [List.take_succ_eq_append_getElem hk, List.flatMap_append]; simp
theorem flat_len {ls : List (List UInt8)} (h : ∀ l ∈ ls, l.length ≤ 1000) : (ls.flatMap textW).length ≤ ls.length * 1001 := by
  induction ls with
  | nil => simp
  | cons a ls ih =>
    rw [List.flatMap_cons, List.length_append, List.length_cons]
    have h1 := ih (fun l hl => h l (by simp [hl]))
    have h2 := h a (by simp)
    have h3 : (textW a).length = 1 + a.length := by unfold textW; rw [List.length_append, ihigh_length]
    omega
theorem writeStp_len {s : Stp} (h : s.fits) : (writeStp s).length ≤ 30000 ∧ 0 < (writeStp s).length := by
  have hk := flat_len h.keeps
  have h1 := h.keep
  have h2 := h.path
  have h3 := h.dest
  have h4 := h.data
  unfold writeStp bodyW textW at *
  constructor
  · split
    · simp only [List.length_append, ihigh_length]; omega
    · split
      · simp only [List.length_append, ihigh_length]; omega
      · simp only [List.length_append, ihigh_length, List.length_nil]; omega
  · rw [List.length_append, ihigh_length]; omega
theorem encode_len {ss : List Stp} (h : ∀ s ∈ ss, s.fits) : (encode ss).length ≤ ss.length * 30000 := by
  unfold encode
  induction ss with
  | nil => simp
  | cons s ss ih =>
    rw [List.flatMap_cons, List.length_append, List.length_cons]
    have h1 := ih (fun x hx => h x (by simp [hx]))
    have h2 : (encOne s).length ≤ 30000 := by
      unfold encOne
      split
      · exact (writeStp_len (h s (by simp))).1
      · simp
    omega
set_option maxHeartbeats 8000000 in
theorem encode_any {w : World} {ka : Option Addr} {cap : Nat} {ss : List Stp} (h : StpsAt w w.heap.size ka ss) (hf : ∀ s ∈ ss, s.fits) (hn : ss.length ≤ 300) :
    Calls Tryz.prog 9 #[.slice ka ss.length cap] w fun e w' => ∃ v, e = .returned v ∧ BRow w' w.heap.size v (encode ss) ∧ Below w.heap.size w w' := by
  have H := Lib.hid (And.intro h hf)
  clear h hf
  go_enter Tryz.func9, Tryz.ntmps9
  go_wp2_with fail
  go_loopw [2, 9] (fun b i wr => ∃ (k : Nat) (V : Value), k ≤ ss.length ∧ i = .int .i64 k ∧ V = b ∧ BRow wr w.heap.size V (encode (ss.take k)) ∧ Below w.heap.size w wr) (fun _ i _ => ss.length - (Go.RowKit.intOf i).toNat)
  case atStart => exact ⟨0, _, Nat.zero_le _, rfl, rfl, World.ownsRow_nil _ _ _ _, Below.refl _ _⟩
  case round =>
    obtain ⟨k, V, hk, rfl, rfl, hV, hb⟩ := hrel
    by_cases hlt : k < ss.length
    · obtain ⟨s, hs⟩ : ∃ s, ss[k]? = some s := ⟨_, List.getElem?_eq_getElem hlt⟩
      have hat := H.out.1.keeps (Keeps.of_below_size hb) (fun q hq => hq) (Nat.le_refl _)
      obtain ⟨kb, ko, ad, dc, k2, kc, rfl, hkb, hcs, hst⟩ := hat k s hs
      have hlt' : (k : Int) < (ss.length : Int) := by omega
      have b0 : wr.cell? ⟨kb, ko + k * 11, none⟩ = some (.int .i64 s.kind) := by exact hcs 0 _ rfl
      have b1 : wr.cell? ⟨kb, ko + k * 11 + 1, none⟩ = some (.int .i64 s.n) := by rw [Nat.add_assoc]; exact hcs 1 _ rfl
      have b2 : wr.cell? ⟨kb, ko + k * 11 + 2, none⟩ = some (.int .i64 s.ask) := by rw [Nat.add_assoc]; exact hcs 2 _ rfl
      have b3 : wr.cell? ⟨kb, ko + k * 11 + 3, none⟩ = some (.string s.path) := by rw [Nat.add_assoc]; exact hcs 3 _ rfl
      have b4 : wr.cell? ⟨kb, ko + k * 11 + 4, none⟩ = some (.string s.dest) := by rw [Nat.add_assoc]; exact hcs 4 _ rfl
      have b5 : wr.cell? ⟨kb, ko + k * 11 + 5, none⟩ = some (.int .i64 s.an) := by rw [Nat.add_assoc]; exact hcs 5 _ rfl
      have b6 : wr.cell? ⟨kb, ko + k * 11 + 6, none⟩ = some (.int .i64 s.off) := by rw [Nat.add_assoc]; exact hcs 6 _ rfl
      have b7 : wr.cell? ⟨kb, ko + k * 11 + 7, none⟩ = some (.int .i64 s.len) := by rw [Nat.add_assoc]; exact hcs 7 _ rfl
      have b8 : wr.cell? ⟨kb, ko + k * 11 + 8, none⟩ = some (.slice ad s.data.length dc) := by rw [Nat.add_assoc]; exact hcs 8 _ rfl
      have b9 : wr.cell? ⟨kb, ko + k * 11 + 9, none⟩ = some (.int .i64 s.cut) := by rw [Nat.add_assoc]; exact hcs 9 _ rfl
      have b10 : wr.cell? ⟨kb, ko + k * 11 + 10, none⟩ = some (.slice k2 s.keep.length kc) := by rw [Nat.add_assoc]; exact hcs 10 _ rfl
      have HL := Lib.hid (And.intro hV (And.intro hb (And.intro hst hs)))
      clear hV hb hst hs hcs hat
      go_upto_region 4 with fail
      obtain ⟨Q, hQ⟩ : ∃ Q, Q = wr.heap.size := ⟨_, rfl⟩
      have hB3 : Below wr.heap.size wr (wr.alloc (.cells #[.int .i64 s.kind, .int .i64 s.n, .int .i64 s.ask, .string s.path, .string s.dest, .int .i64 s.an, .int .i64 s.off, .int .i64 s.len, .slice ad s.data.length dc, .int .i64 s.cut, .slice k2 s.keep.length kc] 35)) := grow_alloc (Below.refl _ _) _
      have hq3 : objAt (wr.alloc (.cells #[.int .i64 s.kind, .int .i64 s.n, .int .i64 s.ask, .string s.path, .string s.dest, .int .i64 s.an, .int .i64 s.off, .int .i64 s.len, .slice ad s.data.length dc, .int .i64 s.cut, .slice k2 s.keep.length kc] 35)) Q = some (.cells #[.int .i64 s.kind, .int .i64 s.n, .int .i64 s.ask, .string s.path, .string s.dest, .int .i64 s.an, .int .i64 s.off, .int .i64 s.len, .slice ad s.data.length dc, .int .i64 s.cut, .slice k2 s.keep.length kc] 35 (0, 0)) := by rw [objAt_alloc, if_pos hQ]
      obtain ⟨w3, hw3⟩ : ∃ w3, w3 = wr.alloc (.cells #[.int .i64 s.kind, .int .i64 s.n, .int .i64 s.ask, .string s.path, .string s.dest, .int .i64 s.an, .int .i64 s.off, .int .i64 s.len, .slice ad s.data.length dc, .int .i64 s.cut, .slice k2 s.keep.length kc] 35) := ⟨_, rfl⟩
      rw [← hw3] at hB3 hq3
      rw [← hw3, ← hQ]
      have H3 := Lib.hid (And.intro hB3 (And.intro hq3 hQ))
      clear hB3 hq3 hQ hw3 b0 b1 b2 b3 b4 b5 b6 b7 b8 b9 b10
      go_upto_region 5 with fail
      obtain ⟨W, hW⟩ : ∃ W, W = w3.heap.size := ⟨_, rfl⟩
      have hB4 : Below w3.heap.size w3 (w3.alloc (.cells #[.slice none 0 0] 66)) := grow_alloc (Below.refl _ _) _
      have hwt : WtrAt (w3.alloc (.cells #[.slice none 0 0] 66)) 66 W (.slice none 0 0) [] := ⟨by rw [objAt_alloc, if_pos hW], World.ownsRow_nil _ _ _ _⟩
      obtain ⟨w4, hw4⟩ : ∃ w4, w4 = w3.alloc (.cells #[.slice none 0 0] 66) := ⟨_, rfl⟩
      rw [← hw4] at hB4 hwt
      rw [← hw4, ← hW]
      have hq4 := grow_obj hB4 H3.out.2.1
      have hst4 : StpL w4 W s ad k2 := (HL.out.2.2.1.keeps (Keeps.of_below_size (grow_trans H3.out.1 hB4)) (fun q hq => Nat.le_trans HL.out.2.1.size hq) HL.out.2.1.size).up (by have := H3.out.1.size; have := HL.out.2.1.size; omega)
      have hsf := H.out.2 s (List.mem_of_getElem? HL.out.2.2.2)
      have HP := Lib.hid (pstep_any (dc := dc) (kc := kc) hwt (fun g hg => by cases hg) hst4 hsf)
      have hs4 := hasStp_obj hq4 rfl
      have hr4 : rowAt w4 Q = some #[.int .i64 s.kind, .int .i64 s.n, .int .i64 s.ask, .string s.path, .string s.dest, .int .i64 s.an, .int .i64 s.off, .int .i64 s.len, .slice ad s.data.length dc, .int .i64 s.cut, .slice k2 s.keep.length kc] := rowAt_heap hq4
      have d0 := cell_obj hq4 0
      have d1 := cell_obj hq4 1
      have d2 := cell_obj hq4 2
      have d3 := cell_obj hq4 3
      have d4 := cell_obj hq4 4
      have d5 := cell_obj hq4 5
      have d6 := cell_obj hq4 6
      have d7 := cell_obj hq4 7
      have d8 := cell_obj hq4 8
      have d9 := cell_obj hq4 9
      have d10 := cell_obj hq4 10
      have H4 := Lib.hid (And.intro hB4 (And.intro hq4 hW))
      clear hB4 hq4 hW hwt hst4 hsf hw4
      unfold stpCells at HP
      go_upto_region 6 with (go_at_call 15; refine HP.out.mono ?_; rintro e w5 ⟨rfl, v5, hw5, hk5, hv5⟩)
      have hlen5 := writeStp_len (H.out.2 s (List.mem_of_getElem? HL.out.2.2.2))
      obtain ⟨g5, cap5, hv5e, hg5, hle5⟩ : ∃ g cap, v5 = .slice (some ⟨g, 0, none⟩) (writeStp s).length cap ∧ g < w5.heap.size ∧ (writeStp s).length ≤ cap := by
        rcases hw5.row.2 with ⟨_, h0⟩ | ⟨g, cap, cur, e, _, hg, hc, _⟩
        · omega
        · exact ⟨g, cap, e, block_lt hg, hc⟩
      subst hv5e
      have HD := Lib.hid (decode_any (BRow.bytesAt hw5.row).1 (fun e => by cases e) hle5 (by omega) (fun p e => by obtain rfl := Option.some.inj e; exact ⟨⟨g5, 0, rfl⟩, hg5⟩))
      have c5 := hw5.c0
      have hq5 := hk5.obj H4.out.2.1 (fun e => by have := block_lt H3.out.2.1; have := H4.out.2.2; omega)
      have H5 := Lib.hid (And.intro hw5 (And.intro hk5 (And.intro hv5 (And.intro hq5 hlen5))))
      clear hw5 hk5 hv5 hq5 hlen5 hg5 hle5 hr4 hs4 d0 d1 d2 d3 d4 d5 d6 d7 d8 d9 d10 HP
      go_upto_region 7 with (go_at_call 8; refine HD.out.mono ?_; rintro e w6 ⟨v6, rfl, hr6, b6⟩)
      obtain ⟨a6, c6, rfl, hat6⟩ := hr6.at_
      have hb6 : Below w.heap.size w w6 := ((HL.out.2.1.trans (H3.out.1.mono HL.out.2.1.size)).trans (H4.out.1.mono (by have := H3.out.1.size; have := HL.out.2.1.size; omega))).trans ((H5.out.2.1.below (by have := H4.out.1.size; have := H3.out.1.size; have := HL.out.2.1.size; omega) (fun q e => by have := H4.out.2.2; have := H3.out.1.size; have := HL.out.2.1.size; omega)).trans (b6.mono (by have := H5.out.2.1.size; have := H4.out.1.size; have := H3.out.1.size; have := HL.out.2.1.size; omega)))
      have hkV : Keeps (fun q => wr.heap.size ≤ q) wr w6.drew := (((Keeps.of_below H3.out.1).trans (Keeps.of_below H4.out.1)).trans (H5.out.2.1.mono fun q _ e => by have := H4.out.2.2; have := H3.out.1.size; omega)).trans (Keeps.of_below b6.drew)
      have hV6 : BRow w6.drew w.heap.size V (encode (ss.take k)) := owns_keeps HL.out.1 hkV (fun g hg e => by obtain ⟨_, q, hq⟩ := BRow.ownObj HL.out.1 hg; have := block_lt hq; omega)
      have HV6 := Lib.hid (And.intro hV6 hb6.drew)
      have H6 := Lib.hid (And.intro hr6 (And.intro b6 (And.intro hat6 hb6)))
      obtain ⟨dl, hdl⟩ : ∃ dl, dl = decode (writeStp s) := ⟨_, rfl⟩
      rw [← hdl] at H6 ⊢
      have HDL := Lib.hid hdl
      have hkV2 := hkV
      clear hr6 b6 hat6 hb6 c5 hdl hkV hV6
      by_cases h1 : dl.length = 1
      · obtain ⟨s2, hs2⟩ : ∃ s2, dl[0]? = some s2 := ⟨_, List.getElem?_eq_getElem (by omega)⟩
        obtain ⟨kb2, ko2, ad2, dc2, k3, kc3, rfl, hkb2, hcs2, hst2⟩ := H6.out.2.2.1 0 s2 hs2
        have hq6 := grow_obj H6.out.2.1.drew H5.out.2.2.2.1
        have hdr : Below w6.heap.size w6 w6.drew := (Below.refl _ _).drew
        have hstS : StpL w6.drew w.heap.size s ad k2 := HL.out.2.2.1.keeps hkV2 (fun q e => Nat.le_trans HL.out.2.1.size e) HL.out.2.1.size
        have hkl := say_keep (say_decode _ s2 (by rw [← HDL.out]; exact List.mem_of_getElem? hs2))
        have HS := Lib.hid (psame_any (w := w6.drew) s2 s (c1 := dc2) (c2 := dc) (e1 := kc3) (e2 := kc) (hst2.data.below hdr) hstS.data (hst2.keepAt.below hdr) hstS.keepAt hkl)
        have h1' : ((dl.length : Int) == 1) = true := by simpa using by omega
        have h0 : 0 < dl.length := by omega
        have h0i : (0 : Int) < (dl.length : Int) := by omega
        have hen : encOne s = if stpEq s2 s = true then writeStp s else [] := by
          unfold encOne
          rw [← HDL.out]
          have : dl = [s2] := by
            match dl, h1, hs2 with
            | [x], _, hs2 => exact congrArg (fun x => [x]) (Option.some.inj hs2)
          rw [this]
          by_cases he : s2 = s
          · rw [if_pos (by rw [he]), if_pos (stpEq_iff.2 he)]
          · rw [if_neg (fun e => he (by simpa using e)), if_neg (fun e => he (stpEq_iff.1 e))]
        have HE := Lib.hid hen
        have m0 : w6.drew.cell? ⟨kb2, ko2, none⟩ = some (.int .i64 s2.kind) := by have := hcs2 0 _ rfl; rw [Nat.zero_mul, Nat.zero_add] at this; exact this
        have m1 : w6.drew.cell? ⟨kb2, ko2 + 1, none⟩ = some (.int .i64 s2.n) := by have := hcs2 1 _ rfl; rw [Nat.zero_mul, Nat.zero_add] at this; exact this
        have m2 : w6.drew.cell? ⟨kb2, ko2 + 2, none⟩ = some (.int .i64 s2.ask) := by have := hcs2 2 _ rfl; rw [Nat.zero_mul, Nat.zero_add] at this; exact this
        have m3 : w6.drew.cell? ⟨kb2, ko2 + 3, none⟩ = some (.string s2.path) := by have := hcs2 3 _ rfl; rw [Nat.zero_mul, Nat.zero_add] at this; exact this
        have m4 : w6.drew.cell? ⟨kb2, ko2 + 4, none⟩ = some (.string s2.dest) := by have := hcs2 4 _ rfl; rw [Nat.zero_mul, Nat.zero_add] at this; exact this
        have m5 : w6.drew.cell? ⟨kb2, ko2 + 5, none⟩ = some (.int .i64 s2.an) := by have := hcs2 5 _ rfl; rw [Nat.zero_mul, Nat.zero_add] at this; exact this
        have m6 : w6.drew.cell? ⟨kb2, ko2 + 6, none⟩ = some (.int .i64 s2.off) := by have := hcs2 6 _ rfl; rw [Nat.zero_mul, Nat.zero_add] at this; exact this
        have m7 : w6.drew.cell? ⟨kb2, ko2 + 7, none⟩ = some (.int .i64 s2.len) := by have := hcs2 7 _ rfl; rw [Nat.zero_mul, Nat.zero_add] at this; exact this
        have m8 : w6.drew.cell? ⟨kb2, ko2 + 8, none⟩ = some (.slice ad2 s2.data.length dc2) := by have := hcs2 8 _ rfl; rw [Nat.zero_mul, Nat.zero_add] at this; exact this
        have m9 : w6.drew.cell? ⟨kb2, ko2 + 9, none⟩ = some (.int .i64 s2.cut) := by have := hcs2 9 _ rfl; rw [Nat.zero_mul, Nat.zero_add] at this; exact this
        have m10 : w6.drew.cell? ⟨kb2, ko2 + 10, none⟩ = some (.slice k3 s2.keep.length kc3) := by have := hcs2 10 _ rfl; rw [Nat.zero_mul, Nat.zero_add] at this; exact this
        have q0 : w6.drew.cell? ⟨Q, 0, none⟩ = some (.int .i64 s.kind) := cell_obj hq6 0
        have q1 : w6.drew.cell? ⟨Q, 1, none⟩ = some (.int .i64 s.n) := cell_obj hq6 1
        have q2 : w6.drew.cell? ⟨Q, 2, none⟩ = some (.int .i64 s.ask) := cell_obj hq6 2
        have q3 : w6.drew.cell? ⟨Q, 3, none⟩ = some (.string s.path) := cell_obj hq6 3
        have q4 : w6.drew.cell? ⟨Q, 4, none⟩ = some (.string s.dest) := cell_obj hq6 4
        have q5 : w6.drew.cell? ⟨Q, 5, none⟩ = some (.int .i64 s.an) := cell_obj hq6 5
        have q6 : w6.drew.cell? ⟨Q, 6, none⟩ = some (.int .i64 s.off) := cell_obj hq6 6
        have q7 : w6.drew.cell? ⟨Q, 7, none⟩ = some (.int .i64 s.len) := cell_obj hq6 7
        have q8 : w6.drew.cell? ⟨Q, 8, none⟩ = some (.slice ad s.data.length dc) := cell_obj hq6 8
        have q9 : w6.drew.cell? ⟨Q, 9, none⟩ = some (.int .i64 s.cut) := cell_obj hq6 9
        have q10 : w6.drew.cell? ⟨Q, 10, none⟩ = some (.slice k2 s.keep.length kc) := cell_obj hq6 10
        unfold stpCells at HS
        have HL1 := Lib.hid h1
        have hw6 := H5.out.1.below H6.out.2.1
        have HW6 := Lib.hid hw6
        clear hen hstS hdr hq6 hcs2 hst2 hkl h1 hs2 hw6
        cases hb : stpEq s2 s with
        | false =>
          rw [hb] at HS HE
          clear hb
          refine wp_region_F [8] (S := fun w' => w'.cell? ⟨kb2, ko2, none⟩ = some (.int .i64 s2.kind) ∧ w'.cell? ⟨kb2, ko2 + 1, none⟩ = some (.int .i64 s2.n) ∧ w'.cell? ⟨kb2, ko2 + 2, none⟩ = some (.int .i64 s2.ask) ∧ w'.cell? ⟨kb2, ko2 + 3, none⟩ = some (.string s2.path) ∧ w'.cell? ⟨kb2, ko2 + 4, none⟩ = some (.string s2.dest) ∧ w'.cell? ⟨kb2, ko2 + 5, none⟩ = some (.int .i64 s2.an) ∧ w'.cell? ⟨kb2, ko2 + 6, none⟩ = some (.int .i64 s2.off) ∧ w'.cell? ⟨kb2, ko2 + 7, none⟩ = some (.int .i64 s2.len) ∧ w'.cell? ⟨kb2, ko2 + 8, none⟩ = some (.slice ad2 s2.data.length dc2) ∧ w'.cell? ⟨kb2, ko2 + 9, none⟩ = some (.int .i64 s2.cut) ∧ w'.cell? ⟨kb2, ko2 + 10, none⟩ = some (.slice k3 s2.keep.length kc3) ∧ w'.cell? ⟨Q, 0, none⟩ = some (.int .i64 s.kind) ∧ w'.cell? ⟨Q, 1, none⟩ = some (.int .i64 s.n) ∧ w'.cell? ⟨Q, 2, none⟩ = some (.int .i64 s.ask) ∧ w'.cell? ⟨Q, 3, none⟩ = some (.string s.path) ∧ w'.cell? ⟨Q, 4, none⟩ = some (.string s.dest) ∧ w'.cell? ⟨Q, 5, none⟩ = some (.int .i64 s.an) ∧ w'.cell? ⟨Q, 6, none⟩ = some (.int .i64 s.off) ∧ w'.cell? ⟨Q, 7, none⟩ = some (.int .i64 s.len) ∧ w'.cell? ⟨Q, 8, none⟩ = some (.slice ad s.data.length dc) ∧ w'.cell? ⟨Q, 9, none⟩ = some (.int .i64 s.cut) ∧ w'.cell? ⟨Q, 10, none⟩ = some (.slice k2 s.keep.length kc) ∧ True) (by kernel_rfl) (⟨m0, m1, m2, m3, m4, m5, m6, m7, m8, m9, m10, q0, q1, q2, q3, q4, q5, q6, q7, q8, q9, q10, trivial⟩) (fun hHeld => ?_)
          show wpAnyF _ _ _ _ _ _ 10 #[false, false, false, false, false, false, false, false, false, false] _ _
          refine wpAnyF_take [0, 1, 2, 3, 4, 5, 6, 7, 8, 9] (i := 0) (v := ?kv1) rfl (by kernel_rfl) (by kernel_rfl) (by kernel_rfl) (by kernel_rfl) (fun _ _ _ h => h) (Or.inl ⟨by rfl, ?ky1⟩) (by assumption) ?kr1
          case ky1 => (intro w hSw; (try dsimp only at hSw); go_split_ands; (try simp only [List.getElem_toArray, List.getElem_cons_zero]); go_simp; (try with_reducible rfl))
          try simp only [Act.put, List.getElem_toArray, List.getElem_cons_zero, List.setIfInBounds_toArray, List.set_cons_zero, List.set_cons_succ]
          refine wpAnyF_ready (rs := [1]) (by kernel_rfl) (by simp) ?_
          refine (AllReadyF.cons rfl (fun K hK => ?_) AllReadyF.nil)
          try simp only [List.getElem_toArray, List.getElem_cons_zero, List.getElem_cons_succ]
          go_simp
          refine hK.out _ _ (by exact hHeld) (fun hHeldn => ?_)
          clear hHeld hK K
          have hHeld := hHeldn
          clear hHeldn
          try simp only [List.setIfInBounds_toArray, List.set_cons_zero, List.set_cons_succ]
          refine wpAnyF_take [2, 3, 4, 5, 6, 7, 8, 9] (i := 2) (v := ?kv3) rfl (by kernel_rfl) (by kernel_rfl) (by kernel_rfl) (by kernel_rfl) (fun _ _ _ h => h) (Or.inl ⟨by rfl, ?ky3⟩) (by assumption) ?kr3
          case ky3 => (intro w hSw; (try dsimp only at hSw); go_split_ands; (try simp only [List.getElem_toArray, List.getElem_cons_zero, List.getElem_cons_succ]); go_simp; (try with_reducible rfl))
          try simp only [Act.put, List.getElem_toArray, List.getElem_cons_zero, List.getElem_cons_succ, List.setIfInBounds_toArray, List.set_cons_zero, List.set_cons_succ]
          refine wpAnyF_take [3, 4, 5, 6, 7, 8, 9] (i := 3) (v := ?kv4) rfl (by kernel_rfl) (by kernel_rfl) (by kernel_rfl) (by kernel_rfl) (fun _ _ _ h => h) (Or.inl ⟨by rfl, ?ky4⟩) (by assumption) ?kr4
          case ky4 => (intro w hSw; (try dsimp only at hSw); go_split_ands; (try simp only [List.getElem_toArray, List.getElem_cons_zero, List.getElem_cons_succ]); go_simp; (try with_reducible rfl))
          try simp only [Act.put, List.getElem_toArray, List.getElem_cons_zero, List.getElem_cons_succ, List.setIfInBounds_toArray, List.set_cons_zero, List.set_cons_succ]
          refine wpAnyF_take [4, 5, 6, 8, 9] (i := 4) (v := ?kv5) rfl (by kernel_rfl) (by kernel_rfl) (by kernel_rfl) (by kernel_rfl) (fun _ _ _ h => h) (Or.inl ⟨by rfl, ?ky5⟩) (by assumption) ?kr5
          case ky5 => (intro w hSw; (try dsimp only at hSw); go_split_ands; (try simp only [List.getElem_toArray, List.getElem_cons_zero, List.getElem_cons_succ]); go_simp; (try with_reducible rfl))
          try simp only [Act.put, List.getElem_toArray, List.getElem_cons_zero, List.getElem_cons_succ, List.setIfInBounds_toArray, List.set_cons_zero, List.set_cons_succ]
          refine wpAnyF_take [5, 6, 8, 9] (i := 5) (v := ?kv6) rfl (by kernel_rfl) (by kernel_rfl) (by kernel_rfl) (by kernel_rfl) (fun _ _ _ h => h) (Or.inl ⟨by rfl, ?ky6⟩) (by assumption) ?kr6
          case ky6 => (intro w hSw; (try dsimp only at hSw); go_split_ands; (try simp only [List.getElem_toArray, List.getElem_cons_zero, List.getElem_cons_succ]); go_simp; (try with_reducible rfl))
          try simp only [Act.put, List.getElem_toArray, List.getElem_cons_zero, List.getElem_cons_succ, List.setIfInBounds_toArray, List.set_cons_zero, List.set_cons_succ]
          refine wpAnyF_take [6, 8, 9] (i := 6) (v := ?kv7) rfl (by kernel_rfl) (by kernel_rfl) (by kernel_rfl) (by kernel_rfl) (fun _ _ _ h => h) (Or.inl ⟨by rfl, ?ky7⟩) (by assumption) ?kr7
          case ky7 => (intro w hSw; (try dsimp only at hSw); go_split_ands; (try simp only [List.getElem_toArray, List.getElem_cons_zero, List.getElem_cons_succ]); go_simp; (try with_reducible rfl))
          try simp only [Act.put, List.getElem_toArray, List.getElem_cons_zero, List.getElem_cons_succ, List.setIfInBounds_toArray, List.set_cons_zero, List.set_cons_succ]
          refine wpAnyF_take [7, 8, 9] (i := 7) (v := ?kv8) rfl (by kernel_rfl) (by kernel_rfl) (by kernel_rfl) (by kernel_rfl) (fun _ _ _ h => h) (Or.inl ⟨by rfl, ?ky8⟩) (by assumption) ?kr8
          case ky8 => (intro w hSw; (try dsimp only at hSw); go_split_ands; (try simp only [List.getElem_toArray, List.getElem_cons_zero, List.getElem_cons_succ]); go_simp; (try with_reducible rfl))
          try simp only [Act.put, List.getElem_toArray, List.getElem_cons_zero, List.getElem_cons_succ, List.setIfInBounds_toArray, List.set_cons_zero, List.set_cons_succ]
          refine wpAnyF_ready (rs := [8]) (by kernel_rfl) (by simp) ?_
          refine (AllReadyF.last rfl (by kernel_rfl) (fun K hK => ?_) AllReadyF.nil)
          try simp only [List.getElem_toArray, List.getElem_cons_zero, List.getElem_cons_succ]
          go_simp
          go_at_call 16; refine HS.out.mono ?_; rintro e w7 ⟨rfl, b7⟩
          refine hK.out _ _ (trivial) (fun hHeldn => ?_)
          clear hHeld hK K
          have hHeld := hHeldn
          clear hHeldn
          try simp only [List.setIfInBounds_toArray, List.set_cons_zero, List.set_cons_succ]
          refine wpAnyF_pure (i := 9) (v := ?kv10) rfl (by kernel_rfl) (by kernel_rfl) (by kernel_rfl) (by kernel_rfl) (fun _ _ _ h => h) (Or.inl ⟨by rfl, ?ky10⟩) (by first | (intro _; assumption) | (intro h; exact absurd h (by decide))) ?kr10
          case ky10 => (intro w hSw; clear hSw; (try simp only [List.getElem_toArray, List.getElem_cons_zero, List.getElem_cons_succ]); go_simp; (try with_reducible rfl))
          try simp only [Act.put, List.getElem_toArray, List.getElem_cons_zero, List.getElem_cons_succ, List.setIfInBounds_toArray, List.set_cons_zero, List.set_cons_succ]
          refine wpAnyF_done (by kernel_rfl) ?_ _
          go_wp2_with fail
          go_roundw
          case rel => exact ⟨k + 1, V, by omega, by go_num, rfl, by rw [encode_take HL.out.2.2.2, HE.out, if_neg (by decide), List.append_nil]; exact owns_keeps HV6.out.1 (Keeps.of_below_size b7) (fun g hg e => by obtain ⟨_, q, hq⟩ := BRow.ownObj HV6.out.1 hg; have := block_lt hq; omega), HV6.out.2.trans (b7.mono HV6.out.2.size)⟩
          case measure => simp [Go.RowKit.intOf]; omega
        | true =>
          rw [hb] at HS HE
          clear hb
          refine wp_region_F [8] (S := fun w' => w'.cell? ⟨kb2, ko2, none⟩ = some (.int .i64 s2.kind) ∧ w'.cell? ⟨kb2, ko2 + 1, none⟩ = some (.int .i64 s2.n) ∧ w'.cell? ⟨kb2, ko2 + 2, none⟩ = some (.int .i64 s2.ask) ∧ w'.cell? ⟨kb2, ko2 + 3, none⟩ = some (.string s2.path) ∧ w'.cell? ⟨kb2, ko2 + 4, none⟩ = some (.string s2.dest) ∧ w'.cell? ⟨kb2, ko2 + 5, none⟩ = some (.int .i64 s2.an) ∧ w'.cell? ⟨kb2, ko2 + 6, none⟩ = some (.int .i64 s2.off) ∧ w'.cell? ⟨kb2, ko2 + 7, none⟩ = some (.int .i64 s2.len) ∧ w'.cell? ⟨kb2, ko2 + 8, none⟩ = some (.slice ad2 s2.data.length dc2) ∧ w'.cell? ⟨kb2, ko2 + 9, none⟩ = some (.int .i64 s2.cut) ∧ w'.cell? ⟨kb2, ko2 + 10, none⟩ = some (.slice k3 s2.keep.length kc3) ∧ w'.cell? ⟨Q, 0, none⟩ = some (.int .i64 s.kind) ∧ w'.cell? ⟨Q, 1, none⟩ = some (.int .i64 s.n) ∧ w'.cell? ⟨Q, 2, none⟩ = some (.int .i64 s.ask) ∧ w'.cell? ⟨Q, 3, none⟩ = some (.string s.path) ∧ w'.cell? ⟨Q, 4, none⟩ = some (.string s.dest) ∧ w'.cell? ⟨Q, 5, none⟩ = some (.int .i64 s.an) ∧ w'.cell? ⟨Q, 6, none⟩ = some (.int .i64 s.off) ∧ w'.cell? ⟨Q, 7, none⟩ = some (.int .i64 s.len) ∧ w'.cell? ⟨Q, 8, none⟩ = some (.slice ad s.data.length dc) ∧ w'.cell? ⟨Q, 9, none⟩ = some (.int .i64 s.cut) ∧ w'.cell? ⟨Q, 10, none⟩ = some (.slice k2 s.keep.length kc) ∧ True) (by kernel_rfl) (⟨m0, m1, m2, m3, m4, m5, m6, m7, m8, m9, m10, q0, q1, q2, q3, q4, q5, q6, q7, q8, q9, q10, trivial⟩) (fun hHeld => ?_)
          show wpAnyF _ _ _ _ _ _ 10 #[false, false, false, false, false, false, false, false, false, false] _ _
          refine wpAnyF_take [0, 1, 2, 3, 4, 5, 6, 7, 8, 9] (i := 0) (v := ?kv11) rfl (by kernel_rfl) (by kernel_rfl) (by kernel_rfl) (by kernel_rfl) (fun _ _ _ h => h) (Or.inl ⟨by rfl, ?ky11⟩) (by assumption) ?kr11
          case ky11 => (intro w hSw; (try dsimp only at hSw); go_split_ands; (try simp only [List.getElem_toArray, List.getElem_cons_zero]); go_simp; (try with_reducible rfl))
          try simp only [Act.put, List.getElem_toArray, List.getElem_cons_zero, List.setIfInBounds_toArray, List.set_cons_zero, List.set_cons_succ]
          refine wpAnyF_ready (rs := [1]) (by kernel_rfl) (by simp) ?_
          refine (AllReadyF.cons rfl (fun K hK => ?_) AllReadyF.nil)
          try simp only [List.getElem_toArray, List.getElem_cons_zero, List.getElem_cons_succ]
          go_simp
          refine hK.out _ _ (by exact hHeld) (fun hHeldn => ?_)
          clear hHeld hK K
          have hHeld := hHeldn
          clear hHeldn
          try simp only [List.setIfInBounds_toArray, List.set_cons_zero, List.set_cons_succ]
          refine wpAnyF_take [2, 3, 4, 5, 6, 7, 8, 9] (i := 2) (v := ?kv13) rfl (by kernel_rfl) (by kernel_rfl) (by kernel_rfl) (by kernel_rfl) (fun _ _ _ h => h) (Or.inl ⟨by rfl, ?ky13⟩) (by assumption) ?kr13
          case ky13 => (intro w hSw; (try dsimp only at hSw); go_split_ands; (try simp only [List.getElem_toArray, List.getElem_cons_zero, List.getElem_cons_succ]); go_simp; (try with_reducible rfl))
          try simp only [Act.put, List.getElem_toArray, List.getElem_cons_zero, List.getElem_cons_succ, List.setIfInBounds_toArray, List.set_cons_zero, List.set_cons_succ]
          refine wpAnyF_take [3, 4, 5, 6, 7, 8, 9] (i := 3) (v := ?kv14) rfl (by kernel_rfl) (by kernel_rfl) (by kernel_rfl) (by kernel_rfl) (fun _ _ _ h => h) (Or.inl ⟨by rfl, ?ky14⟩) (by assumption) ?kr14
          case ky14 => (intro w hSw; (try dsimp only at hSw); go_split_ands; (try simp only [List.getElem_toArray, List.getElem_cons_zero, List.getElem_cons_succ]); go_simp; (try with_reducible rfl))
          try simp only [Act.put, List.getElem_toArray, List.getElem_cons_zero, List.getElem_cons_succ, List.setIfInBounds_toArray, List.set_cons_zero, List.set_cons_succ]
          refine wpAnyF_take [4, 5, 6, 8, 9] (i := 4) (v := ?kv15) rfl (by kernel_rfl) (by kernel_rfl) (by kernel_rfl) (by kernel_rfl) (fun _ _ _ h => h) (Or.inl ⟨by rfl, ?ky15⟩) (by assumption) ?kr15
          case ky15 => (intro w hSw; (try dsimp only at hSw); go_split_ands; (try simp only [List.getElem_toArray, List.getElem_cons_zero, List.getElem_cons_succ]); go_simp; (try with_reducible rfl))
          try simp only [Act.put, List.getElem_toArray, List.getElem_cons_zero, List.getElem_cons_succ, List.setIfInBounds_toArray, List.set_cons_zero, List.set_cons_succ]
          refine wpAnyF_take [5, 6, 8, 9] (i := 5) (v := ?kv16) rfl (by kernel_rfl) (by kernel_rfl) (by kernel_rfl) (by kernel_rfl) (fun _ _ _ h => h) (Or.inl ⟨by rfl, ?ky16⟩) (by assumption) ?kr16
          case ky16 => (intro w hSw; (try dsimp only at hSw); go_split_ands; (try simp only [List.getElem_toArray, List.getElem_cons_zero, List.getElem_cons_succ]); go_simp; (try with_reducible rfl))
          try simp only [Act.put, List.getElem_toArray, List.getElem_cons_zero, List.getElem_cons_succ, List.setIfInBounds_toArray, List.set_cons_zero, List.set_cons_succ]
          refine wpAnyF_take [6, 8, 9] (i := 6) (v := ?kv17) rfl (by kernel_rfl) (by kernel_rfl) (by kernel_rfl) (by kernel_rfl) (fun _ _ _ h => h) (Or.inl ⟨by rfl, ?ky17⟩) (by assumption) ?kr17
          case ky17 => (intro w hSw; (try dsimp only at hSw); go_split_ands; (try simp only [List.getElem_toArray, List.getElem_cons_zero, List.getElem_cons_succ]); go_simp; (try with_reducible rfl))
          try simp only [Act.put, List.getElem_toArray, List.getElem_cons_zero, List.getElem_cons_succ, List.setIfInBounds_toArray, List.set_cons_zero, List.set_cons_succ]
          refine wpAnyF_take [7, 8, 9] (i := 7) (v := ?kv18) rfl (by kernel_rfl) (by kernel_rfl) (by kernel_rfl) (by kernel_rfl) (fun _ _ _ h => h) (Or.inl ⟨by rfl, ?ky18⟩) (by assumption) ?kr18
          case ky18 => (intro w hSw; (try dsimp only at hSw); go_split_ands; (try simp only [List.getElem_toArray, List.getElem_cons_zero, List.getElem_cons_succ]); go_simp; (try with_reducible rfl))
          try simp only [Act.put, List.getElem_toArray, List.getElem_cons_zero, List.getElem_cons_succ, List.setIfInBounds_toArray, List.set_cons_zero, List.set_cons_succ]
          refine wpAnyF_ready (rs := [8]) (by kernel_rfl) (by simp) ?_
          refine (AllReadyF.last rfl (by kernel_rfl) (fun K hK => ?_) AllReadyF.nil)
          try simp only [List.getElem_toArray, List.getElem_cons_zero, List.getElem_cons_succ]
          go_simp
          go_at_call 16; refine HS.out.mono ?_; rintro e w7 ⟨rfl, b7⟩
          refine hK.out _ _ (trivial) (fun hHeldn => ?_)
          clear hHeld hK K
          have hHeld := hHeldn
          clear hHeldn
          try simp only [List.setIfInBounds_toArray, List.set_cons_zero, List.set_cons_succ]
          refine wpAnyF_pure (i := 9) (v := ?kv20) rfl (by kernel_rfl) (by kernel_rfl) (by kernel_rfl) (by kernel_rfl) (fun _ _ _ h => h) (Or.inl ⟨by rfl, ?ky20⟩) (by first | (intro _; assumption) | (intro h; exact absurd h (by decide))) ?kr20
          case ky20 => (intro w hSw; clear hSw; (try simp only [List.getElem_toArray, List.getElem_cons_zero, List.getElem_cons_succ]); go_simp; (try with_reducible rfl))
          try simp only [Act.put, List.getElem_toArray, List.getElem_cons_zero, List.getElem_cons_succ, List.setIfInBounds_toArray, List.set_cons_zero, List.set_cons_succ]
          refine wpAnyF_done (by kernel_rfl) ?_ _
          have hw7 := (HW6.out.below (Below.refl _ _).drew).below b7
          have c7 := hw7.c0
          have hV7 : BRow w7 w.heap.size V (encode (ss.take k)) := owns_keeps HV6.out.1 (Keeps.of_below_size b7) (fun g hg e => by obtain ⟨_, q, hq⟩ := BRow.ownObj HV6.out.1 hg; have := block_lt hq; omega)
          have hle := encode_len (ss := ss.take k) (fun x hx => H.out.2 x (List.mem_of_mem_take hx))
          have hlk : (ss.take k).length ≤ 300 := by rw [List.length_take]; omega
          have H7 := Lib.hid (And.intro hw7 (And.intro hV7 (And.intro (HV6.out.2.trans (b7.mono HV6.out.2.size)) (show (encode (ss.take k)).length + (writeStp s).length < 2000000000 by have := H5.out.2.2.2.2.1; omega))))
          clear hw7 hV7 hle hlk
          go_wp2_with (at_builtin; refine list_appAt rfl _ _ rfl rfl H7.out.2.1 rfl (BRow.bytesAt H7.out.1.row).1 H7.out.2.2.2 H7.out.2.2.1.size ?_; intro v8 w8 hB8 b8)
          go_roundw
          case rel => exact ⟨k + 1, v8, by omega, by go_num, rfl, by rw [encode_take HL.out.2.2.2, HE.out, if_pos rfl]; exact hB8, H7.out.2.2.1.trans b8⟩
          case measure => simp [Go.RowKit.intOf]; omega
      · have h1' : ((dl.length : Int) == 1) = false := by simpa using by omega
        have he : encOne s = [] := by
          unfold encOne
          rw [if_neg (fun e => h1 (by rw [HDL.out, e]; rfl))]
        have HE := Lib.hid he
        clear h1 he
        refine wp_region_held_drew (S := fun _ => True) (by kernel_rfl) (trivial) (fun hHeld => ?_)
        show wpAnyH _ _ _ _ _ 10 #[false, false, false, false, false, false, false, false, false, false] _ _
        refine wpAnyH_take (i := 0) (v := ?kv21) rfl (by kernel_rfl) (by kernel_rfl) (by kernel_rfl) (fun _ _ _ h => h) (Or.inl ⟨by rfl, ?ky21⟩) (by assumption) ?kr21
        case ky21 => (intro w hSw; (try dsimp only at hSw); go_split_ands; (try simp only [List.getElem_toArray, List.getElem_cons_zero]); go_simp; (try with_reducible rfl))
        try simp only [Act.put, List.getElem_toArray, List.getElem_cons_zero, List.setIfInBounds_toArray, List.set_cons_zero, List.set_cons_succ]
        refine wpAnyH_ready (rs := [1]) (by kernel_rfl) (by simp) ?_
        refine (AllReadyH.cons rfl (fun K hK => ?_) AllReadyH.nil)
        try simp only [List.getElem_toArray, List.getElem_cons_zero, List.getElem_cons_succ]
        go_simp
        refine hK.out _ _ (by trivial) (fun hHeldn => ?_)
        clear hHeld hK K
        have hHeld := hHeldn
        clear hHeldn
        try simp only [List.setIfInBounds_toArray, List.set_cons_zero, List.set_cons_succ]
        refine wpAnyH_take (i := 2) (v := ?kv23) rfl (by kernel_rfl) (by kernel_rfl) (by kernel_rfl) (fun _ _ _ h => h) (Or.inl ⟨by rfl, ?ky23⟩) (by assumption) ?kr23
        case ky23 => (intro w hSw; (try dsimp only at hSw); go_split_ands; (try simp only [List.getElem_toArray, List.getElem_cons_zero, List.getElem_cons_succ]); go_simp; (try with_reducible rfl))
        try simp only [Act.put, List.getElem_toArray, List.getElem_cons_zero, List.getElem_cons_succ, List.setIfInBounds_toArray, List.set_cons_zero, List.set_cons_succ]
        refine wpAnyH_take (i := 3) (v := ?kv24) rfl (by kernel_rfl) (by kernel_rfl) (by kernel_rfl) (fun _ _ _ h => h) (Or.inl ⟨by rfl, ?ky24⟩) (by assumption) ?kr24
        case ky24 => (intro w hSw; (try dsimp only at hSw); go_split_ands; (try simp only [List.getElem_toArray, List.getElem_cons_zero, List.getElem_cons_succ]); go_simp; (try with_reducible rfl))
        try simp only [Act.put, List.getElem_toArray, List.getElem_cons_zero, List.getElem_cons_succ, List.setIfInBounds_toArray, List.set_cons_zero, List.set_cons_succ]
        refine wpAnyH_take (i := 4) (v := undef) rfl (by kernel_rfl) (by kernel_rfl) (by kernel_rfl) (fun _ _ _ h => h) (Or.inr ⟨?kz25, rfl⟩) (by assumption) ?kr25
        case kz25 => rfl
        try simp only [Act.put, List.getElem_toArray, List.getElem_cons_zero, List.getElem_cons_succ, List.setIfInBounds_toArray, List.set_cons_zero, List.set_cons_succ]
        refine wpAnyH_take (i := 5) (v := undef) rfl (by kernel_rfl) (by kernel_rfl) (by kernel_rfl) (fun _ _ _ h => h) (Or.inr ⟨?kz26, rfl⟩) (by assumption) ?kr26
        case kz26 => rfl
        try simp only [Act.put, List.getElem_toArray, List.getElem_cons_zero, List.getElem_cons_succ, List.setIfInBounds_toArray, List.set_cons_zero, List.set_cons_succ]
        refine wpAnyH_take (i := 6) (v := undef) rfl (by kernel_rfl) (by kernel_rfl) (by kernel_rfl) (fun _ _ _ h => h) (Or.inr ⟨?kz27, rfl⟩) (by assumption) ?kr27
        case kz27 => rfl
        try simp only [Act.put, List.getElem_toArray, List.getElem_cons_zero, List.getElem_cons_succ, List.setIfInBounds_toArray, List.set_cons_zero, List.set_cons_succ]
        refine wpAnyH_take (i := 7) (v := undef) rfl (by kernel_rfl) (by kernel_rfl) (by kernel_rfl) (fun _ _ _ h => h) (Or.inr ⟨?kz28, rfl⟩) (by assumption) ?kr28
        case kz28 => rfl
        try simp only [Act.put, List.getElem_toArray, List.getElem_cons_zero, List.getElem_cons_succ, List.setIfInBounds_toArray, List.set_cons_zero, List.set_cons_succ]
        refine wpAnyH_take (i := 8) (v := undef) rfl (by kernel_rfl) (by kernel_rfl) (by kernel_rfl) (fun _ _ _ h => h) (Or.inr ⟨?kz29, rfl⟩) (by assumption) ?kr29
        case kz29 => rfl
        try simp only [Act.put, List.getElem_toArray, List.getElem_cons_zero, List.getElem_cons_succ, List.setIfInBounds_toArray, List.set_cons_zero, List.set_cons_succ]
        refine wpAnyH_take (i := 9) (v := ?kv30) rfl (by kernel_rfl) (by kernel_rfl) (by kernel_rfl) (fun _ _ _ h => h) (Or.inl ⟨by rfl, ?ky30⟩) (by assumption) ?kr30
        case ky30 => (intro w hSw; (try dsimp only at hSw); go_split_ands; (try simp only [List.getElem_toArray, List.getElem_cons_zero, List.getElem_cons_succ]); go_simp; (try with_reducible rfl))
        try simp only [Act.put, List.getElem_toArray, List.getElem_cons_zero, List.getElem_cons_succ, List.setIfInBounds_toArray, List.set_cons_zero, List.set_cons_succ]
        refine wpAnyH_done (by kernel_rfl) ?_ _
        go_wp2_with fail
        go_roundw
        case rel => exact ⟨k + 1, V, by omega, by go_num, rfl, by rw [encode_take HL.out.2.2.2, HE.out, List.append_nil]; exact HV6.out.1, HV6.out.2⟩
        case measure => simp [Go.RowKit.intOf]; omega
    · obtain rfl : k = ss.length := by omega
      rw [List.take_length] at hV
      have HV := Lib.hid (And.intro hV hb)
      clear hV hb
      go_wp2_with fail
      go_ret
      exact ⟨_, rfl, HV.out⟩
end Go.Proofs.YtanmihhlkelgeaaGreat
