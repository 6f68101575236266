/- DERIVED. clathrilaw10.BitsAll returns true. -/
import Derived.Test.YtbadpgbichnemaaBitsFull
import Derived.Deep.DeepCutAuto
namespace Go.Proofs.Ytbadpgbichnemaa
open Go.RowKit

theorem BitsAt.below {w w' : World} {b q : Nat} {l : List Bool} (h : BitsAt w b q l) (k : Below w.heap.size w w') : BitsAt w' b q l :=
  h.keeps (Keeps.of_below (S := fun _ => False) k) (fun h => h) (fun h => h)

theorem First_none (w : World) :
    Calls Try.prog 13 #[.pointer none] w fun e w' => e = .returned (.tuple #[.int .i64 0, .bool false]) ∧ w = w' := First_nil w

/-- The row 'set' of the law: block s holds the bools l. -/
def BoolRow (w : World) (s : Nat) (l : List Bool) : Prop := w.heap[s]? = some (.cells (l.map Value.bool).toArray 4 (0, 0))
theorem BoolRow.cell {w : World} {s : Nat} {l : List Bool} (h : BoolRow w s l) (i : Nat) (hi : i < l.length) : w.cell? ⟨s, i, none⟩ = some (.bool l[i]) := by
  have h' : w.heap[s]? = _ := h
  simp [World.cell?, h', hi]
theorem BoolRow.free {w : World} {s : Nat} {l : List Bool} (h : BoolRow w s l) (i : Nat) : w.frozen? ⟨s, i, none⟩ = false := by
  have h' : w.heap[s]? = _ := h
  simp [World.frozen?, h']
theorem BoolRow.set {w : World} {s : Nat} {l : List Bool} (h : BoolRow w s l) (i : Nat) (v : Bool) : BoolRow (w.setCell ⟨s, i, none⟩ (.bool v)) s (l.set i v) := by
  unfold BoolRow
  rw [heap_setCell_same h]; simp [List.map_set]
theorem BoolRow.keeps {S : Nat → Prop} {w w' : World} {s : Nat} {l : List Bool} (h : BoolRow w s l) (k : Keeps S w w') (hs : ¬ S s) : BoolRow w' s l := by
  unfold BoolRow
  rw [k.block s (block_lt h) hs]; exact h

/-- What is kept from deed to deed: the Bits and the law's own row say the same. -/
structure Same10 (q s K : Nat) (w w' : World) (l : List Bool) : Prop where
  bits : BitsAt w' (q + 1) q l
  row : BoolRow w' s l
  len : l.length = K
  below : Below w.heap.size w w'
  q1 : w.heap.size ≤ q
  q2 : q + 1 < s

theorem Same10.put {q s K : Nat} {w w' w'' : World} {l : List Bool} (h : Same10 q s K w w' l) (i : Int) (v : Bool) (hi : 0 ≤ i ∧ i < K) (g : BitsAt w'' (q + 1) q (bitSet l i v)) (k : Keeps (· = q) w' w'') :
    Same10 q s K w (w''.setCell ⟨s, i.toNat, none⟩ (.bool v)) (l.set i.toNat v) := by
  have hq1 := h.q1
  have hq2 := h.q2
  have hlen := h.len
  have hb : bitSet l i v = l.set i.toNat v := by
    unfold bitSet
    split
    · rfl
    · rename_i hn
      rw [bitAt_in hi.1 (by omega)] at hn
      have : l[i.toNat]'(by omega) = v := by
        cases hv : l[i.toNat]'(by omega) <;> cases v <;> simp_all
      rw [← this, List.set_getElem_self]
  rw [hb] at g
  have k2 := Keeps.setCell (S := (· = s)) w'' ⟨s, i.toNat, none⟩ (.bool v) rfl
  refine ⟨g.keeps k2 (by omega) (by omega), (h.row.keeps k (by omega)).set _ _, by simpa using h.len, ?_, hq1, hq2⟩
  exact (h.below.trans (k.below h.below.size (by rintro _ rfl; omega))).setCell (by show w.heap.size ≤ s; omega) _

theorem Same10.stay {q s K : Nat} {w w' w'' : World} {l : List Bool} (h : Same10 q s K w w' l) (i : Int) (v : Bool) (hi : ¬ (0 ≤ i ∧ i < K)) (g : BitsAt w'' (q + 1) q (bitSet l i v)) (k : Keeps (· = q) w' w'') :
    Same10 q s K w w'' l := by
  have hq1 := h.q1
  have hq2 := h.q2
  have hlen := h.len
  have hb : bitSet l i v = l := by
    unfold bitSet
    rw [bitAt_out (by omega), if_neg (by simp)]
  rw [hb] at g
  exact ⟨g, h.row.keeps k (by omega), h.len, h.below.trans (k.below h.below.size (by rintro _ rfl; omega)), hq1, hq2⟩

theorem place_cases (l : List Bool) (i : Int) : (0 ≤ i ∧ i < l.length ∧ ∃ v : Bool, bitAt l i = some v) ∨ i < 0 ∨ (l.length : Int) ≤ i := by
  by_cases h : 0 ≤ i ∧ i < l.length
  · exact .inl ⟨h.1, h.2, _, bitAt_in h.1 h.2⟩
  · right; omega

/-- The least place from k on that is not set; K: none. -/
def leastOf (l : List Bool) (K k : Nat) : Int := match firstFrom l k with | some x => x | none => K

theorem leastOf_end {l : List Bool} {K k : Nat} (h : l.length = K) (hk : K ≤ k) : leastOf l K k = K := by
  unfold leastOf
  rw [firstFrom_none (by omega)]

theorem first_lt {l : List Bool} {k x : Nat} (h : firstFrom l k = some x) : x < l.length := by
  obtain ⟨_, h2, _⟩ := first_some h
  rcases Nat.lt_or_ge x l.length with h' | h'
  · exact h'
  · rw [List.getElem?_eq_none h'] at h2; cases h2

theorem least_none {l : List Bool} {K k : Nat} (h : firstFrom l k = none) : leastOf l K k = K := by unfold leastOf; rw [h]
theorem least_some {l : List Bool} {K k x : Nat} (h : firstFrom l k = some x) : leastOf l K k = x := by unfold leastOf; rw [h]
theorem first_pos {l : List Bool} {k x : Nat} (h : firstFrom l k = some x) : x < l.length ∧ 1 ≤ l.count false := by
  obtain ⟨_, h2, _⟩ := first_some h
  exact ⟨first_lt h, List.count_pos_iff.2 (List.mem_of_getElem? h2)⟩

theorem least_bounds (l : List Bool) (K k : Nat) (h : l.length = K) : 0 ≤ leastOf l K k ∧ leastOf l K k ≤ K := by
  unfold leastOf
  split
  · rename_i x hx; have := first_lt hx; omega
  · omega

theorem least_step (l : List Bool) (K : Nat) (j : Int) (h0 : 0 ≤ j) (h1 : j < l.length) :
    (l[j.toNat]'(by omega) = false → leastOf l K (j - 1 + 1).toNat = j) ∧
    (l[j.toNat]'(by omega) = false → ((l.drop (j - 1 + 1).toNat).count false : Nat) = (l.drop (j + 1).toNat).count false + 1) ∧
    (l[j.toNat]'(by omega) = true → leastOf l K (j - 1 + 1).toNat = leastOf l K (j + 1).toNat) ∧
    (l[j.toNat]'(by omega) = true → ((l.drop (j - 1 + 1).toNat).count false : Nat) = (l.drop (j + 1).toNat).count false) := by
  obtain ⟨m, rfl⟩ := Int.eq_ofNat_of_zero_le h0
  have e1 : ((m : Int) - 1 + 1).toNat = m := by omega
  have e2 : ((m : Int) + 1).toNat = m + 1 := by omega
  have e3 : ((m : Int)).toNat = m := by omega
  have hm : m < l.length := by omega
  rw [e1, e2]
  simp only [e3]
  refine ⟨fun h => ?_, fun h => ?_, fun h => ?_, fun h => ?_⟩
  · unfold leastOf; rw [firstFrom_no hm h]
  · rw [List.drop_eq_getElem_cons hm, h, List.count_cons]; rfl
  · unfold leastOf; rw [firstFrom_yes hm h]
  · rw [List.drop_eq_getElem_cons hm, h, List.count_cons]; rfl

section
attribute [local go_sem] ite_max ite_min
set_option maxRecDepth 100000 in
set_option maxHeartbeats 1000000 in
theorem walk_BitsAll {H : Type} {enc : TypeId × Value → H} {d : DataW H} {p : List MemPlace} (n : Int) (a : Option Addr) (len cap : Nat) (w : World) (wn : (Lit.int .i64 n).wf = true)
    (h : DataW.Trod enc Try.prog w 0 (fun _ => true) true 22 (.slice a len cap) d p) :
    Calls Try.prog 3 #[.int .i64 n, .slice a len cap] w fun e w' => e = .returned (.bool true) ∧ Below w.heap.size w w' := by
  obtain ⟨hmax, f, hf⟩ := flat_arrays Try.underlying22 Try.underlying27 Try.underlying3 (by kernel_rfl) (by kernel_rfl) (by omega) h
  have hn := bounds_i64 wn
  clear wn h
  unfold maxLen at hmax
  by_cases hlen : (len : Int) ≤ 60
  · go_enter Try.func3, Try.ntmps3
    go_wp2_with fail
    refine (begun10 _).mono ?_
    rintro e w0 ⟨rfl, b0⟩
    go_wp2_with fail
    refine (New_any n _).mono ?_
    rintro e w1 ⟨rfl, g1, b1⟩
    obtain ⟨K, hK⟩ : ∃ K : Nat, min (max n 0) 200 = K := ⟨(min (max n 0) 200).toNat, by omega⟩
    have hK2 : K ≤ 200 := by omega
    rw [hK, Int.toNat_natCast] at g1
    have hmk := mk_bools K w1 (by omega) (by omega)
    rw [Int.toNat_natCast] at hmk
    have HK := Lib.hid hK
    have hK3 : min (max n 0) 200 = K := hK
    clear hK
    go_wp2_with fail
    have z0 := b0.size
    have z1 := b1.size
    have s1 := block_lt g1.head
    have Hst : Same10 w0.heap.size w1.heap.size K w (w1.alloc (.cells (Array.replicate K (Value.bool false)) 4)) (List.replicate K false) :=
      ⟨g1.below ((Below.refl _ _).alloc (Nat.le_refl _) _), by unfold BoolRow; rw [heap_alloc_if, if_pos rfl]; simp, by simp,
        (b0.trans (b1.mono z0)).alloc (by omega) _, z0, s1⟩
    generalize w0.heap.size = q at *
    generalize w1.heap.size = s at *
    clear b0 b1 g1 hmk
    go_loopw [8] (fun i wr => ∃ (k : Nat) (l : List Bool), k ≤ len ∧ i = .int .i64 k ∧ Same10 q s K w wr l) (fun i _ => len - (intOf i).toNat)
    case atStart => exact ⟨0, _, Nat.zero_le _, rfl, Hst⟩
    case round =>
      clear Hst
      obtain ⟨k, l, hk, rfl, hst⟩ := hrel
      have hq1 := hst.q1
      have hq2 := hst.q2
      have hl := hst.bits.le
      by_cases hlt : k < len
      · obtain ⟨fb, fo, fa, fc⟩ := hf.below hst.below
        obtain ⟨rfl, fbl⟩ := fa (by omega)
        obtain ⟨hc0, hw0⟩ := fc (k * 2) (by omega)
        obtain ⟨hc1, hw1⟩ := fc (k * 2 + 1) (by omega)
        have hb0 := bounds_i64 hw0
        have hb1 := bounds_i64 hw1
        rw [← Nat.add_assoc] at hc1
        clear fa fc hw0 hw1 hf
        generalize f (k * 2) = kind at *
        generalize f (k * 2 + 1) = place at *
        have Hcases := place_cases l place
        rw [hst.len] at Hcases
        rcases Hcases with ⟨d0, d1, v, hv⟩ | d0 | d0
        · have d2 : max (min place ((K : Int) - 1)) 0 = place := by omega
          have hcell := hst.row.cell place.toNat (by rw [hst.len]; omega)
          have hfree := hst.row.free place.toNat
          rw [bitAt_in d0 (by rw [hst.len]; exact d1), Option.some.injEq] at hv
          rw [hv] at hcell
          have hs1 : (bitAt l place == some false) = !v := by rw [bitAt_in d0 (by rw [hst.len]; exact d1), hv]; cases v <;> rfl
          have hs2 : (bitAt l place == some true) = v := by rw [bitAt_in d0 (by rw [hst.len]; exact d1), hv]; cases v <;> rfl
          clear hv
          have Hk : Hid (∀ w2, Keeps (· = q) wr w2 → w2.cell? ⟨s, place.toNat, none⟩ = some (.bool v) ∧ w2.frozen? ⟨s, place.toNat, none⟩ = false) := fun w2 k2 => by
            have h2 := k2.block s (block_lt hst.row) (by omega)
            exact ⟨(World.cell?_of_block h2).trans hcell, (World.frozen?_of_block h2).trans hfree⟩
          clear hcell hfree
          have Hs1 := Lib.hid hs1
          have Hs2 := Lib.hid hs2
          have Hst := Lib.hid hst
          clear hs1 hs2
          go_upto_if 55 with (fail)
          go_cut [4] (fun s4 wx => s4 = u4 ∧ ∃ l', Same10 q s K w wx l')
          case first =>
            have hg := hst.bits
            go_wp2_with (first | (go_at_call 11; refine (Set_to place _ (!v) _ hg Hs1.out rfl).mono ?_; rintro e w2 ⟨rfl, g2, k2⟩; obtain ⟨hcell, hfree⟩ := Hk.out w2 k2) | (go_at_call 12; refine (Clear_to place _ v _ hg Hs2.out rfl).mono ?_; rintro e w2 ⟨rfl, g2, k2⟩; obtain ⟨hcell, hfree⟩ := Hk.out w2 k2))
            all_goals go_meet
            case rel => exact ⟨rfl, _, Hst.out.put place true ⟨d0, d1⟩ g2 k2⟩
            case rel => exact ⟨rfl, _, Hst.out.put place false ⟨d0, d1⟩ g2 k2⟩
          case rest =>
            obtain ⟨rfl, l, hst⟩ := hcut
            clear Hst Hk Hs1 Hs2
            have hl := hst.bits.le
            have hlen2 := hst.len
            have hg := hst.bits
            obtain ⟨vv, hvv⟩ : ∃ vv, bitAt l place = some vv := ⟨_, bitAt_in d0 (by omega)⟩
            have hcell := hst.row.cell place.toNat (by omega)
            rw [bitAt_in d0 (by omega), Option.some.injEq] at hvv
            rw [hvv] at hcell
            have Hvv := Lib.hid (show (bitAt l place == some true) = vv by rw [bitAt_in d0 (by omega), hvv]; cases vv <;> rfl)
            clear hvv
            have Hl0 : True := trivial
            go_wp2_with fail
            go_loop [11, 12, 13] (fun first left m => ∃ j : Int, -1 ≤ j ∧ j < K ∧ m = .int .i64 j ∧ first = .int .i64 (leastOf l K (j + 1).toNat) ∧ left = .int .i64 ((l.drop (j + 1).toNat).count false : Nat)) (fun _ _ m => (intOf m + 1).toNat)
            case atStart => exact ⟨(K : Int) - 1, by omega, by omega, rfl, by rw [leastOf_end hst.len (by omega)], by rw [List.drop_of_length_le (by omega)]; rfl⟩
            case round =>
              obtain ⟨j, hj0, hj1, rfl, rfl, rfl⟩ := hrel
              have hbnd := least_bounds l K (j + 1).toNat hst.len
              have hcnt : (l.drop (j + 1).toNat).count false ≤ l.length := Nat.le_trans List.count_le_length (by simp)
              have Hst := Lib.hid hst
              by_cases hj : 0 ≤ j
              · have hc := hst.row.cell j.toNat (by omega)
                have Hstep := Lib.hid (least_step l K j hj (by omega))
                cases hv : l[j.toNat]'(by omega) <;> rw [hv] at hc <;> have Hv := Lib.hid hv <;> clear hv hst
                · go_wp2_with fail
                  go_round
                  case rel => exact ⟨j - 1, by omega, by omega, rfl, by rw [(Hstep.out).1 Hv.out], by rw [(Hstep.out).2.1 Hv.out]; go_num⟩
                  case measure => simp [intOf]; omega
                · go_wp2_with fail
                  go_round
                  case rel => exact ⟨j - 1, by omega, by omega, rfl, by rw [(Hstep.out).2.2.1 Hv.out], by rw [(Hstep.out).2.2.2 Hv.out]⟩
                  case measure => simp [intOf]; omega
              · obtain rfl : j = -1 := by omega
                go_wp2_with fail
                clear hbnd hcnt Hl0
                cases hff : firstFrom l 0 with
                | none =>
                  rw [least_none hff, count_zero_iff.2 hff]
                  have Hff := Lib.hid hff
                  clear hff
                  refine (First_to _ (.tuple #[.int .i64 0, .bool false]) hg (by rw [Hff.out]; rfl)).mono ?_
                  rintro e w' ⟨rfl, rfl⟩
                  go_wp2_with fail
                  refine (Left_to _ 0 hg (by rw [count_zero_iff.2 Hff.out]; rfl)).mono ?_
                  rintro e w' ⟨rfl, rfl⟩
                  go_wp2_with fail
                  refine (Is_to place _ vv hg Hvv.out).mono ?_
                  rintro e w' ⟨rfl, rfl⟩
                  go_wp2_with fail
                  go_roundw
                  case rel => exact ⟨k + 1, l, by omega, by go_num, Hst.out⟩
                  case measure => simp [intOf]; omega
                | some x =>
                  obtain ⟨hx1, hx2⟩ := first_pos hff
                  rw [least_some hff]
                  have Hff := Lib.hid hff
                  clear hff
                  generalize hcc : l.count false = c at *
                  have Hc := Lib.hid hcc
                  clear hcc
                  refine (First_to _ (.tuple #[.int .i64 x, .bool true]) hg (by rw [Hff.out]; rfl)).mono ?_
                  rintro e w' ⟨rfl, rfl⟩
                  go_wp2_with fail
                  refine (Left_to _ c hg (by rw [Hc.out])).mono ?_
                  rintro e w' ⟨rfl, rfl⟩
                  go_wp2_with fail
                  refine (Is_to place _ vv hg Hvv.out).mono ?_
                  rintro e w' ⟨rfl, rfl⟩
                  go_wp2_with fail
                  go_roundw
                  case rel => exact ⟨k + 1, l, by omega, by go_num, Hst.out⟩
                  case measure => simp [intOf]; omega
        · have d1 : ¬ 0 ≤ place := by omega
          have hba : bitAt l place = none := bitAt_out (by omega)
          have hs1 : (bitAt l place == some false) = false := by rw [hba]; rfl
          have hs2 : (bitAt l place == some true) = false := by rw [hba]; rfl
          clear hba
          have Hs1 := Lib.hid hs1
          have Hs2 := Lib.hid hs2
          have Hst := Lib.hid hst
          clear hs1 hs2
          go_upto_if 55 with (fail)
          go_cut [4] (fun s4 wx => s4 = u4 ∧ ∃ l', Same10 q s K w wx l')
          case first =>
            have hg := hst.bits
            go_wp2_with (first | (go_at_call 11; refine (Set_to place _ false _ hg Hs1.out rfl).mono ?_; rintro e w2 ⟨rfl, g2, k2⟩) | (go_at_call 12; refine (Clear_to place _ false _ hg Hs2.out rfl).mono ?_; rintro e w2 ⟨rfl, g2, k2⟩))
            all_goals go_meet
            case rel => exact ⟨rfl, _, Hst.out.stay place true (by omega) g2 k2⟩
            case rel => exact ⟨rfl, _, Hst.out.stay place false (by omega) g2 k2⟩
          case rest =>
            obtain ⟨rfl, l, hst⟩ := hcut
            clear Hst Hs1 Hs2
            have hl := hst.bits.le
            have hlen2 := hst.len
            have hg := hst.bits
            have Hvv := Lib.hid (show (bitAt l place == some true) = false by rw [bitAt_out (by omega)]; rfl)
            have Hl0 : True := trivial
            go_wp2_with fail
            go_loop [11, 12, 13] (fun first left m => ∃ j : Int, -1 ≤ j ∧ j < K ∧ m = .int .i64 j ∧ first = .int .i64 (leastOf l K (j + 1).toNat) ∧ left = .int .i64 ((l.drop (j + 1).toNat).count false : Nat)) (fun _ _ m => (intOf m + 1).toNat)
            case atStart => exact ⟨(K : Int) - 1, by omega, by omega, rfl, by rw [leastOf_end hst.len (by omega)], by rw [List.drop_of_length_le (by omega)]; rfl⟩
            case round =>
              obtain ⟨j, hj0, hj1, rfl, rfl, rfl⟩ := hrel
              have hbnd := least_bounds l K (j + 1).toNat hst.len
              have hcnt : (l.drop (j + 1).toNat).count false ≤ l.length := Nat.le_trans List.count_le_length (by simp)
              have Hst := Lib.hid hst
              by_cases hj : 0 ≤ j
              · have hc := hst.row.cell j.toNat (by omega)
                have Hstep := Lib.hid (least_step l K j hj (by omega))
                cases hv : l[j.toNat]'(by omega) <;> rw [hv] at hc <;> have Hv := Lib.hid hv <;> clear hv hst
                · go_wp2_with fail
                  go_round
                  case rel => exact ⟨j - 1, by omega, by omega, rfl, by rw [(Hstep.out).1 Hv.out], by rw [(Hstep.out).2.1 Hv.out]; go_num⟩
                  case measure => simp [intOf]; omega
                · go_wp2_with fail
                  go_round
                  case rel => exact ⟨j - 1, by omega, by omega, rfl, by rw [(Hstep.out).2.2.1 Hv.out], by rw [(Hstep.out).2.2.2 Hv.out]⟩
                  case measure => simp [intOf]; omega
              · obtain rfl : j = -1 := by omega
                go_wp2_with fail
                clear hbnd hcnt Hl0
                cases hff : firstFrom l 0 with
                | none =>
                  rw [least_none hff, count_zero_iff.2 hff]
                  have Hff := Lib.hid hff
                  clear hff
                  refine (First_to _ (.tuple #[.int .i64 0, .bool false]) hg (by rw [Hff.out]; rfl)).mono ?_
                  rintro e w' ⟨rfl, rfl⟩
                  go_wp2_with fail
                  refine (Left_to _ 0 hg (by rw [count_zero_iff.2 Hff.out]; rfl)).mono ?_
                  rintro e w' ⟨rfl, rfl⟩
                  go_wp2_with fail
                  refine (Is_to place _ false hg Hvv.out).mono ?_
                  rintro e w' ⟨rfl, rfl⟩
                  go_wp2_with fail
                  go_roundw
                  case rel => exact ⟨k + 1, l, by omega, by go_num, Hst.out⟩
                  case measure => simp [intOf]; omega
                | some x =>
                  obtain ⟨hx1, hx2⟩ := first_pos hff
                  rw [least_some hff]
                  have Hff := Lib.hid hff
                  clear hff
                  generalize hcc : l.count false = c at *
                  have Hc := Lib.hid hcc
                  clear hcc
                  refine (First_to _ (.tuple #[.int .i64 x, .bool true]) hg (by rw [Hff.out]; rfl)).mono ?_
                  rintro e w' ⟨rfl, rfl⟩
                  go_wp2_with fail
                  refine (Left_to _ c hg (by rw [Hc.out])).mono ?_
                  rintro e w' ⟨rfl, rfl⟩
                  go_wp2_with fail
                  refine (Is_to place _ false hg Hvv.out).mono ?_
                  rintro e w' ⟨rfl, rfl⟩
                  go_wp2_with fail
                  go_roundw
                  case rel => exact ⟨k + 1, l, by omega, by go_num, Hst.out⟩
                  case measure => simp [intOf]; omega
        · have d1 : 0 ≤ place := by omega
          have d3 : decide (place < (K : Int)) = false := by simp; omega
          have hba : bitAt l place = none := bitAt_out (by rw [hst.len]; omega)
          have hs1 : (bitAt l place == some false) = false := by rw [hba]; rfl
          have hs2 : (bitAt l place == some true) = false := by rw [hba]; rfl
          clear hba
          have Hs1 := Lib.hid hs1
          have Hs2 := Lib.hid hs2
          have Hst := Lib.hid hst
          clear hs1 hs2
          go_upto_if 55 with (fail)
          go_cut [4] (fun s4 wx => s4 = u4 ∧ ∃ l', Same10 q s K w wx l')
          case first =>
            have hg := hst.bits
            go_wp2_with (first | (go_at_call 11; refine (Set_to place _ false _ hg Hs1.out rfl).mono ?_; rintro e w2 ⟨rfl, g2, k2⟩) | (go_at_call 12; refine (Clear_to place _ false _ hg Hs2.out rfl).mono ?_; rintro e w2 ⟨rfl, g2, k2⟩))
            all_goals go_meet
            case rel => exact ⟨rfl, _, Hst.out.stay place true (by omega) g2 k2⟩
            case rel => exact ⟨rfl, _, Hst.out.stay place false (by omega) g2 k2⟩
          case rest =>
            obtain ⟨rfl, l, hst⟩ := hcut
            clear Hst Hs1 Hs2
            have hl := hst.bits.le
            have hlen2 := hst.len
            have hg := hst.bits
            have Hvv := Lib.hid (show (bitAt l place == some true) = false by rw [bitAt_out (by omega)]; rfl)
            have Hl0 : True := trivial
            go_wp2_with fail
            go_loop [11, 12, 13] (fun first left m => ∃ j : Int, -1 ≤ j ∧ j < K ∧ m = .int .i64 j ∧ first = .int .i64 (leastOf l K (j + 1).toNat) ∧ left = .int .i64 ((l.drop (j + 1).toNat).count false : Nat)) (fun _ _ m => (intOf m + 1).toNat)
            case atStart => exact ⟨(K : Int) - 1, by omega, by omega, rfl, by rw [leastOf_end hst.len (by omega)], by rw [List.drop_of_length_le (by omega)]; rfl⟩
            case round =>
              obtain ⟨j, hj0, hj1, rfl, rfl, rfl⟩ := hrel
              have hbnd := least_bounds l K (j + 1).toNat hst.len
              have hcnt : (l.drop (j + 1).toNat).count false ≤ l.length := Nat.le_trans List.count_le_length (by simp)
              have Hst := Lib.hid hst
              by_cases hj : 0 ≤ j
              · have hc := hst.row.cell j.toNat (by omega)
                have Hstep := Lib.hid (least_step l K j hj (by omega))
                cases hv : l[j.toNat]'(by omega) <;> rw [hv] at hc <;> have Hv := Lib.hid hv <;> clear hv hst
                · go_wp2_with fail
                  go_round
                  case rel => exact ⟨j - 1, by omega, by omega, rfl, by rw [(Hstep.out).1 Hv.out], by rw [(Hstep.out).2.1 Hv.out]; go_num⟩
                  case measure => simp [intOf]; omega
                · go_wp2_with fail
                  go_round
                  case rel => exact ⟨j - 1, by omega, by omega, rfl, by rw [(Hstep.out).2.2.1 Hv.out], by rw [(Hstep.out).2.2.2 Hv.out]⟩
                  case measure => simp [intOf]; omega
              · obtain rfl : j = -1 := by omega
                go_wp2_with fail
                clear hbnd hcnt Hl0
                cases hff : firstFrom l 0 with
                | none =>
                  rw [least_none hff, count_zero_iff.2 hff]
                  have Hff := Lib.hid hff
                  clear hff
                  refine (First_to _ (.tuple #[.int .i64 0, .bool false]) hg (by rw [Hff.out]; rfl)).mono ?_
                  rintro e w' ⟨rfl, rfl⟩
                  go_wp2_with fail
                  refine (Left_to _ 0 hg (by rw [count_zero_iff.2 Hff.out]; rfl)).mono ?_
                  rintro e w' ⟨rfl, rfl⟩
                  go_wp2_with fail
                  refine (Is_to place _ false hg Hvv.out).mono ?_
                  rintro e w' ⟨rfl, rfl⟩
                  go_wp2_with fail
                  go_roundw
                  case rel => exact ⟨k + 1, l, by omega, by go_num, Hst.out⟩
                  case measure => simp [intOf]; omega
                | some x =>
                  obtain ⟨hx1, hx2⟩ := first_pos hff
                  rw [least_some hff]
                  have Hff := Lib.hid hff
                  clear hff
                  generalize hcc : l.count false = c at *
                  have Hc := Lib.hid hcc
                  clear hcc
                  refine (First_to _ (.tuple #[.int .i64 x, .bool true]) hg (by rw [Hff.out]; rfl)).mono ?_
                  rintro e w' ⟨rfl, rfl⟩
                  go_wp2_with fail
                  refine (Left_to _ c hg (by rw [Hc.out])).mono ?_
                  rintro e w' ⟨rfl, rfl⟩
                  go_wp2_with fail
                  refine (Is_to place _ false hg Hvv.out).mono ?_
                  rintro e w' ⟨rfl, rfl⟩
                  go_wp2_with fail
                  go_roundw
                  case rel => exact ⟨k + 1, l, by omega, by go_num, Hst.out⟩
                  case measure => simp [intOf]; omega
      · clear hf
        go_wp2_with fail
        refine (First_none _).mono ?_
        rintro e w' ⟨rfl, rfl⟩
        go_wp2_with fail
        refine (Set_nil _ _).mono ?_
        rintro e w' ⟨rfl, rfl⟩
        go_wp2_with fail
        refine (Clear_nil _ _).mono ?_
        rintro e w' ⟨rfl, rfl⟩
        go_wp2_with fail
        refine (Is_nil _ _).mono ?_
        rintro e w' ⟨rfl, rfl⟩
        go_wp2_with fail
        refine (Left_nil _).mono ?_
        rintro e w' ⟨rfl, rfl⟩
        go_wp2_with fail
        go_ret
        exact ⟨rfl, hst.below⟩
  · go_enter Try.func3, Try.ntmps3
    go_wp2_with fail
    refine (begun10 _).mono ?_
    rintro e w0 ⟨rfl, b0⟩
    go_wp2_with fail
    go_ret
    exact ⟨rfl, b0⟩
end

end Go.Proofs.Ytbadpgbichnemaa
