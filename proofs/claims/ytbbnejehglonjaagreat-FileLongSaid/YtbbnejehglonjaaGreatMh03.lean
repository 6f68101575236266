/- DERIVED. Contracts and laws that the proofs of this seat share, part 3 of 36: Ref1E Ref1F. -/
import Derived.Deep.Onto
import Derived.Test.YtbbnejehglonjaaGreatMh00
import Derived.Test.YtbbnejehglonjaaGreatMh02
namespace Go.Proofs.YtbbnejehglonjaaGreat
set_option maxHeartbeats 8000000
set_option maxRecDepth 100000
set_option linter.unusedSimpArgs false
set_option linter.unusedVariables false
section
open Go.RowKit
attribute [local irreducible] Calls
def putIndex (l : List Int) : Blk × Bool := if l.length = 16 ∧ placesOk l = true then (Blk.of 5 (ats l), true) else (Blk.zero, false)
def IntsAt (w : World) (a : Option Addr) (l : List Int) : Prop :=
 ∃ b off, (0 < l.length → a = some ⟨b, off, none⟩) ∧ ∀ i, i < l.length → w.cell? ⟨b, off + i, none⟩ = some (.int .i64 (l.getD i 0))
theorem IntsAt.below {w w' : World} {a : Option Addr} {l : List Int} (h : IntsAt w a l) (hb : Below w.heap.size w w') : IntsAt w' a l := by
 obtain ⟨b, off, h1, h2⟩ := h
 exact ⟨b, off, h1, fun i hi => grow_cell hb (h2 i hi)⟩
theorem body_bytes (kind : Int) {B : Nat} {v : Value} {l : List UInt8} {w : World} (h : BRow w B v l) (hl : l.length ≤ 1000) :
 Calls Tryz.prog 142 #[.int .i64 kind, v] w fun e w' => e = .returned (.agg (Blk.of kind l).cells) ∧ Below w.heap.size w w' := by
 obtain ⟨a, cap, rfl, hb⟩ := h.bytes
 exact body_any kind a l cap w hb hl

theorem at_none {x : Int} (h : (x == -1) = true) : -1 ≤ x ∧ x < 200 := by
 have : x = -1 := by simpa using h
 omega
theorem at_good {x : Int} (h : okAt x = true) : -1 ≤ x ∧ x < 200 := by
 simp only [okAt, Bool.and_eq_true, decide_eq_true_eq] at h; omega
theorem below_drawn {B : Nat} {w0 w : World} (h : Below B w0 w) (k : Nat) : Below B w0 { w with drawn := k } := ⟨h.os, h.tape, h.output, h.size, h.block⟩

theorem PutIndex_any (a : Option Addr) (l : List Int) (cap : Nat) (w : World) (h : IntsAt w a l) (_ : l.length ≤ 1000) :
 Calls Tryz.prog 96 #[.slice a l.length cap] w fun e w' => e = .returned (.tuple #[.agg (putIndex l).1.cells, .bool (putIndex l).2]) ∧ Below w.heap.size w w' := by
 have hb1 := BlkAt.alloc_new w Blk.zero
 have hB1 : Below w.heap.size w (w.alloc (.cells Blk.zero.cells 37)) := (Below.refl _ _).alloc (Nat.le_refl _) _
 by_cases h16 : l.length = 16
 · have h1 := h.below hB1
   obtain ⟨b0, off, ha, hcells⟩ := h1
   obtain rfl := ha (by omega)
   have not16 : placesOk l = false → putIndex l = (Blk.zero, false) := fun hn => by unfold putIndex; rw [if_neg (fun e => by rw [hn] at e; exact absurd e.2 (by decide))]
   obtain ⟨G, hG⟩ : ∃ G, G = w.heap.size := ⟨_, rfl⟩
   have H16 := Lib.hid h16
   go_enter Tryz.func96, Tryz.ntmps96
   go_wp2_with fail
   rw [← hG] at hb1 ⊢
   generalize w.alloc (.cells Blk.zero.cells 37) = w1 at *
   have H1 := Lib.hid (And.intro hG (And.intro hb1 hB1))
   have H0 := Lib.hid (And.intro True.intro hcells)
   clear hb1 hB1 hcells hG h ha
   -- LOOPS
   go_loopw [4, 5] (fun s4 s5 wr => ∃ (k : Nat) (V : Value), k ≤ 16 ∧ s5 = .int .i64 k ∧ V = s4 ∧ okPre l k ∧ BRow wr w1.heap.size V (ats (l.take k)) ∧ Below w1.heap.size w1 wr) (fun _ i _ => 16 - (intOf i).toNat)
   case atStart => exact ⟨0, _, Nat.zero_le _, rfl, rfl, fun j hj => by omega, BRow.nil _ _, Below.refl _ _⟩
   case round =>
    obtain ⟨k, V, hk, rfl, rfl, hpre, hrow, hbel⟩ := hrel
    by_cases hlt : k < 16
    · have hcell := grow_cell hbel (H0.out.2 k (by omega))
      have Hpre := Lib.hid hpre
      have Hrow := Lib.hid hrow
      have Hbel := Lib.hid hbel
      clear hpre hrow hbel
      obtain ⟨x, hx⟩ : ∃ x, x = l.getD k 0 := ⟨_, rfl⟩
      rw [← hx] at hcell
      have Hx := Lib.hid hx
      clear hx
      by_cases hm : x = -1
      · have e1 : (x == -1) = true := by simpa using hm
        have e1' : (x != -1) = false := by rw [bne, e1]; rfl
        clear hm
        go_wp2_with fail
        go_loopw [6] (fun s6 wi => ∃ m : Nat, m ≤ k ∧ s6 = .int .i64 m ∧ ((x == -1) = false → ∀ j, j < m → l.getD j 0 ≠ x) ∧ BRow wi w1.heap.size V (ats (l.take k)) ∧ Below w1.heap.size w1 wi) (fun i _ => k - (intOf i).toNat)
        case atStart => exact ⟨0, Nat.zero_le _, rfl, fun _ j hj => by omega, Hrow.out, Hbel.out⟩
        case round =>
         obtain ⟨m, hmk, rfl, hno, hrowi, hbeli⟩ := hrel
         have hck := grow_cell hbeli (H0.out.2 k (by omega))
         rw [← Hx.out] at hck
         by_cases hlm : m < k
         · have hcm := grow_cell hbeli (H0.out.2 m (by omega))
           obtain ⟨y, hy⟩ : ∃ y, y = l.getD m 0 := ⟨_, rfl⟩
           rw [← hy] at hcm
           have Hy := Lib.hid hy
           have Hno := Lib.hid hno
           have Hrowi := Lib.hid hrowi
           have Hbeli := Lib.hid hbeli
           clear hy hno hrowi hbeli hcell
           have i0 : (0 : Int) ≤ (m : Int) := Int.natCast_nonneg _
           have i1 : (m : Int) < l.length := by omega
           have i2 : (0 : Int) ≤ (k : Int) := Int.natCast_nonneg _
           have i3 : (k : Int) < l.length := by omega
           go_wp2_with fail
           go_quiet (fail)
           go_wp2_with fail
           go_roundw
           case rel => exact ⟨m + 1, by omega, by go_num, (fun h => by rw [e1] at h; cases h), Hrowi.out, below_drawn Hbeli.out _⟩
           case measure => simp [intOf]; omega
         · obtain rfl : m = k := by omega
           have hxb := at_none e1
           obtain ⟨hx0, hx1⟩ := hxb
           have u0 : IntKind.u64.wrap (x + 1) = x + 1 := IntWalk.u64_in _ (by omega)
           have Hno := Lib.hid hno
           have Hrowi := Lib.hid hrowi
           have Hbeli := Lib.hid hbeli
           clear hno hrowi hbeli hcell
           go_wp2_with (first | (go_at_call 141; refine (High_lit (x + 1) 2 2 _ rfl (by decide) (by decide) (by omega) (by omega)).mono ?_; rintro e x1 ⟨⟨p1, q1, rfl, r1⟩, b1⟩) | (at_builtin; refine list_appB rfl _ _ rfl rfl (Hrowi.out.below b1) rfl r1 (by simp [high_length]) (2 * (m + 1)) (by rw [ats_length, List.length_take, high_length]; omega) (by omega) (Nat.le_trans Hbeli.out.size b1.size) ?_; intro p2 q2 x2 r2 h2 b2))
           go_roundw
           case rel =>
            refine ⟨m + 1, _, by omega, by go_num, rfl, okPre_succ Hpre.out ?_, ?_, (grow_trans Hbeli.out b1).trans b2⟩
            · rw [← Hx.out]; rw [show x = -1 by simpa using e1]; exact okNew_none _
            · rw [ats_succ (by omega), ← Hx.out]; exact r2
           case measure => simp [intOf]; omega
      · have e1 : (x == -1) = false := by simpa using hm
        have e1' : (x != -1) = true := by rw [bne, e1]; rfl
        clear hm
        cases hok : okAt x
        · have Hf := Lib.hid (not16 (placesOk_not k (by omega) (by rw [← Hx.out]; exact okNew_bad e1 hok)))
          have hh := hasBlk_keep H1.out.2.1.has Hbel.out (block_lt H1.out.2.1)
          go_wp2_with (go_at_call 152; refine (mayAt_any x _).mono ?_; rw [hok]; rintro e w2 ⟨rfl, rfl⟩)
          have hrow := rowAt_setRow hh Blk.zero.cells
          refine bodyPost_ret (results_two rfl (resOne_blk rfl hrow) (resOne_tmp _ _ _)) rfl ?_
          exact ⟨by rw [Hf.out]; rfl, (grow_trans H1.out.2.2 Hbel.out).setRow (by rw [H1.out.1]; exact Nat.le_refl _) _⟩
        · have Hok := Lib.hid hok
          go_wp2_with (go_at_call 152; refine (mayAt_any x _).mono ?_; rw [Hok.out]; rintro e w2 ⟨rfl, rfl⟩)
          go_loopw [6] (fun s6 wi => ∃ m : Nat, m ≤ k ∧ s6 = .int .i64 m ∧ ((x == -1) = false → ∀ j, j < m → l.getD j 0 ≠ x) ∧ BRow wi w1.heap.size V (ats (l.take k)) ∧ Below w1.heap.size w1 wi) (fun i _ => k - (intOf i).toNat)
          case atStart => exact ⟨0, Nat.zero_le _, rfl, fun _ j hj => by omega, Hrow.out, Hbel.out⟩
          case round =>
           obtain ⟨m, hmk, rfl, hno, hrowi, hbeli⟩ := hrel
           have hck := grow_cell hbeli (H0.out.2 k (by omega))
           rw [← Hx.out] at hck
           by_cases hlm : m < k
           · have hcm := grow_cell hbeli (H0.out.2 m (by omega))
             obtain ⟨y, hy⟩ : ∃ y, y = l.getD m 0 := ⟨_, rfl⟩
             rw [← hy] at hcm
             have Hy := Lib.hid hy
             have Hno := Lib.hid hno
             have Hrowi := Lib.hid hrowi
             have Hbeli := Lib.hid hbeli
             clear hy hno hrowi hbeli hcell
             have i0 : (0 : Int) ≤ (m : Int) := Int.natCast_nonneg _
             have i1 : (m : Int) < l.length := by omega
             have i2 : (0 : Int) ≤ (k : Int) := Int.natCast_nonneg _
             have i3 : (k : Int) < l.length := by omega
             by_cases hyx : y = x
             · have e2 : (y == x) = true := by simpa using hyx
               have Hf := Lib.hid (not16 (placesOk_not k (by omega) (by rw [← Hx.out]; exact okNew_twice e1 hlm (by omega) (by rw [← Hy.out, hyx]))))
               have hh := hasBlk_keep H1.out.2.1.has Hbeli.out (block_lt H1.out.2.1)
               have hhd : ∀ k, hasBlk (wr.drewN k) G = true := fun _ => hh
               clear hyx
               go_wp2_with fail
               go_quiet (fail)
               go_wp2_with fail
               refine bodyPost_ret (results_two rfl (resOne_blk rfl (rowAt_setRow (hhd _) _)) (resOne_tmp _ _ _)) rfl ?_
               exact ⟨by rw [Hf.out]; rfl, (grow_trans H1.out.2.2 (below_drawn Hbeli.out _)).setRow (by rw [H1.out.1]; exact Nat.le_refl _) _⟩
             · have e2 : (y == x) = false := by simpa using hyx
               have Hyx := Lib.hid hyx
               clear hyx
               go_wp2_with fail
               go_quiet (fail)
               go_wp2_with fail
               go_roundw
               case rel =>
                refine ⟨m + 1, by omega, by go_num, fun h j hj => ?_, Hrowi.out, below_drawn Hbeli.out _⟩
                rcases Nat.lt_succ_iff_lt_or_eq.1 hj with h' | rfl
                · exact Hno.out h j h'
                · rw [← Hy.out]; exact Hyx.out
               case measure => simp [intOf]; omega
           · obtain rfl : m = k := by omega
             have hxb := at_good Hok.out
             obtain ⟨hx0, hx1⟩ := hxb
             have u0 : IntKind.u64.wrap (x + 1) = x + 1 := IntWalk.u64_in _ (by omega)
             have Hno := Lib.hid hno
             have Hrowi := Lib.hid hrowi
             have Hbeli := Lib.hid hbeli
             clear hno hrowi hbeli hcell
             go_wp2_with (first | (go_at_call 141; refine (High_lit (x + 1) 2 2 _ rfl (by decide) (by decide) (by omega) (by omega)).mono ?_; rintro e x1 ⟨⟨p1, q1, rfl, r1⟩, b1⟩) | (at_builtin; refine list_appB rfl _ _ rfl rfl (Hrowi.out.below b1) rfl r1 (by simp [high_length]) (2 * (m + 1)) (by rw [ats_length, List.length_take, high_length]; omega) (by omega) (Nat.le_trans Hbeli.out.size b1.size) ?_; intro p2 q2 x2 r2 h2 b2))
             go_roundw
             case rel =>
              refine ⟨m + 1, _, by omega, by go_num, rfl, okPre_succ Hpre.out ?_, ?_, (grow_trans Hbeli.out b1).trans b2⟩
              · rw [← Hx.out]; exact okNew_good (by omega) Hok.out (Hno.out e1)
              · rw [ats_succ (by omega), ← Hx.out]; exact r2
             case measure => simp [intOf]; omega
    · obtain rfl : k = 16 := by omega
      have hok := placesOk_all (l := l) (fun j hj => hpre j (by omega))
      have Hp := Lib.hid (show putIndex l = (Blk.of 5 (ats l), true) by unfold putIndex; rw [if_pos ⟨H16.out, hok⟩])
      rw [List.take_of_length_le (by omega)] at hrow
      have hal : (ats l).length = 32 := by rw [ats_length]; omega
      have hh := hasBlk_keep H1.out.2.1.has hbel (block_lt H1.out.2.1)
      have Hrow := Lib.hid hrow
      have Hbel := Lib.hid hbel
      have Hal := Lib.hid hal
      clear hrow hbel hpre hok hal
      go_wp2_with (go_at_call 142; refine (body_bytes 5 Hrow.out (by rw [Hal.out]; decide)).mono ?_; rintro e w2 ⟨rfl, b2⟩; have hh2 := hasBlk_call hh b2)
      refine bodyPost_ret (results_two rfl (resOne_blk rfl (rowAt_setRow hh2 _)) (resOne_tmp _ _ _)) rfl ?_
      exact ⟨by rw [Hp.out]; rfl, (grow_trans H1.out.2.2 (grow_trans Hbel.out b2)).setRow (by rw [H1.out.1]; exact Nat.le_refl _) _⟩
 · have Hp := Lib.hid (show putIndex l = (Blk.zero, false) by unfold putIndex; rw [if_neg (fun e => h16 e.1)])
   have e16 : ((l.length : Int) != 16) = true := by
    have : ((l.length : Int) == 16) = false := by simpa using (fun e : (l.length : Int) = 16 => h16 (by omega))
    rw [bne, this]; rfl
   have HB := Lib.hid (And.intro hB1 hb1)
   clear hb1 hB1 h16
   go_enter Tryz.func96, Tryz.ntmps96
   go_wp2_with fail
   refine bodyPost_ret (results_two rfl (resOne_blk rfl HB.out.2.row) (resOne_tmp _ _ _)) rfl ?_
   exact ⟨by rw [Hp.out]; rfl, HB.out.1⟩
end
section
open Go.RowKit
attribute [local irreducible] Calls
def indexOf (b : Blk) : List Int := (List.range 16).map fun i => (b.sub (2 * i) 2 : Int) - 1
def takeIndex (b : Blk) : Option (List Int) := if putIndex (indexOf b) = (b, true) then some (indexOf b) else none
def IRow (w : World) (B : Nat) (v : Value) (l : List Int) : Prop := w.ownsRow B 3 1 v l.length (l.map fun x => Value.int .i64 x)

theorem TakeIndex_any (b : Blk) (w : World) :
 Calls Tryz.prog 94 #[.agg b.cells] w fun e w' => ∃ v, e = .returned (.tuple #[v, .bool (takeIndex b).isSome]) ∧ IRow w' w.heap.size v ((takeIndex b).getD []) ∧ Below w.heap.size w w' := by
 have hb1 := BlkAt.alloc_new w b
 have hB1 : Below w.heap.size w (w.alloc (.cells b.cells 37)) := (Below.refl _ _).alloc (Nat.le_refl _) _
 obtain ⟨G, hG⟩ : ∃ G, G = w.heap.size := ⟨_, rfl⟩
 go_enter Tryz.func94, Tryz.ntmps94
 go_wp2_with fail
 rw [← hG] at hb1 ⊢
 generalize w.alloc (.cells b.cells 37) = w1 at *
 have H1 := Lib.hid (And.intro hG (And.intro hb1 hB1))
 clear hb1 hB1 hG
 go_loopw [4, 5] (fun s4 s5 wr => ∃ (k : Nat) (V : Value), k ≤ 16 ∧ s5 = .int .i64 k ∧ V = s4 ∧ IRow wr w1.heap.size V ((indexOf b).take k) ∧ Below w1.heap.size w1 wr) (fun _ i _ => 16 - (intOf i).toNat)
 case atStart => exact ⟨0, _, Nat.zero_le _, rfl, rfl, World.ownsRow_nil _ _ _ _, Below.refl _ _⟩
 case round =>
  obtain ⟨k, V, hk, rfl, rfl, hrow, hbel⟩ := hrel
  by_cases hlt : k < 16
  · -- ROUNDS
    obtain rfl | rfl | rfl | rfl | rfl | rfl | rfl | rfl | rfl | rfl | rfl | rfl | rfl | rfl | rfl | rfl : k = 0 ∨ k = 1 ∨ k = 2 ∨ k = 3 ∨ k = 4 ∨ k = 5 ∨ k = 6 ∨ k = 7 ∨ k = 8 ∨ k = 9 ∨ k = 10 ∨ k = 11 ∨ k = 12 ∨ k = 13 ∨ k = 14 ∨ k = 15 := by omega
    · have hb0 : (0 : Int) ≤ (b.sub 0 2 : Int) := Int.natCast_nonneg _
      have hb1 : (b.sub 0 2 : Int) < 65536 := by have := b.sub_lt 0 2; omega
      have u1 : IntKind.i64.wrap (b.sub 0 2 : Int) = b.sub 0 2 := IntWalk.i64_in _ (by omega)
      have Hrow := Lib.hid hrow
      have Hbel := Lib.hid hbel
      clear hrow hbel
      go_wp2_with (first | (go_at_call 139; refine (Num_sub _ G 0 2 56 b (BlkAt.below H1.out.2.1 Hbel.out (block_lt H1.out.2.1)) (by decide) (by decide)).mono ?_; rintro e x1 ⟨rfl, rfl⟩) | (at_builtin; refine wpList_app1 elemInt rfl _ _ rfl (World.ownsRow.alloc Hrow.out _) rfl _ (.int .i64 ((b.sub 0 2 : Nat) - 1)) rfl (by simp) rfl (by simp [indexOf]) (by have := Hbel.out.size; simp; omega) ?_; intro v3 w3 hrow3 hg3 b3))
      go_roundw
      case rel =>
       refine ⟨1, _, by omega, rfl, rfl, ?_, (grow_alloc Hbel.out _).trans b3⟩
       exact hrow3
      case measure => decide
    · have hb0 : (0 : Int) ≤ (b.sub 2 2 : Int) := Int.natCast_nonneg _
      have hb1 : (b.sub 2 2 : Int) < 65536 := by have := b.sub_lt 2 2; omega
      have u1 : IntKind.i64.wrap (b.sub 2 2 : Int) = b.sub 2 2 := IntWalk.i64_in _ (by omega)
      have Hrow := Lib.hid hrow
      have Hbel := Lib.hid hbel
      clear hrow hbel
      go_wp2_with (first | (go_at_call 139; refine (Num_sub _ G 2 2 54 b (BlkAt.below H1.out.2.1 Hbel.out (block_lt H1.out.2.1)) (by decide) (by decide)).mono ?_; rintro e x1 ⟨rfl, rfl⟩) | (at_builtin; refine wpList_app1 elemInt rfl _ _ rfl (World.ownsRow.alloc Hrow.out _) rfl _ (.int .i64 ((b.sub 2 2 : Nat) - 1)) rfl (by simp) rfl (by simp [indexOf]) (by have := Hbel.out.size; simp; omega) ?_; intro v3 w3 hrow3 hg3 b3))
      go_roundw
      case rel =>
       refine ⟨2, _, by omega, rfl, rfl, ?_, (grow_alloc Hbel.out _).trans b3⟩
       exact hrow3
      case measure => decide
    · have hb0 : (0 : Int) ≤ (b.sub 4 2 : Int) := Int.natCast_nonneg _
      have hb1 : (b.sub 4 2 : Int) < 65536 := by have := b.sub_lt 4 2; omega
      have u1 : IntKind.i64.wrap (b.sub 4 2 : Int) = b.sub 4 2 := IntWalk.i64_in _ (by omega)
      have Hrow := Lib.hid hrow
      have Hbel := Lib.hid hbel
      clear hrow hbel
      go_wp2_with (first | (go_at_call 139; refine (Num_sub _ G 4 2 52 b (BlkAt.below H1.out.2.1 Hbel.out (block_lt H1.out.2.1)) (by decide) (by decide)).mono ?_; rintro e x1 ⟨rfl, rfl⟩) | (at_builtin; refine wpList_app1 elemInt rfl _ _ rfl (World.ownsRow.alloc Hrow.out _) rfl _ (.int .i64 ((b.sub 4 2 : Nat) - 1)) rfl (by simp) rfl (by simp [indexOf]) (by have := Hbel.out.size; simp; omega) ?_; intro v3 w3 hrow3 hg3 b3))
      go_roundw
      case rel =>
       refine ⟨3, _, by omega, rfl, rfl, ?_, (grow_alloc Hbel.out _).trans b3⟩
       exact hrow3
      case measure => decide
    · have hb0 : (0 : Int) ≤ (b.sub 6 2 : Int) := Int.natCast_nonneg _
      have hb1 : (b.sub 6 2 : Int) < 65536 := by have := b.sub_lt 6 2; omega
      have u1 : IntKind.i64.wrap (b.sub 6 2 : Int) = b.sub 6 2 := IntWalk.i64_in _ (by omega)
      have Hrow := Lib.hid hrow
      have Hbel := Lib.hid hbel
      clear hrow hbel
      go_wp2_with (first | (go_at_call 139; refine (Num_sub _ G 6 2 50 b (BlkAt.below H1.out.2.1 Hbel.out (block_lt H1.out.2.1)) (by decide) (by decide)).mono ?_; rintro e x1 ⟨rfl, rfl⟩) | (at_builtin; refine wpList_app1 elemInt rfl _ _ rfl (World.ownsRow.alloc Hrow.out _) rfl _ (.int .i64 ((b.sub 6 2 : Nat) - 1)) rfl (by simp) rfl (by simp [indexOf]) (by have := Hbel.out.size; simp; omega) ?_; intro v3 w3 hrow3 hg3 b3))
      go_roundw
      case rel =>
       refine ⟨4, _, by omega, rfl, rfl, ?_, (grow_alloc Hbel.out _).trans b3⟩
       exact hrow3
      case measure => decide
    · have hb0 : (0 : Int) ≤ (b.sub 8 2 : Int) := Int.natCast_nonneg _
      have hb1 : (b.sub 8 2 : Int) < 65536 := by have := b.sub_lt 8 2; omega
      have u1 : IntKind.i64.wrap (b.sub 8 2 : Int) = b.sub 8 2 := IntWalk.i64_in _ (by omega)
      have Hrow := Lib.hid hrow
      have Hbel := Lib.hid hbel
      clear hrow hbel
      go_wp2_with (first | (go_at_call 139; refine (Num_sub _ G 8 2 48 b (BlkAt.below H1.out.2.1 Hbel.out (block_lt H1.out.2.1)) (by decide) (by decide)).mono ?_; rintro e x1 ⟨rfl, rfl⟩) | (at_builtin; refine wpList_app1 elemInt rfl _ _ rfl (World.ownsRow.alloc Hrow.out _) rfl _ (.int .i64 ((b.sub 8 2 : Nat) - 1)) rfl (by simp) rfl (by simp [indexOf]) (by have := Hbel.out.size; simp; omega) ?_; intro v3 w3 hrow3 hg3 b3))
      go_roundw
      case rel =>
       refine ⟨5, _, by omega, rfl, rfl, ?_, (grow_alloc Hbel.out _).trans b3⟩
       exact hrow3
      case measure => decide
    · have hb0 : (0 : Int) ≤ (b.sub 10 2 : Int) := Int.natCast_nonneg _
      have hb1 : (b.sub 10 2 : Int) < 65536 := by have := b.sub_lt 10 2; omega
      have u1 : IntKind.i64.wrap (b.sub 10 2 : Int) = b.sub 10 2 := IntWalk.i64_in _ (by omega)
      have Hrow := Lib.hid hrow
      have Hbel := Lib.hid hbel
      clear hrow hbel
      go_wp2_with (first | (go_at_call 139; refine (Num_sub _ G 10 2 46 b (BlkAt.below H1.out.2.1 Hbel.out (block_lt H1.out.2.1)) (by decide) (by decide)).mono ?_; rintro e x1 ⟨rfl, rfl⟩) | (at_builtin; refine wpList_app1 elemInt rfl _ _ rfl (World.ownsRow.alloc Hrow.out _) rfl _ (.int .i64 ((b.sub 10 2 : Nat) - 1)) rfl (by simp) rfl (by simp [indexOf]) (by have := Hbel.out.size; simp; omega) ?_; intro v3 w3 hrow3 hg3 b3))
      go_roundw
      case rel =>
       refine ⟨6, _, by omega, rfl, rfl, ?_, (grow_alloc Hbel.out _).trans b3⟩
       exact hrow3
      case measure => decide
    · have hb0 : (0 : Int) ≤ (b.sub 12 2 : Int) := Int.natCast_nonneg _
      have hb1 : (b.sub 12 2 : Int) < 65536 := by have := b.sub_lt 12 2; omega
      have u1 : IntKind.i64.wrap (b.sub 12 2 : Int) = b.sub 12 2 := IntWalk.i64_in _ (by omega)
      have Hrow := Lib.hid hrow
      have Hbel := Lib.hid hbel
      clear hrow hbel
      go_wp2_with (first | (go_at_call 139; refine (Num_sub _ G 12 2 44 b (BlkAt.below H1.out.2.1 Hbel.out (block_lt H1.out.2.1)) (by decide) (by decide)).mono ?_; rintro e x1 ⟨rfl, rfl⟩) | (at_builtin; refine wpList_app1 elemInt rfl _ _ rfl (World.ownsRow.alloc Hrow.out _) rfl _ (.int .i64 ((b.sub 12 2 : Nat) - 1)) rfl (by simp) rfl (by simp [indexOf]) (by have := Hbel.out.size; simp; omega) ?_; intro v3 w3 hrow3 hg3 b3))
      go_roundw
      case rel =>
       refine ⟨7, _, by omega, rfl, rfl, ?_, (grow_alloc Hbel.out _).trans b3⟩
       exact hrow3
      case measure => decide
    · have hb0 : (0 : Int) ≤ (b.sub 14 2 : Int) := Int.natCast_nonneg _
      have hb1 : (b.sub 14 2 : Int) < 65536 := by have := b.sub_lt 14 2; omega
      have u1 : IntKind.i64.wrap (b.sub 14 2 : Int) = b.sub 14 2 := IntWalk.i64_in _ (by omega)
      have Hrow := Lib.hid hrow
      have Hbel := Lib.hid hbel
      clear hrow hbel
      go_wp2_with (first | (go_at_call 139; refine (Num_sub _ G 14 2 42 b (BlkAt.below H1.out.2.1 Hbel.out (block_lt H1.out.2.1)) (by decide) (by decide)).mono ?_; rintro e x1 ⟨rfl, rfl⟩) | (at_builtin; refine wpList_app1 elemInt rfl _ _ rfl (World.ownsRow.alloc Hrow.out _) rfl _ (.int .i64 ((b.sub 14 2 : Nat) - 1)) rfl (by simp) rfl (by simp [indexOf]) (by have := Hbel.out.size; simp; omega) ?_; intro v3 w3 hrow3 hg3 b3))
      go_roundw
      case rel =>
       refine ⟨8, _, by omega, rfl, rfl, ?_, (grow_alloc Hbel.out _).trans b3⟩
       exact hrow3
      case measure => decide
    · have hb0 : (0 : Int) ≤ (b.sub 16 2 : Int) := Int.natCast_nonneg _
      have hb1 : (b.sub 16 2 : Int) < 65536 := by have := b.sub_lt 16 2; omega
      have u1 : IntKind.i64.wrap (b.sub 16 2 : Int) = b.sub 16 2 := IntWalk.i64_in _ (by omega)
      have Hrow := Lib.hid hrow
      have Hbel := Lib.hid hbel
      clear hrow hbel
      go_wp2_with (first | (go_at_call 139; refine (Num_sub _ G 16 2 40 b (BlkAt.below H1.out.2.1 Hbel.out (block_lt H1.out.2.1)) (by decide) (by decide)).mono ?_; rintro e x1 ⟨rfl, rfl⟩) | (at_builtin; refine wpList_app1 elemInt rfl _ _ rfl (World.ownsRow.alloc Hrow.out _) rfl _ (.int .i64 ((b.sub 16 2 : Nat) - 1)) rfl (by simp) rfl (by simp [indexOf]) (by have := Hbel.out.size; simp; omega) ?_; intro v3 w3 hrow3 hg3 b3))
      go_roundw
      case rel =>
       refine ⟨9, _, by omega, rfl, rfl, ?_, (grow_alloc Hbel.out _).trans b3⟩
       exact hrow3
      case measure => decide
    · have hb0 : (0 : Int) ≤ (b.sub 18 2 : Int) := Int.natCast_nonneg _
      have hb1 : (b.sub 18 2 : Int) < 65536 := by have := b.sub_lt 18 2; omega
      have u1 : IntKind.i64.wrap (b.sub 18 2 : Int) = b.sub 18 2 := IntWalk.i64_in _ (by omega)
      have Hrow := Lib.hid hrow
      have Hbel := Lib.hid hbel
      clear hrow hbel
      go_wp2_with (first | (go_at_call 139; refine (Num_sub _ G 18 2 38 b (BlkAt.below H1.out.2.1 Hbel.out (block_lt H1.out.2.1)) (by decide) (by decide)).mono ?_; rintro e x1 ⟨rfl, rfl⟩) | (at_builtin; refine wpList_app1 elemInt rfl _ _ rfl (World.ownsRow.alloc Hrow.out _) rfl _ (.int .i64 ((b.sub 18 2 : Nat) - 1)) rfl (by simp) rfl (by simp [indexOf]) (by have := Hbel.out.size; simp; omega) ?_; intro v3 w3 hrow3 hg3 b3))
      go_roundw
      case rel =>
       refine ⟨10, _, by omega, rfl, rfl, ?_, (grow_alloc Hbel.out _).trans b3⟩
       exact hrow3
      case measure => decide
    · have hb0 : (0 : Int) ≤ (b.sub 20 2 : Int) := Int.natCast_nonneg _
      have hb1 : (b.sub 20 2 : Int) < 65536 := by have := b.sub_lt 20 2; omega
      have u1 : IntKind.i64.wrap (b.sub 20 2 : Int) = b.sub 20 2 := IntWalk.i64_in _ (by omega)
      have Hrow := Lib.hid hrow
      have Hbel := Lib.hid hbel
      clear hrow hbel
      go_wp2_with (first | (go_at_call 139; refine (Num_sub _ G 20 2 36 b (BlkAt.below H1.out.2.1 Hbel.out (block_lt H1.out.2.1)) (by decide) (by decide)).mono ?_; rintro e x1 ⟨rfl, rfl⟩) | (at_builtin; refine wpList_app1 elemInt rfl _ _ rfl (World.ownsRow.alloc Hrow.out _) rfl _ (.int .i64 ((b.sub 20 2 : Nat) - 1)) rfl (by simp) rfl (by simp [indexOf]) (by have := Hbel.out.size; simp; omega) ?_; intro v3 w3 hrow3 hg3 b3))
      go_roundw
      case rel =>
       refine ⟨11, _, by omega, rfl, rfl, ?_, (grow_alloc Hbel.out _).trans b3⟩
       exact hrow3
      case measure => decide
    · have hb0 : (0 : Int) ≤ (b.sub 22 2 : Int) := Int.natCast_nonneg _
      have hb1 : (b.sub 22 2 : Int) < 65536 := by have := b.sub_lt 22 2; omega
      have u1 : IntKind.i64.wrap (b.sub 22 2 : Int) = b.sub 22 2 := IntWalk.i64_in _ (by omega)
      have Hrow := Lib.hid hrow
      have Hbel := Lib.hid hbel
      clear hrow hbel
      go_wp2_with (first | (go_at_call 139; refine (Num_sub _ G 22 2 34 b (BlkAt.below H1.out.2.1 Hbel.out (block_lt H1.out.2.1)) (by decide) (by decide)).mono ?_; rintro e x1 ⟨rfl, rfl⟩) | (at_builtin; refine wpList_app1 elemInt rfl _ _ rfl (World.ownsRow.alloc Hrow.out _) rfl _ (.int .i64 ((b.sub 22 2 : Nat) - 1)) rfl (by simp) rfl (by simp [indexOf]) (by have := Hbel.out.size; simp; omega) ?_; intro v3 w3 hrow3 hg3 b3))
      go_roundw
      case rel =>
       refine ⟨12, _, by omega, rfl, rfl, ?_, (grow_alloc Hbel.out _).trans b3⟩
       exact hrow3
      case measure => decide
    · have hb0 : (0 : Int) ≤ (b.sub 24 2 : Int) := Int.natCast_nonneg _
      have hb1 : (b.sub 24 2 : Int) < 65536 := by have := b.sub_lt 24 2; omega
      have u1 : IntKind.i64.wrap (b.sub 24 2 : Int) = b.sub 24 2 := IntWalk.i64_in _ (by omega)
      have Hrow := Lib.hid hrow
      have Hbel := Lib.hid hbel
      clear hrow hbel
      go_wp2_with (first | (go_at_call 139; refine (Num_sub _ G 24 2 32 b (BlkAt.below H1.out.2.1 Hbel.out (block_lt H1.out.2.1)) (by decide) (by decide)).mono ?_; rintro e x1 ⟨rfl, rfl⟩) | (at_builtin; refine wpList_app1 elemInt rfl _ _ rfl (World.ownsRow.alloc Hrow.out _) rfl _ (.int .i64 ((b.sub 24 2 : Nat) - 1)) rfl (by simp) rfl (by simp [indexOf]) (by have := Hbel.out.size; simp; omega) ?_; intro v3 w3 hrow3 hg3 b3))
      go_roundw
      case rel =>
       refine ⟨13, _, by omega, rfl, rfl, ?_, (grow_alloc Hbel.out _).trans b3⟩
       exact hrow3
      case measure => decide
    · have hb0 : (0 : Int) ≤ (b.sub 26 2 : Int) := Int.natCast_nonneg _
      have hb1 : (b.sub 26 2 : Int) < 65536 := by have := b.sub_lt 26 2; omega
      have u1 : IntKind.i64.wrap (b.sub 26 2 : Int) = b.sub 26 2 := IntWalk.i64_in _ (by omega)
      have Hrow := Lib.hid hrow
      have Hbel := Lib.hid hbel
      clear hrow hbel
      go_wp2_with (first | (go_at_call 139; refine (Num_sub _ G 26 2 30 b (BlkAt.below H1.out.2.1 Hbel.out (block_lt H1.out.2.1)) (by decide) (by decide)).mono ?_; rintro e x1 ⟨rfl, rfl⟩) | (at_builtin; refine wpList_app1 elemInt rfl _ _ rfl (World.ownsRow.alloc Hrow.out _) rfl _ (.int .i64 ((b.sub 26 2 : Nat) - 1)) rfl (by simp) rfl (by simp [indexOf]) (by have := Hbel.out.size; simp; omega) ?_; intro v3 w3 hrow3 hg3 b3))
      go_roundw
      case rel =>
       refine ⟨14, _, by omega, rfl, rfl, ?_, (grow_alloc Hbel.out _).trans b3⟩
       exact hrow3
      case measure => decide
    · have hb0 : (0 : Int) ≤ (b.sub 28 2 : Int) := Int.natCast_nonneg _
      have hb1 : (b.sub 28 2 : Int) < 65536 := by have := b.sub_lt 28 2; omega
      have u1 : IntKind.i64.wrap (b.sub 28 2 : Int) = b.sub 28 2 := IntWalk.i64_in _ (by omega)
      have Hrow := Lib.hid hrow
      have Hbel := Lib.hid hbel
      clear hrow hbel
      go_wp2_with (first | (go_at_call 139; refine (Num_sub _ G 28 2 28 b (BlkAt.below H1.out.2.1 Hbel.out (block_lt H1.out.2.1)) (by decide) (by decide)).mono ?_; rintro e x1 ⟨rfl, rfl⟩) | (at_builtin; refine wpList_app1 elemInt rfl _ _ rfl (World.ownsRow.alloc Hrow.out _) rfl _ (.int .i64 ((b.sub 28 2 : Nat) - 1)) rfl (by simp) rfl (by simp [indexOf]) (by have := Hbel.out.size; simp; omega) ?_; intro v3 w3 hrow3 hg3 b3))
      go_roundw
      case rel =>
       refine ⟨15, _, by omega, rfl, rfl, ?_, (grow_alloc Hbel.out _).trans b3⟩
       exact hrow3
      case measure => decide
    · have hb0 : (0 : Int) ≤ (b.sub 30 2 : Int) := Int.natCast_nonneg _
      have hb1 : (b.sub 30 2 : Int) < 65536 := by have := b.sub_lt 30 2; omega
      have u1 : IntKind.i64.wrap (b.sub 30 2 : Int) = b.sub 30 2 := IntWalk.i64_in _ (by omega)
      have Hrow := Lib.hid hrow
      have Hbel := Lib.hid hbel
      clear hrow hbel
      go_wp2_with (first | (go_at_call 139; refine (Num_sub _ G 30 2 26 b (BlkAt.below H1.out.2.1 Hbel.out (block_lt H1.out.2.1)) (by decide) (by decide)).mono ?_; rintro e x1 ⟨rfl, rfl⟩) | (at_builtin; refine wpList_app1 elemInt rfl _ _ rfl (World.ownsRow.alloc Hrow.out _) rfl _ (.int .i64 ((b.sub 30 2 : Nat) - 1)) rfl (by simp) rfl (by simp [indexOf]) (by have := Hbel.out.size; simp; omega) ?_; intro v3 w3 hrow3 hg3 b3))
      go_roundw
      case rel =>
       refine ⟨16, _, by omega, rfl, rfl, ?_, (grow_alloc Hbel.out _).trans b3⟩
       exact hrow3
      case measure => decide
  · obtain rfl : k = 16 := by omega
    have hl : (indexOf b).length = 16 := by simp [indexOf]
    rw [List.take_of_length_le (by rw [hl]; exact Nat.le_refl _)] at hrow
    obtain ⟨g, cap, hV, hg1, hg2⟩ := World.ownsRow.form hrow (by rw [hl]; decide)
    rw [hl] at hV
    subst hV
    have hints : IntsAt wr (some ⟨g, 0, none⟩) (indexOf b) := ⟨g, 0, fun _ => rfl, fun i hi => by
     have := World.ownsRow.cells hrow (g := g) rfl i (.int .i64 ((indexOf b).getD i 0)) (by simp [List.getD_eq_getElem?_getD, List.getElem?_eq_getElem hi])
     rwa [add_off'] at this⟩
    obtain ⟨⟨pb, pok⟩, hp⟩ : ∃ p, putIndex (indexOf b) = p := ⟨_, rfl⟩
    have hP := PutIndex_any (some ⟨g, 0, none⟩) (indexOf b) cap wr hints (by rw [hl]; decide)
    rw [hp, hl] at hP
    dsimp only at hP
    have HP := Lib.hid hP
    have Hp := Lib.hid hp
    have Hrow := Lib.hid hrow
    have Hbel := Lib.hid hbel
    clear hP hp hrow hbel hints
    go_upto_region 7 with (first | (go_at_call 96; refine HP.out.mono ?_; rintro e w9 ⟨rfl, be9⟩))
    have hB9 := grow_trans Hbel.out be9
    have hB10 := grow_alloc hB9 (.cells pb.cells 37)
    have hb10 : BlkAt (w9.alloc (.cells pb.cells 37)) G b := BlkAt.below H1.out.2.1 hB10 (block_lt H1.out.2.1)
    have hk10 := BlkAt.alloc_new w9 pb
    have hR10 : IRow (w9.alloc (.cells pb.cells 37)) w1.heap.size (.slice (some ⟨g, 0, none⟩) 16 cap) (indexOf b) := by
     refine World.ownsRow.alloc (World.ownsRow.kept Hrow.out ⟨be9.os, be9.tape, be9.output, be9.size, fun k hk _ => be9.block k hk⟩ (row := none) ?_) _
     exact .inr (by simp [Value.ownBlock])
    generalize hw10 : w9.alloc (.cells pb.cells 37) = w10 at *
    generalize hK : w9.heap.size = K at *
    have hh1 := hb10.has
    have hr1 := hb10.row
    have hh2 := hk10.has
    have hr2 := hk10.row
    have HF := Lib.hid (And.intro hR10 (grow_trans H1.out.2.2 hB10))
    clear be9 hb10 hk10 hR10 hB9 hB10 hw10 hK
    have hle : w.heap.size ≤ w1.heap.size := H1.out.2.2.size
    cases pok
    · have Ht := Lib.hid (show takeIndex b = none by unfold takeIndex; rw [Hp.out, if_neg (by intro h; cases h)])
      go_wp2_with fail
      refine bodyPost_ret (results_two rfl (resOne_tmp _ _ _) (resOne_tmp _ _ _)) rfl ?_
      exact ⟨.slice none 0 0, by rw [Ht.out]; rfl, by rw [Ht.out]; exact World.ownsRow_nil _ _ _ _, HF.out.2⟩
    · by_cases hpb : pb = b
      · have d1 : decide (pb = b) = true := by simpa using hpb
        have Ht := Lib.hid (show takeIndex b = some (indexOf b) by unfold takeIndex; rw [Hp.out, if_pos (by rw [hpb])])
        clear hpb
        go_wp2_with fail
        refine bodyPost_ret (results_two rfl (resOne_tmp _ _ _) (resOne_tmp _ _ _)) rfl ?_
        exact ⟨.slice (some ⟨g, 0, none⟩) 16 cap, by rw [Ht.out]; rfl, by rw [Ht.out]; exact World.ownsRow.mono HF.out.1 hle, HF.out.2⟩
      · have d1 : decide (pb = b) = false := by simpa using hpb
        have Hpb := Lib.hid hpb
        clear hpb
        have Ht := Lib.hid (show takeIndex b = none by unfold takeIndex; rw [Hp.out, if_neg (by intro h; injection h with h1 h2; exact Hpb.out h1)])
        go_wp2_with fail
        refine bodyPost_ret (results_two rfl (resOne_tmp _ _ _) (resOne_tmp _ _ _)) rfl ?_
        exact ⟨.slice none 0 0, by rw [Ht.out]; rfl, by rw [Ht.out]; exact World.ownsRow_nil _ _ _ _, HF.out.2⟩
end
end Go.Proofs.YtbbnejehglonjaaGreat
