/- DERIVED. Contracts and laws that the proofs of this seat share, part 37 of 40: ShF ShG FlA Rf15J Rf15L. -/
import Derived.Test.YtbbnejehglonjaaGreatMg00
import Derived.Test.YtbbnejehglonjaaGreatMg26
import Derived.Test.YtbbnejehglonjaaGreatMg27
import Derived.Test.YtbbnejehglonjaaGreatMg33
import Derived.Test.YtbbnejehglonjaaGreatMg36
/- DERIVED. Contracts of slices.SortStableFunc (fewer than twenty), IndexFunc over names. -/
namespace Go.Proofs.YtbbnejehglonjaaGreat
open Go.RowKit
attribute [local irreducible] Calls
set_option maxRecDepth 100000

set_option maxHeartbeats 2000000 in
theorem stable_any {w : World} {S : Nat → Prop} {l : List Nm} {a : Option Addr} {cap : Nat} (h : NmRow w S (.slice a l.length cap) l) (hl : l.length < 20) :
    Calls Tryz.prog 158 #[.slice a l.length cap, .int .i64 l.length, .func (.func 103) #[] #[]] w fun e w' => e = .returned (.tuple #[]) ∧ ∃ l', inOrder l' ∧ SoAt w w' S (.slice a l.length cap) l l' := by
  have HI := Lib.hid (insSort_any h (by omega))
  have n1 : ¬ ((20 : Int) ≤ (l.length : Int)) := by omega
  have n2 : ¬ ((20 : Int) < (l.length : Int)) := by omega
  clear h
  go_enter Tryz.func158, Tryz.ntmps158
  go_wp2_with fail
  refine wp_loop_rounds 1 ?_
  rw [rounds_succ]
  go_wp2_with (go_at_call 195; refine HI.out.mono ?_; rintro e w1 ⟨rfl, l', hin, hso⟩; have H1 := Lib.hid (And.intro hin hso); clear hin hso)
  refine wp_loop_rounds 1 ?_
  rw [rounds_succ]
  go_wp2_with fail
  first | go_end0 | refine bodyPost_end (results_none rfl _ _ _) rfl ?_
  exact ⟨rfl, l', H1.out.1, H1.out.2⟩
theorem sortStable_any {w : World} {S : Nat → Prop} {l : List Nm} {a : Option Addr} {cap : Nat} (h : NmRow w S (.slice a l.length cap) l) (hl : l.length < 20) :
    Calls Tryz.prog 102 #[.slice a l.length cap, .func (.func 103) #[] #[]] w fun e w' => e = .returned (.tuple #[]) ∧ ∃ l', inOrder l' ∧ SoAt w w' S (.slice a l.length cap) l l' := by
  have HI := Lib.hid (stable_any h hl)
  clear h
  go_enter Tryz.func102, Tryz.ntmps102
  go_wp2_with (go_at_call 158; refine HI.out.mono ?_; rintro e w1 ⟨rfl, l', hin, hso⟩; have H1 := Lib.hid (And.intro hin hso); clear hin hso)
  first | go_end0 | refine bodyPost_end (results_none rfl _ _ _) rfl ?_
  exact ⟨rfl, l', H1.out.1, H1.out.2⟩
/-- Where the first name of another folder is. -/
theorem indexNm_any {w : World} {S : Nat → Prop} {l : List Nm} {u : Value} {J : Nat} {i : Id} (h : NmRow w S u l) (hJ : objAt w J = some (.cells i.cells 66 (0, 0))) (hl : l.length ≤ 1000) :
    Calls Tryz.prog 157 #[u, .func (.func 101) #[] #[.pointer (some ⟨J, 0, none⟩)]] w fun e w' => ((e = .returned (.int .i64 (-1)) ∧ ∀ x ∈ l, x.dir = i) ∨ ∃ k : Nat, e = .returned (.int .i64 k) ∧ k < l.length ∧ (∀ j x, j < k → l[j]? = some x → x.dir = i) ∧ ∃ x, l[k]? = some x ∧ x.dir ≠ i) ∧ Below w.heap.size w w' := by
  obtain ⟨a, cap, rfl, _⟩ := RowG.slice h
  have H0 := Lib.hid (And.intro h hJ)
  clear h hJ
  go_enter Tryz.func157, Tryz.ntmps157
  go_wp2_with fail
  go_loopw [8] (fun q wr => ∃ k : Nat, k ≤ l.length ∧ q = .int .i64 k ∧ (∀ j x, j < k → l[j]? = some x → x.dir = i) ∧ Below w.heap.size w wr) (fun q _ => l.length - (Go.RowKit.intOf q).toNat)
  case atStart => exact ⟨0, Nat.zero_le _, rfl, fun j x hj => by omega, Below.refl _ _⟩
  case round =>
    obtain ⟨k, hk, rfl, hno, hbel⟩ := hrel
    by_cases hlt : k < l.length
    · obtain ⟨x, hx⟩ : ∃ x, l[k]? = some x := ⟨_, List.getElem?_eq_getElem hlt⟩
      have hWr := H0.out.1.grow hbel (fun _ _ h => h)
      obtain ⟨g, cap', hf⟩ := RowG.form hWr (by omega)
      simp only [Value.slice.injEq] at hf
      obtain ⟨rfl, hleq, rfl⟩ := hf
      clear hleq
      obtain ⟨x0, x1, x2, x3, x4, x5⟩ := NmRow.at_ hWr hx
      have hlti : (k : Int) < (l.length : Int) := by omega
      have hk2 : (k : Int) < 1000 := by omega
      have Hc := Lib.hid (list1_any x wr (grow_obj hbel H0.out.2))
      have HX := Lib.hid (And.intro hno (And.intro hbel hx))
      clear hno hbel hx hWr
      by_cases hp : x.dir = i
      · rw [decide_eq_true hp] at Hc
        have Hp := Lib.hid hp
        clear hp
        go_wp2_with (go_at_call 101; refine Hc.out.mono ?_; rintro e w2 ⟨rfl, b2⟩)
        go_roundw
        case rel =>
          refine ⟨k + 1, by omega, by go_num, fun j y hj hy => ?_, grow_trans HX.out.2.1 b2⟩
          by_cases e : j = k
          · subst e
            rw [HX.out.2.2] at hy
            obtain rfl := Option.some.inj hy
            exact Hp.out
          · exact HX.out.1 j y (by omega) hy
        case measure => simp [Go.RowKit.intOf]; omega
      · rw [decide_eq_false hp] at Hc
        have Hp := Lib.hid hp
        clear hp
        go_wp2_with (go_at_call 101; refine Hc.out.mono ?_; rintro e w2 ⟨rfl, b2⟩)
        go_ret
        exact ⟨.inr ⟨k, rfl, hlt, HX.out.1, x, HX.out.2.2, Hp.out⟩, grow_trans HX.out.2.1 b2⟩
    · obtain rfl : k = l.length := by omega
      have hn : ¬ ((l.length : Int) < (l.length : Int)) := by omega
      have hall : ∀ x ∈ l, x.dir = i := fun x hx => by
        obtain ⟨j, hj⟩ := List.getElem?_of_mem hx
        exact hno j x (List.getElem?_eq_some_iff.1 hj).1 hj
      have HX := Lib.hid (And.intro hall hbel)
      clear hno hbel hall
      go_wp2_with fail
      go_ret
      exact ⟨.inl ⟨rfl, HX.out.1⟩, HX.out.2⟩
end Go.Proofs.YtbbnejehglonjaaGreat

/- DERIVED. Contracts of slices.DeleteFunc over names of one folder, of shard's List where all names are of the folder. -/
namespace Go.Proofs.YtbbnejehglonjaaGreat
open Go.RowKit
attribute [local irreducible] Calls
set_option maxRecDepth 100000

theorem deleteA_any {w : World} {S : Nat → Prop} {l : List Nm} {a : Option Addr} {cap : Nat} {J : Nat} {i : Id} (h : NmRow w S (.slice a l.length cap) l) (hJ : objAt w J = some (.cells i.cells 66 (0, 0))) (hl : l.length ≤ 1000) (hall : ∀ x ∈ l, x.dir = i) :
    Calls Tryz.prog 100 #[.slice a l.length cap, .func (.func 101) #[] #[.pointer (some ⟨J, 0, none⟩)]] w fun e w' => e = .returned (.slice a l.length cap) ∧ Below w.heap.size w w' := by
  have HI := Lib.hid (indexNm_any h hJ hl)
  have HA := Lib.hid hall
  clear h hJ hall
  go_enter Tryz.func100, Tryz.ntmps100
  go_wp2_with (go_at_call 157; refine HI.out.mono ?_; rintro e w1 ⟨hor, b1⟩; obtain rfl : e = .returned (.int .i64 (-1)) := (by rcases hor with ⟨h, _⟩ | ⟨k, _, hk, _, x, hx, hne⟩; exact h; exact absurd (HA.out x (List.mem_of_getElem? hx)) hne); clear hor)
  go_ret
  exact ⟨rfl, b1⟩
section
variable {w : World} {t v mp mt : Nat} {L : PL} {T : ML}
variable {Sd : Nat → Prop} {d reg : Nat} {s : Sh} {epoch seq : Nat} {used : Int} {gb cap m : Nat} {bs : List Blk} {Dm : ML} {D : Dv} {c : Nat}
set_option maxHeartbeats 4000000 in
theorem shListA_any (h : TxAt w t v mp mt L T bs.length) (hv : VolP w Sd v d reg s epoch seq used gb cap m bs Dm D c) (i : Id) (hall : ∀ p ∈ ents (txV L bs), p.1.dir = i) (hlt : (ents (txV L bs)).length < 20) :
    Calls Tryz.prog 47 #[.pointer (some ⟨t, 0, none⟩), .agg i.cells] w fun e w' => ∃ u l', e = .returned u ∧ l'.Perm ((ents (txV L bs)).map (·.1)) ∧ inOrder l' ∧ NmRow w' (fun q => w.heap.size ≤ q) u l' ∧ Below w.heap.size w w' := by
  obtain ⟨w0, hw0⟩ : ∃ w0, w0 = w.alloc (.cells i.cells 66) := ⟨_, rfl⟩
  obtain ⟨G, hG⟩ : ∃ G, G = w.heap.size := ⟨_, rfl⟩
  have hB0 : Below w.heap.size w w0 := below_alloc hw0
  have hO : objAt w0 G = some (.cells i.cells 66 (0, 0)) := by rw [hG]; exact obj_alloc hw0
  have HN := Lib.hid (shNames_any (h.below hB0) (hv.below hB0))
  obtain ⟨es, hes⟩ : ∃ es, es = ents (txV L bs) := ⟨_, rfl⟩
  rw [← hes] at HN hall hlt ⊢
  have H0 := Lib.hid (And.intro hB0 (And.intro hO (And.intro hall hlt)))
  clear h hv hB0 hO hall hlt hes
  obtain ⟨l, a, g⟩ := i
  rw [show (⟨l, a, g⟩ : Id).cells = #[.int .i64 l, .int .i64 a, .int .u32 g] from rfl] at hw0 ⊢
  go_enter Tryz.func47, Tryz.ntmps47
  go_upto_region 1 with fail
  rw [← hw0, ← hG]
  clear hw0 hG
  go_upto_region 2 with (go_at_call 99; refine HN.out.mono ?_; rintro e w1 ⟨V, U, rfl, hV, hU, b1⟩)
  obtain ⟨av, cv, rfl, _⟩ := hV.slice
  have HD := Lib.hid (deleteA_any hV (grow_obj b1 H0.out.2.1) (by rw [List.length_map]; have := H0.out.2.2.2; omega) (fun x hx => by obtain ⟨p, hp, rfl⟩ := List.mem_map.1 hx; exact H0.out.2.2.1 p hp))
  have HV := Lib.hid (And.intro hV b1)
  rw [List.length_map] at HD
  rw [List.length_map]
  clear hV hU b1
  go_upto_region 3 with (go_at_call 100; refine HD.out.mono ?_; rintro e w2 ⟨rfl, b2⟩)
  have hV2 := HV.out.1.grow b2 (fun _ _ h => h)
  have HS := Lib.hid (sortStable_any hV2 (by rw [List.length_map]; exact H0.out.2.2.2))
  rw [List.length_map] at HS
  have H2 := Lib.hid b2
  clear hV2 b2
  go_wp2_with (go_at_call 102; refine HS.out.mono ?_; rintro e w3 ⟨rfl, l', hin, hso⟩; have H3 := Lib.hid (And.intro hin hso); clear hin hso)
  go_ret
  have hb2 := grow_trans H0.out.1 (grow_trans HV.out.2 H2.out)
  refine ⟨_, l', rfl, H3.out.2.perm, H3.out.1, RowG.mono H3.out.2.row (fun q hq => Nat.le_trans H0.out.1.size hq), hb2.trans (H3.out.2.keeps.below hb2.size (fun q e => ?_))⟩
  have hh := HV.out.1.own q (by rw [List.length_map]; exact e)
  exact Nat.le_trans H0.out.1.size hh
end
end Go.Proofs.YtbbnejehglonjaaGreat

/- DERIVED. Plain: what a new device has behind vol.Make, of whatever number of blocks. -/
namespace Go.Proofs.YtbbnejehglonjaaGreat
open Go.RowKit
attribute [local irreducible] Calls
/-- The share of clathrilaw15.Filled. -/
def shN (n : Nat) : Sh := ⟨0, 0, n, 40, 4⟩
theorem shN_ok {n : Nat} (h0 : 0 < n) (h : n ≤ 200) : (shN n).Ok := ⟨by show 0 ≤ (0 : Int) ∧ (0 : Int) ≤ 3; omega, by show 0 ≤ (0 : Int) ∧ (0 : Int) ≤ 15; omega, h, by show 40 ≤ 100; omega, h0⟩
theorem shN_lb (n : Nat) : (shN n).lb = 0 := rfl
theorem shN_size (n : Nat) : (shN n).size = 42 + n := rfl
def dvN (n : Nat) : Dv := ⟨[Reg.new (42 + n)], -1⟩
theorem barrier_new (R : Reg) : Dv.barrier ⟨[R], -1⟩ 0 = ⟨[R.barrier], -1⟩ := rfl
/-- What is seen of blocks that k new ones were written to. -/
structure NewTo (R : Reg) (n k : Nat) : Prop where
  len : R.seen.length = 42 + n
  low : ∀ i, i < 42 → R.seen[i]? = some zeros64
  home : ∀ a, a < k → R.seen[42 + a]? = some (sealB 0 a (newBlk a))
theorem newTo (n : Nat) : ∀ k, k ≤ n → ∃ R, newsD (dvN n) 0 (shN n) k = ⟨[R], -1⟩ ∧ NewTo R n k
  | 0, _ => ⟨Reg.new (42 + n), rfl, by simp [Reg.new], fun i hi => by simp only [Reg.new]; rw [List.getElem?_replicate, if_pos (by omega)], fun a ha => by omega⟩
  | k + 1, hk => by
    obtain ⟨R, h1, h2⟩ := newTo n k (by omega)
    refine ⟨R.write (42 + k) (sealB 0 k (newBlk k)), by rw [newsD_succ, h1]; rfl, by simp [Reg.write, h2.len], fun i hi => ?_, fun a ha => ?_⟩
    · show (R.seen.set (42 + k) _)[i]? = _
      rw [List.getElem?_set_ne (by omega)]; exact h2.low i hi
    · show (R.seen.set (42 + k) _)[42 + a]? = _
      by_cases e : a = k
      · subst e; rw [List.getElem?_set_self (by rw [h2.len]; omega)]
      · rw [List.getElem?_set_ne (by omega)]; exact h2.home a (by omega)
/-- The blocks of a new store. -/
def frBlks (n : Nat) : List Blk := (List.range n).map newBlk
theorem frBlks_length (n : Nat) : (frBlks n).length = n := by simp [frBlks]
theorem frBlks_at {n a : Nat} {b : Blk} (h : (frBlks n)[a]? = some b) : a < n ∧ b = newBlk a := by
  obtain ⟨h1, h2⟩ := List.getElem?_eq_some_iff.1 h
  rw [frBlks_length] at h1
  refine ⟨h1, ?_⟩
  rw [← h2]; simp [frBlks]
theorem newBlk_kind (a : Nat) : 0 ≤ (newBlk a).kind ∧ (newBlk a).kind ≤ 7 := by
  unfold newBlk
  split
  · rw [superBlk_kind]; decide
  · have : Blk.zero.kind = 0 := by rw [zero_of]; exact Blk.of_kind 0 []
    rw [this]; decide
theorem anchor_begins : beginsStep 0 (beginsStep 0 (0, false) 0 zeros64) 1 (anchorB 0 1) = (1, true) := by kernel_rfl
theorem zeros_ten : zeros64[10]? = some 0 := by kernel_rfl
/-- The device behind Make. -/
theorem make_seen {n : Nat} (h0 : 0 < n) (_h : n ≤ 200) : ∃ R, (makeD (dvN n) 0 (shN n)).regs = [R] ∧ R.seen.length = (shN n).size ∧ R.seen[2]? = some zeros64 ∧ beginsUpto (shN n).lb 0 R.seen 2 = (1, true) ∧ (∀ a b, (frBlks n)[a]? = some b → (0 ≤ b.kind ∧ b.kind ≤ 7) ∧ R.seen[2 + (shN n).log + a]? = some (sealB (shN n).lb a b)) := by
  obtain ⟨R, h1, h2⟩ := newTo n n (Nat.le_refl _)
  have e : makeD (dvN n) 0 (shN n) = ⟨[(R.barrier.write 1 (anchorB 0 1)).barrier], -1⟩ := by
    unfold makeD
    rw [show (shN n).blocks = n from rfl, h1, barrier_new]
    rfl
  have hs : ((R.barrier.write 1 (anchorB 0 1)).barrier).seen = R.seen.set 1 (anchorB 0 1) := rfl
  refine ⟨_, by rw [e], by rw [hs, List.length_set, h2.len]; rfl, by rw [hs, List.getElem?_set_ne (by omega)]; exact h2.low 2 (by omega), ?_, fun a b hb => ?_⟩
  · rw [hs, shN_lb]
    have g0 : (R.seen.set 1 (anchorB 0 1)).getD 0 [] = zeros64 := by rw [List.getD_eq_getElem?_getD, List.getElem?_set_ne (by omega), h2.low 0 (by omega)]; rfl
    have g1 : (R.seen.set 1 (anchorB 0 1)).getD 1 [] = anchorB 0 1 := by rw [List.getD_eq_getElem?_getD, List.getElem?_set_self (by rw [h2.len]; omega)]; rfl
    show beginsStep 0 (beginsStep 0 (0, false) 0 ((R.seen.set 1 (anchorB 0 1)).getD 0 [])) 1 ((R.seen.set 1 (anchorB 0 1)).getD 1 []) = _
    rw [g0, g1]
    exact anchor_begins
  · obtain ⟨ha, rfl⟩ := frBlks_at hb
    refine ⟨newBlk_kind a, ?_⟩
    rw [hs, shN_lb, show 2 + (shN n).log + a = 42 + a from rfl, List.getElem?_set_ne (by omega)]
    exact h2.home a ha
end Go.Proofs.YtbbnejehglonjaaGreat

/- DERIVED. Stores in memory. Contracts of clathriref15's store: id, dir, Find, Node, file. -/
namespace Go.Proofs.YtbbnejehglonjaaGreat
open Go.RowKit
attribute [local irreducible] Calls
/-- A store lies at p, its blocks at g. -/
structure StoreAt (w : World) (p : Nat) (place : Int) (g cap : Nat) (bs : List Blk) : Prop where
  box : objAt w p = some (.cells #[.int .i64 place, .slice (some ⟨g, 0, none⟩) bs.length cap] 58 (0, 0))
  row : KRow w 0 (.slice (some ⟨g, 0, none⟩) bs.length cap) bs
  ne : g ≠ p
theorem StoreAt.below {w w' : World} {p g cap : Nat} {place : Int} {bs : List Blk} (h : StoreAt w p place g cap bs) (hb : Below w.heap.size w w') : StoreAt w' p place g cap bs := ⟨grow_obj hb h.box, h.row.below hb, h.ne⟩
theorem StoreAt.c0 {w : World} {p g cap : Nat} {place : Int} {bs : List Blk} (h : StoreAt w p place g cap bs) : w.cell? ⟨p, 0, none⟩ = some (.int .i64 place) := by rw [cell_of_row w p 0 _ _ _ h.box]; rfl
theorem StoreAt.c1 {w : World} {p g cap : Nat} {place : Int} {bs : List Blk} (h : StoreAt w p place g cap bs) : w.cell? ⟨p, 1, none⟩ = some (.slice (some ⟨g, 0, none⟩) bs.length cap) := by rw [cell_of_row w p 1 _ _ _ h.box]; rfl

end Go.Proofs.YtbbnejehglonjaaGreat

/- DERIVED. Contracts of clathriref15's store: file; holes, setNext, New. -/
namespace Go.Proofs.YtbbnejehglonjaaGreat
open Go.RowKit
attribute [local irreducible] Calls
/-- A fresh store's blocks. -/
def newBlks (n : Nat) : List Blk := (List.replicate n Blk.zero).set 0 ⟨7, Blk.zero.body.set 3 1, by rw [List.length_set]; exact Blk.zero.len⟩
theorem mk_blks (n : Nat) (w : World) (h1 : n ≤ 1000) :
    (Instr.makeSlice 23 (.int .i64 (n : Int)) (.int .i64 (n : Int))).run Tryz.prog w = .ok (.slice (some ⟨w.heap.size, 0, none⟩) n n) (w.alloc (.cells (madeCells Blk.zero.cells (n * 57)) 37)) ∧
      KRow (w.alloc (.cells (madeCells Blk.zero.cells (n * 57)) 37)) w.heap.size (.slice (some ⟨w.heap.size, 0, none⟩) n n) (List.replicate n Blk.zero) := by
  obtain ⟨i, z, hi, hz, hs, hby, hzs⟩ := elemBlk
  have hr := run_make (P := Tryz.prog) w 23 37 i z Tryz.underlying23 hi hz .i64 .i64 n n (by omega) (Int.le_refl _) (by rw [hby]; omega) (by omega)
  simp only [Int.toNat_natCast, hs, hzs] at hr
  refine ⟨hr, ?_⟩
  have hfl : (madeCells Blk.zero.cells (n * 57)).toList = flat (List.replicate n Blk.zero) := by
    apply List.ext_getElem?
    intro k
    have hsz : (madeCells Blk.zero.cells (n * 57)).size = n * 57 := size_madeCells _ _
    have hfl := flat_length (List.replicate n Blk.zero)
    rw [List.length_replicate] at hfl
    by_cases hk : k < n * 57
    · have h57 : k / 57 < n := Nat.div_lt_of_lt_mul (by omega)
      have := flat_get (List.replicate n Blk.zero) (k / 57) (k % 57) (by rw [List.length_replicate]; exact h57) (Nat.mod_lt _ (by decide))
      rw [show k / 57 * 57 + k % 57 = k by omega] at this
      rw [this]
      simp only [List.getElem_replicate]
      have h57' : k % 57 < Blk.zero.cells.size := by rw [Blk.size_cells]; exact Nat.mod_lt _ (by decide)
      simp [madeCells, hk, Blk.size_cells]
      rw [getElem!_pos Blk.zero.cells (k % 57) h57', Array.getElem?_eq_getElem h57']
    · rw [List.getElem?_eq_none (by rw [Array.length_toList, hsz]; omega), List.getElem?_eq_none (by omega)]
  have := World.ownsRow_lit (base := w.heap.size) (e := 37) (size := 57) w (madeCells Blk.zero.cells (n * 57)) n (Nat.le_refl _) (by unfold maxLen; omega) (size_madeCells _ _)
  unfold KRow
  rw [List.length_replicate, ← hfl]; exact this

theorem getD_replicate0 (n : Nat) (h : 0 < n) : (List.replicate n Blk.zero).getD 0 Blk.zero = Blk.zero := by
  rw [List.getD_eq_getElem?_getD, List.getElem?_eq_getElem (by rw [List.length_replicate]; exact h)]; simp
theorem Blk.set_kind (b : Blk) (k : Int) : b.cells.setIfInBounds 0 (.int .i64 k) = (⟨k, b.body, b.len⟩ : Blk).cells := by
  rw [Blk.cells_def, Blk.cells_def]; simp
theorem KRow.setKind {w : World} {B g n cap : Nat} {bs : List Blk} (h : KRow w B (.slice (some ⟨g, 0, none⟩) n cap) bs) (h0 : 0 < bs.length) (k : Int) :
    KRow (w.setCell ⟨g, 0, none⟩ (.int .i64 k)) B (.slice (some ⟨g, 0, none⟩) n cap) (bs.set 0 ⟨k, (bs.getD 0 Blk.zero).body, (bs.getD 0 Blk.zero).len⟩) := by
  obtain rfl := h.len
  have := (World.ownsRow.stored h 0 (.int .i64 k)).1
  unfold KRow
  rw [List.length_set]
  have e : (flat bs).set 0 (.int .i64 k) = flat (bs.set 0 ⟨k, (bs.getD 0 Blk.zero).body, (bs.getD 0 Blk.zero).len⟩) := by
    obtain ⟨b, cs, rfl⟩ : ∃ b cs, bs = b :: cs := by
      cases bs with
      | nil => simp at h0
      | cons b cs => exact ⟨b, cs, rfl⟩
    show (b.cells.toList ++ flat cs).set 0 _ = _
    rw [List.set_append_left _ _ (by rw [Blk.len_cells]; decide), ← Array.toList_setIfInBounds, Blk.set_kind]
    rfl
  rw [← e]; exact this

set_option maxRecDepth 100000 in
set_option maxHeartbeats 4000000 in
theorem sNew_any (place : Int) (n : Nat) (w : World) (h0 : 0 < n) (h1 : n ≤ 1000) :
    Calls Tryz.prog 32 #[.int .i64 place, .int .i64 n] w fun e w' => ∃ p g, e = .returned (.pointer (some ⟨p, 0, none⟩)) ∧ StoreAt w' p place g n (newBlks n) ∧ Below w.heap.size w w' ∧ w.heap.size ≤ p ∧ w.heap.size ≤ g := by
  obtain ⟨hmk, hrow⟩ := mk_blks n w h1
  generalize madeCells Blk.zero.cells (n * 57) = zs at *
  have hB := ((Below.refl w.heap.size w).alloc (Nat.le_refl _) (.cells zs 37)).alloc (by rw [size_alloc]; omega) (.cells #[.int .i64 place, .slice (some ⟨w.heap.size, 0, none⟩) n n] 58)
  have hrow2 := hrow.alloc (.cells #[.int .i64 place, .slice (some ⟨w.heap.size, 0, none⟩) n n] 58)
  have hbox : objAt ((w.alloc (.cells zs 37)).alloc (.cells #[.int .i64 place, .slice (some ⟨w.heap.size, 0, none⟩) n n] 58)) (w.heap.size + 1) = some (.cells #[.int .i64 place, .slice (some ⟨w.heap.size, 0, none⟩) n n] 58 (0, 0)) := by
    rw [objAt_alloc, size_alloc, if_pos rfl]
  have k0 : (0 : Int) < (n : Int) := by omega
  obtain ⟨A, hA⟩ : ∃ A, A = w.heap.size := ⟨_, rfl⟩
  go_enter Tryz.func32, Tryz.ntmps32
  go_wp2_with fail
  generalize hw1 : (w.alloc (.cells zs 37)).alloc (.cells #[.int .i64 place, .slice (some ⟨w.heap.size, 0, none⟩) n n] 58) = w1 at *
  rw [← hA] at hrow2 hbox ⊢
  have HA := Lib.hid (And.intro hA (And.intro hB (And.intro hbox hrow2)))
  clear hmk hrow hw1 hA
  have c1 : w1.cell? ⟨A + 1, 1, none⟩ = some (.slice (some ⟨A, 0, none⟩) n n) := by rw [cell_of_row w1 (A + 1) 1 _ _ _ hbox]; rfl
  have a0 := hrow2.kind 0 (by rw [List.length_replicate]; exact h0)
  have f0 := hrow2.free 0
  have a4 := hrow2.byte 0 3 (by rw [List.length_replicate]; exact h0) (by decide)
  have f4 := hrow2.free 4
  rw [getD_replicate0 n h0] at a0 a4
  rw [Nat.zero_mul] at a0
  rw [show 0 * 57 + 1 + 3 = 4 from rfl] at a4
  generalize Blk.zero.kind = kz at a0
  generalize ((Blk.zero.body.getD 3 0).toNat : Int) = bz at a4
  have a0' : w1.drew.cell? ⟨A, 0, none⟩ = some (.int .i64 kz) := a0
  have f0' : w1.drew.frozen? ⟨A, 0, none⟩ = false := f0
  have a4' : (w1.setCell ⟨A, 0, none⟩ (.int .i64 7)).drew.cell? ⟨A, 4, none⟩ = some (.int .u8 bz) := (World.cell?_setCell_other w1.drew ⟨A, 0, none⟩ _ _ (by simp)).trans a4
  have hK1 := KRow.setKind (show KRow w1.drew A (.slice (some ⟨A, 0, none⟩) n n) (List.replicate n Blk.zero) from hrow2) (by rw [List.length_replicate]; exact h0) 7
  have f4' : (w1.setCell ⟨A, 0, none⟩ (.int .i64 7)).drew.frozen? ⟨A, 4, none⟩ = false := hK1.free 4
  have hK2 := hK1.setByte 0 3 (by rw [List.length_set, List.length_replicate]; exact h0) (by decide) 1
  rw [show (0 * 57 + 1 + 3 : Nat) = 4 from rfl] at hK2
  have hHK := Lib.hid hK2
  clear hB hbox hrow2 a4 f4 hK1 hK2 a0 f0
  refine wp_region_held_drew (S := fun w' => w'.cell? ⟨A + 1, 1, none⟩ = some (.slice (some ⟨A, 0, none⟩) n n) ∧ True) (by kernel_rfl) (And.intro c1 trivial) (fun hHeld => ?_)
  show wpAnyH _ _ _ _ _ 15 #[false, false, false, false, false, false, false, false, false, false, false, false, false, false, false] _ _
  refine wpAnyH_take (i := 0) (v := ?kv11) rfl (by kernel_rfl) (by kernel_rfl) (by kernel_rfl) (fun _ _ _ h => h) (Or.inl ⟨by rfl, ?ky11⟩) (by assumption) ?kr11
  case ky11 => (intro w hSw; (try dsimp only at hSw); go_split_ands; (try simp only [qA, qB]); go_simp; (try with_reducible rfl))
  try simp only [Act.put, qA, qB, qD, qE, qF]
  refine wpAnyH_take (i := 1) (v := ?kv12) rfl (by kernel_rfl) (by kernel_rfl) (by kernel_rfl) (fun _ _ _ h => h) (Or.inl ⟨by rfl, ?ky12⟩) (by assumption) ?kr12
  case ky12 => (intro w hSw; (try dsimp only at hSw); go_split_ands; (try simp only [qA, qB, qC]); go_simp; (try with_reducible rfl))
  try simp only [Act.put, qA, qB, qC, qD, qE, qF]
  refine wpAnyH_take (i := 2) (v := ?kv13) rfl (by kernel_rfl) (by kernel_rfl) (by kernel_rfl) (fun _ _ _ h => h) (Or.inl ⟨by rfl, ?ky13⟩) (by assumption) ?kr13
  case ky13 => (intro w hSw; (try dsimp only at hSw); go_split_ands; (try simp only [qA, qB, qC]); go_simp; (try with_reducible rfl))
  try simp only [Act.put, qA, qB, qC, qD, qE, qF]
  refine wpAnyH_take (i := 3) (v := ?kv14) rfl (by kernel_rfl) (by kernel_rfl) (by kernel_rfl) (fun _ _ _ h => h) (Or.inl ⟨by rfl, ?ky14⟩) (by assumption) ?kr14
  case ky14 => (intro w hSw; (try dsimp only at hSw); go_split_ands; (try simp only [qA, qB, qC]); go_simp; (try with_reducible rfl))
  try simp only [Act.put, qA, qB, qC, qD, qE, qF]
  refine wpAnyH_take (i := 4) (v := ?kv15) rfl (by kernel_rfl) (by kernel_rfl) (by kernel_rfl) (fun _ _ _ h => h) (Or.inl ⟨by rfl, ?ky15⟩) (by assumption) ?kr15
  case ky15 => (intro w hSw; (try dsimp only at hSw); go_split_ands; (try simp only [qA, qB, qC]); go_simp; (try with_reducible rfl))
  try simp only [Act.put, qA, qB, qC, qD, qE, qF]
  refine wpAnyH_take (i := 5) (v := ?kv16) rfl (by kernel_rfl) (by kernel_rfl) (by kernel_rfl) (fun _ _ _ h => h) (Or.inl ⟨by rfl, ?ky16⟩) (by assumption) ?kr16
  case ky16 => (intro w hSw; (try dsimp only at hSw); go_split_ands; (try simp only [qA, qB, qC]); go_simp; (try with_reducible rfl))
  try simp only [Act.put, qA, qB, qC, qD, qE, qF]
  refine wpAnyH_take (i := 6) (v := ?kv17) rfl (by kernel_rfl) (by kernel_rfl) (by kernel_rfl) (fun _ _ _ h => h) (Or.inl ⟨by rfl, ?ky17⟩) (by assumption) ?kr17
  case ky17 => (intro w hSw; (try dsimp only at hSw); go_split_ands; (try simp only [qA, qB, qC]); go_simp; (try with_reducible rfl))
  try simp only [Act.put, qA, qB, qC, qD, qE, qF]
  refine wpAnyH_take (i := 7) (v := ?kv18) rfl (by kernel_rfl) (by kernel_rfl) (by kernel_rfl) (fun _ _ _ h => h) (Or.inl ⟨by rfl, ?ky18⟩) (by assumption) ?kr18
  case ky18 => (intro w hSw; (try dsimp only at hSw); go_split_ands; (try simp only [qA, qB, qC]); go_simp; (try with_reducible rfl))
  try simp only [Act.put, qA, qB, qC, qD, qE, qF]
  refine wpAnyH_take (i := 8) (v := ?kv19) rfl (by kernel_rfl) (by kernel_rfl) (by kernel_rfl) (fun _ _ _ h => h) (Or.inl ⟨by rfl, ?ky19⟩) (by assumption) ?kr19
  case ky19 => (intro w hSw; (try dsimp only at hSw); go_split_ands; (try simp only [qA, qB, qC]); go_simp; (try with_reducible rfl))
  try simp only [Act.put, qA, qB, qC, qD, qE, qF]
  refine wpAnyH_take (i := 9) (v := ?kv20) rfl (by kernel_rfl) (by kernel_rfl) (by kernel_rfl) (fun _ _ _ h => h) (Or.inl ⟨by rfl, ?ky20⟩) (by assumption) ?kr20
  case ky20 => (intro w hSw; (try dsimp only at hSw); go_split_ands; (try simp only [qA, qB, qC]); go_simp; (try with_reducible rfl))
  try simp only [Act.put, qA, qB, qC, qD, qE, qF]
  refine wpAnyH_take (i := 11) (v := ?kv21) rfl (by kernel_rfl) (by kernel_rfl) (by kernel_rfl) (fun _ _ _ h => h) (Or.inl ⟨by rfl, ?ky21⟩) (by assumption) ?kr21
  case ky21 => (intro w hSw; (try dsimp only at hSw); go_split_ands; (try simp only [qA, qB, qC]); go_simp; (try with_reducible rfl))
  try simp only [Act.put, qA, qB, qC, qD, qE, qF]
  refine wpAnyH_take (i := 12) (v := ?kv22) rfl (by kernel_rfl) (by kernel_rfl) (by kernel_rfl) (fun _ _ _ h => h) (Or.inl ⟨by rfl, ?ky22⟩) (by assumption) ?kr22
  case ky22 => (intro w hSw; (try dsimp only at hSw); go_split_ands; (try simp only [qA, qB, qC]); go_simp; (try with_reducible rfl))
  try simp only [Act.put, qA, qB, qC, qD, qE, qF]
  refine wpAnyH_ready (rs := [10]) (by kernel_rfl) (by simp) ?_
  refine (AllReadyH.cons rfl (fun K hK => ?_) AllReadyH.nil)
  try simp only [qA, qB, qC]
  go_simp
  refine hK.out _ _ (by exact ⟨(World.cell?_setCell_far _ _ _ _ (by simp)).trans hHeld.1, trivial⟩) (fun hHeldn => ?_)
  clear hHeld hK K
  have hHeld := hHeldn
  clear hHeldn
  try simp only [qD, qE, qF]
  refine wpAnyH_take (i := 13) (v := ?kv24) rfl (by kernel_rfl) (by kernel_rfl) (by kernel_rfl) (fun _ _ _ h => h) (Or.inl ⟨by rfl, ?ky24⟩) (by assumption) ?kr24
  case ky24 => (intro w hSw; (try dsimp only at hSw); go_split_ands; (try simp only [qA, qB, qC]); go_simp; (try with_reducible rfl))
  try simp only [Act.put, qA, qB, qC, qD, qE, qF]
  refine wpAnyH_ready (rs := [14]) (by kernel_rfl) (by simp) ?_
  refine (AllReadyH.cons rfl (fun K hK => ?_) AllReadyH.nil)
  try simp only [qA, qB, qC]
  go_simp
  refine hK.out _ _ (by exact ⟨(World.cell?_setCell_far _ _ _ _ (by simp)).trans hHeld.1, trivial⟩) (fun hHeldn => ?_)
  clear hHeld hK K
  have hHeld := hHeldn
  clear hHeldn
  try simp only [qD, qE, qF]
  refine wpAnyH_done (by kernel_rfl) ?_ _
  go_wp2_with fail
  go_ret
  refine ⟨A + 1, A, rfl, ⟨?_, ?_, by omega⟩, ?_, by have := HA.out.1; omega, by have := HA.out.1; omega⟩
  · have e : objAt ((w1.setCell ⟨A, 0, none⟩ (.int .i64 7)).setCell ⟨A, 4, none⟩ (.int .u8 1)).drew (A + 1) = objAt w1 (A + 1) := by
      rw [objAt_drew]
      unfold objAt
      rw [heap_setCell_ne (by show A + 1 ≠ A; omega), heap_setCell_ne (by show A + 1 ≠ A; omega)]
    refine Eq.trans e (HA.out.2.2.1.trans ?_)
    simp [newBlks]
  · have e : newBlks n = ((List.replicate n Blk.zero).set 0 ⟨7, ((List.replicate n Blk.zero).getD 0 Blk.zero).body, ((List.replicate n Blk.zero).getD 0 Blk.zero).len⟩).set 0 ((((List.replicate n Blk.zero).set 0 ⟨7, ((List.replicate n Blk.zero).getD 0 Blk.zero).body, ((List.replicate n Blk.zero).getD 0 Blk.zero).len⟩).getD 0 Blk.zero).setB 3 1) := by
      obtain ⟨m, rfl⟩ : ∃ m, n = m + 1 := ⟨n - 1, by omega⟩
      rfl
    rw [show (newBlks n).length = n by simp [newBlks], e]; exact KRow.mono hHK.out (Nat.zero_le _)
  · exact (HA.out.2.1.drew.setCell (p := ⟨A, 0, none⟩) (by show w.heap.size ≤ A; rw [HA.out.1]; exact Nat.le_refl _) _).setCell (p := ⟨A, 4, none⟩) (by show w.heap.size ≤ A; rw [HA.out.1]; exact Nat.le_refl _) _
end Go.Proofs.YtbbnejehglonjaaGreat
