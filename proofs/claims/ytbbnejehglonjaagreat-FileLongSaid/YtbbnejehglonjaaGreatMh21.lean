/- DERIVED. Contracts and laws that the proofs of this seat share, part 21 of 36: Rf15C Rf15D PvH Bt. -/
import Derived.Test.YtbbnejehglonjaaGreatMh00
import Derived.Test.YtbbnejehglonjaaGreatMh15
import Derived.Test.YtbbnejehglonjaaGreatMh19
import Derived.Test.YtbbnejehglonjaaGreatMh20
namespace Go.Proofs.YtbbnejehglonjaaGreat
set_option maxHeartbeats 8000000
set_option maxRecDepth 100000
set_option linter.unusedSimpArgs false
set_option linter.unusedVariables false
section
open Go.RowKit
attribute [local irreducible] Calls
theorem used_length (bs : List Blk) : (used bs).length = bs.length := by simp [used]
theorem countP_take_succ {u : List Bool} {k : Nat} (h : k < u.length) : (u.take (k + 1)).countP (! ·) = (u.take k).countP (! ·) + (if u.getD k false = true then 0 else 1) := by
 rw [List.take_succ_eq_append_getElem h, List.countP_append, List.getD_eq_getElem?_getD, List.getElem?_eq_getElem h, Option.getD_some]
 cases u[k] <;> simp []

theorem Left_any (g cap : Nat) (bs : List Blk) (w : World) (h : KRow w 0 (.slice (some ⟨g, 0, none⟩) bs.length cap) bs) (hl : bs.length ≤ 1000) :
 Calls Tryz.prog 64 #[.slice (some ⟨g, 0, none⟩) bs.length cap] w fun e w' => e = .returned (.int .i64 (left bs : Nat)) ∧ Below w.heap.size w w' := by
 have hU := fun w' hb => Used_any g cap bs w' (h.below hb) hl
 have HU := Lib.hid hU
 clear hU h
 go_enter Tryz.func64, Tryz.ntmps64
 go_wp2_with (go_at_call 58; refine (HU.out _ (Below.refl _ _)).mono ?_; rintro e w1 ⟨U, rfl, hu, b1⟩)
 have hul := used_length bs
 generalize hq : used bs = u at *
 have Hq := Lib.hid hq
 rw [← hul] at hu hl ⊢
 have Hu := Lib.hid hu
 clear hu hq hul HU
 go_loopw [3, 5] (fun s3 s5 wr => ∃ k : Nat, k ≤ u.length ∧ s5 = .int .i64 k ∧ s3 = .int .i64 ((u.take k).countP (! ·) : Nat) ∧ wr = w1) (fun _ i _ => u.length - (intOf i).toNat)
 case atStart => exact ⟨0, Nat.zero_le _, rfl, rfl, rfl⟩
 case round =>
  obtain ⟨k, hk, rfl, rfl, rfl⟩ := hrel
  have hcl : (u.take k).countP (! ·) ≤ k := Nat.le_trans List.countP_le_length (by rw [List.length_take]; omega)
  by_cases hlt : k < u.length
  · have hc := Hu.out.get k hlt
    have Hs := Lib.hid (countP_take_succ hlt)
    generalize (u.take k).countP (! ·) = n at *
    generalize u.getD k false = x at *
    cases x
    · go_wp2_with fail
      go_roundw
      case rel => exact ⟨k + 1, by omega, by go_num, by rw [Hs.out]; go_num, trivial⟩
      case measure => simp [intOf]; omega
    · go_wp2_with fail
      go_roundw
      case rel => exact ⟨k + 1, by omega, by go_num, by rw [Hs.out]; simp, trivial⟩
      case measure => simp [intOf]; omega
  · go_wp2_with fail
    go_ret
    refine ⟨?_, b1⟩
    rw [List.take_of_length_le (by omega)]
    unfold left; rw [Hq.out]; rfl

theorem firstOf_at {u : List Bool} {k : Nat} (hk : k < u.length) (h1 : ∀ j, j < k → u.getD j false = true) (h2 : u.getD k false = false) : firstOf u = k := by
 have : u.findIdx? (! ·) = some k := by
  rw [List.findIdx?_eq_some_iff_getElem]
  refine ⟨hk, ?_, fun j hj => ?_⟩
  · rw [List.getD_eq_getElem?_getD, List.getElem?_eq_getElem hk, Option.getD_some] at h2
    rw [h2]; rfl
  · have := h1 j hj
    rw [List.getD_eq_getElem?_getD, List.getElem?_eq_getElem (by omega), Option.getD_some] at this
    rw [this]; decide
 unfold firstOf; rw [this]
theorem firstOf_none {u : List Bool} (h1 : ∀ j, j < u.length → u.getD j false = true) : firstOf u = -1 := by
 have : u.findIdx? (! ·) = none := by
  rw [List.findIdx?_eq_none_iff]
  intro x hx
  obtain ⟨j, hj, rfl⟩ := List.getElem_of_mem hx
  have := h1 j hj
  rw [List.getD_eq_getElem?_getD, List.getElem?_eq_getElem hj, Option.getD_some] at this
  rw [this]; rfl
 unfold firstOf; rw [this]
theorem markAll_length (l : List Int) : ∀ u : List Bool, (markAll u l).length = u.length := by
 induction l with
 | nil => intro u; rfl
 | cons a l ih => intro u; show (markAll (u.set a.toNat true) l).length = _; rw [ih, List.length_set]
theorem markAll_take_succ {u : List Bool} {l : List Int} {k : Nat} (h : k < l.length) : markAll u (l.take (k + 1)) = (markAll u (l.take k)).set (l.getD k 0).toNat true := by
 rw [List.take_succ_eq_append_getElem h, List.getD_eq_getElem?_getD, List.getElem?_eq_getElem h, Option.getD_some]
 unfold markAll
 rw [List.foldl_append]; rfl
theorem ORow.lt {w : World} {B g n cap : Nat} {l : List Bool} (h : ORow w B (.slice (some ⟨g, 0, none⟩) n cap) l) : g < w.heap.size := by
 rcases h.2 with ⟨h', _⟩ | ⟨g', cap', cur, h', _, hg, _⟩
 · simp at h'
 · simp only [Value.slice.injEq, Option.some.injEq, Addr.mk.injEq, and_true] at h'
   obtain ⟨rfl, _⟩ := h'; exact block_lt hg

theorem First_any (g cap : Nat) (bs : List Blk) (a : Option Addr) (c : Nat) (l : List Int) (w : World) (h : KRow w 0 (.slice (some ⟨g, 0, none⟩) bs.length cap) bs) (hl : bs.length ≤ 1000)
 (hi : IntsAt w a l) (hll : l.length ≤ 1000) (hin : ∀ x ∈ l, 0 ≤ x ∧ x < bs.length) :
 Calls Tryz.prog 20 #[.slice (some ⟨g, 0, none⟩) bs.length cap, .slice a l.length c] w fun e w' => e = .returned (.int .i64 (first bs l)) ∧ Below w.heap.size w w' := by
 have HU := Lib.hid (fun w' hb => Used_any g cap bs w' (h.below hb) hl)
 obtain ⟨b, off, ha, hcs⟩ := hi
 have Hi := Lib.hid (And.intro ha hcs)
 have Hin := Lib.hid hin
 clear h ha hcs hin
 go_enter Tryz.func20, Tryz.ntmps20
 go_wp2_with (go_at_call 58; refine (HU.out _ (Below.refl _ _)).mono ?_; rintro e w1 ⟨U, rfl, hu, b1⟩)
 have hul := used_length bs
 have Hf := Lib.hid (show first bs l = firstOf (markAll (used bs) l) from rfl)
 generalize hq : used bs = u at *
 have Hul := Lib.hid hul
 have Hu := Lib.hid (And.intro hu b1)
 have HUl := Lib.hid hu.ge
 clear hu hq hul HU b1
 go_loopw [6] (fun s6 wr => ∃ k : Nat, k ≤ l.length ∧ s6 = .int .i64 k ∧ ORow wr w.heap.size (.slice (some ⟨U, 0, none⟩) bs.length bs.length) (markAll u (l.take k)) ∧ Below w.heap.size w wr) (fun i _ => l.length - (intOf i).toNat)
 case atStart => exact ⟨0, Nat.zero_le _, rfl, Hu.out.1, Hu.out.2⟩
 case round =>
  obtain ⟨k, hk, rfl, hrow, hbel⟩ := hrel
  have Hr := Lib.hid (And.intro hrow hbel)
  by_cases hlt : k < l.length
  · obtain rfl := Hi.out.1 (by omega)
    have hc := grow_cell hbel (Hi.out.2 k hlt)
    have hx := Hin.out (l.getD k 0) (by rw [List.getD_eq_getElem?_getD, List.getElem?_eq_getElem hlt]; exact List.getElem_mem hlt)
    have Hs := Lib.hid (markAll_take_succ (u := u) hlt)
    generalize l.getD k 0 = x at *
    obtain ⟨j, rfl⟩ := Int.eq_ofNat_of_zero_le hx.1
    obtain ⟨hx0, hx1⟩ := hx
    have hold := hrow.get j (by rw [markAll_length, Hul.out]; omega)
    have hf := hrow.free j
    generalize (markAll u (l.take k)).getD j false = old at hold
    clear hrow hbel
    go_wp2_with fail
    go_roundw
    case rel => exact ⟨k + 1, by omega, by go_num, by rw [Hs.out]; exact Hr.out.1.set j true, Hr.out.2.setCell (p := ⟨U, j, none⟩) Hr.out.1.ge _⟩
    case measure => simp [intOf]; omega
  · obtain rfl : k = l.length := by omega
    rw [List.take_of_length_le (Nat.le_refl _)] at hrow
    have hml := markAll_length l u
    rw [Hul.out] at hml
    generalize hm : markAll u l = m at *
    have Hr2 := Lib.hid (And.intro hrow hbel)
    have Hml := Lib.hid hml
    rw [← hml] at hl
    clear hrow hbel Hr hml hm
    go_wp2_with fail
    go_loopw [7] (fun s7 wi => ∃ k : Nat, k ≤ m.length ∧ s7 = .int .i64 k ∧ (∀ j, j < k → m.getD j false = true) ∧ wi = wr) (fun i _ => m.length - (intOf i).toNat)
    case atStart => exact ⟨0, Nat.zero_le _, rfl, fun j hj => by omega, rfl⟩
    case round =>
     obtain ⟨k, hk, rfl, hall, rfl⟩ := hrel
     have Hall := Lib.hid hall
     clear hall
     by_cases hlt : k < m.length
     · have hc := Hr2.out.1.get k hlt
       have hlt' : (k : Int) < (bs.length : Int) := by have := Hml.out; omega
       have k0 : (0 : Int) ≤ (k : Int) := Int.natCast_nonneg _
       obtain ⟨x, hx⟩ : ∃ x, x = m.getD k false := ⟨_, rfl⟩
       rw [← hx] at hc
       have Hx := Lib.hid hx
       clear hx
       cases x
       · go_wp2_with fail
         go_ret
         exact ⟨by rw [Hf.out, firstOf_at hlt Hall.out Hx.out.symm]; rfl, Hr2.out.2⟩
       · go_wp2_with fail
         go_roundw
         case rel =>
          refine ⟨k + 1, by omega, by go_num, fun j hj => ?_, trivial⟩
          rcases Nat.lt_succ_iff_lt_or_eq.1 hj with h' | rfl
          · exact Hall.out j h'
          · exact Hx.out.symm
         case measure => simp [intOf]; omega
     · have hge : (bs.length : Int) ≤ (k : Int) := by have := Hml.out; omega
       go_wp2_with fail
       go_ret
       exact ⟨by rw [Hf.out, firstOf_none fun j hj => Hall.out j (by omega)]; rfl, Hr2.out.2⟩
end
section
open Go.RowKit
attribute [local irreducible] Calls
theorem ne_beq {a b : Int} (h : a ≠ b) : (a == b) = false := by rw [beq_eq_false_iff_ne]; exact h
theorem ne_bne {a b : Int} (h : a ≠ b) : (a != b) = true := by rw [bne, ne_beq h]; rfl
theorem eq_bne {a b : Int} (h : a = b) : (a != b) = false := by subst h; simp

theorem blkD_nat (bs : List Blk) (j : Nat) : blkD bs (j : Int) = bs.getD j Blk.zero := by unfold blkD; simp
theorem inB_nat {bs : List Blk} {j : Nat} (h : j < bs.length) : inB bs (j : Int) = true := by simp [inB, h]
theorem inB_cases (bs : List Blk) (a : Int) : (a < 0 ∧ inB bs a = false) ∨ ((bs.length : Int) ≤ a ∧ 0 ≤ a ∧ inB bs a = false) ∨ ∃ j : Nat, a = (j : Int) ∧ j < bs.length ∧ inB bs a = true := by
 by_cases h : a < 0
 · left; exact ⟨h, by simp [inB]; omega⟩
 · by_cases h2 : (bs.length : Int) ≤ a
   · right; left; exact ⟨h2, by omega, by simp [inB]; omega⟩
   · right; right
     obtain ⟨j, rfl⟩ := Int.eq_ofNat_of_zero_le (show 0 ≤ a by omega)
     exact ⟨j, rfl, by omega, inB_nat (by omega)⟩
theorem fileAt_out {bs : List Blk} {a : Int} (h : inB bs a = false) : fileAt bs a = (Nd.zero, false) := by unfold fileAt; rw [h]; rfl
theorem fileAt_kind {bs : List Blk} {j : Nat} (h : (bs.getD j Blk.zero).kind ≠ 1) : fileAt bs (j : Int) = (Nd.zero, false) := by
 unfold fileAt; rw [blkD_nat, ne_beq h, Bool.and_false]; rfl
theorem fileAt_in {bs : List Blk} {j : Nat} (hj : j < bs.length) (h : (bs.getD j Blk.zero).kind = 1) : fileAt bs (j : Int) = takeNode (bs.getD j Blk.zero) := by
 unfold fileAt; rw [blkD_nat, inB_nat hj, h]; rfl

/-! Which block is block k of a file. -/
end
section
open Go.RowKit
attribute [local irreducible] Calls

def getB (bs : List Blk) (a : Int) : Blk := if inB bs a = true then blkD bs a else Blk.zero
section
variable {w : World} {Sd : Nat → Prop} {v d reg : Nat} {s : Sh} {epoch seq : Nat} {used : Int} {gb cap m : Nat} {bs : List Blk} {Dm : ML} {D : Dv} {c : Nat}
theorem VolP.get (h : VolP w Sd v d reg s epoch seq used gb cap m bs Dm D c) (a : Int) :
 Calls Tryz.prog 23 #[.pointer (some ⟨v, 0, none⟩), .int .i64 a] w fun e w' => e = .returned (.tuple #[.agg (getB bs a).cells, .bool (inB bs a)]) ∧ Below w.heap.size w w' := by
 have hlen : bs.length ≤ 200 := by rw [← h.slen]; exact h.sok.blocks
 have hB0 : Below w.heap.size w (w.alloc (.cells Blk.zero.cells 37)) := grow_alloc (Below.refl _ _) _
 have hX : BlkAt (w.alloc (.cells Blk.zero.cells 37)) w.heap.size Blk.zero := BlkAt.alloc_new w _
 have c11 := VolO.c11 h.o
 have c11' := VolO.c11 (grow_obj hB0 h.o)
 have HR := Lib.hid (And.intro (h.row.below hB0) (And.intro hB0 hX))
 clear h hX hB0
 unfold getB
 rcases inB_cases bs a with ⟨h1, h2⟩ | ⟨h0, h1, h2⟩ | ⟨j, rfl, hj, h2⟩
 · rw [h2]
   simp only [Bool.false_eq_true, if_false]
   have hbk := HR.out.2.2.has
   have hrk := HR.out.2.2.row
   go_enter Tryz.func23, Tryz.ntmps23
   go_wp2_with fail
   refine bodyPost_ret (results_two rfl (resOne_blk rfl (BlkAt.alloc_new w Blk.zero).row) (resOne_tmp _ _ _)) rfl ?_
   exact ⟨rfl, grow_alloc (Below.refl _ _) _⟩
 · rw [h2]
   simp only [Bool.false_eq_true, if_false]
   have hbk := HR.out.2.2.has
   have hrk := HR.out.2.2.row
   have hn : ¬ (a < (bs.length : Int)) := by omega
   go_enter Tryz.func23, Tryz.ntmps23
   go_wp2_with fail
   refine bodyPost_ret (results_two rfl (resOne_blk rfl (BlkAt.alloc_new w Blk.zero).row) (resOne_tmp _ _ _)) rfl ?_
   exact ⟨rfl, grow_alloc (Below.refl _ _) _⟩
 · rw [h2, if_pos rfl, blkD_nat]
   have hbk := HR.out.2.2.has
   have hrk := HR.out.2.2.row
   have hk1 := HR.out.1.has j hj
   have hk2 := HR.out.1.row j hj
   have i0 : (0 : Int) ≤ (j : Int) := Int.natCast_nonneg _
   have i1 : (j : Int) < (bs.length : Int) := by omega
   generalize bs.getD j Blk.zero = b at *
   go_enter Tryz.func23, Tryz.ntmps23
   go_wp2_with fail
   refine bodyPost_ret (results_two rfl (resOne_blk rfl (BlkAt.alloc_new w b).row) (resOne_tmp _ _ _)) rfl ?_
   exact ⟨rfl, grow_alloc (Below.refl _ _) _⟩
theorem VolP.blocks (h : VolP w Sd v d reg s epoch seq used gb cap m bs Dm D c) :
 Calls Tryz.prog 61 #[.pointer (some ⟨v, 0, none⟩)] w fun e w' => e = .returned (.int .i64 bs.length) ∧ w' = w := by
 have c4 := VolO.c4 h.o
 rw [h.slen] at c4
 clear h
 go_enter Tryz.func61, Tryz.ntmps61
 go_wp2_with fail
 go_ret
 exact ⟨rfl, rfl⟩
theorem VolP.room (h : VolP w Sd v d reg s epoch seq used gb cap m bs Dm D c) :
 Calls Tryz.prog 120 #[.pointer (some ⟨v, 0, none⟩)] w fun e w' => e = .returned (.int .i64 ((s.log : Int) - used)) ∧ w' = w.drew := by
 have c5 := VolO.c5 h.o
 have c10 := VolO.c10 h.o
 have hu := h.ub
 have hl := h.sok.log
 have hw : IntKind.i64.wrap ((s.log : Int) - used) = (s.log : Int) - used := IntWalk.i64_in _ (by omega)
 clear h
 go_enter Tryz.func120, Tryz.ntmps120
 go_upto_region 3 with fail
 refine wp_region_held_drew (S := fun w' => w'.cell? ⟨v, 5, none⟩ = some (.int .i64 s.log) ∧ w'.cell? ⟨v, 10, none⟩ = some (.int .i64 used) ∧ True) (by kernel_rfl) (⟨c5, c10, trivial⟩) (fun hHeld => ?_)
 show wpAnyH _ _ _ _ _ 11 #[false, false, false, false, false, false, false, false, false, false, false] _ _
 refine gT 0 ?_; try simp only [Act.put, qs]
 refine gT 1 ?_; try simp only [Act.put, qs]
 refine gT 2 ?_; try simp only [Act.put, qs]
 refine gT 3 ?_; try simp only [Act.put, qs]
 refine gT 4 ?_; try simp only [Act.put, qs]
 refine gT 5 ?_; try simp only [Act.put, qs]
 refine gT 6 ?_; try simp only [Act.put, qs]
 refine gT 7 ?_; try simp only [Act.put, qs]
 refine gT 8 ?_; try simp only [Act.put, qs]
 refine gT 9 ?_; try simp only [Act.put, qs]
 refine gT 10 ?_; try simp only [Act.put, qs]
 refine wpAnyH_done (by kernel_rfl) ?_ _
 go_wp2_with fail
 go_ret
 exact ⟨by first | rfl | rw [hw], rfl⟩
theorem VolP.sync (h : VolP w Sd v d reg s epoch seq used gb cap m bs Dm D c) (hc : c < 800000) :
 Calls Tryz.prog 179 #[.pointer (some ⟨v, 0, none⟩)] w fun e w' => e = .returned (.tuple #[]) ∧ Keeps Sd w w' ∧ VolP w' (grownS Sd w w') v d reg s epoch seq used gb cap m bs Dm (D.barrier reg) (c + 1) := by
 have c0 := VolO.c0 h.o
 have c1 := VolO.c1 h.o
 have H := Lib.hid h
 clear h
 go_enter Tryz.func179, Tryz.ntmps179
 go_upto_region 1 with fail
 refine wp_region_F [8] (S := fun w' => w'.cell? ⟨v, 0, none⟩ = some (.pointer (some ⟨d, 0, none⟩)) ∧ w'.cell? ⟨v, 1, none⟩ = some (.int .i64 reg) ∧ True) (by kernel_rfl) (⟨c0, c1, trivial⟩) (fun hHeld => ?_)
 show wpAnyF _ _ _ _ _ _ 9 #[false, false, false, false, false, false, false, false, false] _ _
 refine gF 0 [0, 1, 2, 3, 8] ?_; try simp only [Act.put, qs]
 refine gF 1 [1, 2, 3, 8] ?_; try simp only [Act.put, qs]
 refine gF 2 [2, 3, 8] ?_; try simp only [Act.put, qs]
 refine gF 3 [3, 8] ?_; try simp only [Act.put, qs]
 refine gF 4 [4, 5, 6, 7, 8] ?_; try simp only [Act.put, qs]
 refine gF 5 [5, 6, 7, 8] ?_; try simp only [Act.put, qs]
 refine gF 6 [6, 7, 8] ?_; try simp only [Act.put, qs]
 refine gF 7 [7, 8] ?_; try simp only [Act.put, qs]
 refine gV 8 fun K hK => ?_
 try simp only [qs]
 go_simp
 go_at_call 110; refine (Barrier_in (H.out.dev.below (Below.refl _ _).drew) (by omega) (Dv.has_lt H.out.has)).mono ?_; rintro e w4 ⟨rfl, hk4, hd4⟩
 refine hK.out _ _ (trivial) (fun hN => ?_); replace hHeld := hN; clear hK K hN
 try simp only [qs]
 refine wpAnyF_done (by kernel_rfl) ?_ _
 go_wp2_with fail
 go_end0
 have hst := DevStep.pre (Below.refl w.heap.size w).drew ⟨hk4, hd4⟩
 exact ⟨rfl, hst.keeps, H.out.step hst (Dv.has_barrier H.out.has)⟩
theorem VolP.tidy (h : VolP w Sd v d reg s epoch seq used gb cap m bs Dm D c) (hc : c < 600000) :
 Calls Tryz.prog 121 #[.pointer (some ⟨v, 0, none⟩)] w fun e w' => e = .returned (.tuple #[]) ∧ Keeps (fun k => Sd k ∨ k = v ∨ k = m) w w' ∧
  VolP w' (grownS Sd w w') v d reg s ((epoch + 1) % 4294967296) 0 0 gb cap m bs [] (tidiesD (D.barrier reg) reg s bs (sortedKeys Dm) ((epoch + 1) % 4294967296)) (c + bs.length + 5) := by
 have hs := h.sync (by omega)
 have H := Lib.hid h
 have HS := Lib.hid hs
 clear h hs
 go_enter Tryz.func121, Tryz.ntmps121
 go_wp2_with (first | (go_at_call 179; refine HS.out.mono ?_; rintro e w1 ⟨rfl, k1, hV1⟩; have Ht := Lib.hid (tidies_any hV1 (by omega)); have H1 := Lib.hid (And.intro k1 hV1); clear k1 hV1) | (go_at_call 116; refine Ht.out.mono ?_; rintro e w2 ⟨rfl, k2, hV2⟩))
 go_end0
 have hk := H1.out.1.size
 have hk3 : Keeps (fun k => Sd k ∨ k = v ∨ k = m) w w2 := (H1.out.1.mono (fun q _ e => .inl e)).chain k2 (fun q hq e => e.imp (fun e => e.2.resolve_right (by omega)) id)
 have hlv := H.out.lt_v
 have hlm := H.out.lt_m
 have hlb := H.out.lt_b
 refine ⟨rfl, hk3, hV2.refoot (S' := grownS Sd w w2) (fun q hq => ⟨hq.1, hq.2.elim (fun e => e.2) (fun e => .inr (Nat.le_trans hk e))⟩) (fun q hq => hq.1) (fun e => e.2.elim H.out.nv (by omega)) (fun e => e.2.elim H.out.nm (by omega)) (fun e => e.2.elim H.out.nb (by omega)) (by omega)⟩
end
end
section
open Go.RowKit

structure BitsAt (w : World) (b q : Nat) (l : List Bool) : Prop where
 head : w.heap[b]? = some (.cells #[.slice (some ⟨q, 0, none⟩) l.length l.length] 224 (0, 0))
 row : w.heap[q]? = some (.cells (l.map Value.bool).toArray 4 (0, 0))
 le : l.length ≤ 200

theorem BitsAt.cell0 {w : World} {b q : Nat} {l : List Bool} (h : BitsAt w b q l) : w.cell? ⟨b, 0, none⟩ = some (.slice (some ⟨q, 0, none⟩) l.length l.length) := by
 simp [World.cell?, h.head]
theorem BitsAt.cell {w : World} {b q : Nat} {l : List Bool} (h : BitsAt w b q l) (i : Nat) (hi : i < l.length) : w.cell? ⟨q, i, none⟩ = some (.bool l[i]) := by
 simp [World.cell?, h.row, hi]
theorem BitsAt.free {w : World} {b q : Nat} {l : List Bool} (h : BitsAt w b q l) (i : Nat) : w.frozen? ⟨q, i, none⟩ = false := by
 simp [World.frozen?, h.row]
theorem BitsAt.ne {w : World} {b q : Nat} {l : List Bool} (h : BitsAt w b q l) : b ≠ q := by
 rintro rfl
 have h2 := h.row
 rw [h.head] at h2
 simp at h2
theorem BitsAt.keeps {S : Nat → Prop} {w w' : World} {b q : Nat} {l : List Bool} (h : BitsAt w b q l) (k : Keeps S w w') (hb : ¬ S b) (hq : ¬ S q) : BitsAt w' b q l :=
 ⟨by rw [k.block b (block_lt h.head) hb]; exact h.head, by rw [k.block q (block_lt h.row) hq]; exact h.row, h.le⟩

section
theorem mk_boolsP (n : Int) (w : World) (h0 : 0 ≤ n) (h1 : n ≤ 1000000) :
 (Instr.makeSlice 135 (.int .i64 n) (.int .i64 n)).run Tryz.prog w = .ok (.slice (some ⟨w.heap.size, 0, none⟩) n.toNat n.toNat) (w.alloc (.cells (List.replicate n.toNat (.bool false)).toArray 4)) :=
 run_make1 _ _ _ (.bool false) (by kernel_rfl) (Option.some_get (by kernel_rfl)).symm (by kernel_rfl) rfl (by kernel_rfl) (by decide +kernel) n w h0 h1

theorem bNew_any (n : Int) (w : World) :
 Calls Tryz.prog 125 #[.int .i64 n] w fun e w' => e = .returned (.pointer (some ⟨w.heap.size + 1, 0, none⟩)) ∧
  BitsAt w' (w.heap.size + 1) w.heap.size (List.replicate (min (max n 0) 200).toNat false) ∧ Below w.heap.size w w' := by
 have hmk := mk_boolsP (min (max n 0) 200) w (by omega) (by omega)
 go_enter Tryz.func125, Tryz.ntmps125
 go_wp2
 go_ret
 refine ⟨rfl, ⟨?_, ?_, ?_⟩, ?_⟩
 · rw [heap_alloc_if, if_pos (by simp)]; simp
 · rw [heap_alloc_if, if_neg (by simp), heap_alloc_if, if_pos rfl]; simp
 · simp; omega
 · exact ((Below.refl _ _).alloc (Nat.le_refl _) _).alloc (by simp) _
end

def isIn (l : List Bool) (i : Int) : Bool := decide (0 ≤ i) && decide (i < l.length)

theorem bthere_any {b q : Nat} {l : List Bool} (i : Int) (w : World) (h : BitsAt w b q l) :
 Calls Tryz.prog 128 #[.pointer (some ⟨b, 0, none⟩), .int .i64 i] w fun e w' => e = .returned (.bool (isIn l i)) ∧ w = w' := by
 have h0 := h.cell0
 have hl := h.le
 clear h
 by_cases h1 : 0 ≤ i
 · have d1 : decide (0 ≤ i) = true := by simpa using h1
   go_enter Tryz.func128, Tryz.ntmps128
   go_wp2
   go_ret
   exact ⟨by simp [isIn, h1], rfl⟩
 · have d1 : decide (0 ≤ i) = false := by simpa using h1
   go_enter Tryz.func128, Tryz.ntmps128
   go_wp2
   go_ret
   exact ⟨by simp [isIn, d1], rfl⟩

def bitAt (l : List Bool) (i : Int) : Option Bool := if 0 ≤ i then l[i.toNat]? else none

theorem bitAt_in {l : List Bool} {i : Int} (h0 : 0 ≤ i) (h1 : i < l.length) : bitAt l i = some (l[i.toNat]'(by omega)) := by
 simp [bitAt, h0, show i.toNat < l.length by omega]
theorem bitAt_out {l : List Bool} {i : Int} (h : ¬ (0 ≤ i ∧ i < l.length)) : bitAt l i = none := by
 unfold bitAt
 split
 · rw [List.getElem?_eq_none]; omega
 · rfl

theorem bIs_any {b q : Nat} {l : List Bool} (i : Int) (w : World) (h : BitsAt w b q l) :
 Calls Tryz.prog 129 #[.pointer (some ⟨b, 0, none⟩), .int .i64 i] w fun e w' => e = .returned (.bool (bitAt l i == some true)) ∧ w = w' := by
 have h0 := h.cell0
 have hl := h.le
 by_cases h1 : 0 ≤ i ∧ i < l.length
 · obtain ⟨h1, h2⟩ := h1
   have d1 : isIn l i = true := by simp [isIn, h1, h2]
   have hc := h.cell i.toNat (by omega)
   have hb := bitAt_in h1 h2
   have Hb := Lib.hid hb
   clear hb
   go_enter Tryz.func129, Tryz.ntmps129
   go_wp2_with (go_at_call 128; refine (bthere_any _ _ h).mono ?_; rintro e w' ⟨rfl, rfl⟩)
   go_ret
   exact ⟨by rw [Hb.out]; cases l[i.toNat] <;> rfl, rfl⟩
 · have d1 : isIn l i = false := by simpa [isIn] using h1
   have Hb := Lib.hid (bitAt_out h1)
   go_enter Tryz.func129, Tryz.ntmps129
   go_wp2_with (go_at_call 128; refine (bthere_any _ _ h).mono ?_; rintro e w' ⟨rfl, rfl⟩)
   go_ret
   exact ⟨by rw [Hb.out]; rfl, rfl⟩

theorem BitsAt.set {w : World} {b q : Nat} {l : List Bool} (h : BitsAt w b q l) (i : Nat) (v : Bool) : BitsAt (w.setCell ⟨q, i, none⟩ (.bool v)) b q (l.set i v) := by
 refine ⟨?_, ?_, by simpa using h.le⟩
 · rw [heap_setCell_ne (show b ≠ (⟨q, i, none⟩ : Addr).block from h.ne), h.head]; simp
 · rw [heap_setCell_same h.row]; simp [List.map_set]

def bitSet (l : List Bool) (i : Int) (v : Bool) : List Bool := if bitAt l i = some !v then l.set i.toNat v else l

theorem bSet_any {b q : Nat} {l : List Bool} (i : Int) (w : World) (h : BitsAt w b q l) :
 Calls Tryz.prog 126 #[.pointer (some ⟨b, 0, none⟩), .int .i64 i] w fun e w' =>
  e = .returned (.bool (bitAt l i == some false)) ∧ BitsAt w' b q (bitSet l i true) ∧ Keeps (· = q) w w' := by
 have h0 := h.cell0
 have hl := h.le
 by_cases h1 : 0 ≤ i ∧ i < l.length
 · obtain ⟨h1, h2⟩ := h1
   have d1 : isIn l i = true := by simp [isIn, h1, h2]
   have hc := h.cell i.toNat (by omega)
   have hf := h.free i.toNat
   have hb := bitAt_in h1 h2
   have hs := h.set i.toNat true
   rcases hv : l[i.toNat] with _ | _ <;> rw [hv] at hc hb <;> have Hb := Lib.hid hb <;> clear hb hv
   · go_enter Tryz.func126, Tryz.ntmps126
     go_wp2_with (go_at_call 128; refine (bthere_any _ _ h).mono ?_; rintro e w' ⟨rfl, rfl⟩)
     go_ret
     refine ⟨by rw [Hb.out]; rfl, ?_, Keeps.setCell _ _ _ rfl⟩
     rw [bitSet, Hb.out, if_pos (by simp)]
     exact hs
   · go_enter Tryz.func126, Tryz.ntmps126
     go_wp2_with (go_at_call 128; refine (bthere_any _ _ h).mono ?_; rintro e w' ⟨rfl, rfl⟩)
     go_ret
     refine ⟨by rw [Hb.out]; rfl, ?_, Keeps.refl _ _⟩
     rw [bitSet, Hb.out, if_neg (by simp)]
     exact h
 · have d1 : isIn l i = false := by simpa [isIn] using h1
   have Hb := Lib.hid (bitAt_out h1)
   go_enter Tryz.func126, Tryz.ntmps126
   go_wp2_with (go_at_call 128; refine (bthere_any _ _ h).mono ?_; rintro e w' ⟨rfl, rfl⟩)
   go_ret
   refine ⟨by rw [Hb.out]; rfl, ?_, Keeps.refl _ _⟩
   rw [bitSet, Hb.out, if_neg (by simp)]
   exact h

def firstFrom (l : List Bool) (k : Nat) : Option Nat := if h : k < l.length then (if l[k] then firstFrom l (k + 1) else some k) else none
 termination_by l.length - k

theorem firstFrom_none {l : List Bool} {k : Nat} (h : ¬ k < l.length) : firstFrom l k = none := by rw [firstFrom, dif_neg h]
theorem firstFrom_yes {l : List Bool} {k : Nat} (h : k < l.length) (hs : l[k] = true) : firstFrom l k = firstFrom l (k + 1) := by
 rw [firstFrom, dif_pos h, if_pos hs]
theorem firstFrom_no {l : List Bool} {k : Nat} (h : k < l.length) (hs : l[k] = false) : firstFrom l k = some k := by
 rw [firstFrom, dif_pos h, if_neg (by simp [hs])]

def firstVal (o : Option Nat) : Value := match o with | some k => .tuple #[.int .i64 k, .bool true] | none => .tuple #[.int .i64 0, .bool false]

def FirstJ (w : World) (b : Nat) (l : List Bool) (a' : Act) (w' : World) : Prop :=
 w' = w ∧ ∃ k : Nat, k ≤ l.length ∧ firstFrom l 0 = firstFrom l k ∧ ∃ u1 u5 u6 u7 u8 u9 u10 u11 u12 u13 u14 : Value, a' = { tmps := #[.pointer (some ⟨b, 0, none⟩), u1, .int .i64 0, .bool false, .int .i64 k, u5, u6, u7, u8, u9, u10, u11, u12, u13, u14], defers := [] }

theorem bFirst_any {b q : Nat} {l : List Bool} (w : World) (h : BitsAt w b q l) :
 Calls Tryz.prog 60 #[.pointer (some ⟨b, 0, none⟩)] w fun e w' => e = .returned (firstVal (firstFrom l 0)) ∧ w = w' := by
 have hl := h.le
 go_enter Tryz.func60, Tryz.ntmps60
 go_wp2
 refine wp_scope_label 0 (FirstJ w b l) (fun a' _ => l.length - (intOf (a'.tmps.getD 4 undef)).toNat) rfl ?_ ?_
 · go_wp2
   exact ⟨rfl, 0, Nat.zero_le _, rfl, _, _, _, _, _, _, _, _, _, _, _, rfl⟩
 · rintro _ _ ⟨rfl, k, hk, hf, u1, u5, u6, u7, u8, u9, u10, u11, u12, u13, u14, rfl⟩
   have Hf := Lib.hid hf
   clear hf
   by_cases hlt : k < l.length
   · have d1 : isIn l k = true := by simp [isIn, hlt]
     have hb := bitAt_in (l := l) (i := k) (by omega) (by omega)
     rcases hv : l[k] with _ | _ <;> simp only [Int.toNat_natCast, hv] at hb
     · have d2 : (bitAt l k == some true) = false := by rw [hb]; rfl
       clear hb
       go_wp2_with (first | go_step3 | (go_at_call 128; refine (bthere_any _ _ h).mono ?_; rintro e w' ⟨rfl, rfl⟩) | (go_at_call 129; refine (bIs_any _ _ h).mono ?_; rintro e w' ⟨rfl, rfl⟩))
       simp only [Exit.jump]
       go_ret2
       exact ⟨by rw [Hf.out, firstFrom_no hlt hv]; rfl, rfl⟩
     · have d2 : (bitAt l k == some true) = true := by rw [hb]; rfl
       clear hb
       go_wp2_with (first | go_step3 | (go_at_call 128; refine (bthere_any _ _ h).mono ?_; rintro e w' ⟨rfl, rfl⟩) | (go_at_call 129; refine (bIs_any _ _ h).mono ?_; rintro e w' ⟨rfl, rfl⟩))
       refine ⟨rfl, ⟨rfl, k + 1, by omega, by rw [Hf.out, firstFrom_yes hlt hv], _, _, _, _, _, _, _, _, _, _, _, rfl⟩, ?_⟩
       simp [intOf]
       omega
   · have d1 : isIn l k = false := by simp [isIn]; omega
     go_wp2_with (first | go_step3 | (go_at_call 128; refine (bthere_any _ _ h).mono ?_; rintro e w' ⟨rfl, rfl⟩))
     simp only [Exit.jump]
     go_ret2
     exact ⟨by rw [Hf.out, firstFrom_none hlt]; rfl, rfl⟩

end
end Go.Proofs.YtbbnejehglonjaaGreat
