/- DERIVED. Contracts and laws that the proofs of this seat share, part 18 of 32: Rf15B Rf15C Rf15D PvH WrA. -/
import Derived.Test.YtanmihhlkelgeaaGreatMg04
import Derived.Test.YtanmihhlkelgeaaGreatMg05
import Derived.Test.YtanmihhlkelgeaaGreatMg16
import Derived.Test.YtanmihhlkelgeaaGreatMg17
/- DERIVED. Contracts of clathriref15.Used, Left, First. -/
namespace Go.Proofs.YtanmihhlkelgeaaGreat
open Go.RowKit
attribute [local irreducible] Calls

/-- A []bool of the call's own. -/
def ORow (w : World) (B : Nat) (v : Value) (l : List Bool) : Prop := w.ownsRow B 4 1 v l.length (l.map fun x => Value.bool x)
theorem mk_bools (n : Int) (w : World) (h0 : 0 ≤ n) (h1 : n ≤ 1000000) :
    (Instr.makeSlice 102 (.int .i64 n) (.int .i64 n)).run Tryz.prog w = .ok (.slice (some ⟨w.heap.size, 0, none⟩) n.toNat n.toNat) (w.alloc (.cells (List.replicate n.toNat (.bool false)).toArray 4)) :=
  run_make1 _ _ _ (.bool false) (by kernel_rfl) (Option.some_get (by kernel_rfl)).symm (by kernel_rfl) rfl (by kernel_rfl) (by decide +kernel) n w h0 h1
section
variable {w : World} {B g n cap : Nat} {v : Value} {l : List Bool}
theorem ORow.below {w' : World} (h : ORow w B v l) (hb : Below w.heap.size w w') : ORow w' B v l := by
  refine World.ownsRow.kept h ⟨hb.os, hb.tape, hb.output, hb.size, fun k hk _ => hb.block k hk⟩ (row := none) ?_
  cases v.ownBlock <;> simp
theorem ORow.get (h : ORow w B (.slice (some ⟨g, 0, none⟩) n cap) l) (j : Nat) (hj : j < l.length) : w.cell? ⟨g, j, none⟩ = some (.bool (l.getD j false)) := by
  have := World.ownsRow.cells h (g := g) rfl j (.bool (l.getD j false)) (by simp [hj])
  rw [add_off'] at this; simpa using this
theorem ORow.len (h : ORow w B (.slice (some ⟨g, 0, none⟩) n cap) l) : n = l.length := by
  rcases h.2 with ⟨h', _⟩ | ⟨g', cap', cur, h', _⟩
  · simp at h'
  · simp only [Value.slice.injEq] at h'; exact h'.2.1
theorem ORow.free (h : ORow w B (.slice (some ⟨g, 0, none⟩) n cap) l) (j : Nat) : w.frozen? ⟨g, j, none⟩ = false := by
  obtain rfl := h.len
  exact World.ownsRow.frozenAt h j
theorem ORow.set (h : ORow w B (.slice (some ⟨g, 0, none⟩) n cap) l) (j : Nat) (x : Bool) : ORow (w.setCell ⟨g, j, none⟩ (.bool x)) B (.slice (some ⟨g, 0, none⟩) n cap) (l.set j x) := by
  obtain rfl := h.len
  have := (World.ownsRow.stored h j (.bool x)).1
  unfold ORow
  rw [List.length_set, List.map_set]; exact this
theorem ORow.ge (h : ORow w B (.slice (some ⟨g, 0, none⟩) n cap) l) : B ≤ g := by
  rcases h.2 with ⟨h', _⟩ | ⟨g', cap', cur, h', hb, _⟩
  · simp at h'
  · simp only [Value.slice.injEq, Option.some.injEq, Addr.mk.injEq, and_true] at h'
    obtain ⟨rfl, _⟩ := h'; exact hb
end
def bmap (n : Nat) (f : Nat → Bool) : List Bool := (List.range n).map f
theorem bmap_length (n : Nat) (f : Nat → Bool) : (bmap n f).length = n := by simp [bmap]
theorem bmap_get (n : Nat) (f : Nat → Bool) (j : Nat) (h : j < n) : (bmap n f).getD j false = f j := by simp [bmap, List.getD_eq_getElem?_getD, h]
theorem bmap_set (n : Nat) (f : Nat → Bool) (j : Nat) (x : Bool) : (bmap n f).set j x = bmap n (fun i => if i = j then x else f i) := by
  apply List.ext_getElem
  · simp [bmap]
  · intro i h1 h2
    simp only [bmap, List.length_set, List.length_map, List.length_range] at h1
    simp only [bmap, List.getElem_set, List.getElem_map, List.getElem_range]
    by_cases e : j = i
    · subst e; simp
    · rw [if_neg e, if_neg (fun e' => e e'.symm)]
theorem bmap_congr {n : Nat} {f f' : Nat → Bool} (h : ∀ j, j < n → f j = f' j) : bmap n f = bmap n f' := by
  unfold bmap; exact List.map_congr_left fun j hj => h j (List.mem_range.1 hj)

theorem okNew_ge {pre : List Int} {a : Int} (h : okNew pre a = true) : -1 ≤ a := (okNew_bounds h).1
theorem real_pos {l : List Int} (h : ∀ x ∈ l, -1 ≤ x) : ∀ x ∈ real l, 0 ≤ x := by
  intro x hx
  simp only [real, List.mem_filter, bne_iff_ne, ne_eq] at hx
  have := h x hx.1
  omega
theorem takeIndex_ge {b : Blk} {l : List Int} (h : takeIndex b = some l) : l.length = 16 ∧ placesOk l = true := by
  unfold takeIndex at h
  split at h
  · rename_i h2
    obtain rfl := Option.some.inj h
    unfold putIndex at h2
    split at h2
    · rename_i h3; exact h3
    · cases h2
  · cases h
theorem placesOk_ge {l : List Int} (h : placesOk l = true) : ∀ x ∈ l, -1 ≤ x := by
  intro x hx
  obtain ⟨k, hk, rfl⟩ := List.getElem_of_mem hx
  have := (placesOk_bounds h k hk).1
  rwa [List.getD_eq_getElem?_getD, List.getElem?_eq_getElem hk] at this
theorem named_pos (bs : List Blk) (i : Nat) : ∀ x ∈ named bs i, 0 ≤ x := by
  intro x hx
  unfold named at hx
  split at hx
  · split at hx
    · rename_i n hn
      have hsm := takeNode_small hn
      unfold namesOf at hx
      rw [List.mem_append] at hx
      rcases hx with hx | hx
      · split at hx
        · cases hx
        · rename_i hne
          rw [List.mem_cons] at hx
          rcases hx with rfl | hx
          · have := (hsm.place 4 (by decide)).1
            replace this : -1 ≤ n.index := this
            have : n.index ≠ -1 := by simpa using hne
            omega
          · split at hx
            · cases hti : takeIndex (blkD bs n.index) with
              | none => rw [hti] at hx; simp [real] at hx
              | some l => rw [hti] at hx; exact real_pos (placesOk_ge (takeIndex_ge hti).2) x hx
            · cases hx
      · refine real_pos ?_ x hx
        intro y hy
        simp only [Nd.direct, List.mem_cons, List.not_mem_nil, or_false] at hy
        rcases hy with rfl | rfl | rfl | rfl
        · exact (hsm.place 0 (by decide)).1
        · exact (hsm.place 1 (by decide)).1
        · exact (hsm.place 2 (by decide)).1
        · exact (hsm.place 3 (by decide)).1
    · cases hx
  · cases hx
theorem named_length (bs : List Blk) (i : Nat) : (named bs i).length ≤ 21 := by
  unfold named
  split
  · split
    · rename_i n hn
      unfold namesOf
      have h2 := real_length n.direct
      have h3 : n.direct.length = 4 := rfl
      rw [List.length_append]
      split
      · simp only [List.length_nil]; omega
      · rw [List.length_cons]
        split
        · have h4 := real_length ((takeIndex (blkD bs n.index)).getD [])
          have h5 : ((takeIndex (blkD bs n.index)).getD []).length ≤ 16 := by
            unfold takeIndex
            split
            · simp [indexOf]
            · simp
          omega
        · simp only [List.length_nil]; omega
    · simp
  · simp

/-- In use by itself. -/
def usedSelf (bs : List Blk) (j : Nat) : Bool := j == 0 || isNode (bs.getD j Blk.zero).kind || (bs.getD j Blk.zero).kind == 6
theorem usedUpto_succ (bs : List Blk) (k j : Nat) : usedUpto bs (k + 1) j = ((if j = k then usedUpto bs k j || usedSelf bs j else usedUpto bs k j) || (named bs k).contains (j : Int)) := by
  unfold usedUpto
  rw [List.range_succ, List.any_append]
  simp only [List.any_cons, List.any_nil, Bool.or_false]
  have e : (j == 0 || isNode (bs.getD j Blk.zero).kind || (bs.getD j Blk.zero).kind == 6) = usedSelf bs j := rfl
  rw [e]
  by_cases hj : j = k
  · subst hj
    rw [if_pos rfl]
    have h1 : decide (j < j + 1) = true := by simp
    have h2 : decide (j < j) = false := by simp
    rw [h1, h2]
    cases usedSelf bs j <;> simp
  · rw [if_neg hj]
    have h1 : decide (j < k + 1) = decide (j < k) := by
      by_cases h : j < k
      · simp [h]; omega
      · simp [h]; omega
    rw [h1, Bool.or_assoc]
theorem usedUpto_zero (bs : List Blk) (j : Nat) : usedUpto bs 0 j = false := by simp [usedUpto]

theorem contains_append_one (l : List Int) (x a : Int) : (l ++ [x]).contains a = (l.contains a || (a == x)) := by
  rw [Bool.eq_iff_iff, List.contains_iff_mem, Bool.or_eq_true, List.contains_iff_mem, List.mem_append, List.mem_singleton, beq_iff_eq]
theorem contains_take_succ {L : List Int} {m : Nat} (a : Int) (h : m < L.length) : (L.take (m + 1)).contains a = ((L.take m).contains a || (a == L.getD m 0)) := by
  rw [List.take_succ_eq_append_getElem h, contains_append_one, List.getD_eq_getElem?_getD, List.getElem?_eq_getElem h, Option.getD_some]
end Go.Proofs.YtanmihhlkelgeaaGreat

/- DERIVED. Contracts of clathriref15.Left, First, holes. -/
namespace Go.Proofs.YtanmihhlkelgeaaGreat
open Go.RowKit
attribute [local irreducible] Calls

theorem used_length (bs : List Blk) : (used bs).length = bs.length := by simp [used]
theorem countP_take_succ {u : List Bool} {k : Nat} (h : k < u.length) : (u.take (k + 1)).countP (! ·) = (u.take k).countP (! ·) + (if u.getD k false = true then 0 else 1) := by
  rw [List.take_succ_eq_append_getElem h, List.countP_append, List.getD_eq_getElem?_getD, List.getElem?_eq_getElem h, Option.getD_some]
  cases u[k] <;> simp []

theorem firstOf_at {u : List Bool} {k : Nat} (hk : k < u.length) (h1 : ∀ j, j < k → u.getD j false = true) (h2 : u.getD k false = false) : firstOf u = k := by
  have : u.findIdx? (! ·) = some k := by
    rw [List.findIdx?_eq_some_iff_getElem]
    refine ⟨hk, ?_, fun j hj => ?_⟩
    · rw [List.getD_eq_getElem?_getD, List.getElem?_eq_getElem hk, Option.getD_some] at h2
      rw [h2]; rfl
    · have := h1 j hj
      rw [List.getD_eq_getElem?_getD, List.getElem?_eq_getElem (by omega), Option.getD_some] at this
      rw [this]; decide
  unfold firstOf; rw [this]
theorem firstOf_none {u : List Bool} (h1 : ∀ j, j < u.length → u.getD j false = true) : firstOf u = -1 := by
  have : u.findIdx? (! ·) = none := by
    rw [List.findIdx?_eq_none_iff]
    intro x hx
    obtain ⟨j, hj, rfl⟩ := List.getElem_of_mem hx
    have := h1 j hj
    rw [List.getD_eq_getElem?_getD, List.getElem?_eq_getElem hj, Option.getD_some] at this
    rw [this]; rfl
  unfold firstOf; rw [this]
theorem markAll_length (l : List Int) : ∀ u : List Bool, (markAll u l).length = u.length := by
  induction l with
  | nil => intro u; rfl
  | cons a l ih => intro u; show (markAll (u.set a.toNat true) l).length = _; rw [ih, List.length_set]
theorem markAll_take_succ {u : List Bool} {l : List Int} {k : Nat} (h : k < l.length) : markAll u (l.take (k + 1)) = (markAll u (l.take k)).set (l.getD k 0).toNat true := by
  rw [List.take_succ_eq_append_getElem h, List.getD_eq_getElem?_getD, List.getElem?_eq_getElem h, Option.getD_some]
  unfold markAll
  rw [List.foldl_append]; rfl
theorem ORow.lt {w : World} {B g n cap : Nat} {l : List Bool} (h : ORow w B (.slice (some ⟨g, 0, none⟩) n cap) l) : g < w.heap.size := by
  rcases h.2 with ⟨h', _⟩ | ⟨g', cap', cur, h', _, hg, _⟩
  · simp at h'
  · simp only [Value.slice.injEq, Option.some.injEq, Addr.mk.injEq, and_true] at h'
    obtain ⟨rfl, _⟩ := h'; exact block_lt hg

end Go.Proofs.YtanmihhlkelgeaaGreat

/- DERIVED. Contracts of clathriref15.fileAt, where, holes, next. -/
namespace Go.Proofs.YtanmihhlkelgeaaGreat
open Go.RowKit
attribute [local irreducible] Calls

theorem ne_beq {a b : Int} (h : a ≠ b) : (a == b) = false := by rw [beq_eq_false_iff_ne]; exact h
theorem ne_bne {a b : Int} (h : a ≠ b) : (a != b) = true := by rw [bne, ne_beq h]; rfl
theorem eq_bne {a b : Int} (h : a = b) : (a != b) = false := by subst h; simp

theorem blkD_nat (bs : List Blk) (j : Nat) : blkD bs (j : Int) = bs.getD j Blk.zero := by unfold blkD; simp
theorem inB_nat {bs : List Blk} {j : Nat} (h : j < bs.length) : inB bs (j : Int) = true := by simp [inB, h]
theorem inB_cases (bs : List Blk) (a : Int) : (a < 0 ∧ inB bs a = false) ∨ ((bs.length : Int) ≤ a ∧ 0 ≤ a ∧ inB bs a = false) ∨ ∃ j : Nat, a = (j : Int) ∧ j < bs.length ∧ inB bs a = true := by
  by_cases h : a < 0
  · left; exact ⟨h, by simp [inB]; omega⟩
  · by_cases h2 : (bs.length : Int) ≤ a
    · right; left; exact ⟨h2, by omega, by simp [inB]; omega⟩
    · right; right
      obtain ⟨j, rfl⟩ := Int.eq_ofNat_of_zero_le (show 0 ≤ a by omega)
      exact ⟨j, rfl, by omega, inB_nat (by omega)⟩
theorem fileAt_out {bs : List Blk} {a : Int} (h : inB bs a = false) : fileAt bs a = (Nd.zero, false) := by unfold fileAt; rw [h]; rfl
theorem fileAt_kind {bs : List Blk} {j : Nat} (h : (bs.getD j Blk.zero).kind ≠ 1) : fileAt bs (j : Int) = (Nd.zero, false) := by
  unfold fileAt; rw [blkD_nat, ne_beq h, Bool.and_false]; rfl
theorem fileAt_in {bs : List Blk} {j : Nat} (hj : j < bs.length) (h : (bs.getD j Blk.zero).kind = 1) : fileAt bs (j : Int) = takeNode (bs.getD j Blk.zero) := by
  unfold fileAt; rw [blkD_nat, inB_nat hj, h]; rfl

/-! Which block is block k of a file. -/
theorem where_direct {bs : List Blk} {n : Nd} {k : Nat} (h : k < 4) : whereIs bs n k = n.direct.getD k 0 := by unfold whereIs; rw [if_pos h]
theorem where_out {bs : List Blk} {n : Nd} {k : Nat} (h : ¬ k < 4) (h2 : inB bs n.index = false) : whereIs bs n k = -1 := by unfold whereIs; rw [if_neg h, h2]; rfl
theorem where_bad {bs : List Blk} {n : Nd} {k : Nat} (h : ¬ k < 4) (h2 : takeIndex (blkD bs n.index) = none) : whereIs bs n k = -1 := by
  unfold whereIs; rw [if_neg h, h2]; split <;> rfl
theorem where_in {bs : List Blk} {n : Nd} {k : Nat} {l : List Int} (h : ¬ k < 4) (h1 : inB bs n.index = true) (h2 : takeIndex (blkD bs n.index) = some l) : whereIs bs n k = l.getD (k - 4) 0 := by
  unfold whereIs; rw [if_neg h, h1, h2]; rfl

end Go.Proofs.YtanmihhlkelgeaaGreat

/- DERIVED. Contracts of vol's Get, Blocks, Room, Sync, Tidy. -/
namespace Go.Proofs.YtanmihhlkelgeaaGreat
open Go.RowKit
attribute [local irreducible] Calls
set_option maxRecDepth 100000

/-- A block of a row, or none. -/
def getB (bs : List Blk) (a : Int) : Blk := if inB bs a = true then blkD bs a else Blk.zero
section
variable {w : World} {Sd : Nat → Prop} {v d reg : Nat} {s : Sh} {epoch seq : Nat} {used : Int} {gb cap m : Nat} {bs : List Blk} {Dm : ML} {D : Dv} {c : Nat}
set_option maxHeartbeats 2000000 in
theorem VolP.get (h : VolP w Sd v d reg s epoch seq used gb cap m bs Dm D c) (a : Int) :
    Calls Tryz.prog 91 #[.pointer (some ⟨v, 0, none⟩), .int .i64 a] w fun e w' => e = .returned (.tuple #[.agg (getB bs a).cells, .bool (inB bs a)]) ∧ Below w.heap.size w w' := by
  have hlen : bs.length ≤ 200 := by rw [← h.slen]; exact h.sok.blocks
  have hB0 : Below w.heap.size w (w.alloc (.cells Blk.zero.cells 139)) := grow_alloc (Below.refl _ _) _
  have hX : BlkAt (w.alloc (.cells Blk.zero.cells 139)) w.heap.size Blk.zero := BlkAt.alloc_new w _
  have c11 := VolO.c11 h.o
  have c11' := VolO.c11 (grow_obj hB0 h.o)
  have HR := Lib.hid (And.intro (h.row.below hB0) (And.intro hB0 hX))
  clear h hX hB0
  unfold getB
  rcases inB_cases bs a with ⟨h1, h2⟩ | ⟨h0, h1, h2⟩ | ⟨j, rfl, hj, h2⟩
  · rw [h2]
    simp only [Bool.false_eq_true, if_false]
    have hbk := HR.out.2.2.has
    have hrk := HR.out.2.2.row
    go_enter Tryz.func91, Tryz.ntmps91
    go_wp2_with fail
    refine bodyPost_ret (results_two rfl (resOne_blk rfl (BlkAt.alloc_new w Blk.zero).row) (resOne_tmp _ _ _)) rfl ?_
    exact ⟨rfl, grow_alloc (Below.refl _ _) _⟩
  · rw [h2]
    simp only [Bool.false_eq_true, if_false]
    have hbk := HR.out.2.2.has
    have hrk := HR.out.2.2.row
    have hn : ¬ (a < (bs.length : Int)) := by omega
    go_enter Tryz.func91, Tryz.ntmps91
    go_wp2_with fail
    refine bodyPost_ret (results_two rfl (resOne_blk rfl (BlkAt.alloc_new w Blk.zero).row) (resOne_tmp _ _ _)) rfl ?_
    exact ⟨rfl, grow_alloc (Below.refl _ _) _⟩
  · rw [h2, if_pos rfl, blkD_nat]
    have hbk := HR.out.2.2.has
    have hrk := HR.out.2.2.row
    have hk1 := HR.out.1.has j hj
    have hk2 := HR.out.1.row j hj
    have i0 : (0 : Int) ≤ (j : Int) := Int.natCast_nonneg _
    have i1 : (j : Int) < (bs.length : Int) := by omega
    generalize bs.getD j Blk.zero = b at *
    go_enter Tryz.func91, Tryz.ntmps91
    go_wp2_with fail
    refine bodyPost_ret (results_two rfl (resOne_blk rfl (BlkAt.alloc_new w b).row) (resOne_tmp _ _ _)) rfl ?_
    exact ⟨rfl, grow_alloc (Below.refl _ _) _⟩
theorem VolP.blocks (h : VolP w Sd v d reg s epoch seq used gb cap m bs Dm D c) :
    Calls Tryz.prog 90 #[.pointer (some ⟨v, 0, none⟩)] w fun e w' => e = .returned (.int .i64 bs.length) ∧ w' = w := by
  have c4 := VolO.c4 h.o
  rw [h.slen] at c4
  clear h
  go_enter Tryz.func90, Tryz.ntmps90
  go_wp2_with fail
  go_ret
  exact ⟨rfl, rfl⟩
theorem VolP.room (h : VolP w Sd v d reg s epoch seq used gb cap m bs Dm D c) :
    Calls Tryz.prog 137 #[.pointer (some ⟨v, 0, none⟩)] w fun e w' => e = .returned (.int .i64 ((s.log : Int) - used)) ∧ w' = w.drew := by
  have c5 := VolO.c5 h.o
  have c10 := VolO.c10 h.o
  have hu := h.ub
  have hl := h.sok.log
  have hw : IntKind.i64.wrap ((s.log : Int) - used) = (s.log : Int) - used := IntWalk.i64_in _ (by omega)
  clear h
  go_enter Tryz.func137, Tryz.ntmps137
  go_upto_region 3 with fail
  refine wp_region_held_drew (S := fun w' => w'.cell? ⟨v, 5, none⟩ = some (.int .i64 s.log) ∧ w'.cell? ⟨v, 10, none⟩ = some (.int .i64 used) ∧ True) (by kernel_rfl) (⟨c5, c10, trivial⟩) (fun hHeld => ?_)
  show wpAnyH _ _ _ _ _ 11 #[false, false, false, false, false, false, false, false, false, false, false] _ _
  refine wpAnyH_take (i := 0) (v := ?kv1) rfl (by kernel_rfl) (by kernel_rfl) (by kernel_rfl) (fun _ _ _ h => h) (Or.inl ⟨by rfl, ?ky1⟩) (by assumption) ?kr1
  case ky1 => (intro w hSw; (try dsimp only at hSw); go_split_ands; (try simp only [List.getElem_toArray, List.getElem_cons_zero]); go_simp; (try with_reducible rfl))
  try simp only [Act.put, List.getElem_toArray, List.getElem_cons_zero, List.setIfInBounds_toArray, List.set_cons_zero, List.set_cons_succ]
  refine wpAnyH_take (i := 1) (v := ?kv2) rfl (by kernel_rfl) (by kernel_rfl) (by kernel_rfl) (fun _ _ _ h => h) (Or.inl ⟨by rfl, ?ky2⟩) (by assumption) ?kr2
  case ky2 => (intro w hSw; (try dsimp only at hSw); go_split_ands; (try simp only [List.getElem_toArray, List.getElem_cons_zero, List.getElem_cons_succ]); go_simp; (try with_reducible rfl))
  try simp only [Act.put, List.getElem_toArray, List.getElem_cons_zero, List.getElem_cons_succ, List.setIfInBounds_toArray, List.set_cons_zero, List.set_cons_succ]
  refine wpAnyH_take (i := 2) (v := ?kv3) rfl (by kernel_rfl) (by kernel_rfl) (by kernel_rfl) (fun _ _ _ h => h) (Or.inl ⟨by rfl, ?ky3⟩) (by assumption) ?kr3
  case ky3 => (intro w hSw; (try dsimp only at hSw); go_split_ands; (try simp only [List.getElem_toArray, List.getElem_cons_zero, List.getElem_cons_succ]); go_simp; (try with_reducible rfl))
  try simp only [Act.put, List.getElem_toArray, List.getElem_cons_zero, List.getElem_cons_succ, List.setIfInBounds_toArray, List.set_cons_zero, List.set_cons_succ]
  refine wpAnyH_take (i := 3) (v := ?kv4) rfl (by kernel_rfl) (by kernel_rfl) (by kernel_rfl) (fun _ _ _ h => h) (Or.inl ⟨by rfl, ?ky4⟩) (by assumption) ?kr4
  case ky4 => (intro w hSw; (try dsimp only at hSw); go_split_ands; (try simp only [List.getElem_toArray, List.getElem_cons_zero, List.getElem_cons_succ]); go_simp; (try with_reducible rfl))
  try simp only [Act.put, List.getElem_toArray, List.getElem_cons_zero, List.getElem_cons_succ, List.setIfInBounds_toArray, List.set_cons_zero, List.set_cons_succ]
  refine wpAnyH_take (i := 4) (v := ?kv5) rfl (by kernel_rfl) (by kernel_rfl) (by kernel_rfl) (fun _ _ _ h => h) (Or.inl ⟨by rfl, ?ky5⟩) (by assumption) ?kr5
  case ky5 => (intro w hSw; (try dsimp only at hSw); go_split_ands; (try simp only [List.getElem_toArray, List.getElem_cons_zero, List.getElem_cons_succ]); go_simp; (try with_reducible rfl))
  try simp only [Act.put, List.getElem_toArray, List.getElem_cons_zero, List.getElem_cons_succ, List.setIfInBounds_toArray, List.set_cons_zero, List.set_cons_succ]
  refine wpAnyH_take (i := 5) (v := ?kv6) rfl (by kernel_rfl) (by kernel_rfl) (by kernel_rfl) (fun _ _ _ h => h) (Or.inl ⟨by rfl, ?ky6⟩) (by assumption) ?kr6
  case ky6 => (intro w hSw; (try dsimp only at hSw); go_split_ands; (try simp only [List.getElem_toArray, List.getElem_cons_zero, List.getElem_cons_succ]); go_simp; (try with_reducible rfl))
  try simp only [Act.put, List.getElem_toArray, List.getElem_cons_zero, List.getElem_cons_succ, List.setIfInBounds_toArray, List.set_cons_zero, List.set_cons_succ]
  refine wpAnyH_take (i := 6) (v := ?kv7) rfl (by kernel_rfl) (by kernel_rfl) (by kernel_rfl) (fun _ _ _ h => h) (Or.inl ⟨by rfl, ?ky7⟩) (by assumption) ?kr7
  case ky7 => (intro w hSw; (try dsimp only at hSw); go_split_ands; (try simp only [List.getElem_toArray, List.getElem_cons_zero, List.getElem_cons_succ]); go_simp; (try with_reducible rfl))
  try simp only [Act.put, List.getElem_toArray, List.getElem_cons_zero, List.getElem_cons_succ, List.setIfInBounds_toArray, List.set_cons_zero, List.set_cons_succ]
  refine wpAnyH_take (i := 7) (v := ?kv8) rfl (by kernel_rfl) (by kernel_rfl) (by kernel_rfl) (fun _ _ _ h => h) (Or.inl ⟨by rfl, ?ky8⟩) (by assumption) ?kr8
  case ky8 => (intro w hSw; (try dsimp only at hSw); go_split_ands; (try simp only [List.getElem_toArray, List.getElem_cons_zero, List.getElem_cons_succ]); go_simp; (try with_reducible rfl))
  try simp only [Act.put, List.getElem_toArray, List.getElem_cons_zero, List.getElem_cons_succ, List.setIfInBounds_toArray, List.set_cons_zero, List.set_cons_succ]
  refine wpAnyH_take (i := 8) (v := ?kv9) rfl (by kernel_rfl) (by kernel_rfl) (by kernel_rfl) (fun _ _ _ h => h) (Or.inl ⟨by rfl, ?ky9⟩) (by assumption) ?kr9
  case ky9 => (intro w hSw; (try dsimp only at hSw); go_split_ands; (try simp only [List.getElem_toArray, List.getElem_cons_zero, List.getElem_cons_succ]); go_simp; (try with_reducible rfl))
  try simp only [Act.put, List.getElem_toArray, List.getElem_cons_zero, List.getElem_cons_succ, List.setIfInBounds_toArray, List.set_cons_zero, List.set_cons_succ]
  refine wpAnyH_take (i := 9) (v := ?kv10) rfl (by kernel_rfl) (by kernel_rfl) (by kernel_rfl) (fun _ _ _ h => h) (Or.inl ⟨by rfl, ?ky10⟩) (by assumption) ?kr10
  case ky10 => (intro w hSw; (try dsimp only at hSw); go_split_ands; (try simp only [List.getElem_toArray, List.getElem_cons_zero, List.getElem_cons_succ]); go_simp; (try with_reducible rfl))
  try simp only [Act.put, List.getElem_toArray, List.getElem_cons_zero, List.getElem_cons_succ, List.setIfInBounds_toArray, List.set_cons_zero, List.set_cons_succ]
  refine wpAnyH_take (i := 10) (v := ?kv11) rfl (by kernel_rfl) (by kernel_rfl) (by kernel_rfl) (fun _ _ _ h => h) (Or.inl ⟨by rfl, ?ky11⟩) (by assumption) ?kr11
  case ky11 => (intro w hSw; (try dsimp only at hSw); go_split_ands; (try simp only [List.getElem_toArray, List.getElem_cons_zero, List.getElem_cons_succ]); go_simp; (try with_reducible rfl))
  try simp only [Act.put, List.getElem_toArray, List.getElem_cons_zero, List.getElem_cons_succ, List.setIfInBounds_toArray, List.set_cons_zero, List.set_cons_succ]
  refine wpAnyH_done (by kernel_rfl) ?_ _
  go_wp2_with fail
  go_ret
  exact ⟨by first | rfl | rw [hw], rfl⟩
theorem VolP.sync (h : VolP w Sd v d reg s epoch seq used gb cap m bs Dm D c) (hc : c < 800000) :
    Calls Tryz.prog 147 #[.pointer (some ⟨v, 0, none⟩)] w fun e w' => e = .returned (.tuple #[]) ∧ Keeps Sd w w' ∧ VolP w' (grownS Sd w w') v d reg s epoch seq used gb cap m bs Dm (D.barrier reg) (c + 1) := by
  have c0 := VolO.c0 h.o
  have c1 := VolO.c1 h.o
  have H := Lib.hid h
  clear h
  go_enter Tryz.func147, Tryz.ntmps147
  go_upto_region 1 with fail
  refine wp_region_F [8] (S := fun w' => w'.cell? ⟨v, 0, none⟩ = some (.pointer (some ⟨d, 0, none⟩)) ∧ w'.cell? ⟨v, 1, none⟩ = some (.int .i64 reg) ∧ True) (by kernel_rfl) (⟨c0, c1, trivial⟩) (fun hHeld => ?_)
  show wpAnyF _ _ _ _ _ _ 9 #[false, false, false, false, false, false, false, false, false] _ _
  refine wpAnyF_take [0, 1, 2, 3, 8] (i := 0) (v := ?kv12) rfl (by kernel_rfl) (by kernel_rfl) (by kernel_rfl) (by kernel_rfl) (fun _ _ _ h => h) (Or.inl ⟨by rfl, ?ky12⟩) (by assumption) ?kr12
  case ky12 => (intro w hSw; (try dsimp only at hSw); go_split_ands; (try simp only [List.getElem_toArray, List.getElem_cons_zero]); go_simp; (try with_reducible rfl))
  try simp only [Act.put, List.getElem_toArray, List.getElem_cons_zero, List.setIfInBounds_toArray, List.set_cons_zero, List.set_cons_succ]
  refine wpAnyF_take [1, 2, 3, 8] (i := 1) (v := ?kv13) rfl (by kernel_rfl) (by kernel_rfl) (by kernel_rfl) (by kernel_rfl) (fun _ _ _ h => h) (Or.inl ⟨by rfl, ?ky13⟩) (by assumption) ?kr13
  case ky13 => (intro w hSw; (try dsimp only at hSw); go_split_ands; (try simp only [List.getElem_toArray, List.getElem_cons_zero, List.getElem_cons_succ]); go_simp; (try with_reducible rfl))
  try simp only [Act.put, List.getElem_toArray, List.getElem_cons_zero, List.getElem_cons_succ, List.setIfInBounds_toArray, List.set_cons_zero, List.set_cons_succ]
  refine wpAnyF_take [2, 3, 8] (i := 2) (v := ?kv14) rfl (by kernel_rfl) (by kernel_rfl) (by kernel_rfl) (by kernel_rfl) (fun _ _ _ h => h) (Or.inl ⟨by rfl, ?ky14⟩) (by assumption) ?kr14
  case ky14 => (intro w hSw; (try dsimp only at hSw); go_split_ands; (try simp only [List.getElem_toArray, List.getElem_cons_zero, List.getElem_cons_succ]); go_simp; (try with_reducible rfl))
  try simp only [Act.put, List.getElem_toArray, List.getElem_cons_zero, List.getElem_cons_succ, List.setIfInBounds_toArray, List.set_cons_zero, List.set_cons_succ]
  refine wpAnyF_take [3, 8] (i := 3) (v := ?kv15) rfl (by kernel_rfl) (by kernel_rfl) (by kernel_rfl) (by kernel_rfl) (fun _ _ _ h => h) (Or.inl ⟨by rfl, ?ky15⟩) (by assumption) ?kr15
  case ky15 => (intro w hSw; (try dsimp only at hSw); go_split_ands; (try simp only [List.getElem_toArray, List.getElem_cons_zero, List.getElem_cons_succ]); go_simp; (try with_reducible rfl))
  try simp only [Act.put, List.getElem_toArray, List.getElem_cons_zero, List.getElem_cons_succ, List.setIfInBounds_toArray, List.set_cons_zero, List.set_cons_succ]
  refine wpAnyF_take [4, 5, 6, 7, 8] (i := 4) (v := ?kv16) rfl (by kernel_rfl) (by kernel_rfl) (by kernel_rfl) (by kernel_rfl) (fun _ _ _ h => h) (Or.inl ⟨by rfl, ?ky16⟩) (by assumption) ?kr16
  case ky16 => (intro w hSw; (try dsimp only at hSw); go_split_ands; (try simp only [List.getElem_toArray, List.getElem_cons_zero, List.getElem_cons_succ]); go_simp; (try with_reducible rfl))
  try simp only [Act.put, List.getElem_toArray, List.getElem_cons_zero, List.getElem_cons_succ, List.setIfInBounds_toArray, List.set_cons_zero, List.set_cons_succ]
  refine wpAnyF_take [5, 6, 7, 8] (i := 5) (v := ?kv17) rfl (by kernel_rfl) (by kernel_rfl) (by kernel_rfl) (by kernel_rfl) (fun _ _ _ h => h) (Or.inl ⟨by rfl, ?ky17⟩) (by assumption) ?kr17
  case ky17 => (intro w hSw; (try dsimp only at hSw); go_split_ands; (try simp only [List.getElem_toArray, List.getElem_cons_zero, List.getElem_cons_succ]); go_simp; (try with_reducible rfl))
  try simp only [Act.put, List.getElem_toArray, List.getElem_cons_zero, List.getElem_cons_succ, List.setIfInBounds_toArray, List.set_cons_zero, List.set_cons_succ]
  refine wpAnyF_take [6, 7, 8] (i := 6) (v := ?kv18) rfl (by kernel_rfl) (by kernel_rfl) (by kernel_rfl) (by kernel_rfl) (fun _ _ _ h => h) (Or.inl ⟨by rfl, ?ky18⟩) (by assumption) ?kr18
  case ky18 => (intro w hSw; (try dsimp only at hSw); go_split_ands; (try simp only [List.getElem_toArray, List.getElem_cons_zero, List.getElem_cons_succ]); go_simp; (try with_reducible rfl))
  try simp only [Act.put, List.getElem_toArray, List.getElem_cons_zero, List.getElem_cons_succ, List.setIfInBounds_toArray, List.set_cons_zero, List.set_cons_succ]
  refine wpAnyF_take [7, 8] (i := 7) (v := ?kv19) rfl (by kernel_rfl) (by kernel_rfl) (by kernel_rfl) (by kernel_rfl) (fun _ _ _ h => h) (Or.inl ⟨by rfl, ?ky19⟩) (by assumption) ?kr19
  case ky19 => (intro w hSw; (try dsimp only at hSw); go_split_ands; (try simp only [List.getElem_toArray, List.getElem_cons_zero, List.getElem_cons_succ]); go_simp; (try with_reducible rfl))
  try simp only [Act.put, List.getElem_toArray, List.getElem_cons_zero, List.getElem_cons_succ, List.setIfInBounds_toArray, List.set_cons_zero, List.set_cons_succ]
  refine wpAnyF_ready (rs := [8]) (by kernel_rfl) (by simp) ?_
  refine (AllReadyF.last rfl (by kernel_rfl) (fun K hK => ?_) AllReadyF.nil)
  try simp only [List.getElem_toArray, List.getElem_cons_zero, List.getElem_cons_succ]
  go_simp
  go_at_call 76; refine (Barrier_in (H.out.dev.below (Below.refl _ _).drew) (by omega) (Dv.has_lt H.out.has)).mono ?_; rintro e w4 ⟨rfl, hk4, hd4⟩
  refine hK.out _ _ (trivial) (fun hHeldn => ?_)
  clear hHeld hK K
  have hHeld := hHeldn
  clear hHeldn
  try simp only [List.setIfInBounds_toArray, List.set_cons_zero, List.set_cons_succ]
  refine wpAnyF_done (by kernel_rfl) ?_ _
  go_wp2_with fail
  go_end0
  have hst := DevStep.pre (Below.refl w.heap.size w).drew ⟨hk4, hd4⟩
  exact ⟨rfl, hst.keeps, H.out.step hst (Dv.has_barrier H.out.has)⟩
theorem VolP.tidy (h : VolP w Sd v d reg s epoch seq used gb cap m bs Dm D c) (hc : c < 600000) :
    Calls Tryz.prog 138 #[.pointer (some ⟨v, 0, none⟩)] w fun e w' => e = .returned (.tuple #[]) ∧ Keeps (fun k => Sd k ∨ k = v ∨ k = m) w w' ∧
      VolP w' (grownS Sd w w') v d reg s ((epoch + 1) % 4294967296) 0 0 gb cap m bs [] (tidiesD (D.barrier reg) reg s bs (sortedKeys Dm) ((epoch + 1) % 4294967296)) (c + bs.length + 5) := by
  have hs := h.sync (by omega)
  have H := Lib.hid h
  have HS := Lib.hid hs
  clear h hs
  go_enter Tryz.func138, Tryz.ntmps138
  go_wp2_with (first | (go_at_call 147; refine HS.out.mono ?_; rintro e w1 ⟨rfl, k1, hV1⟩; have Ht := Lib.hid (tidies_any hV1 (by omega)); have H1 := Lib.hid (And.intro k1 hV1); clear k1 hV1) | (go_at_call 84; refine Ht.out.mono ?_; rintro e w2 ⟨rfl, k2, hV2⟩))
  go_end0
  have hk := H1.out.1.size
  have hk3 : Keeps (fun k => Sd k ∨ k = v ∨ k = m) w w2 := (H1.out.1.mono (fun q _ e => .inl e)).chain k2 (fun q hq e => e.imp (fun e => e.2.resolve_right (by omega)) id)
  have hlv := H.out.lt_v
  have hlm := H.out.lt_m
  have hlb := H.out.lt_b
  refine ⟨rfl, hk3, hV2.refoot (S' := grownS Sd w w2) (fun q hq => ⟨hq.1, hq.2.elim (fun e => e.2) (fun e => .inr (Nat.le_trans hk e))⟩) (fun q hq => hq.1) (fun e => e.2.elim H.out.nv (by omega)) (fun e => e.2.elim H.out.nm (by omega)) (fun e => e.2.elim H.out.nb (by omega)) (by omega)⟩
end
end Go.Proofs.YtanmihhlkelgeaaGreat

/- DERIVED. A writer of bytes as it lies; contract of node's writer.num. -/
namespace Go.Proofs.YtanmihhlkelgeaaGreat
open Go.RowKit
attribute [local irreducible] Calls
set_option maxRecDepth 100000

theorem step_appOwn {ops : Array Oper} {o : Oper} {a b0 : Act} {w : World} {K : Act → World → Prop} {Q : Exit → Act → World → Prop} {F : Prop} (hgd : o.guard = none) (s x : Operand) (ho : o.op = .call { callee := .builtin .append, args := #[s, x], argTypes := #[22, 22] })
    {base : Nat} {v : Value} {xs : List UInt8} (hs : a.eval s = v) (hown : BRow w base v xs) {b2 : Nat} {u : Value} {ys : List UInt8} (hx : a.eval x = u) (hu : BRow w b2 u ys) (hys : 0 < ys.length) (hsz : xs.length + ys.length < 2000000000) (hbase : base ≤ w.heap.size)
    (h : ∀ g cap w', BRow w' base (.slice (some ⟨g, 0, none⟩) (xs.length + ys.length) cap) (xs ++ ys) → Below base w w' → Keeps (fun q => v.ownBlock = some q) w w' → (v.ownBlock = some g ∨ g = w.heap.size) → K (a.put o.dst (.slice (some ⟨g, 0, none⟩) (xs.length + ys.length) cap)) w') :
    if Region.wanted o (yielded ops b0.tmps) = true then Oper.wp Tryz.prog o a w K Q else F := by
  have hw : Region.wanted o (yielded ops b0.tmps) = true := by simp [Region.wanted, hgd]
  rw [if_pos hw]
  obtain ⟨g2, cap2, rfl, _, _⟩ := hu.form hys
  obtain ⟨i, z, hi, hz, hsi, hby, hzs⟩ := infoByte
  refine wp_append_lies (P := Tryz.prog) w s x 22 ho base 5 i z 1 1 Tryz.underlying22 hi hz hsi hby hzs (by decide) v xs.length _ hs hown ⟨g2, 0, none⟩ ys.length cap2 (ys.map fun c => Value.int .u8 c.toNat) hx
    (by simp) (World.ownsRow.cells hu (g := g2) rfl) (by intro x hx; simp only [List.mem_map] at hx; obtain ⟨c, _, rfl⟩ := hx; rfl) hys (by unfold maxLen; omega) (by omega) hbase w.heap.size rfl ?_
  intro g cap w' h2 h3 h4 _
  refine h g cap w' ?_ ((Below.refl base w).grown h3 hbase (fun k hk => (World.ownsRow.lt hown k hk).1)) ⟨h3.os, h3.tape, h3.output, h3.size, fun k' hk' hn' => h3.block k' hk' (fun e => hn' e.symm)⟩ h4
  unfold BRow
  rw [List.length_append, List.map_append]; exact h2

/-- A writer: one cell, which has the bytes. -/
structure WtrAt (w : World) (t : TypeId) (W : Nat) (v : Value) (xs : List UInt8) : Prop where
  obj : objAt w W = some (.cells #[v] t (0, 0))
  row : BRow w 0 v xs
/-- What a writer may turn. -/
def Wt (W : Nat) (v : Value) : Nat → Prop := fun q => q = W ∨ v.ownBlock = some q
/-- One step of a writer. -/
structure WtrStep (w w' : World) (t : TypeId) (W : Nat) (v v' : Value) (xs : List UInt8) : Prop where
  at_ : WtrAt w' t W v' xs
  keeps : Keeps (Wt W v) w w'
  own : ∀ g, v'.ownBlock = some g → v.ownBlock = some g ∨ w.heap.size ≤ g
section
variable {w w' w2 : World} {t : TypeId} {W : Nat} {v v' v2 : Value} {xs ys : List UInt8}
theorem BRow.ownObj {B : Nat} (h : BRow w B v xs) {g : Nat} (hg : v.ownBlock = some g) : B ≤ g ∧ ∃ q, objAt w g = some (.cells q 5 (0, 0)) := by
  rcases h.2 with ⟨h', _⟩ | ⟨g', cap', cur, h', hb, hg', _⟩
  · subst h'; cases hg
  · subst h'
    obtain rfl := Option.some.inj hg
    exact ⟨hb, cur, hg'⟩
theorem WtrAt.c0 (h : WtrAt w t W v xs) : w.cell? ⟨W, 0, none⟩ = some v := cell_obj h.obj 0
theorem WtrAt.free (h : WtrAt w t W v xs) : w.frozen? ⟨W, 0, none⟩ = false := free_obj h.obj 0
theorem WtrAt.ne (h : WtrAt w t W v xs) (ht : t ≠ 5) : v.ownBlock ≠ some W := fun e => by
  obtain ⟨_, q, hq⟩ := BRow.ownObj h.row e
  exact ne_of_obj hq h.obj (fun e => ht e.symm) rfl
theorem WtrAt.below (h : WtrAt w t W v xs) (hb : Below w.heap.size w w') : WtrAt w' t W v xs :=
  ⟨grow_obj hb h.obj, owns_keeps h.row (Keeps.of_below_size hb) (fun g hg e => by obtain ⟨_, q, hq⟩ := BRow.ownObj h.row hg; have := block_lt hq; omega)⟩
theorem WtrAt.lt (h : WtrAt w t W v xs) : ∀ q, Wt W v q → q < w.heap.size := fun q hq => by
  rcases hq with rfl | hq
  · exact block_lt h.obj
  · obtain ⟨_, c, hc⟩ := BRow.ownObj h.row hq; exact block_lt hc
/-- What is no writer's, and no bytes, is kept. -/
theorem WtrStep.obj (h : WtrStep w w' t W v v' ys) (h0 : WtrAt w t W v xs) {g : Nat} {c : Array Value} {t' : TypeId} (hg : objAt w g = some (.cells c t' (0, 0))) (h1 : t' ≠ t) (h2 : t' ≠ 5) : objAt w' g = some (.cells c t' (0, 0)) :=
  h.keeps.obj hg (fun e => by
    rcases e with rfl | e
    · exact ne_of_obj hg h0.obj h1 rfl
    · obtain ⟨_, q, hq⟩ := BRow.ownObj h0.row e
      exact ne_of_obj hg hq h2 rfl)
theorem WtrStep.trans (h : WtrStep w w' t W v v' xs) (h2 : WtrStep w' w2 t W v' v2 ys) : WtrStep w w2 t W v v2 ys :=
  ⟨h2.at_, h.keeps.chain h2.keeps (fun k hk e => by
    rcases e with e | e
    · exact .inl e
    · exact .inr ((h.own k e).resolve_right (by omega))), fun g hg => (h2.own g hg).elim (h.own g) (fun e => .inr (Nat.le_trans h.keeps.size e))⟩
theorem WtrStep.same (h : WtrAt w t W v xs) : WtrStep w w t W v v xs := ⟨h, Keeps.refl _ _, fun _ hg => .inl hg⟩
theorem WtrStep.pre (hb : Below w.heap.size w w') (h : WtrStep w' w2 t W v v2 xs) : WtrStep w w2 t W v v2 xs := ⟨h.at_, (Keeps.of_below hb).trans h.keeps, fun g hg => (h.own g hg).imp id (Nat.le_trans hb.size)⟩
theorem WtrAt.mid (h0 : WtrAt w t W v xs) (ht : t ≠ 5) {x : World} (hb : Below w.heap.size w x) {y : World} (hk : Keeps (fun q => v.ownBlock = some q) x y) : objAt y W = some (.cells #[v] t (0, 0)) := hk.obj (h0.below hb).obj (fun e => h0.ne ht e)
/-- Bytes are appended, and kept. -/
theorem WtrStep.app {g cap n : Nat} (h0 : WtrAt w t W v xs) (ht : t ≠ 5) {x : World} (hb : Below w.heap.size w x) {y : World} (hr : BRow y 0 (.slice (some ⟨g, 0, none⟩) n cap) ys) (hk : Keeps (fun q => v.ownBlock = some q) x y) (ho : v.ownBlock = some g ∨ g = x.heap.size) : WtrStep w (y.setCell ⟨W, 0, none⟩ (.slice (some ⟨g, 0, none⟩) n cap)) t W v (.slice (some ⟨g, 0, none⟩) n cap) ys := by
  have h1 := h0.below hb
  have hy : objAt y W = some (.cells #[v] t (0, 0)) := hk.obj h1.obj (fun e => h0.ne ht e)
  have hgW : g ≠ W := fun e => by
    obtain ⟨_, q, hq⟩ := BRow.ownObj hr rfl
    exact ne_of_obj hq hy (fun e => ht e.symm) e
  have hks : Keeps (fun q => q = W) y (y.setCell ⟨W, 0, none⟩ (.slice (some ⟨g, 0, none⟩) n cap)) := Keeps.setCell _ _ _ rfl
  refine ⟨⟨by rw [objAt_setCell hy]; rfl, owns_keeps hr hks (fun q hq e => by obtain rfl := Option.some.inj hq; exact hgW e)⟩, ?_, fun q hq => ?_⟩
  · exact ((Keeps.of_below hb).trans (hk.mono fun q _ e => .inr e)).trans (hks.mono fun q _ e => .inl e)
  · obtain rfl := Option.some.inj hq
    rcases ho with e | e
    · exact .inl e
    · exact .inr (by rw [e]; exact hb.size)
end
set_option maxHeartbeats 4000000 in
theorem wnum_any (W : Nat) (v : Value) (xs : List UInt8) (x n : Nat) (w : World) (h : WtrAt w 255 W v xs) (_ : x < 4294967296) (hn : n ≤ 4) (hl : xs.length ≤ 1000) :
    Calls Tryz.prog 132 #[.pointer (some ⟨W, 0, none⟩), .int .u32 x, .int .i64 n] w fun e w' => e = .returned (.tuple #[]) ∧ ∃ v', WtrStep w w' 255 W v v' (xs ++ high x n) := by
  go_enter Tryz.func132, Tryz.ntmps132
  go_wp2_with fail
  go_loopw [6] (fun i wr => ∃ (k : Nat) (V : Value), k ≤ n ∧ i = .int .i64 ((n : Int) - 1 - k) ∧ WtrStep w wr 255 W v V (xs ++ (high x n).take k)) (fun i _ => (Go.RowKit.intOf i + 1).toNat)
  case atStart => exact ⟨0, v, Nat.zero_le _, by simp, by rw [List.take_zero, List.append_nil]; exact WtrStep.same h⟩
  case round =>
    obtain ⟨k, V, hk, rfl, hV⟩ := hrel
    have HV := Lib.hid (And.intro hV h)
    clear hV h
    by_cases hlt : k < n
    · have Hs := Lib.hid (high_take_succ x n k hlt)
      have hlen : (xs ++ (high x n).take k).length ≤ 1004 := by rw [List.length_append, List.length_take, high_length]; omega
      have h4 : n - 1 - k < 4 := by omega
      obtain ⟨j, hj⟩ : ∃ j, j = n - 1 - k := ⟨_, rfl⟩
      have hji : (n : Int) - 1 - k = (j : Int) := by omega
      rw [hji]
      rw [← hj] at Hs h4
      have Hj := Lib.hid (And.intro hj hji)
      generalize hy : xs ++ (high x n).take k = ys at *
      have HY := Lib.hid hy
      clear hj hji hy
      obtain ⟨c, hc⟩ : ∃ c, c = UInt8.ofNat (x / 256 ^ j % 256) := ⟨_, rfl⟩
      rw [← hc] at Hs
      have c0 := HV.out.1.at_.c0
      have hB2 : Below wr.heap.size wr (wr.alloc (.cells #[.int .u8 (c.toNat : Int)] 5)).drew := (grow_alloc (Below.refl _ _) _).drew
      have f0 := (HV.out.1.at_.below hB2).c0
      have hr1 := (HV.out.1.at_.below hB2).row
      have hlit : BRow (wr.alloc (.cells #[.int .u8 (c.toNat : Int)] 5)).drew 0 (.slice (some ⟨wr.heap.size, 0, none⟩) 1 1) [c] := BRow.lit (B := 0) c rfl (by show objAt (wr.alloc _) _ = _; rw [objAt_alloc, if_pos rfl]) (Nat.zero_le _)
      have HR := Lib.hid (And.intro hr1 (And.intro hlit hB2))
      clear hr1 hlit hB2
      have hcase : j = 0 ∨ j = 1 ∨ j = 2 ∨ j = 3 := by omega
      rcases hcase with rfl | rfl | rfl | rfl
      · have hv : IntKind.u8.wrap (x : Int) = (c.toNat : Int) := by rw [IntKind.wrap_u8, hc, ofNat_mod]; omega
        have hw : IntKind.i64.wrap 0 = 0 := by decide
        clear hc
        go_upto_region 3 with fail
        refine wp_region_F [11, 14] (S := fun w' => w'.cell? ⟨W, 0, none⟩ = some V ∧ True) (by kernel_rfl) (⟨c0, trivial⟩) (fun hHeld => ?_)
        show wpAnyF _ _ _ _ _ _ 15 #[false, false, false, false, false, false, false, false, false, false, false, false, false, false, false] _ _
        refine wpAnyF_pure (i := 0) (v := ?kv1) rfl (by kernel_rfl) (by kernel_rfl) (by kernel_rfl) (by kernel_rfl) (fun _ _ _ h => h) (Or.inl ⟨by rfl, ?ky1⟩) (by first | (intro _; assumption) | (intro h; exact absurd h (by decide))) ?kr1
        case ky1 => (intro w hSw; clear hSw; (try simp only [List.getElem_toArray, List.getElem_cons_zero]); go_simp; (try with_reducible rfl))
        try simp only [Act.put, List.getElem_toArray, List.getElem_cons_zero, List.setIfInBounds_toArray, List.set_cons_zero, List.set_cons_succ]
        refine wpAnyF_take [1, 2, 3, 4, 11, 12, 13, 14] (i := 1) (v := ?kv2) rfl (by kernel_rfl) (by kernel_rfl) (by kernel_rfl) (by kernel_rfl) (fun _ _ _ h => h) (Or.inl ⟨by rfl, ?ky2⟩) (by assumption) ?kr2
        case ky2 => (intro w hSw; (try dsimp only at hSw); go_split_ands; (try simp only [List.getElem_toArray, List.getElem_cons_zero, List.getElem_cons_succ]); go_simp; (try with_reducible rfl))
        try simp only [Act.put, List.getElem_toArray, List.getElem_cons_zero, List.getElem_cons_succ, List.setIfInBounds_toArray, List.set_cons_zero, List.set_cons_succ]
        refine wpAnyF_take [2, 3, 4, 11, 12, 13, 14] (i := 2) (v := ?kv3) rfl (by kernel_rfl) (by kernel_rfl) (by kernel_rfl) (by kernel_rfl) (fun _ _ _ h => h) (Or.inl ⟨by rfl, ?ky3⟩) (by assumption) ?kr3
        case ky3 => (intro w hSw; (try dsimp only at hSw); go_split_ands; (try simp only [List.getElem_toArray, List.getElem_cons_zero, List.getElem_cons_succ]); go_simp; (try with_reducible rfl))
        try simp only [Act.put, List.getElem_toArray, List.getElem_cons_zero, List.getElem_cons_succ, List.setIfInBounds_toArray, List.set_cons_zero, List.set_cons_succ]
        refine wpAnyF_take [3, 4, 11, 12, 13, 14] (i := 3) (v := ?kv4) rfl (by kernel_rfl) (by kernel_rfl) (by kernel_rfl) (by kernel_rfl) (fun _ _ _ h => h) (Or.inl ⟨by rfl, ?ky4⟩) (by assumption) ?kr4
        case ky4 => (intro w hSw; (try dsimp only at hSw); go_split_ands; (try simp only [List.getElem_toArray, List.getElem_cons_zero, List.getElem_cons_succ]); go_simp; (try with_reducible rfl))
        try simp only [Act.put, List.getElem_toArray, List.getElem_cons_zero, List.getElem_cons_succ, List.setIfInBounds_toArray, List.set_cons_zero, List.set_cons_succ]
        refine wpAnyF_take [4, 11, 12, 13, 14] (i := 4) (v := ?kv5) rfl (by kernel_rfl) (by kernel_rfl) (by kernel_rfl) (by kernel_rfl) (fun _ _ _ h => h) (Or.inl ⟨by rfl, ?ky5⟩) (by assumption) ?kr5
        case ky5 => (intro w hSw; (try dsimp only at hSw); go_split_ands; (try simp only [List.getElem_toArray, List.getElem_cons_zero, List.getElem_cons_succ]); go_simp; (try with_reducible rfl))
        try simp only [Act.put, List.getElem_toArray, List.getElem_cons_zero, List.getElem_cons_succ, List.setIfInBounds_toArray, List.set_cons_zero, List.set_cons_succ]
        refine wpAnyF_take [5, 8, 9, 10, 11, 12, 13, 14] (i := 5) (v := ?kv6) rfl (by kernel_rfl) (by kernel_rfl) (by kernel_rfl) (by kernel_rfl) (fun _ _ _ h => h) (Or.inl ⟨by rfl, ?ky6⟩) (by assumption) ?kr6
        case ky6 => (intro w hSw; (try dsimp only at hSw); go_split_ands; (try simp only [List.getElem_toArray, List.getElem_cons_zero, List.getElem_cons_succ]); go_simp; (try with_reducible rfl))
        try simp only [Act.put, List.getElem_toArray, List.getElem_cons_zero, List.getElem_cons_succ, List.setIfInBounds_toArray, List.set_cons_zero, List.set_cons_succ]
        refine wpAnyF_take [6, 7, 8, 9, 10, 11, 12, 13, 14] (i := 6) (v := ?kv7) rfl (by kernel_rfl) (by kernel_rfl) (by kernel_rfl) (by kernel_rfl) (fun _ _ _ h => h) (Or.inl ⟨by rfl, ?ky7⟩) (by assumption) ?kr7
        case ky7 => (intro w hSw; (try dsimp only at hSw); go_split_ands; (try simp only [List.getElem_toArray, List.getElem_cons_zero, List.getElem_cons_succ]); go_simp; (try with_reducible rfl))
        try simp only [Act.put, List.getElem_toArray, List.getElem_cons_zero, List.getElem_cons_succ, List.setIfInBounds_toArray, List.set_cons_zero, List.set_cons_succ]
        refine wpAnyF_take [7, 8, 9, 10, 11, 12, 13, 14] (i := 7) (v := ?kv8) rfl (by kernel_rfl) (by kernel_rfl) (by kernel_rfl) (by kernel_rfl) (fun _ _ _ h => h) (Or.inl ⟨by rfl, ?ky8⟩) (by assumption) ?kr8
        case ky8 => (intro w hSw; (try dsimp only at hSw); go_split_ands; (try simp only [List.getElem_toArray, List.getElem_cons_zero, List.getElem_cons_succ]); go_simp; (try with_reducible rfl))
        try simp only [Act.put, List.getElem_toArray, List.getElem_cons_zero, List.getElem_cons_succ, List.setIfInBounds_toArray, List.set_cons_zero, List.set_cons_succ]
        refine wpAnyF_take [8, 9, 10, 11, 12, 13, 14] (i := 8) (v := ?kv9) rfl (by kernel_rfl) (by kernel_rfl) (by kernel_rfl) (by kernel_rfl) (fun _ _ _ h => h) (Or.inl ⟨by rfl, ?ky9⟩) (by assumption) ?kr9
        case ky9 => (intro w hSw; (try dsimp only at hSw); go_split_ands; (try simp only [List.getElem_toArray, List.getElem_cons_zero, List.getElem_cons_succ]); go_simp; (try with_reducible rfl))
        try simp only [Act.put, List.getElem_toArray, List.getElem_cons_zero, List.getElem_cons_succ, List.setIfInBounds_toArray, List.set_cons_zero, List.set_cons_succ]
        refine wpAnyF_take [9, 10, 11, 12, 13, 14] (i := 9) (v := ?kv10) rfl (by kernel_rfl) (by kernel_rfl) (by kernel_rfl) (by kernel_rfl) (fun _ _ _ h => h) (Or.inl ⟨by rfl, ?ky10⟩) (by assumption) ?kr10
        case ky10 => (intro w hSw; (try dsimp only at hSw); go_split_ands; (try simp only [List.getElem_toArray, List.getElem_cons_zero, List.getElem_cons_succ]); go_simp; (try with_reducible rfl))
        try simp only [Act.put, List.getElem_toArray, List.getElem_cons_zero, List.getElem_cons_succ, List.setIfInBounds_toArray, List.set_cons_zero, List.set_cons_succ]
        refine wpAnyF_ready (rs := [10]) (by kernel_rfl) (by simp) ?_
        refine (AllReadyF.cons rfl (fun K hK => ?_) AllReadyF.nil)
        try simp only [List.getElem_toArray, List.getElem_cons_zero, List.getElem_cons_succ]
        go_simp
        refine hK.out _ _ (by exact ⟨f0, trivial⟩) (fun hHeldn => ?_)
        clear hHeld hK K
        have hHeld := hHeldn
        clear hHeldn
        try simp only [List.setIfInBounds_toArray, List.set_cons_zero, List.set_cons_succ]
        refine wpAnyF_ready (rs := [11]) (by kernel_rfl) (by simp) ?_
        refine (AllReadyF.last rfl (by kernel_rfl) (fun K hK => ?_) AllReadyF.nil)
        refine step_appOwn rfl _ _ rfl rfl HR.out.1 rfl HR.out.2.1 (by simp) (by show ys.length + 1 < 2000000000; omega) (Nat.zero_le _) ?_; intro g2 cap2 w2 hr2 _ k2 o2; have hst := WtrStep.app HV.out.1.at_ (by decide) HR.out.2.2 hr2 k2 o2; have hmid := HV.out.1.at_.mid (by decide) HR.out.2.2 k2; have q0 := cell_obj hmid 0; have fz := free_obj hmid 0; clear hmid; have hW := HV.out.1.trans hst; have HW := Lib.hid hW; clear hW hst
        refine hK.out _ _ (trivial) (fun hHeldn => ?_)
        clear hHeld hK K
        have hHeld := hHeldn
        clear hHeldn
        try simp only [Act.put, List.getElem_toArray, List.getElem_cons_zero, List.getElem_cons_succ, List.setIfInBounds_toArray, List.set_cons_zero, List.set_cons_succ]
        refine wpAnyF_pure (i := 12) (v := ?kv13) rfl (by kernel_rfl) (by kernel_rfl) (by kernel_rfl) (by kernel_rfl) (fun _ _ _ h => h) (Or.inl ⟨by rfl, ?ky13⟩) (by first | (intro _; assumption) | (intro h; exact absurd h (by decide))) ?kr13
        case ky13 => (intro w hSw; clear hSw; (try simp only [List.getElem_toArray, List.getElem_cons_zero, List.getElem_cons_succ]); go_simp; (try with_reducible rfl))
        try simp only [Act.put, List.getElem_toArray, List.getElem_cons_zero, List.getElem_cons_succ, List.setIfInBounds_toArray, List.set_cons_zero, List.set_cons_succ]
        refine wpAnyF_pure (i := 13) (v := ?kv14) rfl (by kernel_rfl) (by kernel_rfl) (by kernel_rfl) (by kernel_rfl) (fun _ _ _ h => h) (Or.inl ⟨by rfl, ?ky14⟩) (by first | (intro _; assumption) | (intro h; exact absurd h (by decide))) ?kr14
        case ky14 => (intro w hSw; clear hSw; (try simp only [List.getElem_toArray, List.getElem_cons_zero, List.getElem_cons_succ]); go_simp; (try with_reducible rfl))
        try simp only [Act.put, List.getElem_toArray, List.getElem_cons_zero, List.getElem_cons_succ, List.setIfInBounds_toArray, List.set_cons_zero, List.set_cons_succ]
        refine wpAnyF_ready (rs := [14]) (by kernel_rfl) (by simp) ?_
        refine (AllReadyF.last rfl (by kernel_rfl) (fun K hK => ?_) AllReadyF.nil)
        try simp only [List.getElem_toArray, List.getElem_cons_zero, List.getElem_cons_succ]
        go_simp
        refine hK.out _ _ (trivial) (fun hHeldn => ?_)
        clear hHeld hK K
        have hHeld := hHeldn
        clear hHeldn
        try simp only [List.setIfInBounds_toArray, List.set_cons_zero, List.set_cons_succ]
        refine wpAnyF_done (by kernel_rfl) ?_ _
        have e9 : ys ++ [c] = xs ++ (high x n).take (k + 1) := by rw [← HY.out, List.append_assoc, ← Hs.out]
        rw [e9] at HW
        go_wp2_with fail
        have hjj := Hj.out
        go_roundw
        case rel => exact ⟨k + 1, _, by omega, by congr 1; omega, HW.out⟩
        case measure => simp [Go.RowKit.intOf]
      · have hv : IntKind.u8.wrap ((x : Int) / 256) = (c.toNat : Int) := by rw [IntKind.wrap_u8, hc, ofNat_mod]; omega
        have hw : IntKind.i64.wrap 8 = 8 := by decide
        clear hc
        go_upto_region 3 with fail
        refine wp_region_F [11, 14] (S := fun w' => w'.cell? ⟨W, 0, none⟩ = some V ∧ True) (by kernel_rfl) (⟨c0, trivial⟩) (fun hHeld => ?_)
        show wpAnyF _ _ _ _ _ _ 15 #[false, false, false, false, false, false, false, false, false, false, false, false, false, false, false] _ _
        refine wpAnyF_pure (i := 0) (v := ?kv16) rfl (by kernel_rfl) (by kernel_rfl) (by kernel_rfl) (by kernel_rfl) (fun _ _ _ h => h) (Or.inl ⟨by rfl, ?ky16⟩) (by first | (intro _; assumption) | (intro h; exact absurd h (by decide))) ?kr16
        case ky16 => (intro w hSw; clear hSw; (try simp only [List.getElem_toArray, List.getElem_cons_zero]); go_simp; (try with_reducible rfl))
        try simp only [Act.put, List.getElem_toArray, List.getElem_cons_zero, List.setIfInBounds_toArray, List.set_cons_zero, List.set_cons_succ]
        refine wpAnyF_take [1, 2, 3, 4, 11, 12, 13, 14] (i := 1) (v := ?kv17) rfl (by kernel_rfl) (by kernel_rfl) (by kernel_rfl) (by kernel_rfl) (fun _ _ _ h => h) (Or.inl ⟨by rfl, ?ky17⟩) (by assumption) ?kr17
        case ky17 => (intro w hSw; (try dsimp only at hSw); go_split_ands; (try simp only [List.getElem_toArray, List.getElem_cons_zero, List.getElem_cons_succ]); go_simp; (try with_reducible rfl))
        try simp only [Act.put, List.getElem_toArray, List.getElem_cons_zero, List.getElem_cons_succ, List.setIfInBounds_toArray, List.set_cons_zero, List.set_cons_succ]
        refine wpAnyF_take [2, 3, 4, 11, 12, 13, 14] (i := 2) (v := ?kv18) rfl (by kernel_rfl) (by kernel_rfl) (by kernel_rfl) (by kernel_rfl) (fun _ _ _ h => h) (Or.inl ⟨by rfl, ?ky18⟩) (by assumption) ?kr18
        case ky18 => (intro w hSw; (try dsimp only at hSw); go_split_ands; (try simp only [List.getElem_toArray, List.getElem_cons_zero, List.getElem_cons_succ]); go_simp; (try with_reducible rfl))
        try simp only [Act.put, List.getElem_toArray, List.getElem_cons_zero, List.getElem_cons_succ, List.setIfInBounds_toArray, List.set_cons_zero, List.set_cons_succ]
        refine wpAnyF_take [3, 4, 11, 12, 13, 14] (i := 3) (v := ?kv19) rfl (by kernel_rfl) (by kernel_rfl) (by kernel_rfl) (by kernel_rfl) (fun _ _ _ h => h) (Or.inl ⟨by rfl, ?ky19⟩) (by assumption) ?kr19
        case ky19 => (intro w hSw; (try dsimp only at hSw); go_split_ands; (try simp only [List.getElem_toArray, List.getElem_cons_zero, List.getElem_cons_succ]); go_simp; (try with_reducible rfl))
        try simp only [Act.put, List.getElem_toArray, List.getElem_cons_zero, List.getElem_cons_succ, List.setIfInBounds_toArray, List.set_cons_zero, List.set_cons_succ]
        refine wpAnyF_take [4, 11, 12, 13, 14] (i := 4) (v := ?kv20) rfl (by kernel_rfl) (by kernel_rfl) (by kernel_rfl) (by kernel_rfl) (fun _ _ _ h => h) (Or.inl ⟨by rfl, ?ky20⟩) (by assumption) ?kr20
        case ky20 => (intro w hSw; (try dsimp only at hSw); go_split_ands; (try simp only [List.getElem_toArray, List.getElem_cons_zero, List.getElem_cons_succ]); go_simp; (try with_reducible rfl))
        try simp only [Act.put, List.getElem_toArray, List.getElem_cons_zero, List.getElem_cons_succ, List.setIfInBounds_toArray, List.set_cons_zero, List.set_cons_succ]
        refine wpAnyF_take [5, 8, 9, 10, 11, 12, 13, 14] (i := 5) (v := ?kv21) rfl (by kernel_rfl) (by kernel_rfl) (by kernel_rfl) (by kernel_rfl) (fun _ _ _ h => h) (Or.inl ⟨by rfl, ?ky21⟩) (by assumption) ?kr21
        case ky21 => (intro w hSw; (try dsimp only at hSw); go_split_ands; (try simp only [List.getElem_toArray, List.getElem_cons_zero, List.getElem_cons_succ]); go_simp; (try with_reducible rfl))
        try simp only [Act.put, List.getElem_toArray, List.getElem_cons_zero, List.getElem_cons_succ, List.setIfInBounds_toArray, List.set_cons_zero, List.set_cons_succ]
        refine wpAnyF_take [6, 7, 8, 9, 10, 11, 12, 13, 14] (i := 6) (v := ?kv22) rfl (by kernel_rfl) (by kernel_rfl) (by kernel_rfl) (by kernel_rfl) (fun _ _ _ h => h) (Or.inl ⟨by rfl, ?ky22⟩) (by assumption) ?kr22
        case ky22 => (intro w hSw; (try dsimp only at hSw); go_split_ands; (try simp only [List.getElem_toArray, List.getElem_cons_zero, List.getElem_cons_succ]); go_simp; (try with_reducible rfl))
        try simp only [Act.put, List.getElem_toArray, List.getElem_cons_zero, List.getElem_cons_succ, List.setIfInBounds_toArray, List.set_cons_zero, List.set_cons_succ]
        refine wpAnyF_take [7, 8, 9, 10, 11, 12, 13, 14] (i := 7) (v := ?kv23) rfl (by kernel_rfl) (by kernel_rfl) (by kernel_rfl) (by kernel_rfl) (fun _ _ _ h => h) (Or.inl ⟨by rfl, ?ky23⟩) (by assumption) ?kr23
        case ky23 => (intro w hSw; (try dsimp only at hSw); go_split_ands; (try simp only [List.getElem_toArray, List.getElem_cons_zero, List.getElem_cons_succ]); go_simp; (try with_reducible rfl))
        try simp only [Act.put, List.getElem_toArray, List.getElem_cons_zero, List.getElem_cons_succ, List.setIfInBounds_toArray, List.set_cons_zero, List.set_cons_succ]
        refine wpAnyF_take [8, 9, 10, 11, 12, 13, 14] (i := 8) (v := ?kv24) rfl (by kernel_rfl) (by kernel_rfl) (by kernel_rfl) (by kernel_rfl) (fun _ _ _ h => h) (Or.inl ⟨by rfl, ?ky24⟩) (by assumption) ?kr24
        case ky24 => (intro w hSw; (try dsimp only at hSw); go_split_ands; (try simp only [List.getElem_toArray, List.getElem_cons_zero, List.getElem_cons_succ]); go_simp; (try with_reducible rfl))
        try simp only [Act.put, List.getElem_toArray, List.getElem_cons_zero, List.getElem_cons_succ, List.setIfInBounds_toArray, List.set_cons_zero, List.set_cons_succ]
        refine wpAnyF_take [9, 10, 11, 12, 13, 14] (i := 9) (v := ?kv25) rfl (by kernel_rfl) (by kernel_rfl) (by kernel_rfl) (by kernel_rfl) (fun _ _ _ h => h) (Or.inl ⟨by rfl, ?ky25⟩) (by assumption) ?kr25
        case ky25 => (intro w hSw; (try dsimp only at hSw); go_split_ands; (try simp only [List.getElem_toArray, List.getElem_cons_zero, List.getElem_cons_succ]); go_simp; (try with_reducible rfl))
        try simp only [Act.put, List.getElem_toArray, List.getElem_cons_zero, List.getElem_cons_succ, List.setIfInBounds_toArray, List.set_cons_zero, List.set_cons_succ]
        refine wpAnyF_ready (rs := [10]) (by kernel_rfl) (by simp) ?_
        refine (AllReadyF.cons rfl (fun K hK => ?_) AllReadyF.nil)
        try simp only [List.getElem_toArray, List.getElem_cons_zero, List.getElem_cons_succ]
        go_simp
        refine hK.out _ _ (by exact ⟨f0, trivial⟩) (fun hHeldn => ?_)
        clear hHeld hK K
        have hHeld := hHeldn
        clear hHeldn
        try simp only [List.setIfInBounds_toArray, List.set_cons_zero, List.set_cons_succ]
        refine wpAnyF_ready (rs := [11]) (by kernel_rfl) (by simp) ?_
        refine (AllReadyF.last rfl (by kernel_rfl) (fun K hK => ?_) AllReadyF.nil)
        refine step_appOwn rfl _ _ rfl rfl HR.out.1 rfl HR.out.2.1 (by simp) (by show ys.length + 1 < 2000000000; omega) (Nat.zero_le _) ?_; intro g2 cap2 w2 hr2 _ k2 o2; have hst := WtrStep.app HV.out.1.at_ (by decide) HR.out.2.2 hr2 k2 o2; have hmid := HV.out.1.at_.mid (by decide) HR.out.2.2 k2; have q0 := cell_obj hmid 0; have fz := free_obj hmid 0; clear hmid; have hW := HV.out.1.trans hst; have HW := Lib.hid hW; clear hW hst
        refine hK.out _ _ (trivial) (fun hHeldn => ?_)
        clear hHeld hK K
        have hHeld := hHeldn
        clear hHeldn
        try simp only [Act.put, List.getElem_toArray, List.getElem_cons_zero, List.getElem_cons_succ, List.setIfInBounds_toArray, List.set_cons_zero, List.set_cons_succ]
        refine wpAnyF_pure (i := 12) (v := ?kv28) rfl (by kernel_rfl) (by kernel_rfl) (by kernel_rfl) (by kernel_rfl) (fun _ _ _ h => h) (Or.inl ⟨by rfl, ?ky28⟩) (by first | (intro _; assumption) | (intro h; exact absurd h (by decide))) ?kr28
        case ky28 => (intro w hSw; clear hSw; (try simp only [List.getElem_toArray, List.getElem_cons_zero, List.getElem_cons_succ]); go_simp; (try with_reducible rfl))
        try simp only [Act.put, List.getElem_toArray, List.getElem_cons_zero, List.getElem_cons_succ, List.setIfInBounds_toArray, List.set_cons_zero, List.set_cons_succ]
        refine wpAnyF_pure (i := 13) (v := ?kv29) rfl (by kernel_rfl) (by kernel_rfl) (by kernel_rfl) (by kernel_rfl) (fun _ _ _ h => h) (Or.inl ⟨by rfl, ?ky29⟩) (by first | (intro _; assumption) | (intro h; exact absurd h (by decide))) ?kr29
        case ky29 => (intro w hSw; clear hSw; (try simp only [List.getElem_toArray, List.getElem_cons_zero, List.getElem_cons_succ]); go_simp; (try with_reducible rfl))
        try simp only [Act.put, List.getElem_toArray, List.getElem_cons_zero, List.getElem_cons_succ, List.setIfInBounds_toArray, List.set_cons_zero, List.set_cons_succ]
        refine wpAnyF_ready (rs := [14]) (by kernel_rfl) (by simp) ?_
        refine (AllReadyF.last rfl (by kernel_rfl) (fun K hK => ?_) AllReadyF.nil)
        try simp only [List.getElem_toArray, List.getElem_cons_zero, List.getElem_cons_succ]
        go_simp
        refine hK.out _ _ (trivial) (fun hHeldn => ?_)
        clear hHeld hK K
        have hHeld := hHeldn
        clear hHeldn
        try simp only [List.setIfInBounds_toArray, List.set_cons_zero, List.set_cons_succ]
        refine wpAnyF_done (by kernel_rfl) ?_ _
        have e9 : ys ++ [c] = xs ++ (high x n).take (k + 1) := by rw [← HY.out, List.append_assoc, ← Hs.out]
        rw [e9] at HW
        go_wp2_with fail
        have hjj := Hj.out
        go_roundw
        case rel => exact ⟨k + 1, _, by omega, by congr 1; omega, HW.out⟩
        case measure => simp [Go.RowKit.intOf]
      · have hv : IntKind.u8.wrap ((x : Int) / 65536) = (c.toNat : Int) := by rw [IntKind.wrap_u8, hc, ofNat_mod]; omega
        have hw : IntKind.i64.wrap 16 = 16 := by decide
        clear hc
        go_upto_region 3 with fail
        refine wp_region_F [11, 14] (S := fun w' => w'.cell? ⟨W, 0, none⟩ = some V ∧ True) (by kernel_rfl) (⟨c0, trivial⟩) (fun hHeld => ?_)
        show wpAnyF _ _ _ _ _ _ 15 #[false, false, false, false, false, false, false, false, false, false, false, false, false, false, false] _ _
        refine wpAnyF_pure (i := 0) (v := ?kv31) rfl (by kernel_rfl) (by kernel_rfl) (by kernel_rfl) (by kernel_rfl) (fun _ _ _ h => h) (Or.inl ⟨by rfl, ?ky31⟩) (by first | (intro _; assumption) | (intro h; exact absurd h (by decide))) ?kr31
        case ky31 => (intro w hSw; clear hSw; (try simp only [List.getElem_toArray, List.getElem_cons_zero]); go_simp; (try with_reducible rfl))
        try simp only [Act.put, List.getElem_toArray, List.getElem_cons_zero, List.setIfInBounds_toArray, List.set_cons_zero, List.set_cons_succ]
        refine wpAnyF_take [1, 2, 3, 4, 11, 12, 13, 14] (i := 1) (v := ?kv32) rfl (by kernel_rfl) (by kernel_rfl) (by kernel_rfl) (by kernel_rfl) (fun _ _ _ h => h) (Or.inl ⟨by rfl, ?ky32⟩) (by assumption) ?kr32
        case ky32 => (intro w hSw; (try dsimp only at hSw); go_split_ands; (try simp only [List.getElem_toArray, List.getElem_cons_zero, List.getElem_cons_succ]); go_simp; (try with_reducible rfl))
        try simp only [Act.put, List.getElem_toArray, List.getElem_cons_zero, List.getElem_cons_succ, List.setIfInBounds_toArray, List.set_cons_zero, List.set_cons_succ]
        refine wpAnyF_take [2, 3, 4, 11, 12, 13, 14] (i := 2) (v := ?kv33) rfl (by kernel_rfl) (by kernel_rfl) (by kernel_rfl) (by kernel_rfl) (fun _ _ _ h => h) (Or.inl ⟨by rfl, ?ky33⟩) (by assumption) ?kr33
        case ky33 => (intro w hSw; (try dsimp only at hSw); go_split_ands; (try simp only [List.getElem_toArray, List.getElem_cons_zero, List.getElem_cons_succ]); go_simp; (try with_reducible rfl))
        try simp only [Act.put, List.getElem_toArray, List.getElem_cons_zero, List.getElem_cons_succ, List.setIfInBounds_toArray, List.set_cons_zero, List.set_cons_succ]
        refine wpAnyF_take [3, 4, 11, 12, 13, 14] (i := 3) (v := ?kv34) rfl (by kernel_rfl) (by kernel_rfl) (by kernel_rfl) (by kernel_rfl) (fun _ _ _ h => h) (Or.inl ⟨by rfl, ?ky34⟩) (by assumption) ?kr34
        case ky34 => (intro w hSw; (try dsimp only at hSw); go_split_ands; (try simp only [List.getElem_toArray, List.getElem_cons_zero, List.getElem_cons_succ]); go_simp; (try with_reducible rfl))
        try simp only [Act.put, List.getElem_toArray, List.getElem_cons_zero, List.getElem_cons_succ, List.setIfInBounds_toArray, List.set_cons_zero, List.set_cons_succ]
        refine wpAnyF_take [4, 11, 12, 13, 14] (i := 4) (v := ?kv35) rfl (by kernel_rfl) (by kernel_rfl) (by kernel_rfl) (by kernel_rfl) (fun _ _ _ h => h) (Or.inl ⟨by rfl, ?ky35⟩) (by assumption) ?kr35
        case ky35 => (intro w hSw; (try dsimp only at hSw); go_split_ands; (try simp only [List.getElem_toArray, List.getElem_cons_zero, List.getElem_cons_succ]); go_simp; (try with_reducible rfl))
        try simp only [Act.put, List.getElem_toArray, List.getElem_cons_zero, List.getElem_cons_succ, List.setIfInBounds_toArray, List.set_cons_zero, List.set_cons_succ]
        refine wpAnyF_take [5, 8, 9, 10, 11, 12, 13, 14] (i := 5) (v := ?kv36) rfl (by kernel_rfl) (by kernel_rfl) (by kernel_rfl) (by kernel_rfl) (fun _ _ _ h => h) (Or.inl ⟨by rfl, ?ky36⟩) (by assumption) ?kr36
        case ky36 => (intro w hSw; (try dsimp only at hSw); go_split_ands; (try simp only [List.getElem_toArray, List.getElem_cons_zero, List.getElem_cons_succ]); go_simp; (try with_reducible rfl))
        try simp only [Act.put, List.getElem_toArray, List.getElem_cons_zero, List.getElem_cons_succ, List.setIfInBounds_toArray, List.set_cons_zero, List.set_cons_succ]
        refine wpAnyF_take [6, 7, 8, 9, 10, 11, 12, 13, 14] (i := 6) (v := ?kv37) rfl (by kernel_rfl) (by kernel_rfl) (by kernel_rfl) (by kernel_rfl) (fun _ _ _ h => h) (Or.inl ⟨by rfl, ?ky37⟩) (by assumption) ?kr37
        case ky37 => (intro w hSw; (try dsimp only at hSw); go_split_ands; (try simp only [List.getElem_toArray, List.getElem_cons_zero, List.getElem_cons_succ]); go_simp; (try with_reducible rfl))
        try simp only [Act.put, List.getElem_toArray, List.getElem_cons_zero, List.getElem_cons_succ, List.setIfInBounds_toArray, List.set_cons_zero, List.set_cons_succ]
        refine wpAnyF_take [7, 8, 9, 10, 11, 12, 13, 14] (i := 7) (v := ?kv38) rfl (by kernel_rfl) (by kernel_rfl) (by kernel_rfl) (by kernel_rfl) (fun _ _ _ h => h) (Or.inl ⟨by rfl, ?ky38⟩) (by assumption) ?kr38
        case ky38 => (intro w hSw; (try dsimp only at hSw); go_split_ands; (try simp only [List.getElem_toArray, List.getElem_cons_zero, List.getElem_cons_succ]); go_simp; (try with_reducible rfl))
        try simp only [Act.put, List.getElem_toArray, List.getElem_cons_zero, List.getElem_cons_succ, List.setIfInBounds_toArray, List.set_cons_zero, List.set_cons_succ]
        refine wpAnyF_take [8, 9, 10, 11, 12, 13, 14] (i := 8) (v := ?kv39) rfl (by kernel_rfl) (by kernel_rfl) (by kernel_rfl) (by kernel_rfl) (fun _ _ _ h => h) (Or.inl ⟨by rfl, ?ky39⟩) (by assumption) ?kr39
        case ky39 => (intro w hSw; (try dsimp only at hSw); go_split_ands; (try simp only [List.getElem_toArray, List.getElem_cons_zero, List.getElem_cons_succ]); go_simp; (try with_reducible rfl))
        try simp only [Act.put, List.getElem_toArray, List.getElem_cons_zero, List.getElem_cons_succ, List.setIfInBounds_toArray, List.set_cons_zero, List.set_cons_succ]
        refine wpAnyF_take [9, 10, 11, 12, 13, 14] (i := 9) (v := ?kv40) rfl (by kernel_rfl) (by kernel_rfl) (by kernel_rfl) (by kernel_rfl) (fun _ _ _ h => h) (Or.inl ⟨by rfl, ?ky40⟩) (by assumption) ?kr40
        case ky40 => (intro w hSw; (try dsimp only at hSw); go_split_ands; (try simp only [List.getElem_toArray, List.getElem_cons_zero, List.getElem_cons_succ]); go_simp; (try with_reducible rfl))
        try simp only [Act.put, List.getElem_toArray, List.getElem_cons_zero, List.getElem_cons_succ, List.setIfInBounds_toArray, List.set_cons_zero, List.set_cons_succ]
        refine wpAnyF_ready (rs := [10]) (by kernel_rfl) (by simp) ?_
        refine (AllReadyF.cons rfl (fun K hK => ?_) AllReadyF.nil)
        try simp only [List.getElem_toArray, List.getElem_cons_zero, List.getElem_cons_succ]
        go_simp
        refine hK.out _ _ (by exact ⟨f0, trivial⟩) (fun hHeldn => ?_)
        clear hHeld hK K
        have hHeld := hHeldn
        clear hHeldn
        try simp only [List.setIfInBounds_toArray, List.set_cons_zero, List.set_cons_succ]
        refine wpAnyF_ready (rs := [11]) (by kernel_rfl) (by simp) ?_
        refine (AllReadyF.last rfl (by kernel_rfl) (fun K hK => ?_) AllReadyF.nil)
        refine step_appOwn rfl _ _ rfl rfl HR.out.1 rfl HR.out.2.1 (by simp) (by show ys.length + 1 < 2000000000; omega) (Nat.zero_le _) ?_; intro g2 cap2 w2 hr2 _ k2 o2; have hst := WtrStep.app HV.out.1.at_ (by decide) HR.out.2.2 hr2 k2 o2; have hmid := HV.out.1.at_.mid (by decide) HR.out.2.2 k2; have q0 := cell_obj hmid 0; have fz := free_obj hmid 0; clear hmid; have hW := HV.out.1.trans hst; have HW := Lib.hid hW; clear hW hst
        refine hK.out _ _ (trivial) (fun hHeldn => ?_)
        clear hHeld hK K
        have hHeld := hHeldn
        clear hHeldn
        try simp only [Act.put, List.getElem_toArray, List.getElem_cons_zero, List.getElem_cons_succ, List.setIfInBounds_toArray, List.set_cons_zero, List.set_cons_succ]
        refine wpAnyF_pure (i := 12) (v := ?kv43) rfl (by kernel_rfl) (by kernel_rfl) (by kernel_rfl) (by kernel_rfl) (fun _ _ _ h => h) (Or.inl ⟨by rfl, ?ky43⟩) (by first | (intro _; assumption) | (intro h; exact absurd h (by decide))) ?kr43
        case ky43 => (intro w hSw; clear hSw; (try simp only [List.getElem_toArray, List.getElem_cons_zero, List.getElem_cons_succ]); go_simp; (try with_reducible rfl))
        try simp only [Act.put, List.getElem_toArray, List.getElem_cons_zero, List.getElem_cons_succ, List.setIfInBounds_toArray, List.set_cons_zero, List.set_cons_succ]
        refine wpAnyF_pure (i := 13) (v := ?kv44) rfl (by kernel_rfl) (by kernel_rfl) (by kernel_rfl) (by kernel_rfl) (fun _ _ _ h => h) (Or.inl ⟨by rfl, ?ky44⟩) (by first | (intro _; assumption) | (intro h; exact absurd h (by decide))) ?kr44
        case ky44 => (intro w hSw; clear hSw; (try simp only [List.getElem_toArray, List.getElem_cons_zero, List.getElem_cons_succ]); go_simp; (try with_reducible rfl))
        try simp only [Act.put, List.getElem_toArray, List.getElem_cons_zero, List.getElem_cons_succ, List.setIfInBounds_toArray, List.set_cons_zero, List.set_cons_succ]
        refine wpAnyF_ready (rs := [14]) (by kernel_rfl) (by simp) ?_
        refine (AllReadyF.last rfl (by kernel_rfl) (fun K hK => ?_) AllReadyF.nil)
        try simp only [List.getElem_toArray, List.getElem_cons_zero, List.getElem_cons_succ]
        go_simp
        refine hK.out _ _ (trivial) (fun hHeldn => ?_)
        clear hHeld hK K
        have hHeld := hHeldn
        clear hHeldn
        try simp only [List.setIfInBounds_toArray, List.set_cons_zero, List.set_cons_succ]
        refine wpAnyF_done (by kernel_rfl) ?_ _
        have e9 : ys ++ [c] = xs ++ (high x n).take (k + 1) := by rw [← HY.out, List.append_assoc, ← Hs.out]
        rw [e9] at HW
        go_wp2_with fail
        have hjj := Hj.out
        go_roundw
        case rel => exact ⟨k + 1, _, by omega, by congr 1; omega, HW.out⟩
        case measure => simp [Go.RowKit.intOf]
      · have hv : IntKind.u8.wrap ((x : Int) / 16777216) = (c.toNat : Int) := by rw [IntKind.wrap_u8, hc, ofNat_mod]; omega
        have hw : IntKind.i64.wrap 24 = 24 := by decide
        clear hc
        go_upto_region 3 with fail
        refine wp_region_F [11, 14] (S := fun w' => w'.cell? ⟨W, 0, none⟩ = some V ∧ True) (by kernel_rfl) (⟨c0, trivial⟩) (fun hHeld => ?_)
        show wpAnyF _ _ _ _ _ _ 15 #[false, false, false, false, false, false, false, false, false, false, false, false, false, false, false] _ _
        refine wpAnyF_pure (i := 0) (v := ?kv46) rfl (by kernel_rfl) (by kernel_rfl) (by kernel_rfl) (by kernel_rfl) (fun _ _ _ h => h) (Or.inl ⟨by rfl, ?ky46⟩) (by first | (intro _; assumption) | (intro h; exact absurd h (by decide))) ?kr46
        case ky46 => (intro w hSw; clear hSw; (try simp only [List.getElem_toArray, List.getElem_cons_zero]); go_simp; (try with_reducible rfl))
        try simp only [Act.put, List.getElem_toArray, List.getElem_cons_zero, List.setIfInBounds_toArray, List.set_cons_zero, List.set_cons_succ]
        refine wpAnyF_take [1, 2, 3, 4, 11, 12, 13, 14] (i := 1) (v := ?kv47) rfl (by kernel_rfl) (by kernel_rfl) (by kernel_rfl) (by kernel_rfl) (fun _ _ _ h => h) (Or.inl ⟨by rfl, ?ky47⟩) (by assumption) ?kr47
        case ky47 => (intro w hSw; (try dsimp only at hSw); go_split_ands; (try simp only [List.getElem_toArray, List.getElem_cons_zero, List.getElem_cons_succ]); go_simp; (try with_reducible rfl))
        try simp only [Act.put, List.getElem_toArray, List.getElem_cons_zero, List.getElem_cons_succ, List.setIfInBounds_toArray, List.set_cons_zero, List.set_cons_succ]
        refine wpAnyF_take [2, 3, 4, 11, 12, 13, 14] (i := 2) (v := ?kv48) rfl (by kernel_rfl) (by kernel_rfl) (by kernel_rfl) (by kernel_rfl) (fun _ _ _ h => h) (Or.inl ⟨by rfl, ?ky48⟩) (by assumption) ?kr48
        case ky48 => (intro w hSw; (try dsimp only at hSw); go_split_ands; (try simp only [List.getElem_toArray, List.getElem_cons_zero, List.getElem_cons_succ]); go_simp; (try with_reducible rfl))
        try simp only [Act.put, List.getElem_toArray, List.getElem_cons_zero, List.getElem_cons_succ, List.setIfInBounds_toArray, List.set_cons_zero, List.set_cons_succ]
        refine wpAnyF_take [3, 4, 11, 12, 13, 14] (i := 3) (v := ?kv49) rfl (by kernel_rfl) (by kernel_rfl) (by kernel_rfl) (by kernel_rfl) (fun _ _ _ h => h) (Or.inl ⟨by rfl, ?ky49⟩) (by assumption) ?kr49
        case ky49 => (intro w hSw; (try dsimp only at hSw); go_split_ands; (try simp only [List.getElem_toArray, List.getElem_cons_zero, List.getElem_cons_succ]); go_simp; (try with_reducible rfl))
        try simp only [Act.put, List.getElem_toArray, List.getElem_cons_zero, List.getElem_cons_succ, List.setIfInBounds_toArray, List.set_cons_zero, List.set_cons_succ]
        refine wpAnyF_take [4, 11, 12, 13, 14] (i := 4) (v := ?kv50) rfl (by kernel_rfl) (by kernel_rfl) (by kernel_rfl) (by kernel_rfl) (fun _ _ _ h => h) (Or.inl ⟨by rfl, ?ky50⟩) (by assumption) ?kr50
        case ky50 => (intro w hSw; (try dsimp only at hSw); go_split_ands; (try simp only [List.getElem_toArray, List.getElem_cons_zero, List.getElem_cons_succ]); go_simp; (try with_reducible rfl))
        try simp only [Act.put, List.getElem_toArray, List.getElem_cons_zero, List.getElem_cons_succ, List.setIfInBounds_toArray, List.set_cons_zero, List.set_cons_succ]
        refine wpAnyF_take [5, 8, 9, 10, 11, 12, 13, 14] (i := 5) (v := ?kv51) rfl (by kernel_rfl) (by kernel_rfl) (by kernel_rfl) (by kernel_rfl) (fun _ _ _ h => h) (Or.inl ⟨by rfl, ?ky51⟩) (by assumption) ?kr51
        case ky51 => (intro w hSw; (try dsimp only at hSw); go_split_ands; (try simp only [List.getElem_toArray, List.getElem_cons_zero, List.getElem_cons_succ]); go_simp; (try with_reducible rfl))
        try simp only [Act.put, List.getElem_toArray, List.getElem_cons_zero, List.getElem_cons_succ, List.setIfInBounds_toArray, List.set_cons_zero, List.set_cons_succ]
        refine wpAnyF_take [6, 7, 8, 9, 10, 11, 12, 13, 14] (i := 6) (v := ?kv52) rfl (by kernel_rfl) (by kernel_rfl) (by kernel_rfl) (by kernel_rfl) (fun _ _ _ h => h) (Or.inl ⟨by rfl, ?ky52⟩) (by assumption) ?kr52
        case ky52 => (intro w hSw; (try dsimp only at hSw); go_split_ands; (try simp only [List.getElem_toArray, List.getElem_cons_zero, List.getElem_cons_succ]); go_simp; (try with_reducible rfl))
        try simp only [Act.put, List.getElem_toArray, List.getElem_cons_zero, List.getElem_cons_succ, List.setIfInBounds_toArray, List.set_cons_zero, List.set_cons_succ]
        refine wpAnyF_take [7, 8, 9, 10, 11, 12, 13, 14] (i := 7) (v := ?kv53) rfl (by kernel_rfl) (by kernel_rfl) (by kernel_rfl) (by kernel_rfl) (fun _ _ _ h => h) (Or.inl ⟨by rfl, ?ky53⟩) (by assumption) ?kr53
        case ky53 => (intro w hSw; (try dsimp only at hSw); go_split_ands; (try simp only [List.getElem_toArray, List.getElem_cons_zero, List.getElem_cons_succ]); go_simp; (try with_reducible rfl))
        try simp only [Act.put, List.getElem_toArray, List.getElem_cons_zero, List.getElem_cons_succ, List.setIfInBounds_toArray, List.set_cons_zero, List.set_cons_succ]
        refine wpAnyF_take [8, 9, 10, 11, 12, 13, 14] (i := 8) (v := ?kv54) rfl (by kernel_rfl) (by kernel_rfl) (by kernel_rfl) (by kernel_rfl) (fun _ _ _ h => h) (Or.inl ⟨by rfl, ?ky54⟩) (by assumption) ?kr54
        case ky54 => (intro w hSw; (try dsimp only at hSw); go_split_ands; (try simp only [List.getElem_toArray, List.getElem_cons_zero, List.getElem_cons_succ]); go_simp; (try with_reducible rfl))
        try simp only [Act.put, List.getElem_toArray, List.getElem_cons_zero, List.getElem_cons_succ, List.setIfInBounds_toArray, List.set_cons_zero, List.set_cons_succ]
        refine wpAnyF_take [9, 10, 11, 12, 13, 14] (i := 9) (v := ?kv55) rfl (by kernel_rfl) (by kernel_rfl) (by kernel_rfl) (by kernel_rfl) (fun _ _ _ h => h) (Or.inl ⟨by rfl, ?ky55⟩) (by assumption) ?kr55
        case ky55 => (intro w hSw; (try dsimp only at hSw); go_split_ands; (try simp only [List.getElem_toArray, List.getElem_cons_zero, List.getElem_cons_succ]); go_simp; (try with_reducible rfl))
        try simp only [Act.put, List.getElem_toArray, List.getElem_cons_zero, List.getElem_cons_succ, List.setIfInBounds_toArray, List.set_cons_zero, List.set_cons_succ]
        refine wpAnyF_ready (rs := [10]) (by kernel_rfl) (by simp) ?_
        refine (AllReadyF.cons rfl (fun K hK => ?_) AllReadyF.nil)
        try simp only [List.getElem_toArray, List.getElem_cons_zero, List.getElem_cons_succ]
        go_simp
        refine hK.out _ _ (by exact ⟨f0, trivial⟩) (fun hHeldn => ?_)
        clear hHeld hK K
        have hHeld := hHeldn
        clear hHeldn
        try simp only [List.setIfInBounds_toArray, List.set_cons_zero, List.set_cons_succ]
        refine wpAnyF_ready (rs := [11]) (by kernel_rfl) (by simp) ?_
        refine (AllReadyF.last rfl (by kernel_rfl) (fun K hK => ?_) AllReadyF.nil)
        refine step_appOwn rfl _ _ rfl rfl HR.out.1 rfl HR.out.2.1 (by simp) (by show ys.length + 1 < 2000000000; omega) (Nat.zero_le _) ?_; intro g2 cap2 w2 hr2 _ k2 o2; have hst := WtrStep.app HV.out.1.at_ (by decide) HR.out.2.2 hr2 k2 o2; have hmid := HV.out.1.at_.mid (by decide) HR.out.2.2 k2; have q0 := cell_obj hmid 0; have fz := free_obj hmid 0; clear hmid; have hW := HV.out.1.trans hst; have HW := Lib.hid hW; clear hW hst
        refine hK.out _ _ (trivial) (fun hHeldn => ?_)
        clear hHeld hK K
        have hHeld := hHeldn
        clear hHeldn
        try simp only [Act.put, List.getElem_toArray, List.getElem_cons_zero, List.getElem_cons_succ, List.setIfInBounds_toArray, List.set_cons_zero, List.set_cons_succ]
        refine wpAnyF_pure (i := 12) (v := ?kv58) rfl (by kernel_rfl) (by kernel_rfl) (by kernel_rfl) (by kernel_rfl) (fun _ _ _ h => h) (Or.inl ⟨by rfl, ?ky58⟩) (by first | (intro _; assumption) | (intro h; exact absurd h (by decide))) ?kr58
        case ky58 => (intro w hSw; clear hSw; (try simp only [List.getElem_toArray, List.getElem_cons_zero, List.getElem_cons_succ]); go_simp; (try with_reducible rfl))
        try simp only [Act.put, List.getElem_toArray, List.getElem_cons_zero, List.getElem_cons_succ, List.setIfInBounds_toArray, List.set_cons_zero, List.set_cons_succ]
        refine wpAnyF_pure (i := 13) (v := ?kv59) rfl (by kernel_rfl) (by kernel_rfl) (by kernel_rfl) (by kernel_rfl) (fun _ _ _ h => h) (Or.inl ⟨by rfl, ?ky59⟩) (by first | (intro _; assumption) | (intro h; exact absurd h (by decide))) ?kr59
        case ky59 => (intro w hSw; clear hSw; (try simp only [List.getElem_toArray, List.getElem_cons_zero, List.getElem_cons_succ]); go_simp; (try with_reducible rfl))
        try simp only [Act.put, List.getElem_toArray, List.getElem_cons_zero, List.getElem_cons_succ, List.setIfInBounds_toArray, List.set_cons_zero, List.set_cons_succ]
        refine wpAnyF_ready (rs := [14]) (by kernel_rfl) (by simp) ?_
        refine (AllReadyF.last rfl (by kernel_rfl) (fun K hK => ?_) AllReadyF.nil)
        try simp only [List.getElem_toArray, List.getElem_cons_zero, List.getElem_cons_succ]
        go_simp
        refine hK.out _ _ (trivial) (fun hHeldn => ?_)
        clear hHeld hK K
        have hHeld := hHeldn
        clear hHeldn
        try simp only [List.setIfInBounds_toArray, List.set_cons_zero, List.set_cons_succ]
        refine wpAnyF_done (by kernel_rfl) ?_ _
        have e9 : ys ++ [c] = xs ++ (high x n).take (k + 1) := by rw [← HY.out, List.append_assoc, ← Hs.out]
        rw [e9] at HW
        go_wp2_with fail
        have hjj := Hj.out
        go_roundw
        case rel => exact ⟨k + 1, _, by omega, by congr 1; omega, HW.out⟩
        case measure => simp [Go.RowKit.intOf]
    · have hkn : k = n := by omega
      subst hkn
      have hneg : ¬ ((0 : Int) ≤ (k : Int) - 1 - (k : Int)) := by omega
      go_wp2_with fail
      go_end0
      have := HV.out.1
      rw [List.take_of_length_le (by rw [high_length]; exact Nat.le_refl _)] at this
      exact ⟨rfl, V, this⟩
end Go.Proofs.YtanmihhlkelgeaaGreat
