/- DERIVED. Contracts and laws that the proofs of this seat share, part 28 of 36: Law15 Law15B FiB FiC. -/
import Derived.Test.YtbbnejehglonjaaGreatMh00
import Derived.Test.YtbbnejehglonjaaGreatMh07
import Derived.Test.YtbbnejehglonjaaGreatMh22
import Derived.Test.YtbbnejehglonjaaGreatMh26
namespace Go.Proofs.YtbbnejehglonjaaGreat
set_option maxHeartbeats 8000000
set_option maxRecDepth 100000
set_option linter.unusedSimpArgs false
set_option linter.unusedVariables false
section
open Go.RowKit
attribute [local go_sem] hasBlk
theorem getD_set {bs : List Blk} {i j : Nat} {b : Blk} (hi : i < bs.length) : (bs.set i b).getD j Blk.zero = if j = i then b else bs.getD j Blk.zero := by
 rw [List.getD_eq_getElem?_getD, List.getD_eq_getElem?_getD, List.getElem?_set]
 by_cases h : i = j
 · subst h; simp [hi]
 · rw [if_neg h, if_neg (fun e => h e.symm)]
theorem getD_set_ne {bs : List Blk} {i j : Nat} {b : Blk} (h : j ≠ i) : (bs.set i b).getD j Blk.zero = bs.getD j Blk.zero := by
 rw [List.getD_eq_getElem?_getD, List.getD_eq_getElem?_getD, List.getElem?_set, if_neg (fun e => h e.symm)]

def dataAt (bs : List Blk) (x : Int) : Prop := x = -1 ∨ ∃ j : Nat, x = (j : Int) ∧ j < bs.length ∧ (bs.getD j Blk.zero).kind = 4
def indexAt (bs : List Blk) (x : Int) : Prop := x = -1 ∨ ∃ (m : Nat) (l : List Int), x = (m : Int) ∧ m < bs.length ∧ takeIndex (bs.getD m Blk.zero) = some l ∧ ∀ y ∈ l, dataAt bs y
structure NodeOk (bs : List Blk) (n : Nd) : Prop where
 direct : ∀ x ∈ n.direct, dataAt bs x
 index : indexAt bs n.index
theorem takeIndex_kind {b : Blk} {l : List Int} (h : takeIndex b = some l) : b.kind = 5 := by
 unfold takeIndex at h
 split at h
 · rename_i h2
   unfold putIndex at h2
   split at h2
   · have := congrArg (fun p : Blk × Bool => p.1.kind) h2
     simp only [Blk.of_kind] at this; omega
   · cases h2
 · cases h

theorem used_getD (bs : List Blk) (j : Nat) (hj : j < bs.length) : (used bs).getD j false = usedUpto bs bs.length j := by
 show (bmap bs.length (usedUpto bs bs.length)).getD j false = _
 exact bmap_get _ _ _ hj
theorem dataAt_set {bs : List Blk} {i : Nat} {b : Blk} {x : Int} (h : dataAt bs x) (hx : x ≠ (i : Int) ∨ b.kind = 4) : dataAt (bs.set i b) x := by
 rcases h with h | ⟨j, rfl, hj, hk⟩
 · exact .inl h
 · right
   refine ⟨j, rfl, by rw [List.length_set]; exact hj, ?_⟩
   by_cases e : j = i
   · subst e
     rw [getD_set hj, if_pos rfl]
     rcases hx with hx | hx
     · exact absurd rfl hx
     · exact hx
   · rw [getD_set_ne e]; exact hk
theorem dataAt_kind {bs : List Blk} {i : Nat} {x : Int} (h : dataAt bs x) (hk : (bs.getD i Blk.zero).kind ≠ 4) : x ≠ (i : Int) := by
 rcases h with h | ⟨j, rfl, _, hj⟩
 · omega
 · intro e
   have : j = i := by omega
   subst this; exact hk hj
theorem NodeOk.set {bs : List Blk} {n : Nd} (h : NodeOk bs n) {i : Nat} {b : Blk} (h4 : (bs.getD i Blk.zero).kind ≠ 4) (h5 : (bs.getD i Blk.zero).kind ≠ 5) : NodeOk (bs.set i b) n := by
 refine ⟨fun x hx => dataAt_set (h.direct x hx) (.inl (dataAt_kind (h.direct x hx) h4)), ?_⟩
 rcases h.index with h1 | ⟨m, l, h1, h2, h3, h6⟩
 · exact .inl h1
 · right
   have hm : m ≠ i := fun e => by subst e; exact h5 (takeIndex_kind h3)
   exact ⟨m, l, h1, by rw [List.length_set]; exact h2, by rw [getD_set_ne hm]; exact h3, fun y hy => dataAt_set (h6 y hy) (.inl (dataAt_kind (h6 y hy) h4))⟩
theorem putNode_ok {kind : Int} {n : Nd} (h : mayNode kind n = true) : (putNode kind n).1.kind = kind := by
 unfold putNode; rw [if_pos h, Blk.of_kind]
theorem ats_append (l l' : List Int) : ats (l ++ l') = ats l ++ ats l' := by simp [ats]
theorem ats_split {l : List Int} {i : Nat} (h : i < l.length) : ats l = ats (l.take i) ++ high (l.getD i 0 + 1).toNat 2 ++ ats (l.drop (i + 1)) := by
 rw [← ats_succ h, ← ats_append, List.take_append_drop]
theorem take_putIndex {l : List Int} (h : l.length = 16) (h2 : placesOk l = true) : takeIndex (putIndex l).1 = some l := by
 have hp : putIndex l = (Blk.of 5 (ats l), true) := by unfold putIndex; rw [if_pos ⟨h, h2⟩]
 have hi : indexOf (Blk.of 5 (ats l)) = l := by
  obtain ⟨p, hpad⟩ := fill56_pad (ats l) (by rw [ats_length]; omega)
  apply List.ext_getElem
  · simp [indexOf, h]
  · intro i h1 h3
    have hb := placesOk_bounds h2 i h3
    have := sub_of (Blk.of 5 (ats l)) (2 * i) 2 (l.getD i 0 + 1).toNat (ats (l.take i)) (ats (l.drop (i + 1)) ++ p) (by rw [Blk.of_body, hpad, ats_split h3, List.append_assoc _ _ p]) (by rw [ats_length, List.length_take]; omega) (by omega)
    simp only [indexOf, List.getElem_map, List.getElem_range, this]
    have e : l.getD i 0 = l[i] := by rw [List.getD_eq_getElem?_getD, List.getElem?_eq_getElem h3]; rfl
    rw [e] at hb ⊢
    omega
 unfold takeIndex
 rw [hp, hi, if_pos hp]

end
section
open Go.RowKit
attribute [local go_sem] hasBlk
theorem placesOk_iff2 {l : List Int} : placesOk l = true ↔ ∀ k, k < l.length → (l.getD k 0 = -1 ∨ (okAt (l.getD k 0) = true ∧ ∀ j, j < k → l.getD j 0 ≠ l.getD k 0)) := by
 rw [placesOk_iff]
 constructor
 · intro h k hk
   have := h k hk
   by_cases h1 : l.getD k 0 = -1
   · exact .inl h1
   · right
     have h0 : (l.getD k 0 == -1) = false := ne_beq h1
     refine ⟨?_, fun j hj e => ?_⟩
     · cases ho : okAt (l.getD k 0)
       · rw [okNew_bad h0 ho] at this; cases this
       · rfl
     · rw [okNew_twice h0 hj (Nat.le_of_lt hk) e] at this; cases this
 · intro h k hk
   rcases h k hk with h1 | ⟨h1, h2⟩
   · rw [h1]; exact okNew_none _
   · exact okNew_good (Nat.le_of_lt hk) h1 h2
theorem getD_set_int {l : List Int} {i k : Nat} {x : Int} (hi : i < l.length) : (l.set i x).getD k 0 = if k = i then x else l.getD k 0 := by
 rw [List.getD_eq_getElem?_getD, List.getD_eq_getElem?_getD, List.getElem?_set]
 by_cases h : i = k
 · subst h; simp [hi]
 · rw [if_neg h, if_neg (fun e => h e.symm)]
theorem placesOk_set {l : List Int} {i : Nat} {x : Int} (h : placesOk l = true) (hi : i < l.length) (hx : okAt x = true) (hn : ∀ k, k < l.length → l.getD k 0 ≠ x) : placesOk (l.set i x) = true := by
 rw [placesOk_iff2] at h ⊢
 intro k hk
 rw [List.length_set] at hk
 by_cases e : k = i
 · subst e
   right
   rw [getD_set_int hi, if_pos rfl]
   exact ⟨hx, fun j hj => by rw [getD_set_int hi, if_neg (by omega)]; exact hn j (by omega)⟩
 · rw [getD_set_int hi, if_neg e]
   rcases h k hk with h1 | ⟨h1, h2⟩
   · exact .inl h1
   · right
     refine ⟨h1, fun j hj => ?_⟩
     rw [getD_set_int hi]
     by_cases e2 : j = i
     · rw [if_pos e2]; exact fun e3 => hn k hk e3.symm
     · rw [if_neg e2]; exact h2 j hj
theorem placesOk_unset {l : List Int} {i : Nat} (h : placesOk l = true) (hi : i < l.length) : placesOk (l.set i (-1)) = true := by
 rw [placesOk_iff2] at h ⊢
 intro k hk
 rw [List.length_set] at hk
 by_cases e : k = i
 · subst e
   left
   rw [getD_set_int hi, if_pos rfl]
 · rw [getD_set_int hi, if_neg e]
   rcases h k hk with h1 | ⟨h1, h2⟩
   · exact .inl h1
   · right
     refine ⟨h1, fun j hj => ?_⟩
     rw [getD_set_int hi]
     by_cases e2 : j = i
     · rw [if_pos e2]
       intro e3
       rw [← e3] at h1
       exact absurd h1 (by decide)
     · rw [if_neg e2]; exact h2 j hj
theorem setDirect_places (n : Nd) {k : Nat} (h : k < 4) (x : Int) : (n.setDirect k x).places = n.places.set k x := by
 match k, h with
 | 0, _ => rfl
 | 1, _ => rfl
 | 2, _ => rfl
 | 3, _ => rfl
theorem setDirect_direct (n : Nd) {k : Nat} (h : k < 4) (x : Int) : (n.setDirect k x).direct = n.direct.set k x := by
 match k, h with
 | 0, _ => rfl
 | 1, _ => rfl
 | 2, _ => rfl
 | 3, _ => rfl
theorem setDirect_index (n : Nd) (k : Nat) (x : Int) : (n.setDirect k x).index = n.index := by
 unfold Nd.setDirect; split <;> rfl
theorem mayNode_fileP {n : Nd} : mayNode 1 n = true ↔ 1 ≤ n.gen ∧ 0 ≤ n.links ∧ n.links ≤ 1000 ∧ placesOk n.places = true ∧ 0 ≤ n.size ∧ n.size ≤ 1120 ∧ n.target.data.toList.isEmpty = true := by
 simp [mayNode, kindOk, and_assoc]
theorem mayNode_direct {n : Nd} (h : mayNode 1 n = true) {k : Nat} (hk : k < 4) {x : Int} (hx : placesOk (n.places.set k x) = true) : mayNode 1 (n.setDirect k x) = true := by
 rw [mayNode_fileP] at h ⊢
 rw [setDirect_places n hk]
 match k, hk with
 | 0, _ => exact ⟨h.1, h.2.1, h.2.2.1, hx, h.2.2.2.2⟩
 | 1, _ => exact ⟨h.1, h.2.1, h.2.2.1, hx, h.2.2.2.2⟩
 | 2, _ => exact ⟨h.1, h.2.1, h.2.2.1, hx, h.2.2.2.2⟩
 | 3, _ => exact ⟨h.1, h.2.1, h.2.2.1, hx, h.2.2.2.2⟩
theorem mayNode_index {n : Nd} (h : mayNode 1 n = true) {x : Int} (hx : placesOk (n.places.set 4 x) = true) : mayNode 1 { n with index := x } = true := by
 rw [mayNode_fileP] at h ⊢
 exact ⟨h.1, h.2.1, h.2.2.1, hx, h.2.2.2.2⟩
theorem mayNode_size {n : Nd} (h : mayNode 1 n = true) {x : Int} (h0 : 0 ≤ x) (h1 : x ≤ 1120) : mayNode 1 { n with size := x } = true := by
 rw [mayNode_fileP] at h ⊢
 exact ⟨h.1, h.2.1, h.2.2.1, h.2.2.2.1, h0, h1, h.2.2.2.2.2.2⟩

structure FileOk (bs : List Blk) (a : Nat) (n : Nd) : Prop where
 lt : a < bs.length
 kind : (bs.getD a Blk.zero).kind = 1
 take : takeNode (bs.getD a Blk.zero) = (n, true)
theorem FileOk.get {bs : List Blk} {a : Nat} {n : Nd} (h : FileOk bs a n) : fileAt bs (a : Int) = (n, true) := by rw [fileAt_in h.lt h.kind, h.take]
theorem FileOk.may {bs : List Blk} {a : Nat} {n : Nd} (h : FileOk bs a n) : mayNode 1 n = true := by
 have := (takeNode_true h.take).2; rwa [h.kind] at this
theorem FileOk.wf {bs : List Blk} {a : Nat} {n : Nd} (h : FileOk bs a n) : n.wf := takeNode_wf h.take
theorem FileOk.set {bs : List Blk} {a j : Nat} {n : Nd} {b : Blk} (h : FileOk bs a n) (hj : a ≠ j) : FileOk (bs.set j b) a n :=
 ⟨by rw [List.length_set]; exact h.lt, by rw [getD_set_ne hj]; exact h.kind, by rw [getD_set_ne hj]; exact h.take⟩
theorem FileOk.put {bs : List Blk} {a : Nat} {n : Nd} (ha : a < bs.length) (hm : mayNode 1 n = true) (hw : n.wf) : FileOk (bs.set a (putNode 1 n).1) a n :=
 ⟨by rw [List.length_set]; exact ha, by rw [getD_set ha, if_pos rfl]; exact putNode_ok hm, by rw [getD_set ha, if_pos rfl]; exact take_putNode hm hw⟩
theorem FileOk.of {bs : List Blk} {a : Int} (h : (fileAt bs a).2 = true) : ∃ j : Nat, a = (j : Int) ∧ FileOk bs j (fileAt bs a).1 := by
 rcases inB_cases bs a with ⟨_, h2⟩ | ⟨_, _, h2⟩ | ⟨j, rfl, hj, _⟩
 · rw [fileAt_out h2] at h; cases h
 · rw [fileAt_out h2] at h; cases h
 · by_cases hk : (bs.getD j Blk.zero).kind = 1
   · rw [fileAt_in hj hk] at h ⊢
     exact ⟨j, rfl, hj, hk, Prod.ext rfl h⟩
   · rw [fileAt_kind hk] at h; cases h
/-! A File's write. -/
end
section
open Go.RowKit

theorem Fl.slot_lo (f : Fl) {k : Nat} (h : k < 4) : f.slot k = f.n.direct.getD k 0 := if_pos h
theorem Fl.slot_hi (f : Fl) {k : Nat} (h : ¬ k < 4) : f.slot k = f.li.getD (k - 4) 0 := if_neg h
theorem Fl.put_lo (f : Fl) {k : Nat} (h : k < 4) (x : Int) : f.put k x = ⟨f.n.setDirect k x, f.li⟩ := if_pos h
theorem Fl.put_hi (f : Fl) {k : Nat} (h : ¬ k < 4) (x : Int) : f.put k x = ⟨f.n, f.li.set (k - 4) x⟩ := if_neg h
theorem Fl.put_slot (f : Fl) {k l : Nat} (h16 : f.li.length = 16) (hk : k < 20) (x : Int) : (f.put k x).slot l = if l = k then x else f.slot l := by
 by_cases hk4 : k < 4
 · rw [f.put_lo hk4]
   by_cases hl4 : l < 4
   · rw [Fl.slot_lo _ hl4, Fl.slot_lo _ hl4]
     show (f.n.setDirect k x).direct.getD l 0 = _
     rw [setDirect_direct _ hk4, getD_set_int (by show k < 4; exact hk4)]
   · rw [Fl.slot_hi _ hl4, Fl.slot_hi _ hl4, if_neg (by omega)]
 · rw [f.put_hi hk4]
   by_cases hl4 : l < 4
   · rw [Fl.slot_lo _ hl4, Fl.slot_lo _ hl4, if_neg (by omega)]
   · rw [Fl.slot_hi _ hl4, Fl.slot_hi _ hl4]
     show (f.li.set (k - 4) x).getD (l - 4) 0 = _
     rw [getD_set_int (by omega)]
     by_cases e : l = k
     · rw [if_pos (by omega), if_pos e]
     · rw [if_neg (by omega), if_neg e]
theorem Fl.put_index (f : Fl) (k : Nat) (x : Int) : (f.put k x).n.index = f.n.index := by
 unfold Fl.put; split
 · exact setDirect_index _ _ _
 · rfl
theorem Fl.put_16 (f : Fl) (k : Nat) (x : Int) : (f.put k x).li.length = f.li.length := by
 unfold Fl.put; split
 · rfl
 · exact List.length_set ..
theorem Fl.put_size (f : Fl) (k : Nat) (x : Int) : (f.put k x).n.size = f.n.size := by
 unfold Fl.put; split
 · show (f.n.setDirect k x).size = _; unfold Nd.setDirect; split <;> rfl
 · rfl
theorem places_lo (n : Nd) {k : Nat} (h : k < 4) : n.places.getD k 0 = n.direct.getD k 0 := by
 match k, h with
 | 0, _ => rfl
 | 1, _ => rfl
 | 2, _ => rfl
 | 3, _ => rfl
theorem getB_at {B : List Blk} {j : Nat} (h : j < B.length) : getB B (j : Int) = B.getD j Blk.zero := by unfold getB; rw [inB_nat h, if_pos rfl, blkD_nat]
theorem getB_no (B : List Blk) : getB B (-1) = Blk.zero := by unfold getB inB; simp
theorem zero_at (i : Nat) : Blk.zero.body.getD i 0 = 0 := by
 unfold Blk.zero
 rw [Blk.of_body]
 unfold fill56
 rw [List.nil_append, List.take_replicate, List.getD_eq_getElem?_getD, List.getElem?_replicate]
 split <;> rfl
theorem dataBlk_at (i : Nat) : dataBlk.body.getD i 0 = 0 := by
 unfold dataBlk
 rw [Blk.of_body]
 unfold fill56
 rw [List.nil_append, List.take_replicate, List.getD_eq_getElem?_getD, List.getElem?_replicate]
 split <;> rfl
theorem dataBlk_kind : dataBlk.kind = 4 := Blk.of_kind _ _
theorem holes_at (k : Nat) (h : k < 16) : holes.getD k 0 = -1 := by
 unfold holes; rw [List.getD_eq_getElem?_getD, List.getElem?_replicate, if_pos h]; rfl
theorem cover_at (b : Blk) (a : Nat) (l : List UInt8) {i : Nat} (h : i < 56) : (b.cover a l).body.getD i 0 = if a ≤ i ∧ i < a + l.length then l.getD (i - a) 0 else b.body.getD i 0 := by
 unfold Blk.cover
 rw [List.getD_eq_getElem?_getD, List.getElem?_map, List.getElem?_range h]; rfl
structure FS (B : List Blk) (f : Fl) (c : Nat → UInt8) : Prop where
 may : mayNode 1 f.n = true
 wf : f.n.wf
 l16 : f.li.length = 16
 lok : placesOk f.li = true
 hol : f.n.index = -1 → f.li = holes
 slot : ∀ k, k < 20 → f.slot k = -1 ∨ ∃ j : Nat, f.slot k = (j : Int) ∧ 3 ≤ j ∧ j < B.length ∧ (B.getD j Blk.zero).kind = 4
 idx : f.n.index = -1 ∨ ∃ j : Nat, f.n.index = (j : Int) ∧ 3 ≤ j ∧ j < B.length
 inj : ∀ k l, k < 20 → l < 20 → f.slot k = f.slot l → f.slot k ≠ -1 → k = l
 ine : ∀ k, k < 20 → f.slot k ≠ -1 → f.slot k ≠ f.n.index
 data : ∀ k, k < 20 → ∀ i, i < 56 → (getB B (f.slot k)).body.getD i 0 = c (k * 56 + i)
theorem FS.congr {B : List Blk} {f : Fl} {c c' : Nat → UInt8} (h : FS B f c) (e : ∀ i, i < 1120 → c i = c' i) : FS B f c' :=
 { h with data := fun k hk i hi => by rw [h.data k hk i hi]; exact e _ (by omega) }
theorem FS.hole {B : List Blk} {f : Fl} {c : Nat → UInt8} (h : FS B f c) {k : Nat} (hk : k < 20) (hs : f.slot k = -1) {i : Nat} (hi : i < 56) : c (k * 56 + i) = 0 := by
 rw [← h.data k hk i hi, hs, getB_no, zero_at]
theorem FS.hi {B : List Blk} {f : Fl} {c : Nat → UInt8} (h : FS B f c) {k : Nat} (hk : k < 20) (h4 : ¬ k < 4) (hs : f.slot k ≠ -1) : f.n.index ≠ -1 := fun e => by
 apply hs
 rw [f.slot_hi h4, h.hol e, holes_at _ (by omega)]
theorem okAt_nat {j : Nat} (h : 3 ≤ j) (h2 : j < 200) : okAt (j : Int) = true := by simp [okAt]; omega
theorem slot_places {f : Fl} {k : Nat} (h : k < 5) : f.n.places.getD k 0 = if k < 4 then f.slot k else f.n.index := by
 by_cases h4 : k < 4
 · rw [if_pos h4, f.slot_lo h4, places_lo _ h4]
 · obtain rfl : k = 4 := by omega
   rfl
theorem FS.add {B : List Blk} {f : Fl} {c : Nat → UInt8} (h : FS B f c) (hB : B.length ≤ 200) {k j : Nat} (hk : k < 20) (h3 : 3 ≤ j) (hj : j < B.length) (hs : ∀ l, l < 20 → f.slot l ≠ (j : Int)) (hi : f.n.index ≠ (j : Int)) (h0 : f.slot k = -1) (h4 : ¬ k < 4 → f.n.index ≠ -1) :
 FS (B.set j dataBlk) (f.put k (j : Int)) c := by
 have hps := fun l => f.put_slot (l := l) h.l16 hk (j : Int)
 have hoj := okAt_nat h3 (by omega)
 have hmay : mayNode 1 (f.put k (j : Int)).n = true := by
  by_cases k4 : k < 4
  · rw [f.put_lo k4]
    refine mayNode_direct h.may k4 (placesOk_set (mayNode_fileP.1 h.may).2.2.2.1 (by show k < 5; omega) hoj fun l hl => ?_)
    have hl5 : l < 5 := hl
    rw [slot_places hl5]
    split
    · exact hs l (by omega)
    · exact hi
  · rw [f.put_hi k4]; exact h.may
 have hwf : (f.put k (j : Int)).n.wf := by
  by_cases k4 : k < 4
  · rw [f.put_lo k4]; exact Nd.setDirect_wf h.wf _ _
  · rw [f.put_hi k4]; exact h.wf
 have hlok : placesOk (f.put k (j : Int)).li = true := by
  by_cases k4 : k < 4
  · rw [f.put_lo k4]; exact h.lok
  · rw [f.put_hi k4]
    refine placesOk_set h.lok (by rw [h.l16]; omega) hoj fun l hl => ?_
    rw [h.l16] at hl
    have := hs (l + 4) (by omega)
    rwa [f.slot_hi (by omega), Nat.add_sub_cancel] at this
 refine ⟨hmay, hwf, by rw [f.put_16]; exact h.l16, hlok, fun e => ?_, fun l hl => ?_, ?_, fun a b ha hb e hn => ?_, fun l hl hn => ?_, fun l hl i hi' => ?_⟩
 · rw [f.put_index] at e
   have k4 : k < 4 := Classical.byContradiction fun k4 => h4 k4 e
   rw [f.put_lo k4]; exact h.hol e
 · rw [hps l]
   by_cases e : l = k
   · rw [if_pos e]
     refine .inr ⟨j, rfl, h3, by rw [List.length_set]; exact hj, ?_⟩
     rw [getD_set hj, if_pos rfl, dataBlk_kind]
   · rw [if_neg e]
     refine (h.slot l hl).imp id ?_
     rintro ⟨q, hq, q3, ql, qk⟩
     refine ⟨q, hq, q3, by rw [List.length_set]; exact ql, ?_⟩
     rw [getD_set_ne (fun e => hs l hl (by rw [hq, e]))]; exact qk
 · rw [f.put_index, List.length_set]; exact h.idx
 · rw [hps a, hps b] at e
   rw [hps a] at hn
   by_cases ea : a = k
   · rw [if_pos ea] at e
     by_cases eb : b = k
     · rw [ea, eb]
     · rw [if_neg eb] at e; exact absurd e.symm (hs b hb)
   · rw [if_neg ea] at e hn
     by_cases eb : b = k
     · rw [if_pos eb] at e; exact absurd e (hs a ha)
     · rw [if_neg eb] at e; exact h.inj a b ha hb e hn
 · rw [hps l] at hn ⊢
   rw [f.put_index]
   by_cases e : l = k
   · rw [if_pos e]; exact fun e => hi e.symm
   · rw [if_neg e] at hn ⊢; exact h.ine l hl hn
 · rw [hps l]
   by_cases e : l = k
   · subst e
     rw [if_pos rfl, getB_at (by rw [List.length_set]; exact hj), getD_set hj, if_pos rfl, dataBlk_at, h.hole hk h0 hi']
   · rw [if_neg e, ← h.data l hl i hi']
     rcases h.slot l hl with hq | ⟨q, hq, q3, ql, qk⟩
     · rw [hq, getB_no, getB_no]
     · rw [hq, getB_at (by rw [List.length_set]; exact ql), getB_at ql, getD_set_ne (fun e => hs l hl (by rw [hq, e]))]
theorem FS.index {B : List Blk} {f : Fl} {c : Nat → UInt8} (h : FS B f c) (hB : B.length ≤ 200) {j : Nat} (h3 : 3 ≤ j) (hj : j < B.length) (hs : ∀ l, l < 20 → f.slot l ≠ (j : Int)) : FS B ⟨{ f.n with index := (j : Int) }, f.li⟩ c := by
 have hsl : ∀ k, Fl.slot ⟨{ f.n with index := (j : Int) }, f.li⟩ k = f.slot k := fun k => rfl
 refine ⟨mayNode_index h.may ?_, ⟨h.wf.1, h.wf.2, h.wf.3⟩, h.l16, h.lok, fun e => ?_, fun k hk => h.slot k hk, .inr ⟨j, rfl, h3, hj⟩, h.inj, fun k hk _ => hs k hk, h.data⟩
 · by_cases e : f.n.index = (j : Int)
   · have : f.n.places.set 4 (j : Int) = f.n.places := by rw [← e]; rfl
     rw [this]; exact (mayNode_fileP.1 h.may).2.2.2.1
   · refine placesOk_set (mayNode_fileP.1 h.may).2.2.2.1 (by show 4 < 5; omega) (okAt_nat h3 (by omega)) fun l hl => ?_
     have hl5 : l < 5 := hl
     rw [slot_places hl5]
     split
     · exact hs l (by omega)
     · exact e
 · have e' : (j : Int) = -1 := e
   omega
theorem FS.cover {B : List Blk} {f : Fl} {c : Nat → UInt8} (h : FS B f c) {k j : Nat} (hk : k < 20) (hs : f.slot k = (j : Int)) (a : Nat) (l : List UInt8) (ha : a + l.length ≤ 56) :
 FS (B.set j ((getB B (j : Int)).cover a l)) f (fun i => if k * 56 + a ≤ i ∧ i < k * 56 + a + l.length then l.getD (i - (k * 56 + a)) 0 else c i) := by
 have hn : f.slot k ≠ -1 := by rw [hs]; omega
 obtain ⟨j', hj', j3, jl, jk⟩ := (h.slot k hk).resolve_left hn
 obtain rfl : j = j' := by omega
 have hkind : ((getB B (j : Int)).cover a l).kind = 4 := by show (getB B (j : Int)).kind = 4; rw [getB_at jl]; exact jk
 refine { h with slot := fun m hm => ?_, idx := by rw [List.length_set]; exact h.idx, data := fun m hm i hi => ?_ }
 · refine (h.slot m hm).imp id ?_
   rintro ⟨q, hq, q3, ql, qk⟩
   refine ⟨q, hq, q3, by rw [List.length_set]; exact ql, ?_⟩
   rw [getD_set jl]
   split
   · exact hkind
   · exact qk
 · have hd := h.data m hm i hi
   by_cases e : m = k
   · subst e
     rw [hs, getB_at (by rw [List.length_set]; exact jl), getD_set jl, if_pos rfl, cover_at _ _ _ hi]
     by_cases hc : a ≤ i ∧ i < a + l.length
     · rw [if_pos hc, if_pos (by omega)]; congr 1; omega
     · rw [if_neg hc, if_neg (by omega), ← hd, hs]
   · rw [if_neg (by
      intro hc
      apply e
      omega)]
     rw [← hd]
     rcases h.slot m hm with hq | ⟨q, hq, q3, ql, qk⟩
     · rw [hq, getB_no, getB_no]
     · rw [hq, getB_at (by rw [List.length_set]; exact ql), getB_at ql, getD_set_ne (fun e2 => e (h.inj m k hm hk (by rw [hq, hs, e2]) (by rw [hq]; omega)))]
end
section
open Go.RowKit

def Fl.own (f : Fl) (j : Nat) : Prop := f.n.index = (j : Int) ∨ ∃ k, k < 20 ∧ f.slot k = (j : Int)
structure FMid (B : List Blk) (f0 f : Fl) (c : Nat → UInt8) : Prop where
 len : 4 ≤ B.length ∧ B.length ≤ 200
 may0 : mayNode 1 f0.n = true
 wf0 : f0.n.wf
 l0 : f0.li.length = 16
 lok0 : placesOk f0.li = true
 hol0 : f0.n.index = -1 → f0.li = holes
 nodeB : B.getD 1 Blk.zero = (putNode 1 f0.n).1
 idxB : f0.n.index = -1 ∨ ∃ j : Nat, f0.n.index = (j : Int) ∧ 3 ≤ j ∧ j < B.length ∧ B.getD j Blk.zero = (putIndex f0.li).1
 k0 : (B.getD 0 Blk.zero).kind = 7
 k2 : (B.getD 2 Blk.zero).kind = 6
 ks : ∀ j, 3 ≤ j → j < B.length → (B.getD j Blk.zero).kind = 0 ∨ (B.getD j Blk.zero).kind = 4 ∨ (B.getD j Blk.zero).kind = 5
 cur : FS B f c
abbrev FRest (B : List Blk) (f : Fl) (c : Nat → UInt8) : Prop := FMid B f f c
theorem getB_idx {B : List Blk} {f0 : Fl} (hn : f0.n.index ≠ -1) (h : f0.n.index = -1 ∨ ∃ j : Nat, f0.n.index = (j : Int) ∧ 3 ≤ j ∧ j < B.length ∧ B.getD j Blk.zero = (putIndex f0.li).1) : getB B f0.n.index = (putIndex f0.li).1 := by
 obtain ⟨j, hj, _, jl, hb⟩ := h.resolve_left hn
 rw [hj, getB_at jl, hb]
theorem mem_getD {l : List Int} {x : Int} : x ∈ l ↔ ∃ k, k < l.length ∧ l.getD k 0 = x := by
 rw [List.mem_iff_getElem?]
 constructor
 · rintro ⟨k, hk⟩
   exact ⟨k, (List.getElem?_eq_some_iff.1 hk).1, by rw [List.getD_eq_getElem?_getD, hk]; rfl⟩
 · rintro ⟨k, hk, e⟩
   refine ⟨k, ?_⟩
   rw [List.getD_eq_getElem?_getD, List.getElem?_eq_getElem hk] at e
   rw [List.getElem?_eq_getElem hk]
   exact congrArg some e
theorem own_iff {f : Fl} (h16 : f.li.length = 16) (j : Nat) : f.own j ↔ (j : Int) ∈ f.n.places ∨ (j : Int) ∈ f.li := by
 rw [mem_getD, mem_getD]
 constructor
 · rintro (e | ⟨k, hk, e⟩)
   · exact .inl ⟨4, by show 4 < 5; omega, e⟩
   · by_cases h4 : k < 4
     · exact .inl ⟨k, by show k < 5; omega, by rw [places_lo _ h4, ← f.slot_lo h4]; exact e⟩
     · exact .inr ⟨k - 4, by omega, by rw [← f.slot_hi h4]; exact e⟩
 · rintro (⟨k, hk, e⟩ | ⟨k, hk, e⟩)
   · have hk5 : k < 5 := hk
     rw [slot_places hk5] at e
     by_cases h4 : k < 4
     · rw [if_pos h4] at e; exact .inr ⟨k, by omega, e⟩
     · rw [if_neg h4] at e; exact .inl e
   · refine .inr ⟨k + 4, by omega, ?_⟩
     rw [f.slot_hi (by omega), Nat.add_sub_cancel]; exact e
theorem FMid.use {B : List Blk} {f0 f : Fl} {c : Nat → UInt8} (h : FMid B f0 f c) (T : ML) {j : Nat} (hj : j < B.length) : inUse B T (j : Int) ↔ j < 3 ∨ (j : Int) ∈ keysL T ∨ f0.own j := by
 have hk1 : (B.getD 1 Blk.zero).kind = 1 := by rw [h.nodeB]; exact putNode_ok h.may0
 have ht : takeNode (B.getD 1 Blk.zero) = (f0.n, true) := by rw [h.nodeB]; exact take_putNode h.may0 h.wf0
 have hN : (j : Int) ∈ namesT B (B.getD 1 Blk.zero) ↔ f0.own j := by
  unfold namesT
  rw [ht, if_pos rfl, own_iff h.l0, List.mem_append]
  by_cases hi : f0.n.index = -1
  · rw [if_pos hi, h.hol0 hi]
    refine or_congr_right ⟨fun e => by simp at e, fun e => ?_⟩
    unfold holes at e
    rw [List.mem_replicate] at e
    omega
  · rw [if_neg hi, getB_idx hi h.idxB, take_putIndex h.l0 h.lok0]; rfl
 unfold inUse
 constructor
 · rintro (e | e | ⟨i, hi, e⟩)
   · exact .inl (by omega)
   · exact .inr (.inl e)
   · by_cases i0 : i = 0
     · subst i0; exact absurd e (useBy_none (kd := 7) rfl h.k0 (by decide))
     · by_cases i1 : i = 1
       · subst i1
         rcases (useBy_file rfl hk1).1 e with e | e
         · exact .inr (.inr (hN.1 e))
         · exact .inl (by omega)
       · by_cases i2 : i = 2
         · subst i2
           have := (useBy_plain rfl (.inr (.inr h.k2))).1 e
           exact .inl (by omega)
         · exfalso
           rcases h.ks i (by omega) hi with e' | e' | e'
           · exact useBy_none rfl e' (by decide) e
           · exact useBy_none rfl e' (by decide) e
           · exact useBy_none rfl e' (by decide) e
 · rintro (e | e | e)
   · by_cases j0 : j = 0
     · exact .inl (by omega)
     · by_cases j1 : j = 1
       · subst j1; exact .inr (.inr ⟨1, hj, (useBy_file rfl hk1).2 (.inr rfl)⟩)
       · obtain rfl : j = 2 := by omega
         exact .inr (.inr ⟨2, hj, (useBy_plain rfl (.inr (.inr h.k2))).2 rfl⟩)
   · exact .inr (.inl e)
   · exact .inr (.inr ⟨1, by have := h.len.1; omega, (useBy_file rfl hk1).2 (.inl (hN.2 e))⟩)
def Fl.blks (f : Fl) : List Nat := (if f.n.index = -1 then [] else [f.n.index.toNat]) ++ ((List.range 20).filter fun k => f.slot k != -1).map fun k => (f.slot k).toNat
def Fl.cnt (f : Fl) : Nat := (if f.n.index = -1 then 0 else 1) + ((List.range 20).filter fun k => f.slot k != -1).length
theorem Fl.blks_length (f : Fl) : f.blks.length = f.cnt := by
 unfold Fl.blks Fl.cnt
 rw [List.length_append, List.length_map]
 split <;> rfl
theorem FS.mem_blks {B : List Blk} {f : Fl} {c : Nat → UInt8} (h : FS B f c) (j : Nat) : j ∈ f.blks ↔ f.own j := by
 unfold Fl.blks Fl.own
 rw [List.mem_append, List.mem_map]
 constructor
 · rintro (e | ⟨k, hk, e⟩)
   · left
     split at e
     · simp at e
     · rename_i hn
       obtain ⟨q, hq, _⟩ := h.idx.resolve_left hn
       rw [List.mem_singleton, hq] at e
       rw [hq, e]; simp
   · right
     rw [List.mem_filter, List.mem_range] at hk
     have hn : f.slot k ≠ -1 := by have := hk.2; simpa using this
     obtain ⟨q, hq, _⟩ := (h.slot k hk.1).resolve_left hn
     exact ⟨k, hk.1, by rw [hq] at e ⊢; rw [← e]; simp⟩
 · rintro (e | ⟨k, hk, e⟩)
   · left; rw [if_neg (by rw [e]; omega), e]; simp
   · right
     exact ⟨k, by rw [List.mem_filter, List.mem_range]; exact ⟨hk, by rw [e]; exact ne_bne (by omega)⟩, by rw [e]; simp⟩
theorem FS.own_ge {B : List Blk} {f : Fl} {c : Nat → UInt8} (h : FS B f c) {j : Nat} (hj : f.own j) : 3 ≤ j ∧ j < B.length := by
 rcases hj with e | ⟨k, hk, e⟩
 · obtain ⟨q, hq, q3, ql⟩ := h.idx.resolve_left (by rw [e]; omega)
   obtain rfl : j = q := by omega
   exact ⟨q3, ql⟩
 · obtain ⟨q, hq, q3, ql, _⟩ := (h.slot k hk).resolve_left (by rw [e]; omega)
   obtain rfl : j = q := by omega
   exact ⟨q3, ql⟩
theorem FS.nodup {B : List Blk} {f : Fl} {c : Nat → UInt8} (h : FS B f c) : f.blks.Nodup := by
 unfold Fl.blks
 rw [List.nodup_append]
 refine ⟨by split <;> simp, ?_, ?_⟩
 · rw [List.nodup_iff_pairwise_ne, List.pairwise_map]
   refine List.Pairwise.imp_of_mem ?_ (List.Pairwise.filter _ List.nodup_range)
   intro a b ha hb hab e
   rw [List.mem_filter, List.mem_range] at ha hb
   have na : f.slot a ≠ -1 := by have := ha.2; simpa using this
   have nb : f.slot b ≠ -1 := by have := hb.2; simpa using this
   obtain ⟨q, hq, _⟩ := (h.slot a ha.1).resolve_left na
   obtain ⟨r, hr, _⟩ := (h.slot b hb.1).resolve_left nb
   exact hab (h.inj a b ha.1 hb.1 (by rw [hq, hr] at e ⊢; simp at e; omega) na)
 · intro x hx y hy e
   split at hx
   · simp at hx
   · rename_i hn
     rw [List.mem_singleton] at hx
     rw [List.mem_map] at hy
     obtain ⟨k, hk, hy⟩ := hy
     rw [List.mem_filter, List.mem_range] at hk
     have nk : f.slot k ≠ -1 := by have := hk.2; simpa using this
     obtain ⟨q, hq, _⟩ := (h.slot k hk.1).resolve_left nk
     obtain ⟨r, hr, _⟩ := h.idx.resolve_left hn
     exact h.ine k hk.1 nk (by rw [hr] at hx; rw [hq] at hy; rw [hq, hr]; omega)
theorem left_of {B : List Blk} {T : ML} {f : Fl} {c : Nat → UInt8} (h : FS B f c) (hB : 4 ≤ B.length) (h0 : ∀ k ∈ keysL T, 0 ≤ k) (hu : ∀ j, j < B.length → (inUse B T (j : Int) ↔ j < 3 ∨ f.own j)) : leftT B T + f.cnt + 3 = B.length := by
 have hs := used_setsT B T h0
 have hP : (0 :: 1 :: 2 :: f.blks).Nodup := by
  have hg := fun j (hj : j ∈ f.blks) => (h.own_ge ((h.mem_blks j).1 hj)).1
  simp only [List.nodup_cons, List.mem_cons, not_or]
  exact ⟨⟨by omega, by omega, fun e => absurd (hg 0 e) (by omega)⟩, ⟨by omega, fun e => absurd (hg 1 e) (by omega)⟩, fun e => absurd (hg 2 e) (by omega), h.nodup⟩
 have hl : ∀ j ∈ 0 :: 1 :: 2 :: f.blks, j < B.length := fun j hj => by
  simp only [List.mem_cons] at hj
  rcases hj with e | e | e | e
  · omega
  · omega
  · omega
  · exact (h.own_ge ((h.mem_blks j).1 e)).2
 have hS : Sets (usedT B T) B.length (fun x => ∃ j ∈ 0 :: 1 :: 2 :: f.blks, (j : Int) = x) := hs.iff fun j hj => by
  rw [hu j hj]
  constructor
  · rintro (e | e)
    · refine ⟨j, ?_, rfl⟩
      simp only [List.mem_cons]; omega
    · exact ⟨j, by simp only [List.mem_cons]; exact .inr (.inr (.inr ((h.mem_blks j).2 e))), rfl⟩
  · rintro ⟨q, hq, e⟩
    obtain rfl : q = j := by omega
    simp only [List.mem_cons] at hq
    rcases hq with e | e | e | e
    · exact .inl (by omega)
    · exact .inl (by omega)
    · exact .inl (by omega)
    · exact .inr ((h.mem_blks _).1 e)
 have h1 := count_sets _ hP hl hS
 have h2 := count_false_true (usedT B T)
 rw [hs.len] at h2
 simp only [List.length_cons, f.blks_length] at h1
 unfold leftT
 omega
end
end Go.Proofs.YtbbnejehglonjaaGreat
