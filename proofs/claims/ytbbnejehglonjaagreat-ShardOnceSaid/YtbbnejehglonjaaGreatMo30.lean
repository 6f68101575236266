/- DERIVED. Contracts and laws that the proofs of this seat share, part 30 of 36: TxJ ShQ TxI ShC. -/
import Derived.Test.YtbbnejehglonjaaGreatMo00
import Derived.Test.YtbbnejehglonjaaGreatMo01
import Derived.Test.YtbbnejehglonjaaGreatMo14
import Derived.Test.YtbbnejehglonjaaGreatMo25
import Derived.Test.YtbbnejehglonjaaGreatMo26
import Derived.Test.YtbbnejehglonjaaGreatMo27
import Derived.Test.YtbbnejehglonjaaGreatMo29
/- DERIVED. What a commit leaves is what the change has. Plain Lean. -/
namespace Go.Proofs.YtbbnejehglonjaaGreat
open Go.RowKit

theorem overlay_fn (f : Int → Blk) (z : Blk) (ks : List Int) : ∀ (bs : List Blk), (∀ k ∈ ks, 0 ≤ k) → ∀ j : Nat, j < bs.length → (overlay bs (ks.map fun k => (⟨k, f k⟩ : Wr))).getD j z = if (j : Int) ∈ ks then f (j : Int) else bs.getD j z := by
 induction ks with
 | nil => intro bs _ j _; simp [overlay]
 | cons k ks ih =>
   intro bs h0 j hj
   have hk := h0 k List.mem_cons_self
   have h1 : overlay bs ((k :: ks).map fun k => (⟨k, f k⟩ : Wr)) = overlay (bs.set k.toNat (f k)) (ks.map fun k => (⟨k, f k⟩ : Wr)) := rfl
   rw [h1, ih (bs.set k.toNat (f k)) (fun x hx => h0 x (List.mem_cons_of_mem _ hx)) j (by rw [List.length_set]; exact hj)]
   by_cases hm : (j : Int) ∈ ks
   · rw [if_pos hm, if_pos (List.mem_cons_of_mem _ hm)]
   · rw [if_neg hm]
     by_cases he : k = (j : Int)
     · subst he
       rw [if_pos List.mem_cons_self, Int.toNat_natCast, List.getD_eq_getElem?_getD, List.getElem?_set, if_pos rfl, if_pos hj]; rfl
     · rw [if_neg (by simp only [List.mem_cons, not_or]; exact ⟨fun e => he e.symm, hm⟩), List.getD_eq_getElem?_getD, List.getElem?_set, if_neg (by omega), ← List.getD_eq_getElem?_getD]
theorem lkB_iff {L : PL} {k : Int} : (lkB L k).isSome = true ↔ k ∈ L.map (·.1) := by
 have h1 := keys_lk (L := plM L) k
 rw [plM_lk, Option.isSome_map, plM_keys] at h1
 rw [h1]; simp
/-- What a commit leaves. -/
theorem overlay_txV {L : PL} {bs : List Blk} (h0 : ∀ k ∈ L.map (·.1), 0 ≤ k) : overlay bs (writesOf L) = txV L bs := by
 apply List.ext_getElem?
 intro j
 have hl1 : (overlay bs (writesOf L)).length = bs.length := overlay_length _ _
 have hl2 := txV_length L bs
 by_cases hj : j < bs.length
 · have hm : (j : Int) ∈ sortedKeys (plM L) ↔ (j : Int) ∈ L.map (·.1) := by rw [sortedKeys_mem, plM_keys]
   have h1 := overlay_fn (fun k => (lkB L k).getD Blk.zero) Blk.zero (sortedKeys (plM L)) bs (fun k hk => h0 k (by rwa [sortedKeys_mem, plM_keys] at hk)) j hj
   have h2 := txV_getD L bs j hj
   have h3 : (overlay bs (writesOf L)).getD j Blk.zero = (txV L bs).getD j Blk.zero := by
    rw [h2]
    refine Eq.trans h1 ?_
    by_cases hk : (j : Int) ∈ L.map (·.1)
    · rw [if_pos (hm.2 hk)]
      obtain ⟨b, hb⟩ := Option.isSome_iff_exists.1 (lkB_iff.2 hk)
      rw [hb]; rfl
    · rw [if_neg (fun e => hk (hm.1 e))]
      have : lkB L (j : Int) = none := by
       cases hb : lkB L (j : Int) with
       | none => rfl
       | some b => exact absurd (lkB_iff.1 (by rw [hb]; rfl)) hk
      rw [this]; rfl
   rw [List.getD_eq_getElem?_getD, List.getD_eq_getElem?_getD, List.getElem?_eq_getElem (by omega), List.getElem?_eq_getElem (by omega)] at h3
   rw [List.getElem?_eq_getElem (by omega), List.getElem?_eq_getElem (by omega)]
   exact congrArg some h3
 · rw [List.getElem?_eq_none (by omega), List.getElem?_eq_none (by omega)]
theorem roomV_bs (reg : Nat) (s : Sh) (n : Nat) (st : VSt) : (roomV reg s n st).bs = st.bs := by unfold roomV; split <;> rfl
theorem txV_nil (bs : List Blk) : txV [] bs = bs := by
 apply List.ext_getElem?
 intro j
 by_cases hj : j < bs.length
 · have := txV_getD [] bs j hj
   rw [List.getD_eq_getElem?_getD, List.getElem?_eq_getElem (by rw [txV_length]; exact hj)] at this
   rw [List.getElem?_eq_getElem (by rw [txV_length]; exact hj), List.getElem?_eq_getElem hj]
   have e : (lkB [] (j : Int)).getD (bs.getD j Blk.zero) = bs[j] := by rw [show lkB [] (j : Int) = none from rfl, List.getD_eq_getElem?_getD, List.getElem?_eq_getElem hj]; rfl
   rw [e] at this
   exact congrArg some this
 · rw [List.getElem?_eq_none (by rw [txV_length]; omega), List.getElem?_eq_none (by omega)]
/-- The store's blocks behind a commit are those that the change had. -/
theorem commitV_bs {reg : Nat} {s : Sh} {L : PL} {st : VSt} (h0 : ∀ k ∈ L.map (·.1), 0 ≤ k) : (commitV reg s L st).bs = txV L st.bs := by
 unfold commitV
 split
 · rename_i h
   rw [List.isEmpty_iff.1 h, txV_nil]
 · unfold changeV writeV
   show overlay (roomV reg s _ st).bs _ = _
   rw [roomV_bs, overlay_txV h0]
end Go.Proofs.YtbbnejehglonjaaGreat

/- DERIVED. Plain: names among blocks: added, taken out, found, listed. No program in sight. -/
namespace Go.Proofs.YtbbnejehglonjaaGreat
open Go.RowKit

theorem mem_ents {B : List Blk} {n : Nm} {i : Nat} : (n, i) ∈ ents B ↔ i < B.length ∧ takeEntry (B.getD i Blk.zero) = some n := by
 unfold ents
 rw [List.mem_filterMap]
 constructor
 · rintro ⟨j, hj, he⟩
   rw [List.mem_range] at hj
   cases h : takeEntry (B.getD j Blk.zero) with
   | none => rw [h] at he; cases he
   | some m =>
     rw [h] at he
     simp only [Option.map_some, Option.some.injEq, Prod.mk.injEq] at he
     obtain ⟨rfl, rfl⟩ := he
     exact ⟨hj, h⟩
 · rintro ⟨hi, h⟩
   exact ⟨i, List.mem_range.2 hi, by rw [h]; rfl⟩
theorem ents_pairwise (B : List Blk) : (ents B).Pairwise fun p q => p.2 < q.2 := by
 unfold ents
 rw [List.pairwise_filterMap]
 refine List.Pairwise.imp ?_ (List.pairwise_lt_range (n := B.length))
 intro i j hij p hp q hq
 cases h : takeEntry (B.getD i Blk.zero) with
 | none => rw [h] at hp; cases hp
 | some a =>
   cases h' : takeEntry (B.getD j Blk.zero) with
   | none => rw [h'] at hq; cases hq
   | some b =>
     rw [h] at hp; rw [h'] at hq
     simp only [Option.map_some, Option.some.injEq] at hp hq
     subst hp hq
     exact hij
theorem ents_mem_set {B : List Blk} {k : Nat} {x : Blk} (hk : k < B.length) {n : Nm} {i : Nat} : (n, i) ∈ ents (B.set k x) ↔ (i = k ∧ takeEntry x = some n) ∨ (i ≠ k ∧ (n, i) ∈ ents B) := by
 rw [mem_ents, mem_ents, List.length_set]
 have e : (B.set k x).getD i Blk.zero = if i = k then x else B.getD i Blk.zero := by
  rw [List.getD_eq_getElem?_getD, List.getD_eq_getElem?_getD, List.getElem?_set]
  by_cases h : k = i
  · subst h; simp [hk]
  · rw [if_neg h, if_neg (fun e => h e.symm)]
 rw [e]
 by_cases h : i = k
 · subst h; rw [if_pos rfl]; simp [hk]
 · rw [if_neg h]; simp [h]
theorem entsTo_set_length {B : List Blk} {k : Nat} {x : Blk} (hk : k < B.length) : ∀ m, (entsTo (B.set k x) m).length ≤ (entsTo B m).length + (if k < m then 1 else 0)
 | 0 => by simp [entsTo]
 | m + 1 => by
   have ih := entsTo_set_length (x := x) hk m
   have e : (B.set k x).getD m Blk.zero = if m = k then x else B.getD m Blk.zero := by
    rw [List.getD_eq_getElem?_getD, List.getD_eq_getElem?_getD, List.getElem?_set]
    by_cases h : k = m
    · subst h; simp [hk]
    · rw [if_neg h, if_neg (fun e => h e.symm)]
   rw [entsTo_succ, entsTo_succ, List.length_append, List.length_append, e]
   by_cases h : m = k
   · subst h
     rw [if_pos rfl, if_pos (by omega)]
     rw [if_neg (by omega)] at ih
     have : ((takeEntry x).map fun n => (n, m)).toList.length ≤ 1 := by cases takeEntry x <;> simp
     omega
   · rw [if_neg h]
     by_cases h2 : k < m
     · rw [if_pos h2] at ih; rw [if_pos (by omega)]; omega
     · rw [if_neg h2] at ih; rw [if_neg (by omega)]; omega
theorem ents_set_length {B : List Blk} {k : Nat} {x : Blk} (hk : k < B.length) : (ents (B.set k x)).length ≤ (ents B).length + 1 := by
 have h := entsTo_set_length (x := x) hk B.length
 rw [if_pos hk] at h
 have e : ents (B.set k x) = entsTo (B.set k x) B.length := by unfold ents entsTo; rw [List.length_set]
 rw [e]; exact h
theorem findE_some {B : List Blk} {d : Id} {m : ByteArray} {p : Nm × Nat} (h : findE B d m = some p) : p ∈ ents B ∧ p.1.dir = d ∧ p.1.name = m := by
 have h1 := List.find?_some h
 have h2 := List.mem_of_find?_eq_some h
 simp only [isN, Bool.and_eq_true, decide_eq_true_eq] at h1
 exact ⟨h2, h1.1, h1.2⟩
theorem findE_none {B : List Blk} {d : Id} {m : ByteArray} (h : findE B d m = none) (p : Nm × Nat) (hp : p ∈ ents B) : ¬ (p.1.dir = d ∧ p.1.name = m) := by
 have := List.find?_eq_none.1 h p hp
 simpa [isN] using this
/-- Blocks without files, whose names are each there once. -/
structure NamesOk (B : List Blk) : Prop where
 kinds : ∀ i, i < B.length → (B.getD i Blk.zero).kind ≠ 1 ∧ (B.getD i Blk.zero).kind ≠ 2 ∧ (B.getD i Blk.zero).kind ≠ 3
 good : ∀ i, i < B.length → (B.getD i Blk.zero).kind = 6 → ∃ n, takeEntry (B.getD i Blk.zero) = some n
 once : ∀ p ∈ ents B, ∀ q ∈ ents B, p.1.dir = q.1.dir → p.1.name = q.1.name → p = q
theorem NamesOk.use {B : List Blk} (h : NamesOk B) {T : ML} {j : Nat} (hj : j < B.length) : inUse B T (j : Int) ↔ j = 0 ∨ (j : Int) ∈ keysL T ∨ ∃ n, (n, j) ∈ ents B := by
 have hb : ∀ i, i < B.length → (useBy B i (j : Int) ↔ (j = i ∧ ∃ n, (n, j) ∈ ents B)) := fun i hi => by
  obtain ⟨k1, k2, k3⟩ := h.kinds i hi
  by_cases h6 : (B.getD i Blk.zero).kind = 6
  · rw [useBy_plain rfl (.inr (.inr h6))]
    obtain ⟨n, hn⟩ := h.good i hi h6
    constructor
    · intro e
      have e' : j = i := by omega
      subst e'
      exact ⟨rfl, n, mem_ents.2 ⟨hi, hn⟩⟩
    · rintro ⟨rfl, _⟩; rfl
  · constructor
    · intro e; exact absurd e (useBy_none (kd := (B.getD i Blk.zero).kind) rfl rfl ⟨k1, k2, k3, h6⟩)
    · rintro ⟨rfl, n, hn⟩
      exact absurd (takeEntry_kind (mem_ents.1 hn).2) h6
 unfold inUse
 constructor
 · rintro (e | e | ⟨i, hi, e⟩)
   · exact .inl (by omega)
   · exact .inr (.inl e)
   · exact .inr (.inr ((hb i hi).1 e).2)
 · rintro (e | e | ⟨n, hn⟩)
   · exact .inl (by omega)
   · exact .inr (.inl e)
   · exact .inr (.inr ⟨j, hj, (hb j hj).2 ⟨rfl, n, hn⟩⟩)
theorem cover_len : ∀ (n : Nat) (P : List Nat), (∀ j, j < n → j ∈ P) → n ≤ P.length
 | 0, _, _ => Nat.zero_le _
 | n + 1, P, h => by
   have hm := h n (by omega)
   have := cover_len n (P.erase n) (fun j hj => (List.mem_erase_of_ne (by omega)).2 (h j (by omega)))
   rw [List.length_erase_of_mem hm] at this
   have := List.length_pos_of_mem hm
   omega
/-- There is room while few are in use. -/
theorem NamesOk.room {B : List Blk} (h : NamesOk B) {T : ML} (hl : 1 + T.length + (ents B).length < B.length) : ∃ j, j < B.length ∧ ¬ inUse B T (j : Int) := by
 refine Classical.byContradiction fun hn => ?_
 have hall : ∀ j, j < B.length → inUse B T (j : Int) := fun j hj => Classical.byContradiction fun e => hn ⟨j, hj, e⟩
 have hP : ∀ j, j < B.length → j ∈ 0 :: ((keysL T).map Int.toNat ++ (ents B).map (·.2)) := fun j hj => by
  rcases (h.use hj).1 (hall j hj) with e | e | ⟨n, e⟩
  · subst e; simp
  · exact List.mem_cons_of_mem _ (List.mem_append_left _ (List.mem_map.2 ⟨_, e, by simp⟩))
  · exact List.mem_cons_of_mem _ (List.mem_append_right _ (List.mem_map.2 ⟨_, e, rfl⟩))
 have hsub := cover_len B.length _ hP
 simp only [List.length_cons, List.length_append, List.length_map] at hsub
 have : (keysL T).length = T.length := by simp [keysL]
 omega
/-- One name more. -/
theorem NamesOk.add {B : List Blk} (h : NamesOk B) {n : Nm} (hm : mayEntry n = true) (hw : n.wf) {k : Nat} (hk : k < B.length) (hfree : ∀ m, (m, k) ∉ ents B) (hno : findE B n.dir n.name = none) : NamesOk (B.set k (putEntry n).1) := by
 have hp : (putEntry n).1.kind = 6 := by
  have : putEntry n = (Blk.of 6 (entryBytes n), true) := by unfold putEntry; rw [if_pos hm]
  rw [this]; exact Blk.of_kind _ _
 have e : ∀ i, (B.set k (putEntry n).1).getD i Blk.zero = if i = k then (putEntry n).1 else B.getD i Blk.zero := fun i => by
  rw [List.getD_eq_getElem?_getD, List.getD_eq_getElem?_getD, List.getElem?_set]
  by_cases h : k = i
  · subst h; simp [hk]
  · rw [if_neg h, if_neg (fun e => h e.symm)]
 have htk := take_putEntry hm hw
 refine ⟨fun i hi => ?_, fun i hi h6 => ?_, fun p hp1 q hq1 h1 h2 => ?_⟩
 · rw [List.length_set] at hi
   rw [e i]
   by_cases hik : i = k
   · rw [if_pos hik, hp]; decide
   · rw [if_neg hik]; exact h.kinds i hi
 · rw [List.length_set] at hi
   rw [e i] at h6 ⊢
   by_cases hik : i = k
   · rw [if_pos hik]; exact ⟨n, htk⟩
   · rw [if_neg hik] at h6 ⊢; exact h.good i hi h6
 · obtain ⟨p, i⟩ := p
   obtain ⟨q, j⟩ := q
   rcases (ents_mem_set hk).1 hp1 with ⟨rfl, a1⟩ | ⟨a0, a1⟩
   · rw [htk] at a1
     obtain rfl := Option.some.inj a1
     rcases (ents_mem_set hk).1 hq1 with ⟨rfl, b1⟩ | ⟨b0, b1⟩
     · rw [htk] at b1; obtain rfl := Option.some.inj b1; rfl
     · exact absurd ⟨h1.symm, h2.symm⟩ (findE_none hno _ b1)
   · rcases (ents_mem_set hk).1 hq1 with ⟨rfl, b1⟩ | ⟨b0, b1⟩
     · rw [htk] at b1
       obtain rfl := Option.some.inj b1
       exact absurd ⟨h1, h2⟩ (findE_none hno _ a1)
     · exact h.once _ a1 _ b1 h1 h2
theorem take_zero : takeEntry Blk.zero = none := by
 cases h : takeEntry Blk.zero with
 | none => rfl
 | some n =>
   have := takeEntry_kind h
   have z : Blk.zero.kind = 0 := by unfold Blk.zero; exact Blk.of_kind 0 []
   omega
/-- One name less. -/
theorem NamesOk.out {B : List Blk} (h : NamesOk B) {k : Nat} (hk : k < B.length) : NamesOk (B.set k Blk.zero) := by
 have z : Blk.zero.kind = 0 := by unfold Blk.zero; exact Blk.of_kind 0 []
 have e : ∀ i, (B.set k Blk.zero).getD i Blk.zero = if i = k then Blk.zero else B.getD i Blk.zero := fun i => by
  rw [List.getD_eq_getElem?_getD, List.getD_eq_getElem?_getD, List.getElem?_set]
  by_cases h : k = i
  · subst h; simp [hk]
  · rw [if_neg h, if_neg (fun e => h e.symm)]
 refine ⟨fun i hi => ?_, fun i hi h6 => ?_, fun p hp1 q hq1 h1 h2 => ?_⟩
 · rw [List.length_set] at hi
   rw [e i]
   by_cases hik : i = k
   · rw [if_pos hik, z]; decide
   · rw [if_neg hik]; exact h.kinds i hi
 · rw [List.length_set] at hi
   rw [e i] at h6 ⊢
   by_cases hik : i = k
   · rw [if_pos hik, z] at h6; cases h6
   · rw [if_neg hik] at h6 ⊢; exact h.good i hi h6
 · obtain ⟨p, i⟩ := p
   obtain ⟨q, j⟩ := q
   rcases (ents_mem_set hk).1 hp1 with ⟨_, a1⟩ | ⟨a0, a1⟩
   · rw [take_zero] at a1; cases a1
   · rcases (ents_mem_set hk).1 hq1 with ⟨_, b1⟩ | ⟨b0, b1⟩
     · rw [take_zero] at b1; cases b1
     · exact h.once _ a1 _ b1 h1 h2
theorem upB_cons (p : Int × Blk) (L : PL) (k : Int) (b : Blk) : upB (p :: L) k b = if p.1 = k then (k, b) :: L else p :: upB L k b := by
 unfold upB
 rw [List.findIdx?_cons]
 by_cases h : p.1 = k
 · have hb : (p.1 == k) = true := by simpa using h
   rw [hb, if_pos h]; rfl
 · have hb : (p.1 == k) = false := by simpa using h
   rw [hb, if_neg h]
   cases L.findIdx? (fun p => p.1 == k) <;> rfl
theorem lkB_cons (p : Int × Blk) (L : PL) (a : Int) : lkB (p :: L) a = if p.1 = a then some p.2 else lkB L a := by
 unfold lkB
 rw [List.find?_cons]
 by_cases h : p.1 = a
 · have hb : (p.1 == a) = true := by simpa using h
   rw [hb, if_pos h]; rfl
 · have hb : (p.1 == a) = false := by simpa using h
   rw [hb, if_neg h]
theorem lkB_upB (k : Int) (b : Blk) (a : Int) : ∀ L : PL, lkB (upB L k b) a = if a = k then some b else lkB L a
 | [] => by
   show lkB [(k, b)] a = _
   rw [lkB_cons]
   by_cases h : a = k
   · rw [if_pos h.symm, if_pos h]
   · rw [if_neg (fun e => h e.symm), if_neg h]
 | p :: L => by
   rw [upB_cons]
   by_cases h : p.1 = k
   · rw [if_pos h, lkB_cons, lkB_cons]
     by_cases e : a = k
     · rw [if_pos e.symm, if_pos e]
     · rw [if_neg (fun h => e h.symm), if_neg e, if_neg (fun h2 => e (by rw [← h2, h]))]
   · rw [if_neg h, lkB_cons, lkB_cons, lkB_upB k b a L]
     by_cases e : p.1 = a
     · rw [if_pos e, if_pos e, if_neg (fun h2 => h (by rw [e, h2]))]
     · rw [if_neg e, if_neg e]
/-- Put in a change: among the blocks as the change has them. -/
theorem txV_up {L : PL} {bs : List Blk} {k : Nat} (b : Blk) : txV (upB L (k : Int) b) bs = (txV L bs).set k b := by
 have hlk : ∀ a : Int, lkB (upB L (k : Int) b) a = if a = (k : Int) then some b else lkB L a := fun a => lkB_upB _ _ _ _
 apply List.ext_getElem
 · rw [txV_length, List.length_set, txV_length]
 · intro j h1 h2
   rw [txV_length] at h1
   have e1 := txV_getD (upB L (k : Int) b) bs j h1
   rw [List.getD_eq_getElem?_getD, List.getElem?_eq_getElem (by rw [txV_length]; exact h1), Option.getD_some] at e1
   rw [e1, hlk, List.getElem_set]
   by_cases e : k = j
   · subst e; simp
   · rw [if_neg (by omega), if_neg e]
     have e2 := txV_getD L bs j h1
     rw [List.getD_eq_getElem?_getD, List.getElem?_eq_getElem (by rw [txV_length]; exact h1), Option.getD_some] at e2
     rw [e2]
end Go.Proofs.YtbbnejehglonjaaGreat

/- DERIVED. What is in use, told by tx, is what the document tells. Plain Lean. -/
namespace Go.Proofs.YtbbnejehglonjaaGreat
open Go.RowKit

theorem Sets.eq {U V : List Bool} {n : Nat} {S : Int → Prop} (h : Sets U n S) (k : Sets V n S) : U = V := by
 apply List.ext_getElem?
 intro j
 by_cases hj : j < n
 · have h1 := (h.at_ j hj).trans (k.at_ j hj).symm
   have hU : j < U.length := by rw [h.len]; exact hj
   have hV : j < V.length := by rw [k.len]; exact hj
   rw [List.getElem?_eq_getElem hU, List.getElem?_eq_getElem hV] at h1 ⊢
   cases hu : U[j] <;> cases hv : V[j] <;> simp_all
 · rw [List.getElem?_eq_none (by rw [h.len]; omega), List.getElem?_eq_none (by rw [k.len]; omega)]
theorem firstFrom_find (l : List Bool) : ∀ (m k : Nat), l.length - k = m → firstFrom l k = ((l.drop k).findIdx? (! ·)).map (· + k) := by
 intro m
 induction m with
 | zero => intro k hm; rw [firstFrom_none (by omega), List.drop_of_length_le (by omega)]; rfl
 | succ m ih =>
   intro k hm
   have hk : k < l.length := by omega
   rw [List.drop_eq_getElem_cons hk, List.findIdx?_cons]
   cases hv : l[k] with
   | true =>
     rw [firstFrom_yes hk hv, ih (k + 1) (by omega)]
     simp only [Bool.not_true, Bool.false_eq_true, if_false, Option.map_map]
     congr 1
     funext x
     simp only [Function.comp]
     omega
   | false => rw [firstFrom_no hk hv]; simp
end Go.Proofs.YtbbnejehglonjaaGreat

/- DERIVED. Contracts of shard's Add, Out. -/
namespace Go.Proofs.YtbbnejehglonjaaGreat
open Go.RowKit
attribute [local irreducible] Calls
set_option maxRecDepth 100000

/-- A change over a vol, apart from it. -/
structure TxV (w : World) (Sd : Nat → Prop) (t v mp mt : Nat) (L : PL) (T : ML) (d reg : Nat) (s : Sh) (gb cap m : Nat) (st : VSt) (c : Nat) : Prop where
 tx : TxAt w t v mp mt L T st.bs.length
 vol : VolS w Sd v d reg s gb cap m st c
 ap : TxApart Sd t mp mt m
section
variable {w w' : World} {Sd : Nat → Prop} {t v mp mt : Nat} {L L' : PL} {T T' : ML} {d reg : Nat} {s : Sh} {gb cap m : Nat} {st : VSt} {c : Nat}
theorem TxV.below (h : TxV w Sd t v mp mt L T d reg s gb cap m st c) (hb : Below w.heap.size w w') : TxV w' Sd t v mp mt L T d reg s gb cap m st c := ⟨h.tx.below hb, VolP.below h.vol hb, h.ap⟩
theorem TxV.turn (h : TxV w Sd t v mp mt L T d reg s gb cap m st c) (ht : TxAt w' t v mp mt L' T' st.bs.length) (hk : Keeps (fun q => q = mp ∨ q = mt) w w') : TxV w' Sd t v mp mt L' T' d reg s gb cap m st c := by
 obtain ⟨cs, hcs⟩ := VolP.neRow h.vol
 refine ⟨ht, VolP.keeps h.vol hk (fun g hg e => ?_) (fun e => ?_) (fun e => ?_) (fun e => ?_), h.ap⟩
 · rcases e with e | e
   · exact h.ap.np (e ▸ hg)
   · exact h.ap.nk (e ▸ hg)
 · rcases e with e | e
   · exact h.tx.put.neObj h.vol.o e.symm
   · exact h.tx.tk.neObj h.vol.o e.symm
 · rcases e with e | e
   · exact h.ap.nm.1 e.symm
   · exact h.ap.nm.2 e.symm
 · rcases e with e | e
   · exact h.tx.put.neObj hcs e.symm
   · exact h.tx.tk.neObj hcs e.symm
/-- What Add comes to. -/
def AddR (bs : List Blk) (L : PL) (T : ML) (n : Nm) (r : Int) (L' : PL) (T' : ML) : Prop :=
 (mayEntry n = false ∧ r = 1 ∧ L' = L ∧ T' = T) ∨
 (mayEntry n = true ∧ (∃ p, findE (txV L bs) n.dir n.name = some p) ∧ r = 4 ∧ L' = L ∧ T' = T) ∨
 (mayEntry n = true ∧ findE (txV L bs) n.dir n.name = none ∧
  (((∀ j, j < bs.length → inUse (txV L bs) T (j : Int)) ∧ r = 9 ∧ L' = L ∧ T' = T) ∨
   ∃ k, k < bs.length ∧ ¬ inUse (txV L bs) T (k : Int) ∧ (∀ j, j < k → inUse (txV L bs) T (j : Int)) ∧ r = 0 ∧ L' = upB L (k : Int) (putEntry n).1 ∧ T' = up T (k : Int) (.bool true)))
theorem firstFrom_spec {l : List Bool} : ∀ (m k : Nat), l.length - k = m → (firstFrom l k = none ∧ ∀ j, k ≤ j → j < l.length → l[j]? = some true) ∨ ∃ j, firstFrom l k = some j ∧ k ≤ j ∧ l[j]? = some false ∧ ∀ i, k ≤ i → i < j → l[i]? = some true := by
 intro m k hm
 have h := firstFrom_find l m k hm
 rw [h]
 cases hf : (l.drop k).findIdx? (! ·) with
 | none =>
   left
   refine ⟨rfl, fun j hj hjl => ?_⟩
   rw [List.findIdx?_eq_none_iff] at hf
   have := hf (l[j]) (by rw [List.mem_iff_getElem?]; exact ⟨j - k, by rw [List.getElem?_drop, show k + (j - k) = j by omega, List.getElem?_eq_getElem hjl]⟩)
   rw [List.getElem?_eq_getElem hjl]
   simpa using this
 | some i =>
   right
   rw [List.findIdx?_eq_some_iff_getElem] at hf
   obtain ⟨hi, h1, h2⟩ := hf
   rw [List.length_drop] at hi
   refine ⟨i + k, rfl, by omega, ?_, fun a ha hai => ?_⟩
   · rw [List.getElem_drop] at h1
     rw [show i + k = k + i by omega, List.getElem?_eq_getElem (by omega)]
     simpa using h1
   · have := h2 (a - k) (by omega)
     rw [List.getElem_drop] at this
     rw [List.getElem?_eq_getElem (by omega)]
     simp only [show k + (a - k) = a by omega] at this
     simpa using this
theorem Sets.false_iff {U : List Bool} {n : Nat} {S : Int → Prop} (h : Sets U n S) {j : Nat} (hj : j < n) : U[j]? = some false ↔ ¬ S (j : Int) := by
 have h1 := h.at_ j hj
 have hjl : j < U.length := by rw [h.len]; exact hj
 have hl : U[j]? = some U[j] := List.getElem?_eq_getElem (by rw [h.len]; exact hj)
 constructor
 · intro e hs
   rw [h1.2 hs] at e; cases e
 · intro hs
   cases hb : U[j] with
   | false => rw [hl, hb]
   | true => exact absurd (h1.1 (by rw [hl, hb])) hs
set_option maxHeartbeats 8000000 in
theorem shAdd_any (H : TxV w Sd t v mp mt L T d reg s gb cap m st c) (n : Nm) (hn : n.wf) (hf : n.dir.fl) :
 Calls Tryz.prog 44 #[.pointer (some ⟨t, 0, none⟩), .agg n.cells] w fun e w' => ∃ r L' T', e = .returned (.int .i64 r) ∧ AddR st.bs L T n r L' T' ∧ TxV w' Sd t v mp mt L' T' d reg s gb cap m st c ∧ Keeps (fun q => q = mp ∨ q = mt) w w' := by
 obtain ⟨N, hN⟩ : ∃ N, N = n := ⟨n, rfl⟩
 obtain ⟨w0, hw0⟩ : ∃ w0, w0 = w.alloc (.cells n.cells 100) := ⟨_, rfl⟩
 obtain ⟨G, hG⟩ : ∃ G, G = w.heap.size := ⟨_, rfl⟩
 have hB0 : Below w.heap.size w w0 := below_alloc hw0
 have hO : objAt w0 G = some (.cells n.cells 100 (0, 0)) := by rw [hG]; exact obj_alloc hw0
 have HP := Lib.hid (entryPut_any n hn hf w0)
 have H0 := Lib.hid (And.intro (H.below hB0) (And.intro hB0 (And.intro hO hG)))
 rw [← hN] at HP ⊢
 have HN := Lib.hid hN
 clear H hB0 hO hn hf hN
 obtain ⟨⟨l, a, g⟩, tx, at_, gen⟩ := n
 rw [show N.cells = #[.int .i64 l, .int .i64 a, .int .u32 g, .string tx, .int .i64 at_, .int .u32 gen] by rw [HN.out]; rfl] at HP ⊢
 rw [show (⟨⟨l, a, g⟩, tx, at_, gen⟩ : Nm).cells = #[.int .i64 l, .int .i64 a, .int .u32 g, .string tx, .int .i64 at_, .int .u32 gen] from rfl] at hw0
 have c0 : w0.cell? ⟨G, 0, none⟩ = some (.int .i64 l) := cell_obj H0.out.2.2.1 0
 have c1 : w0.cell? ⟨G, 1, none⟩ = some (.int .i64 a) := cell_obj H0.out.2.2.1 1
 have c2 : w0.cell? ⟨G, 2, none⟩ = some (.int .u32 g) := cell_obj H0.out.2.2.1 2
 have c3 : w0.cell? ⟨G, 3, none⟩ = some (.string tx) := cell_obj H0.out.2.2.1 3
 have c4 : w0.cell? ⟨G, 4, none⟩ = some (.int .i64 at_) := cell_obj H0.out.2.2.1 4
 have c5 : w0.cell? ⟨G, 5, none⟩ = some (.int .u32 gen) := cell_obj H0.out.2.2.1 5
 obtain ⟨PB, hPB⟩ : ∃ PB, PB = (putEntry N).1 := ⟨_, rfl⟩
 have hpk : (putEntry N).2 = mayEntry N := by unfold putEntry; cases mayEntry N <;> rfl
 rw [← hPB, hpk] at HP
 have HPB := Lib.hid hPB
 clear hpk hPB
 cases hm : mayEntry N with
 | false =>
   rw [hm] at HP
   have Hm := Lib.hid hm
   clear hm
   go_enter Tryz.func44, Tryz.ntmps44
   go_upto_region 1 with fail
   rw [← hw0, ← hG]
   clear hw0 hG
   go_wp2_with (go_at_call 98; refine HP.out.mono ?_; rintro e w1 ⟨rfl, b1⟩)
   go_ret
   have hb := grow_alloc b1 (.cells PB.cells 37)
   exact ⟨1, L, T, rfl, .inl ⟨Hm.out, rfl, rfl, rfl⟩, H0.out.1.below hb, Keeps.of_below (grow_trans H0.out.2.1 hb)⟩
 | true =>
   rw [hm] at HP
   have Hm := Lib.hid hm
   clear hm
   go_enter Tryz.func44, Tryz.ntmps44
   go_upto_region 1 with fail
   rw [← hw0, ← hG]
   clear hw0 hG
   go_upto_region 4 with (go_at_call 98; refine HP.out.mono ?_; rintro e w1 ⟨rfl, b1⟩)
   obtain ⟨J, hJ⟩ : ∃ J, J = w1.heap.size := ⟨_, rfl⟩
   obtain ⟨w2, hw2⟩ : ∃ w2, w2 = w1.alloc (.cells PB.cells 37) := ⟨_, rfl⟩
   have hb2 : Below w0.heap.size w0 w2 := grow_trans b1 (below_alloc hw2)
   have hJb : BlkAt w2 J PB := by rw [hJ]; exact obj_alloc hw2
   rw [← hw2, ← hJ]
   have e0 := grow_cell hb2 c0
   have e1 := grow_cell hb2 c1
   have e2 := grow_cell hb2 c2
   have e3 := grow_cell hb2 c3
   have hT2 := H0.out.1.below hb2
   have HF := Lib.hid (shFind_any hT2.tx hT2.vol ⟨l, a, g⟩ tx)
   have H2 := Lib.hid (And.intro hT2 (And.intro (grow_trans H0.out.2.1 hb2) hJb))
   clear hw2 hJ hb2 hJb hT2 c0 c1 c2 c3 c4 c5 b1
   have hfe : findE (txV L st.bs) ⟨l, a, g⟩ tx = findE (txV L st.bs) N.dir N.name := by rw [HN.out]
   have Hfe := Lib.hid hfe
   clear hfe
   unfold findV at HF
   rw [show (⟨l, a, g⟩ : Id).cells = #[.int .i64 l, .int .i64 a, .int .u32 g] from rfl] at HF
   cases hfi : findE (txV L st.bs) ⟨l, a, g⟩ tx with
   | some p =>
     rw [hfi] at HF Hfe
     rw [show ((Option.map (fun x : Nm × Nat => x.1) (some p)).getD Nm.zero).cells = #[.int .i64 p.1.dir.label, .int .i64 p.1.dir.at_, .int .u32 p.1.dir.gen, .string p.1.name, .int .i64 p.1.at_, .int .u32 p.1.gen] from rfl] at HF
     clear hfi
     go_wp2_with (go_at_call 48; refine HF.out.mono ?_; rintro e w3 ⟨rfl, b3⟩)
     go_ret
     have hb := grow_alloc b3 (.cells #[.int .i64 p.1.dir.label, .int .i64 p.1.dir.at_, .int .u32 p.1.dir.gen, .string p.1.name, .int .i64 p.1.at_, .int .u32 p.1.gen] 100)
     exact ⟨4, L, T, rfl, .inr (.inl ⟨Hm.out, ⟨p, Hfe.out.symm⟩, rfl, rfl, rfl⟩), H2.out.1.below hb, Keeps.of_below (grow_trans H2.out.2.1 hb)⟩
   | none =>
     rw [hfi] at HF Hfe
     rw [show ((Option.map (fun x : Nm × Nat => x.1) none).getD Nm.zero).cells = #[.int .i64 0, .int .i64 0, .int .u32 0, .string ⟨#[]⟩, .int .i64 0, .int .u32 0] from rfl] at HF
     clear hfi
     go_upto_region 7 with (go_at_call 48; refine HF.out.mono ?_; rintro e w3 ⟨rfl, b3⟩)
     obtain ⟨w4, hw4⟩ : ∃ w4, w4 = w3.alloc (.cells #[.int .i64 0, .int .i64 0, .int .u32 0, .string ⟨#[]⟩, .int .i64 0, .int .u32 0] 100) := ⟨_, rfl⟩
     have hb4 : Below w2.heap.size w2 w4 := grow_trans b3 (below_alloc hw4)
     rw [← hw4]
     have hT4 := H2.out.1.below hb4
     have HK := Lib.hid (txTake_any hT4.tx hT4.vol)
     have H4 := Lib.hid (And.intro hT4 (And.intro (grow_trans H2.out.2.1 hb4) (BlkAt.below H2.out.2.2 hb4 (block_lt H2.out.2.2))))
     clear hw4 hb4 hT4 b3 e0 e1 e2 e3
     go_upto_region 8 with (go_at_call 21; refine HK.out.mono ?_; rintro e w5 ⟨U, hs, he, ht5, hk5⟩; rw [firstVal_eq] at he; subst he)
     have hT5 := H4.out.1.turn ht5 (hk5.mono fun _ _ e => .inr e)
     have hff := firstFrom_spec (l := U) _ 0 rfl
     have hk05 : Keeps (fun q => q = mp ∨ q = mt) w w5 := (Keeps.of_below H4.out.2.1).trans (hk5.mono fun _ _ e => .inr e)
     have hj5 : BlkAt w5 J PB := hk5.obj H4.out.2.2 (fun e => by
      have h1 := H0.out.2.2.2
      have h2 := H4.out.1.tx.tk
      obtain ⟨es, ck, h3, _⟩ := h2.ex
      have h4 := H4.out.2.2
      rw [← e] at h3
      unfold objAt at h3
      rw [h4] at h3; cases h3)
     obtain ⟨o, ho⟩ : ∃ o, o = firstFrom U 0 := ⟨_, rfl⟩
     rw [← ho] at hff hT5
     rw [← ho]
     have H5 := Lib.hid (And.intro hT5 (And.intro hs (And.intro hff (And.intro hk05 hj5))))
     clear hT5 hff hk05 hj5 hs ht5 hk5 ho
     cases o with
     | none =>
       go_wp2_with fail
       go_ret
       refine ⟨9, rfl, L, T, .inr (.inr ⟨Hm.out, Hfe.out.symm, .inl ⟨fun j hj => ?_, rfl, rfl, rfl⟩⟩), H5.out.1, H5.out.2.2.2.1⟩
       rcases H5.out.2.2.1 with ⟨_, h2⟩ | ⟨j', h2, _⟩
       · exact (H5.out.2.1.at_ j hj).1 (h2 j (Nat.zero_le _) (by rw [H5.out.2.1.len]; exact hj))
       · cases h2
     | some k =>
       have hsp : k < st.bs.length ∧ ¬ inUse (txV L st.bs) T (k : Int) ∧ ∀ j, j < k → inUse (txV L st.bs) T (j : Int) := by
        rcases H5.out.2.2.1 with ⟨h2, _⟩ | ⟨j', h2, _, h3, h4⟩
        · cases h2
        · obtain rfl := Option.some.inj h2
          have hl := (List.getElem?_eq_some_iff.1 h3).1
          rw [H5.out.2.1.len] at hl
          exact ⟨hl, (H5.out.2.1.false_iff hl).1 h3, fun j hj => (H5.out.2.1.at_ j (by omega)).1 (h4 j (Nat.zero_le _) hj)⟩
       have i1 := H5.out.2.2.2.2.has
       have i2 := H5.out.2.2.2.2.row
       have HQ := Lib.hid (txPut_any H5.out.1.tx H5.out.1.vol (k : Int) PB)
       have hin : inB st.bs (k : Int) = true := inB_nat hsp.1
       rw [hin] at HQ
       have Hsp := Lib.hid hsp
       have Hin := Lib.hid hin
       clear hsp hin
       simp only [Option.getD_some, Option.isSome_some]
       go_wp2_with (go_at_call 24; refine HQ.out.mono ?_; rintro e w6 ⟨rfl, hk6, ht6⟩)
       go_ret
       have hpl : putL L st.bs (k : Int) PB = upB L (k : Int) (putEntry N).1 := by unfold putL; rw [Hin.out, if_pos rfl, HPB.out]
       refine ⟨0, _, _, rfl, .inr (.inr ⟨Hm.out, Hfe.out.symm, .inr ⟨k, Hsp.out.1, Hsp.out.2.1, Hsp.out.2.2, rfl, hpl, rfl⟩⟩), H5.out.1.turn ht6 (hk6.mono fun _ _ e => .inl e), H5.out.2.2.2.1.trans (hk6.mono fun _ _ e => .inl e)⟩
set_option maxHeartbeats 8000000 in
theorem shOut_any (H : TxV w Sd t v mp mt L T d reg s gb cap m st c) (i : Id) (name : ByteArray) :
 Calls Tryz.prog 46 #[.pointer (some ⟨t, 0, none⟩), .agg i.cells, .string name] w fun e w' =>
  (findE (txV L st.bs) i name = none ∧ e = .returned (.int .i64 2) ∧ TxV w' Sd t v mp mt L T d reg s gb cap m st c ∧ Keeps (fun q => q = mp ∨ q = mt) w w') ∨
  ∃ p, findE (txV L st.bs) i name = some p ∧ e = .returned (.int .i64 0) ∧ TxV w' Sd t v mp mt (upB L (p.2 : Int) Blk.zero) T d reg s gb cap m st c ∧ Keeps (fun q => q = mp ∨ q = mt) w w' := by
 obtain ⟨w0, hw0⟩ : ∃ w0, w0 = w.alloc (.cells i.cells 66) := ⟨_, rfl⟩
 obtain ⟨G, hG⟩ : ∃ G, G = w.heap.size := ⟨_, rfl⟩
 have hB0 : Below w.heap.size w w0 := below_alloc hw0
 have hO : objAt w0 G = some (.cells i.cells 66 (0, 0)) := by rw [hG]; exact obj_alloc hw0
 have hT0 := H.below hB0
 have HF := Lib.hid (shFind_any hT0.tx hT0.vol i name)
 have H0 := Lib.hid (And.intro hT0 (And.intro hB0 (And.intro hO hG)))
 clear H hB0 hO hT0
 obtain ⟨l, a, g⟩ := i
 rw [show (⟨l, a, g⟩ : Id).cells = #[.int .i64 l, .int .i64 a, .int .u32 g] from rfl] at hw0 HF ⊢
 have c0 : w0.cell? ⟨G, 0, none⟩ = some (.int .i64 l) := cell_obj H0.out.2.2.1 0
 have c1 : w0.cell? ⟨G, 1, none⟩ = some (.int .i64 a) := cell_obj H0.out.2.2.1 1
 have c2 : w0.cell? ⟨G, 2, none⟩ = some (.int .u32 g) := cell_obj H0.out.2.2.1 2
 unfold findV at HF
 cases hfi : findE (txV L st.bs) ⟨l, a, g⟩ name with
 | none =>
   rw [hfi] at HF
   rw [show ((Option.map (fun x : Nm × Nat => x.1) none).getD Nm.zero).cells = #[.int .i64 0, .int .i64 0, .int .u32 0, .string ⟨#[]⟩, .int .i64 0, .int .u32 0] from rfl] at HF
   clear hfi
   go_enter Tryz.func46, Tryz.ntmps46
   go_upto_region 1 with fail
   rw [← hw0, ← hG]
   clear hw0 hG
   go_wp2_with (go_at_call 48; refine HF.out.mono ?_; rintro e w1 ⟨rfl, b1⟩)
   go_ret
   have hb := grow_alloc b1 (.cells #[.int .i64 0, .int .i64 0, .int .u32 0, .string ⟨#[]⟩, .int .i64 0, .int .u32 0] 100)
   exact .inl ⟨by first | trivial | rfl, rfl, H0.out.1.below hb, Keeps.of_below (grow_trans H0.out.2.1 hb)⟩
 | some p =>
   have hpl : p.2 < st.bs.length := by
    have := (mem_ents.1 (show (p.1, p.2) ∈ ents (txV L st.bs) from (findE_some hfi).1)).1
    rwa [txV_length] at this
   rw [hfi] at HF
   rw [show ((Option.map (fun x : Nm × Nat => x.1) (some p)).getD Nm.zero).cells = #[.int .i64 p.1.dir.label, .int .i64 p.1.dir.at_, .int .u32 p.1.dir.gen, .string p.1.name, .int .i64 p.1.at_, .int .u32 p.1.gen] from rfl] at HF
   rw [show ((Option.map (fun x : Nm × Nat => x.2) (some p)).getD 0) = p.2 from rfl] at HF
   have Hpl := Lib.hid hpl
   clear hfi hpl
   go_enter Tryz.func46, Tryz.ntmps46
   go_upto_region 1 with fail
   rw [← hw0, ← hG]
   clear hw0 hG
   go_upto_region 4 with (go_at_call 48; refine HF.out.mono ?_; rintro e w1 ⟨rfl, b1⟩)
   obtain ⟨w2, hw2⟩ : ∃ w2, w2 = w1.alloc (.cells #[.int .i64 p.1.dir.label, .int .i64 p.1.dir.at_, .int .u32 p.1.dir.gen, .string p.1.name, .int .i64 p.1.at_, .int .u32 p.1.gen] 100) := ⟨_, rfl⟩
   have hb2 : Below w0.heap.size w0 w2 := grow_trans b1 (below_alloc hw2)
   rw [← hw2]
   have hT2 := H0.out.1.below hb2
   have HQ := Lib.hid (txPut_any hT2.tx hT2.vol (p.2 : Int) (Blk.of 0 []))
   rw [inB_nat Hpl.out] at HQ
   have H2 := Lib.hid (And.intro hT2 (grow_trans H0.out.2.1 hb2))
   clear hw2 hb2 hT2 b1 c0 c1 c2
   go_wp2_with (go_at_call 24; refine HQ.out.mono ?_; rintro e w6 ⟨rfl, hk6, ht6⟩)
   go_ret
   have hpu : putL L st.bs (p.2 : Int) (Blk.of 0 []) = upB L (p.2 : Int) Blk.zero := by unfold putL; rw [inB_nat Hpl.out, if_pos rfl, zero_of]
   rw [hpu] at ht6
   exact .inr ⟨p, rfl, rfl, H2.out.1.turn ht6 (hk6.mono fun _ _ e => .inl e), (Keeps.of_below H2.out.2).trans (hk6.mono fun _ _ e => .inl e)⟩
end
end Go.Proofs.YtbbnejehglonjaaGreat
