/- DERIVED. Contracts and laws that the proofs of this seat share, part 25 of 36: TxG TxJ ShQ TxI ShC FiA FiG. -/
import Derived.Test.YtbbnejehglonjaaGreatMf00
import Derived.Test.YtbbnejehglonjaaGreatMf04
import Derived.Test.YtbbnejehglonjaaGreatMf09
import Derived.Test.YtbbnejehglonjaaGreatMf14
import Derived.Test.YtbbnejehglonjaaGreatMf15
import Derived.Test.YtbbnejehglonjaaGreatMf16
import Derived.Test.YtbbnejehglonjaaGreatMf17
import Derived.Test.YtbbnejehglonjaaGreatMf22
import Derived.Test.YtbbnejehglonjaaGreatMf23
import Derived.Test.YtbbnejehglonjaaGreatMf24
namespace Go.Proofs.YtbbnejehglonjaaGreat
set_option maxHeartbeats 8000000
set_option maxRecDepth 100000
set_option linter.unusedSimpArgs false
set_option linter.unusedVariables false
section
open Go.RowKit
attribute [local irreducible] Calls

section
variable {w : World} {t v mp mt : Nat} {L : PL} {T : ML}
variable {Sd : Nat → Prop} {d reg : Nat} {s : Sh} {gb cap m : Nat} {st : VSt} {c : Nat}
structure TxApart (Sd : Nat → Prop) (t mp mt m : Nat) : Prop where
 nt : ¬ Sd t
 np : ¬ Sd mp
 nk : ¬ Sd mt
 nm : mp ≠ m ∧ mt ≠ m
theorem MapI.neObj {w : World} {m g : Nat} {M : ML} {cs : Array Value} {ty : TypeId} (h : MapI w m M) (hg : objAt w g = some (.cells cs ty (0, 0))) : m ≠ g := fun e => h.neCells hg e.symm
end
end
section
open Go.RowKit

theorem roomV_bs (reg : Nat) (s : Sh) (n : Nat) (st : VSt) : (roomV reg s n st).bs = st.bs := by unfold roomV; split <;> rfl
theorem txV_nil (bs : List Blk) : txV [] bs = bs := by
 apply List.ext_getElem?
 intro j
 by_cases hj : j < bs.length
 · have := txV_getD [] bs j hj
   rw [List.getD_eq_getElem?_getD, List.getElem?_eq_getElem (by rw [txV_length]; exact hj)] at this
   rw [List.getElem?_eq_getElem (by rw [txV_length]; exact hj), List.getElem?_eq_getElem hj]
   have e : (lkB [] (j : Int)).getD (bs.getD j Blk.zero) = bs[j] := by rw [show lkB [] (j : Int) = none from rfl, List.getD_eq_getElem?_getD, List.getElem?_eq_getElem hj]; rfl
   rw [e] at this
   exact congrArg some this
 · rw [List.getElem?_eq_none (by rw [txV_length]; omega), List.getElem?_eq_none (by omega)]
end
section
open Go.RowKit

theorem mem_ents {B : List Blk} {n : Nm} {i : Nat} : (n, i) ∈ ents B ↔ i < B.length ∧ takeEntry (B.getD i Blk.zero) = some n := by
 unfold ents
 rw [List.mem_filterMap]
 constructor
 · rintro ⟨j, hj, he⟩
   rw [List.mem_range] at hj
   cases h : takeEntry (B.getD j Blk.zero) with
   | none => rw [h] at he; cases he
   | some m =>
     rw [h] at he
     simp only [Option.map_some, Option.some.injEq, Prod.mk.injEq] at he
     obtain ⟨rfl, rfl⟩ := he
     exact ⟨hj, h⟩
 · rintro ⟨hi, h⟩
   exact ⟨i, List.mem_range.2 hi, by rw [h]; rfl⟩
theorem ents_pairwise (B : List Blk) : (ents B).Pairwise fun p q => p.2 < q.2 := by
 unfold ents
 rw [List.pairwise_filterMap]
 refine List.Pairwise.imp ?_ (List.pairwise_lt_range (n := B.length))
 intro i j hij p hp q hq
 cases h : takeEntry (B.getD i Blk.zero) with
 | none => rw [h] at hp; cases hp
 | some a =>
   cases h' : takeEntry (B.getD j Blk.zero) with
   | none => rw [h'] at hq; cases hq
   | some b =>
     rw [h] at hp; rw [h'] at hq
     simp only [Option.map_some, Option.some.injEq] at hp hq
     subst hp hq
     exact hij
theorem ents_mem_set {B : List Blk} {k : Nat} {x : Blk} (hk : k < B.length) {n : Nm} {i : Nat} : (n, i) ∈ ents (B.set k x) ↔ (i = k ∧ takeEntry x = some n) ∨ (i ≠ k ∧ (n, i) ∈ ents B) := by
 rw [mem_ents, mem_ents, List.length_set]
 have e : (B.set k x).getD i Blk.zero = if i = k then x else B.getD i Blk.zero := by
  rw [List.getD_eq_getElem?_getD, List.getD_eq_getElem?_getD, List.getElem?_set]
  by_cases h : k = i
  · subst h; simp [hk]
  · rw [if_neg h, if_neg (fun e => h e.symm)]
 rw [e]
 by_cases h : i = k
 · subst h; rw [if_pos rfl]; simp [hk]
 · rw [if_neg h]; simp [h]
theorem entsTo_set_length {B : List Blk} {k : Nat} {x : Blk} (hk : k < B.length) : ∀ m, (entsTo (B.set k x) m).length ≤ (entsTo B m).length + (if k < m then 1 else 0)
 | 0 => by simp [entsTo]
 | m + 1 => by
   have ih := entsTo_set_length (x := x) hk m
   have e : (B.set k x).getD m Blk.zero = if m = k then x else B.getD m Blk.zero := by
    rw [List.getD_eq_getElem?_getD, List.getD_eq_getElem?_getD, List.getElem?_set]
    by_cases h : k = m
    · subst h; simp [hk]
    · rw [if_neg h, if_neg (fun e => h e.symm)]
   rw [entsTo_succ, entsTo_succ, List.length_append, List.length_append, e]
   by_cases h : m = k
   · subst h
     rw [if_pos rfl, if_pos (by omega)]
     rw [if_neg (by omega)] at ih
     have : ((takeEntry x).map fun n => (n, m)).toList.length ≤ 1 := by cases takeEntry x <;> simp
     omega
   · rw [if_neg h]
     by_cases h2 : k < m
     · rw [if_pos h2] at ih; rw [if_pos (by omega)]; omega
     · rw [if_neg h2] at ih; rw [if_neg (by omega)]; omega
theorem ents_set_length {B : List Blk} {k : Nat} {x : Blk} (hk : k < B.length) : (ents (B.set k x)).length ≤ (ents B).length + 1 := by
 have h := entsTo_set_length (x := x) hk B.length
 rw [if_pos hk] at h
 have e : ents (B.set k x) = entsTo (B.set k x) B.length := by unfold ents entsTo; rw [List.length_set]
 rw [e]; exact h
theorem findE_some {B : List Blk} {d : Id} {m : ByteArray} {p : Nm × Nat} (h : findE B d m = some p) : p ∈ ents B ∧ p.1.dir = d ∧ p.1.name = m := by
 have h1 := List.find?_some h
 have h2 := List.mem_of_find?_eq_some h
 simp only [isN, Bool.and_eq_true, decide_eq_true_eq] at h1
 exact ⟨h2, h1.1, h1.2⟩
theorem findE_none {B : List Blk} {d : Id} {m : ByteArray} (h : findE B d m = none) (p : Nm × Nat) (hp : p ∈ ents B) : ¬ (p.1.dir = d ∧ p.1.name = m) := by
 have := List.find?_eq_none.1 h p hp
 simpa [isN] using this
structure NamesOk (B : List Blk) : Prop where
 kinds : ∀ i, i < B.length → (B.getD i Blk.zero).kind ≠ 1 ∧ (B.getD i Blk.zero).kind ≠ 2 ∧ (B.getD i Blk.zero).kind ≠ 3
 good : ∀ i, i < B.length → (B.getD i Blk.zero).kind = 6 → ∃ n, takeEntry (B.getD i Blk.zero) = some n
 once : ∀ p ∈ ents B, ∀ q ∈ ents B, p.1.dir = q.1.dir → p.1.name = q.1.name → p = q
theorem NamesOk.use {B : List Blk} (h : NamesOk B) {T : ML} {j : Nat} (hj : j < B.length) : inUse B T (j : Int) ↔ j = 0 ∨ (j : Int) ∈ keysL T ∨ ∃ n, (n, j) ∈ ents B := by
 have hb : ∀ i, i < B.length → (useBy B i (j : Int) ↔ (j = i ∧ ∃ n, (n, j) ∈ ents B)) := fun i hi => by
  obtain ⟨k1, k2, k3⟩ := h.kinds i hi
  by_cases h6 : (B.getD i Blk.zero).kind = 6
  · rw [useBy_plain rfl (.inr (.inr h6))]
    obtain ⟨n, hn⟩ := h.good i hi h6
    constructor
    · intro e
      have e' : j = i := by omega
      subst e'
      exact ⟨rfl, n, mem_ents.2 ⟨hi, hn⟩⟩
    · rintro ⟨rfl, _⟩; rfl
  · constructor
    · intro e; exact absurd e (useBy_none (kd := (B.getD i Blk.zero).kind) rfl rfl ⟨k1, k2, k3, h6⟩)
    · rintro ⟨rfl, n, hn⟩
      exact absurd (takeEntry_kind (mem_ents.1 hn).2) h6
 unfold inUse
 constructor
 · rintro (e | e | ⟨i, hi, e⟩)
   · exact .inl (by omega)
   · exact .inr (.inl e)
   · exact .inr (.inr ((hb i hi).1 e).2)
 · rintro (e | e | ⟨n, hn⟩)
   · exact .inl (by omega)
   · exact .inr (.inl e)
   · exact .inr (.inr ⟨j, hj, (hb j hj).2 ⟨rfl, n, hn⟩⟩)
theorem cover_len : ∀ (n : Nat) (P : List Nat), (∀ j, j < n → j ∈ P) → n ≤ P.length
 | 0, _, _ => Nat.zero_le _
 | n + 1, P, h => by
   have hm := h n (by omega)
   have := cover_len n (P.erase n) (fun j hj => (List.mem_erase_of_ne (by omega)).2 (h j (by omega)))
   rw [List.length_erase_of_mem hm] at this
   have := List.length_pos_of_mem hm
   omega
theorem NamesOk.room {B : List Blk} (h : NamesOk B) {T : ML} (hl : 1 + T.length + (ents B).length < B.length) : ∃ j, j < B.length ∧ ¬ inUse B T (j : Int) := by
 refine Classical.byContradiction fun hn => ?_
 have hall : ∀ j, j < B.length → inUse B T (j : Int) := fun j hj => Classical.byContradiction fun e => hn ⟨j, hj, e⟩
 have hP : ∀ j, j < B.length → j ∈ 0 :: ((keysL T).map Int.toNat ++ (ents B).map (·.2)) := fun j hj => by
  rcases (h.use hj).1 (hall j hj) with e | e | ⟨n, e⟩
  · subst e; simp
  · exact List.mem_cons_of_mem _ (List.mem_append_left _ (List.mem_map.2 ⟨_, e, by simp⟩))
  · exact List.mem_cons_of_mem _ (List.mem_append_right _ (List.mem_map.2 ⟨_, e, rfl⟩))
 have hsub := cover_len B.length _ hP
 simp only [List.length_cons, List.length_append, List.length_map] at hsub
 have : (keysL T).length = T.length := by simp [keysL]
 omega
theorem NamesOk.add {B : List Blk} (h : NamesOk B) {n : Nm} (hm : mayEntry n = true) (hw : n.wf) {k : Nat} (hk : k < B.length) (hfree : ∀ m, (m, k) ∉ ents B) (hno : findE B n.dir n.name = none) : NamesOk (B.set k (putEntry n).1) := by
 have hp : (putEntry n).1.kind = 6 := by
  have : putEntry n = (Blk.of 6 (entryBytes n), true) := by unfold putEntry; rw [if_pos hm]
  rw [this]; exact Blk.of_kind _ _
 have e : ∀ i, (B.set k (putEntry n).1).getD i Blk.zero = if i = k then (putEntry n).1 else B.getD i Blk.zero := fun i => by
  rw [List.getD_eq_getElem?_getD, List.getD_eq_getElem?_getD, List.getElem?_set]
  by_cases h : k = i
  · subst h; simp [hk]
  · rw [if_neg h, if_neg (fun e => h e.symm)]
 have htk := take_putEntry hm hw
 refine ⟨fun i hi => ?_, fun i hi h6 => ?_, fun p hp1 q hq1 h1 h2 => ?_⟩
 · rw [List.length_set] at hi
   rw [e i]
   by_cases hik : i = k
   · rw [if_pos hik, hp]; decide
   · rw [if_neg hik]; exact h.kinds i hi
 · rw [List.length_set] at hi
   rw [e i] at h6 ⊢
   by_cases hik : i = k
   · rw [if_pos hik]; exact ⟨n, htk⟩
   · rw [if_neg hik] at h6 ⊢; exact h.good i hi h6
 · obtain ⟨p, i⟩ := p
   obtain ⟨q, j⟩ := q
   rcases (ents_mem_set hk).1 hp1 with ⟨rfl, a1⟩ | ⟨a0, a1⟩
   · rw [htk] at a1
     obtain rfl := Option.some.inj a1
     rcases (ents_mem_set hk).1 hq1 with ⟨rfl, b1⟩ | ⟨b0, b1⟩
     · rw [htk] at b1; obtain rfl := Option.some.inj b1; rfl
     · exact absurd ⟨h1.symm, h2.symm⟩ (findE_none hno _ b1)
   · rcases (ents_mem_set hk).1 hq1 with ⟨rfl, b1⟩ | ⟨b0, b1⟩
     · rw [htk] at b1
       obtain rfl := Option.some.inj b1
       exact absurd ⟨h1, h2⟩ (findE_none hno _ a1)
     · exact h.once _ a1 _ b1 h1 h2
theorem take_zero : takeEntry Blk.zero = none := by
 cases h : takeEntry Blk.zero with
 | none => rfl
 | some n =>
   have := takeEntry_kind h
   have z : Blk.zero.kind = 0 := by unfold Blk.zero; exact Blk.of_kind 0 []
   omega
theorem NamesOk.out {B : List Blk} (h : NamesOk B) {k : Nat} (hk : k < B.length) : NamesOk (B.set k Blk.zero) := by
 have z : Blk.zero.kind = 0 := by unfold Blk.zero; exact Blk.of_kind 0 []
 have e : ∀ i, (B.set k Blk.zero).getD i Blk.zero = if i = k then Blk.zero else B.getD i Blk.zero := fun i => by
  rw [List.getD_eq_getElem?_getD, List.getD_eq_getElem?_getD, List.getElem?_set]
  by_cases h : k = i
  · subst h; simp [hk]
  · rw [if_neg h, if_neg (fun e => h e.symm)]
 refine ⟨fun i hi => ?_, fun i hi h6 => ?_, fun p hp1 q hq1 h1 h2 => ?_⟩
 · rw [List.length_set] at hi
   rw [e i]
   by_cases hik : i = k
   · rw [if_pos hik, z]; decide
   · rw [if_neg hik]; exact h.kinds i hi
 · rw [List.length_set] at hi
   rw [e i] at h6 ⊢
   by_cases hik : i = k
   · rw [if_pos hik, z] at h6; cases h6
   · rw [if_neg hik] at h6 ⊢; exact h.good i hi h6
 · obtain ⟨p, i⟩ := p
   obtain ⟨q, j⟩ := q
   rcases (ents_mem_set hk).1 hp1 with ⟨_, a1⟩ | ⟨a0, a1⟩
   · rw [take_zero] at a1; cases a1
   · rcases (ents_mem_set hk).1 hq1 with ⟨_, b1⟩ | ⟨b0, b1⟩
     · rw [take_zero] at b1; cases b1
     · exact h.once _ a1 _ b1 h1 h2
theorem upB_cons (p : Int × Blk) (L : PL) (k : Int) (b : Blk) : upB (p :: L) k b = if p.1 = k then (k, b) :: L else p :: upB L k b := by
 unfold upB
 rw [List.findIdx?_cons]
 by_cases h : p.1 = k
 · have hb : (p.1 == k) = true := by simpa using h
   rw [hb, if_pos h]; rfl
 · have hb : (p.1 == k) = false := by simpa using h
   rw [hb, if_neg h]
   cases L.findIdx? (fun p => p.1 == k) <;> rfl
theorem lkB_cons (p : Int × Blk) (L : PL) (a : Int) : lkB (p :: L) a = if p.1 = a then some p.2 else lkB L a := by
 unfold lkB
 rw [List.find?_cons]
 by_cases h : p.1 = a
 · have hb : (p.1 == a) = true := by simpa using h
   rw [hb, if_pos h]; rfl
 · have hb : (p.1 == a) = false := by simpa using h
   rw [hb, if_neg h]
theorem lkB_upB (k : Int) (b : Blk) (a : Int) : ∀ L : PL, lkB (upB L k b) a = if a = k then some b else lkB L a
 | [] => by
   show lkB [(k, b)] a = _
   rw [lkB_cons]
   by_cases h : a = k
   · rw [if_pos h.symm, if_pos h]
   · rw [if_neg (fun e => h e.symm), if_neg h]
 | p :: L => by
   rw [upB_cons]
   by_cases h : p.1 = k
   · rw [if_pos h, lkB_cons, lkB_cons]
     by_cases e : a = k
     · rw [if_pos e.symm, if_pos e]
     · rw [if_neg (fun h => e h.symm), if_neg e, if_neg (fun h2 => e (by rw [← h2, h]))]
   · rw [if_neg h, lkB_cons, lkB_cons, lkB_upB k b a L]
     by_cases e : p.1 = a
     · rw [if_pos e, if_pos e, if_neg (fun h2 => h (by rw [e, h2]))]
     · rw [if_neg e, if_neg e]
theorem txV_up {L : PL} {bs : List Blk} {k : Nat} (b : Blk) : txV (upB L (k : Int) b) bs = (txV L bs).set k b := by
 have hlk : ∀ a : Int, lkB (upB L (k : Int) b) a = if a = (k : Int) then some b else lkB L a := fun a => lkB_upB _ _ _ _
 apply List.ext_getElem
 · rw [txV_length, List.length_set, txV_length]
 · intro j h1 h2
   rw [txV_length] at h1
   have e1 := txV_getD (upB L (k : Int) b) bs j h1
   rw [List.getD_eq_getElem?_getD, List.getElem?_eq_getElem (by rw [txV_length]; exact h1), Option.getD_some] at e1
   rw [e1, hlk, List.getElem_set]
   by_cases e : k = j
   · subst e; simp
   · rw [if_neg (by omega), if_neg e]
     have e2 := txV_getD L bs j h1
     rw [List.getD_eq_getElem?_getD, List.getElem?_eq_getElem (by rw [txV_length]; exact h1), Option.getD_some] at e2
     rw [e2]
end
section
open Go.RowKit

theorem takeIndex_zero : takeIndex Blk.zero = none := by
 unfold takeIndex
 rw [if_neg]
 intro e
 unfold putIndex at e
 split at e
 · have := congrArg (fun p => p.1.kind) e
   simp only [Blk.of_kind] at this
   exact absurd (this.trans (show Blk.zero.kind = 0 by unfold Blk.zero; exact Blk.of_kind 0 [])) (by decide)
 · have := congrArg (fun p => p.2) e
   cases this
theorem mem_real {l : List Int} {j : Nat} : (j : Int) ∈ real l ↔ (j : Int) ∈ l := by
 unfold real
 rw [List.mem_filter]
 exact ⟨fun h => h.1, fun h => ⟨h, by simp⟩⟩
theorem mem_names {bs : List Blk} {f : Blk} {n : Nd} (hf : takeNode f = (n, true)) (j : Nat) : (j : Int) ∈ namesT bs f ↔ (j : Int) ∈ namesOf bs n := by
 unfold namesT namesOf
 rw [hf, if_pos rfl]
 simp only [List.mem_append, mem_real]
 unfold Nd.places Nd.direct
 by_cases hi : n.index = -1
 · have hi' : (n.index == -1) = true := by simpa using hi
   rw [if_pos hi, if_pos hi']
   simp only [List.mem_cons, List.not_mem_nil, or_false, false_or]
   constructor
   · rintro (h | h | h | h | h)
     · exact .inl h
     · exact .inr (.inl h)
     · exact .inr (.inr (.inl h))
     · exact .inr (.inr (.inr h))
     · omega
   · rintro (h | h | h | h)
     · exact .inl h
     · exact .inr (.inl h)
     · exact .inr (.inr (.inl h))
     · exact .inr (.inr (.inr (.inl h)))
 · have hi' : (n.index == -1) = false := by simpa using hi
   rw [if_neg hi, hi']
   simp only [Bool.false_eq_true, if_false, List.mem_cons, List.not_mem_nil, or_false]
   have hx : (j : Int) ∈ (takeIndex (getB bs n.index)).getD [] ↔ (j : Int) ∈ (if inB bs n.index = true then real ((takeIndex (blkD bs n.index)).getD []) else []) := by
    unfold getB
    cases inB bs n.index with
    | true => simp only [if_true, mem_real]
    | false => simp [takeIndex_zero]
   rw [hx]
   constructor
   · rintro ((h | h | h | h | h) | h)
     · exact .inr (.inl h)
     · exact .inr (.inr (.inl h))
     · exact .inr (.inr (.inr (.inl h)))
     · exact .inr (.inr (.inr (.inr h)))
     · exact .inl (.inl h)
     · exact .inl (.inr h)
   · rintro ((h | h) | h | h | h | h)
     · exact .inl (.inr (.inr (.inr (.inr h))))
     · exact .inr h
     · exact .inl (.inl h)
     · exact .inl (.inr (.inl h))
     · exact .inl (.inr (.inr (.inl h)))
     · exact .inl (.inr (.inr (.inr (.inl h))))
theorem mem_named {bs : List Blk} {i : Nat} (j : Nat) (hk : (bs.getD i Blk.zero).kind = 1) : (j : Int) ∈ named bs i ↔ (j : Int) ∈ namesT bs (bs.getD i Blk.zero) := by
 unfold named
 rw [if_pos hk]
 obtain ⟨⟨n, ok⟩, hf⟩ : ∃ p, takeNode (bs.getD i Blk.zero) = p := ⟨_, rfl⟩
 cases ok with
 | true => rw [mem_names hf, hf]
 | false => unfold namesT; rw [hf]; simp
theorem used_iff {bs : List Blk} {j : Nat} (hj : j < bs.length) : usedUpto bs bs.length j = true ↔ inUse bs [] (j : Int) := by
 unfold usedUpto inUse useBy
 simp only [Bool.or_eq_true, Bool.and_eq_true, decide_eq_true_eq, List.any_eq_true, List.mem_range, List.contains_iff_mem, beq_iff_eq, keysL, List.map_nil, List.not_mem_nil, false_or, isNode]
 constructor
 · rintro (⟨_, (h | h) | h⟩ | ⟨i, hi, h⟩)
   · exact .inl (by omega)
   · refine .inr ⟨j, hj, ?_⟩
     rcases h with (h | h) | h
     · exact .inl ⟨h, .inr rfl⟩
     · exact .inr ⟨.inl h, rfl⟩
     · exact .inr ⟨.inr (.inl h), rfl⟩
   · exact .inr ⟨j, hj, .inr ⟨.inr (.inr h), rfl⟩⟩
   · refine .inr ⟨i, hi, .inl ?_⟩
     by_cases hk : (bs.getD i Blk.zero).kind = 1
     · exact ⟨hk, .inl ((mem_named j hk).1 h)⟩
     · unfold named at h; rw [if_neg hk] at h; simp at h
 · rintro (h | ⟨i, hi, ⟨hk, h | h⟩ | ⟨hk, h⟩⟩)
   · exact .inl ⟨hj, .inl (.inl (by omega))⟩
   · exact .inr ⟨i, hi, (mem_named j hk).2 h⟩
   · obtain rfl : j = i := by omega
     exact .inl ⟨hj, .inl (.inr (.inl (.inl hk)))⟩
   · obtain rfl : j = i := by omega
     rcases hk with hk | hk | hk
     · exact .inl ⟨hj, .inl (.inr (.inl (.inr hk)))⟩
     · exact .inl ⟨hj, .inl (.inr (.inr hk))⟩
     · exact .inl ⟨hj, .inr hk⟩
theorem sets_used {U : List Bool} {bs : List Blk} (h : Sets U bs.length (inUse bs [])) : U = used bs := by
 apply List.ext_getElem?
 intro j
 by_cases hj : j < bs.length
 · have h1 := h.at_ j hj
   rw [← used_iff hj] at h1
   unfold used
   rw [List.getElem?_map, List.getElem?_range hj]
   have hU : j < U.length := by rw [h.len]; exact hj
   rw [List.getElem?_eq_getElem hU] at h1 ⊢
   cases hu : U[j] <;> cases hv : usedUpto bs bs.length j <;> simp_all
 · rw [List.getElem?_eq_none (by rw [h.len]; omega), List.getElem?_eq_none (by simp [used]; omega)]
theorem Sets.mark {n : Nat} (xs : List Int) : ∀ {U : List Bool} {S : Int → Prop}, Sets U n S → (∀ x ∈ xs, 0 ≤ x) → Sets (markAll U xs) n (fun j => S j ∨ j ∈ xs) := by
 induction xs with
 | nil => intro U S h _; exact h.iff fun j _ => by simp
 | cons x xs ih =>
   intro U S h hx
   have h0 := hx x List.mem_cons_self
   have h1 : Sets (U.set x.toNat true) n (fun j => S j ∨ j = x) := by
    refine ⟨by rw [List.length_set]; exact h.len, fun j hj => ?_⟩
    rw [List.getElem?_set]
    by_cases e : x.toNat = j
    · rw [if_pos e, if_pos (by rw [h.len]; omega)]
      exact ⟨fun _ => .inr (by omega), fun _ => rfl⟩
    · rw [if_neg e, h.at_ j hj]
      exact ⟨.inl, fun e' => e'.resolve_right (by omega)⟩
   refine Sets.iff (ih h1 fun y hy => hx y (List.mem_cons_of_mem _ hy)) fun j _ => ?_
   simp only [List.mem_cons]
   exact or_assoc
theorem Sets.eq {U V : List Bool} {n : Nat} {S : Int → Prop} (h : Sets U n S) (k : Sets V n S) : U = V := by
 apply List.ext_getElem?
 intro j
 by_cases hj : j < n
 · have h1 := (h.at_ j hj).trans (k.at_ j hj).symm
   have hU : j < U.length := by rw [h.len]; exact hj
   have hV : j < V.length := by rw [k.len]; exact hj
   rw [List.getElem?_eq_getElem hU, List.getElem?_eq_getElem hV] at h1 ⊢
   cases hu : U[j] <;> cases hv : V[j] <;> simp_all
 · rw [List.getElem?_eq_none (by rw [h.len]; omega), List.getElem?_eq_none (by rw [k.len]; omega)]
theorem used_sets (bs : List Blk) : Sets (used bs) bs.length (inUse bs []) := ⟨by simp [used], fun j hj => by
 rw [← used_iff hj]
 unfold used
 rw [List.getElem?_map, List.getElem?_range hj]
 simp⟩
theorem sets_taken {U : List Bool} {bs : List Blk} {T : ML} (h : Sets U bs.length (inUse bs T)) (h0 : ∀ k ∈ keysL T, 0 ≤ k) : U = markAll (used bs) (keysL T) := by
 refine h.eq (Sets.iff ((used_sets bs).mark (keysL T) h0) fun j _ => ?_)
 unfold inUse
 simp only [keysL, List.map_nil, List.not_mem_nil, false_or]
 constructor
 · rintro ((h | h) | h)
   · exact .inl h
   · exact .inr (.inr h)
   · exact .inr (.inl h)
 · rintro (h | h | h)
   · exact .inl (.inl h)
   · exact .inr h
   · exact .inl (.inr h)
theorem firstFrom_find (l : List Bool) : ∀ (m k : Nat), l.length - k = m → firstFrom l k = ((l.drop k).findIdx? (! ·)).map (· + k) := by
 intro m
 induction m with
 | zero => intro k hm; rw [firstFrom_none (by omega), List.drop_of_length_le (by omega)]; rfl
 | succ m ih =>
   intro k hm
   have hk : k < l.length := by omega
   rw [List.drop_eq_getElem_cons hk, List.findIdx?_cons]
   cases hv : l[k] with
   | true =>
     rw [firstFrom_yes hk hv, ih (k + 1) (by omega)]
     simp only [Bool.not_true, Bool.false_eq_true, if_false, Option.map_map]
     congr 1
     funext x
     simp only [Function.comp]
     omega
   | false => rw [firstFrom_no hk hv]; simp
theorem left_used {U : List Bool} {bs : List Blk} (h : Sets U bs.length (inUse bs [])) : U.count false = left bs := by
 rw [sets_used h]
 unfold left
 rw [List.count_eq_countP]
 congr 1
 funext b
 cases b <;> rfl
end
section
open Go.RowKit
attribute [local irreducible] Calls

structure TxV (w : World) (Sd : Nat → Prop) (t v mp mt : Nat) (L : PL) (T : ML) (d reg : Nat) (s : Sh) (gb cap m : Nat) (st : VSt) (c : Nat) : Prop where
 tx : TxAt w t v mp mt L T st.bs.length
 vol : VolS w Sd v d reg s gb cap m st c
 ap : TxApart Sd t mp mt m
section
variable {w w' : World} {Sd : Nat → Prop} {t v mp mt : Nat} {L L' : PL} {T T' : ML} {d reg : Nat} {s : Sh} {gb cap m : Nat} {st : VSt} {c : Nat}
theorem TxV.below (h : TxV w Sd t v mp mt L T d reg s gb cap m st c) (hb : Below w.heap.size w w') : TxV w' Sd t v mp mt L T d reg s gb cap m st c := ⟨h.tx.below hb, VolP.below h.vol hb, h.ap⟩
theorem TxV.turn (h : TxV w Sd t v mp mt L T d reg s gb cap m st c) (ht : TxAt w' t v mp mt L' T' st.bs.length) (hk : Keeps (fun q => q = mp ∨ q = mt) w w') : TxV w' Sd t v mp mt L' T' d reg s gb cap m st c := by
 obtain ⟨cs, hcs⟩ := VolP.neRow h.vol
 refine ⟨ht, VolP.keeps h.vol hk (fun g hg e => ?_) (fun e => ?_) (fun e => ?_) (fun e => ?_), h.ap⟩
 · rcases e with e | e
   · exact h.ap.np (e ▸ hg)
   · exact h.ap.nk (e ▸ hg)
 · rcases e with e | e
   · exact h.tx.put.neObj h.vol.o e.symm
   · exact h.tx.tk.neObj h.vol.o e.symm
 · rcases e with e | e
   · exact h.ap.nm.1 e.symm
   · exact h.ap.nm.2 e.symm
 · rcases e with e | e
   · exact h.tx.put.neObj hcs e.symm
   · exact h.tx.tk.neObj hcs e.symm
def AddR (bs : List Blk) (L : PL) (T : ML) (n : Nm) (r : Int) (L' : PL) (T' : ML) : Prop :=
 (mayEntry n = false ∧ r = 1 ∧ L' = L ∧ T' = T) ∨
 (mayEntry n = true ∧ (∃ p, findE (txV L bs) n.dir n.name = some p) ∧ r = 4 ∧ L' = L ∧ T' = T) ∨
 (mayEntry n = true ∧ findE (txV L bs) n.dir n.name = none ∧
  (((∀ j, j < bs.length → inUse (txV L bs) T (j : Int)) ∧ r = 9 ∧ L' = L ∧ T' = T) ∨
   ∃ k, k < bs.length ∧ ¬ inUse (txV L bs) T (k : Int) ∧ (∀ j, j < k → inUse (txV L bs) T (j : Int)) ∧ r = 0 ∧ L' = upB L (k : Int) (putEntry n).1 ∧ T' = up T (k : Int) (.bool true)))
theorem firstFrom_spec {l : List Bool} : ∀ (m k : Nat), l.length - k = m → (firstFrom l k = none ∧ ∀ j, k ≤ j → j < l.length → l[j]? = some true) ∨ ∃ j, firstFrom l k = some j ∧ k ≤ j ∧ l[j]? = some false ∧ ∀ i, k ≤ i → i < j → l[i]? = some true := by
 intro m k hm
 have h := firstFrom_find l m k hm
 rw [h]
 cases hf : (l.drop k).findIdx? (! ·) with
 | none =>
   left
   refine ⟨rfl, fun j hj hjl => ?_⟩
   rw [List.findIdx?_eq_none_iff] at hf
   have := hf (l[j]) (by rw [List.mem_iff_getElem?]; exact ⟨j - k, by rw [List.getElem?_drop, show k + (j - k) = j by omega, List.getElem?_eq_getElem hjl]⟩)
   rw [List.getElem?_eq_getElem hjl]
   simpa using this
 | some i =>
   right
   rw [List.findIdx?_eq_some_iff_getElem] at hf
   obtain ⟨hi, h1, h2⟩ := hf
   rw [List.length_drop] at hi
   refine ⟨i + k, rfl, by omega, ?_, fun a ha hai => ?_⟩
   · rw [List.getElem_drop] at h1
     rw [show i + k = k + i by omega, List.getElem?_eq_getElem (by omega)]
     simpa using h1
   · have := h2 (a - k) (by omega)
     rw [List.getElem_drop] at this
     rw [List.getElem?_eq_getElem (by omega)]
     simp only [show k + (a - k) = a by omega] at this
     simpa using this
end
end
section
open Go.RowKit

structure Fl where
 n : Nd
 li : List Int
def Fl.slot (f : Fl) (k : Nat) : Int := if k < 4 then f.n.direct.getD k 0 else f.li.getD (k - 4) 0
def Fl.put (f : Fl) (k : Nat) (x : Int) : Fl := if k < 4 then ⟨f.n.setDirect k x, f.li⟩ else ⟨f.n, f.li.set (k - 4) x⟩
def flOf (B : List Blk) (a : Int) : Option Fl :=
 if (getB B a).kind = 1 ∧ (takeNode (getB B a)).2 = true then some ⟨(takeNode (getB B a)).1, (takeIndex (getB B (takeNode (getB B a)).1.index)).getD holes⟩ else none
def usedT (B : List Blk) (T : ML) : List Bool := markAll (used B) (keysL T)
def pickT (B : List Blk) (T : ML) : Option Nat := firstFrom (usedT B T) 0
def leftT (B : List Blk) (T : ML) : Nat := (usedT B T).count false
def dataBlk : Blk := Blk.of 4 []
structure Ws where
 L : PL
 T : ML
 f : Fl
def takeIx (bs : List Blk) (s : Ws) (k : Nat) : Option Ws :=
 if 4 ≤ k ∧ s.f.n.index = -1 then (pickT (txV s.L bs) s.T).map fun (i : Nat) => ⟨s.L, up s.T (i : Int) (.bool true), ⟨{ s.f.n with index := (i : Int) }, s.f.li⟩⟩ else some s
def blkF (bs : List Blk) (s : Ws) (k : Nat) : Option Int × Ws :=
 if s.f.slot k ≠ -1 then (some (s.f.slot k), s) else
 match takeIx bs s k with
 | none => (none, s)
 | some s1 => match pickT (txV s1.L bs) s1.T with
   | none => (none, s1)
   | some i => (some (i : Int), ⟨putL s1.L bs (i : Int) dataBlk, up s1.T (i : Int) (.bool true), s1.f.put k (i : Int)⟩)
def Blk.cover (b : Blk) (a : Nat) (l : List UInt8) : Blk := ⟨b.kind, (List.range 56).map fun i => if a ≤ i ∧ i < a + l.length then l.getD (i - a) 0 else b.body.getD i 0, by simp⟩
def putP (bs : List Blk) (off : Nat) (data : List UInt8) (s : Ws) (p : Pc) (x : Int) : Ws :=
 ⟨putL s.L bs x ((getB (txV s.L bs) x).cover p.from_ ((data.drop (p.k * 56 + p.from_ - off)).take (p.to_ - p.from_))), s.T, s.f⟩
def wRun (bs : List Blk) (off : Nat) (data : List UInt8) : List Pc → Ws → Bool × Ws
 | [], s => (true, s)
 | p :: ps, s => match blkF bs s p.k with
   | (none, s1) => (false, s1)
   | (some x, s1) => wRun bs off data ps (putP bs off data s1 p x)
def keepF (bs : List Blk) (a : Int) (s : Ws) : PL := putL (if s.f.n.index = -1 then s.L else putL s.L bs s.f.n.index (putIndex s.f.li).1) bs a (putNode 1 s.f.n).1
def wEnd (l : List Pc) : Nat := match l.getLast? with | some p => p.k * 56 + p.to_ | none => 0
def wPcs (off : Nat) (data : List UInt8) : List Pc := (pieces off (off + min data.length (1120 - off))).take 4
def Fl.sized (f : Fl) (z : Int) : Fl := ⟨{ f.n with size := z }, f.li⟩
def writeF (bs : List Blk) (L : PL) (T : ML) (a off : Int) (data : List UInt8) : (Int × Int) × PL × ML :=
 match flOf (txV L bs) a with
 | none => ((0, 2), L, T)
 | some f =>
   if off < 0 then ((0, 1), L, T) else if data = [] then ((0, 0), L, T) else if 1120 ≤ off then ((0, 13), L, T) else
   match wRun bs off.toNat data (wPcs off.toNat data) ⟨L, T, f⟩ with
   | (false, s) => ((0, 9), s.L, s.T)
   | (true, s) => (((wEnd (wPcs off.toNat data) : Int) - off, 0), keepF bs a ⟨s.L, s.T, s.f.sized (max s.f.n.size (wEnd (wPcs off.toNat data)))⟩, s.T)
def readF (B : List Blk) (f : Fl) (a b : Nat) : List UInt8 := (pieces a b).flatMap fun p => ((getB B (f.slot p.k)).body.drop p.from_).take (p.to_ - p.from_)
def readR (B : List Blk) (a off n : Int) : List UInt8 × Int :=
 match flOf B a with
 | none => ([], 2)
 | some f => if off < 0 ∨ n < 0 then ([], 1) else (readF B f off.toNat (off.toNat + (min n (max (f.n.size - off) 0)).toNat), 0)
def cutB (bs : List Blk) (s : Ws) (k r : Nat) : Ws := ⟨putL s.L bs (s.f.slot k) ((getB (txV s.L bs) (s.f.slot k)).cover r (List.replicate (56 - r) 0)), s.T, s.f⟩
def cutF (bs : List Blk) (size : Nat) (s : Ws) (k : Nat) : Ws :=
 if size - k * 56 = 0 then ⟨s.L, s.T, s.f.put k (-1)⟩ else if size - k * 56 < 56 ∧ s.f.slot k ≠ -1 then cutB bs s k (size - k * 56) else s
def Fl.lean (f : Fl) : Fl := if f.li.all (· == -1) = true then ⟨{ f.n with index := -1 }, f.li⟩ else f
def cuts (bs : List Blk) (size k : Nat) (s : Ws) : Ws := (List.range k).foldl (cutF bs size) s
def truncF (bs : List Blk) (L : PL) (T : ML) (a size : Int) : Int × PL :=
 match flOf (txV L bs) a with
 | none => (2, L)
 | some f => if size < 0 then (1, L) else if 1120 < size then (13, L) else
   let s := cuts bs size.toNat 20 ⟨L, T, f.sized size⟩
   (0, keepF bs a ⟨s.L, s.T, s.f.lean⟩)

/-! Rows of truths. -/
theorem used_setsT (B : List Blk) (T : ML) (h0 : ∀ k ∈ keysL T, 0 ≤ k) : Sets (usedT B T) B.length (inUse B T) := by
 refine Sets.iff ((used_sets B).mark (keysL T) h0) fun j _ => ?_
 unfold inUse
 simp only [keysL, List.map_nil, List.not_mem_nil, false_or]
 constructor
 · rintro ((h | h) | h)
   · exact .inl h
   · exact .inr (.inr h)
   · exact .inr (.inl h)
 · rintro (h | h | h)
   · exact .inl (.inl h)
   · exact .inr h
   · exact .inl (.inr h)
theorem count_false_true (l : List Bool) : l.count false + l.count true = l.length := by
 induction l with
 | nil => rfl
 | cons b l ih => cases b <;> simp <;> omega
theorem count_sets {n : Nat} : ∀ (P : List Nat), P.Nodup → (∀ j ∈ P, j < n) → ∀ {U : List Bool}, Sets U n (fun x => ∃ j ∈ P, (j : Int) = x) → U.count true = P.length := by
 intro P
 induction P with
 | nil =>
   intro _ _ U h
   rw [List.count_eq_zero.2, List.length_nil]
   intro hm
   obtain ⟨j, hj⟩ := List.getElem?_of_mem hm
   have hlt : j < U.length := (List.getElem?_eq_some_iff.1 hj).1
   obtain ⟨_, hx, _⟩ := (h.at_ j (by rw [← h.len]; exact hlt)).1 hj
   simp at hx
 | cons p P ih =>
   intro hn hl U h
   rw [List.nodup_cons] at hn
   have hp := hl p List.mem_cons_self
   have hpU : p < U.length := by rw [h.len]; exact hp
   have h2 : Sets (U.set p false) n (fun x => ∃ j ∈ P, (j : Int) = x) := by
    refine ⟨by rw [List.length_set]; exact h.len, fun j hj => ?_⟩
    rw [List.getElem?_set]
    by_cases e : p = j
    · subst e
      rw [if_pos rfl, if_pos hpU]
      constructor
      · intro e; cases e
      · rintro ⟨q, hq, e⟩
        obtain rfl : q = p := by omega
        exact absurd hq hn.1
    · rw [if_neg e, h.at_ j hj]
      constructor
      · rintro ⟨q, hq, e'⟩
        rcases List.mem_cons.1 hq with rfl | hq
        · exact absurd (by omega) e
        · exact ⟨q, hq, e'⟩
      · rintro ⟨q, hq, e'⟩
        exact ⟨q, List.mem_cons_of_mem _ hq, e'⟩
   have h3 := ih hn.2 (fun j hj => hl j (List.mem_cons_of_mem _ hj)) h2
   have h4 : U[p] = true := by
    have := (h.at_ p hp).2 ⟨p, List.mem_cons_self, rfl⟩
    rw [List.getElem?_eq_getElem hpU] at this
    exact Option.some.inj this
   rw [List.count_set hpU, h4] at h3
   have h5 : 0 < U.count true := List.count_pos_iff.2 (h4 ▸ List.getElem_mem hpU)
   simp at h3
   rw [List.length_cons]; omega
theorem pick_none {B : List Blk} {T : ML} (h : pickT B T = none) : leftT B T = 0 := by
 rcases firstFrom_spec (l := usedT B T) _ 0 rfl with ⟨_, h2⟩ | ⟨j, h1, _⟩
 · unfold leftT
   rw [List.count_eq_zero]
   intro hm
   obtain ⟨j, hj⟩ := List.getElem?_of_mem hm
   rw [h2 j (Nat.zero_le _) (List.getElem?_eq_some_iff.1 hj).1] at hj
   cases hj
 · unfold pickT at h; rw [h] at h1; cases h1
theorem pick_some {B : List Blk} {T : ML} {k : Nat} (h : pickT B T = some k) (h0 : ∀ k ∈ keysL T, 0 ≤ k) : k < B.length ∧ ¬ inUse B T (k : Int) ∧ 0 < leftT B T := by
 rcases firstFrom_spec (l := usedT B T) _ 0 rfl with ⟨h1, _⟩ | ⟨j, h1, _, h2, _⟩
 · unfold pickT at h; rw [h] at h1; cases h1
 · unfold pickT at h
   rw [h] at h1
   obtain rfl := Option.some.inj h1
   have hl := (List.getElem?_eq_some_iff.1 h2).1
   have hs := used_setsT B T h0
   rw [hs.len] at hl
   refine ⟨hl, fun e => ?_, List.count_pos_iff.2 (List.mem_of_getElem? h2)⟩
   rw [(hs.at_ k hl).2 e] at h2
   cases h2
end
section
open Go.RowKit
attribute [local irreducible] Calls

def Fl.cells (f : Fl) (t : Nat) (a : Int) (v : Value) : Array Value := #[.pointer (some ⟨t, 0, none⟩), .int .i64 a, .int .u32 f.n.gen, .int .i64 f.n.links, .int .i64 f.n.size, .int .i64 f.n.d0, .int .i64 f.n.d1, .int .i64 f.n.d2, .int .i64 f.n.d3, .int .i64 f.n.index, .string f.n.target, v]
structure FlAt (w : World) (B F t : Nat) (a : Int) (f : Fl) (gi ci : Nat) : Prop where
 obj : objAt w F = some (.cells (f.cells t a (.slice (some ⟨gi, 0, none⟩) 16 ci)) 177 (0, 0))
 row : IRow w B (.slice (some ⟨gi, 0, none⟩) 16 ci) f.li
 l16 : f.li.length = 16
 ge : B ≤ F
def slotA (F gi k : Nat) : Addr := if k < 4 then ⟨F, 5 + k, none⟩ else ⟨gi, k - 4, none⟩
section
variable {w w' : World} {B F t gi ci : Nat} {a : Int} {f : Fl}
theorem FlAt.c (h : FlAt w B F t a f gi ci) (i : Nat) : w.cell? ⟨F, i, none⟩ = (f.cells t a (.slice (some ⟨gi, 0, none⟩) 16 ci))[i]? := cell_obj h.obj i
theorem FlAt.below (h : FlAt w B F t a f gi ci) (hb : Below w.heap.size w w') : FlAt w' B F t a f gi ci := { h with obj := grow_obj hb h.obj, row := h.row.below hb }
theorem FlAt.lt (h : FlAt w B F t a f gi ci) : F < w.heap.size := block_lt h.obj
theorem FlAt.gi_ge (h : FlAt w B F t a f gi ci) : B ≤ gi := (IRow.ownObj h.row rfl).1
theorem FlAt.gi_obj (h : FlAt w B F t a f gi ci) : ∃ c, objAt w gi = some (.cells c 3 (0, 0)) := (IRow.ownObj h.row rfl).2
theorem FlAt.ne (h : FlAt w B F t a f gi ci) : F ≠ gi := fun e => by
 obtain ⟨c, hc⟩ := h.gi_obj
 exact ne_of_obj h.obj hc (by decide) e
theorem FlAt.keeps {S : Nat → Prop} (h : FlAt w B F t a f gi ci) (hk : Keeps S w w') (h1 : ¬ S F) (h2 : ¬ S gi) : FlAt w' B F t a f gi ci :=
 { h with obj := hk.obj h.obj h1, row := owns_keeps h.row hk (fun g hg e => by cases hg; exact h2 e) }
theorem FlAt.slotC (h : FlAt w B F t a f gi ci) {k : Nat} (hk : k < 20) : w.cell? (slotA F gi k) = some (.int .i64 (f.slot k)) := by
 unfold slotA Fl.slot
 by_cases h4 : k < 4
 · rw [if_pos h4, if_pos h4, h.c]
   match k, h4 with
   | 0, _ => rfl
   | 1, _ => rfl
   | 2, _ => rfl
   | 3, _ => rfl
 · rw [if_neg h4, if_neg h4]
   exact IRow.get h.row (k - 4) (by rw [h.l16]; omega)
theorem FlAt.put (h : FlAt w B F t a f gi ci) {k : Nat} (hk : k < 20) (x : Int) : FlAt (w.setCell (slotA F gi k) (.int .i64 x)) B F t a (f.put k x) gi ci := by
 unfold slotA Fl.put
 by_cases h4 : k < 4
 · rw [if_pos h4, if_pos h4]
   refine ⟨?_, owns_keeps h.row (Keeps.setCell (S := fun q => q = F) w ⟨F, 5 + k, none⟩ _ rfl) (fun g hg e => by cases hg; exact h.ne e.symm), h.l16, h.ge⟩
   rw [objAt_setCell h.obj]
   match k, h4 with
   | 0, _ => rfl
   | 1, _ => rfl
   | 2, _ => rfl
   | 3, _ => rfl
 · rw [if_neg h4, if_neg h4]
   refine ⟨?_, h.row.set (k - 4) x, by show (f.li.set (k - 4) x).length = 16; rw [List.length_set]; exact h.l16, h.ge⟩
   exact (Keeps.setCell (S := fun q => q = gi) w ⟨gi, k - 4, none⟩ _ rfl).obj h.obj h.ne
theorem FlAt.putIdx (h : FlAt w B F t a f gi ci) (x : Int) : FlAt (w.setCell ⟨F, 9, none⟩ (.int .i64 x)) B F t a ⟨{ f.n with index := x }, f.li⟩ gi ci := by
 refine ⟨?_, owns_keeps h.row (Keeps.setCell (S := fun q => q = F) w ⟨F, 9, none⟩ _ rfl) (fun g hg e => by cases hg; exact h.ne e.symm), h.l16, h.ge⟩
 rw [objAt_setCell h.obj]; rfl
theorem FlAt.putSize (h : FlAt w B F t a f gi ci) (x : Int) : FlAt (w.setCell ⟨F, 4, none⟩ (.int .i64 x)) B F t a (f.sized x) gi ci := by
 refine ⟨?_, owns_keeps h.row (Keeps.setCell (S := fun q => q = F) w ⟨F, 4, none⟩ _ rfl) (fun g hg e => by cases hg; exact h.ne e.symm), h.l16, h.ge⟩
 rw [objAt_setCell h.obj]; rfl
theorem slotA_free (h : FlAt w B F t a f gi ci) (k : Nat) : w.frozen? (slotA F gi k) = false := by
 unfold slotA
 split
 · exact free_obj h.obj _
 · exact IRow.free h.row _
theorem slotA_block (F gi k : Nat) : (slotA F gi k).block = F ∨ (slotA F gi k).block = gi := by
 unfold slotA; split
 · exact .inl rfl
 · exact .inr rfl
theorem slot_any (h : FlAt w B F t a f gi ci) {k : Nat} (hk : k < 20) :
 Calls Tryz.prog 88 #[.pointer (some ⟨F, 0, none⟩), .int .i64 (k : Int)] w fun e w' => e = .returned (.pointer (some (slotA F gi k))) ∧ w' = w := by
 have HX := Lib.hid (xWhere_any (k : Int) w)
 unfold whereT at HX
 have c11 : w.cell? ⟨F, 11, none⟩ = some (.slice (some ⟨gi, 0, none⟩) 16 ci) := h.c 11
 unfold slotA
 by_cases h4 : k < 4
 · rw [if_pos h4]
   rw [if_neg (by omega), if_pos (by omega)] at HX
   have k0 : (0 : Int) ≤ (k : Int) := Int.natCast_nonneg _
   have k4 : (k : Int) < 4 := by omega
   clear h
   go_enter Tryz.func88, Tryz.ntmps88
   go_wp2_with (go_at_call 147; refine HX.out.mono ?_; rintro e w1 ⟨rfl, hw1⟩; obtain rfl := hw1.symm)
   go_ret
   exact ⟨by simp [], rfl⟩
 · rw [if_neg h4]
   rw [if_neg (by omega), if_neg (by omega)] at HX
   obtain ⟨q, hq⟩ : ∃ q, q = k - 4 := ⟨_, rfl⟩
   have e : (k : Int) - 4 = (q : Int) := by omega
   rw [e] at HX
   have q0 : (0 : Int) ≤ (q : Int) := Int.natCast_nonneg _
   have q16 : (q : Int) < 16 := by omega
   rw [← hq]
   clear h hq e
   go_enter Tryz.func88, Tryz.ntmps88
   go_wp2_with (go_at_call 147; refine HX.out.mono ?_; rintro e w1 ⟨rfl, hw1⟩; obtain rfl := hw1.symm)
   go_ret
   exact ⟨by simp [], rfl⟩
end
end
end Go.Proofs.YtbbnejehglonjaaGreat
