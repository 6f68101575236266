/- DERIVED. Contracts and laws that the proofs of this seat share, part 34 of 36: FlB ShE ShL ShN FiR. -/
import Derived.Test.YtbbnejehglonjaaGreatMh00
import Derived.Test.YtbbnejehglonjaaGreatMh02
import Derived.Test.YtbbnejehglonjaaGreatMh24
import Derived.Test.YtbbnejehglonjaaGreatMh25
import Derived.Test.YtbbnejehglonjaaGreatMh27
import Derived.Test.YtbbnejehglonjaaGreatMh33
namespace Go.Proofs.YtbbnejehglonjaaGreat
set_option maxHeartbeats 8000000
set_option maxRecDepth 100000
set_option linter.unusedSimpArgs false
set_option linter.unusedVariables false
section
open Go.RowKit
attribute [local irreducible] Calls

structure FillAt (w w' : World) (d v : Nat) (Sd : Nat → Prop) (s : Sh) (gb cap m : Nat) (st : VSt) (c : Nat) : Prop where
 vol : VolS w' Sd v d 0 s gb cap m st c
 sd : ∀ q, Sd q → w.heap.size ≤ q
 hv : w.heap.size ≤ v
 hg : w.heap.size ≤ gb
 hm : w.heap.size ≤ m
 below : Below w.heap.size w w'
end
section
open Go.RowKit
attribute [local irreducible] Calls

structure SoAt (w w' : World) (S : Nat → Prop) (V : Value) (l l' : List Nm) : Prop where
 row : NmRow w' S V l'
 perm : l'.Perm l
 keeps : Keeps (fun q => V.ownBlock = some q) w w'
theorem SoAt.grow {w w' w2 : World} {S : Nat → Prop} {V : Value} {l l' : List Nm} (h : SoAt w w' S V l l') (hb : Below w'.heap.size w' w2) : SoAt w w2 S V l l' :=
 ⟨h.row.grow hb (fun _ _ h => h), h.perm, h.keeps.trans (Keeps.of_below hb)⟩
end
section
open Go.RowKit

section
variable {α : Type} {w : World} {S : Nat → Prop} {e : TypeId} {k : Nat} {R : World → α → List Value → Prop} {al : List α}
end
def keptD (d : Id) (l : List Nm) : List Nm := l.filter fun x => decide (x.dir = d)
structure DelAt (d : Id) (l cur : List Nm) (i j : Nat) : Prop where
 len : cur.length = l.length
 le : i ≤ j
 jle : j ≤ l.length
 lo : cur.take i = keptD d (l.take j)
 hi : ∀ q, j ≤ q → cur[q]? = l[q]?
theorem DelAt.start {d : Id} {l : List Nm} {k : Nat} (hk : k < l.length) (hno : ∀ j x, j < k → l[j]? = some x → x.dir = d) {x : Nm} (hx : l[k]? = some x) (hne : x.dir ≠ d) : DelAt d l l k (k + 1) := by
 refine ⟨rfl, by omega, by omega, ?_, fun _ _ => rfl⟩
 rw [List.take_add_one, hx]
 unfold keptD
 rw [List.filter_append]
 have h1 : (l.take k).filter (fun x => decide (x.dir = d)) = l.take k := List.filter_eq_self.2 fun y hy => by
  obtain ⟨j, hj⟩ := List.getElem?_of_mem hy
  rw [List.getElem?_take] at hj
  by_cases hjk : j < k
  · rw [if_pos hjk] at hj; simpa using hno j y hjk hj
  · rw [if_neg hjk] at hj; cases hj
 have h2 : ((some x).toList).filter (fun x => decide (x.dir = d)) = [] := by simp [hne]
 rw [h1, h2, List.append_nil]
theorem DelAt.drop {d : Id} {l cur : List Nm} {i j : Nat} (h : DelAt d l cur i j) {x : Nm} (hx : l[j]? = some x) (hne : x.dir ≠ d) : DelAt d l cur i (j + 1) := by
 have hj := (List.getElem?_eq_some_iff.1 hx).1
 refine ⟨h.len, by have := h.le; omega, by omega, ?_, fun q hq => h.hi q (by omega)⟩
 rw [h.lo, List.take_add_one, hx]
 unfold keptD
 rw [List.filter_append]
 have h2 : ((some x).toList).filter (fun x => decide (x.dir = d)) = [] := by simp [hne]
 rw [h2, List.append_nil]
end
section
open Go.RowKit

def dirD (d : Nat) : Id := if d = 0 then Id.root else ⟨1, 4, d⟩
def nameO (k : Nat) : ByteArray := ⟨#[110, UInt8.ofNat (97 + k)]⟩
def nmO (d k g : Nat) : Nm := ⟨dirD d, nameO k, 7, g⟩
theorem dirD_inj {a b : Nat} (h : dirD a = dirD b) : a = b := by
 unfold dirD at h
 by_cases h1 : a = 0 <;> by_cases h2 : b = 0
 · rw [h1, h2]
 · rw [if_pos h1, if_neg h2] at h; cases h
 · rw [if_neg h1, if_pos h2] at h; cases h
 · rw [if_neg h1, if_neg h2] at h
   have := congrArg Id.gen h
   dsimp only at this
   omega
theorem nameO_inj {j k : Nat} (hj : j < 5) (hk : k < 5) (h : nameO j = nameO k) : j = k := by
 have h1 := congrArg (fun b : ByteArray => b.data.toList) h
 simp only [nameO, List.cons.injEq, and_true, true_and] at h1
 have a := congrArg UInt8.toNat h1
 simp only [UInt8.toNat_ofNat'] at a
 omega
theorem nmO_may {d k g : Nat} (hd : d < 3) (hk : k < 5) (h0 : 1 ≤ g) : mayEntry (nmO d k g) = true := by
 have : ∀ (a : Fin 3) (b : Fin 5), (mayID (dirD a.val) && mayName (nameO b.val).data.toList && okAt 7) = true := by decide +kernel
 have h := this ⟨d, hd⟩ ⟨k, hk⟩
 rw [mayEntry_parts]
 show ((mayID (dirD d) && mayName (nameO k).data.toList && okAt 7) && decide ((1 : Int) ≤ (g : Int))) = true
 rw [h]
 have : (1 : Int) ≤ (g : Int) := by omega
 simp [this]
theorem dirD_wf {d : Nat} (hd : d < 3) : (dirD d).wf := by
 unfold dirD
 by_cases h : d = 0
 · rw [if_pos h]; exact ⟨by show (0 : Int) ≤ 0; omega, by show (0 : Int) ≤ 4294967295; omega⟩
 · rw [if_neg h]; exact ⟨by show (0 : Int) ≤ (d : Int); omega, by show (d : Int) ≤ 4294967295; omega⟩
theorem nmO_wf {d k g : Nat} (hd : d < 3) (hg : g ≤ 40) : (nmO d k g).wf := ⟨dirD_wf hd, by show (0 : Int) ≤ (g : Int); omega, by show (g : Int) ≤ 4294967295; omega, by show 2 ≤ 1000000; decide⟩
theorem nodup_sub_lenG {α : Type} [DecidableEq α] : ∀ (l : List α), l.Nodup → ∀ (r : List α), (∀ x ∈ l, x ∈ r) → l.length ≤ r.length
 | [], _, _, _ => Nat.zero_le _
 | x :: l, h, r, hs => by
   have hx := hs x (by simp)
   rw [List.nodup_cons] at h
   have := nodup_sub_lenG l h.2 (r.erase x) (fun y hy => (List.mem_erase_of_ne (fun e => h.1 (by rw [← e]; exact hy))).2 (hs y (by simp [hy])))
   rw [List.length_erase_of_mem hx] at this
   have := List.length_pos_of_mem hx
   simp only [List.length_cons]; omega
structure SO (bs : List Blk) (L : PL) (th : Nat → Nat → Nat) : Prop where
 ok : NamesOk (txV L bs)
 mem : ∀ p ∈ ents (txV L bs), ∃ d k, d < 3 ∧ k < 5 ∧ p.1 = nmO d k (th d k) ∧ 0 < th d k
 has : ∀ d k, d < 3 → k < 5 → 0 < th d k → ∃ i, (nmO d k (th d k), i) ∈ ents (txV L bs)
 le : ∀ d k, th d k ≤ 40
def setO (th : Nat → Nat → Nat) (d k g : Nat) : Nat → Nat → Nat := fun a b => if a = d ∧ b = k then g else th a b
theorem setO_self (th : Nat → Nat → Nat) (d k g : Nat) : setO th d k g d k = g := by unfold setO; rw [if_pos ⟨rfl, rfl⟩]
theorem setO_le {th : Nat → Nat → Nat} {d k g : Nat} (h : ∀ a b, th a b ≤ 40) (hg : g ≤ 40) (a b : Nat) : setO th d k g a b ≤ 40 := by
 unfold setO
 by_cases e : a = d ∧ b = k
 · rw [if_pos e]; exact hg
 · rw [if_neg e]; exact h a b
theorem setO_ne {th : Nat → Nat → Nat} {d k g a b : Nat} (h : ¬ (a = d ∧ b = k)) : setO th d k g a b = th a b := by unfold setO; rw [if_neg h]
section
variable {bs : List Blk} {L L' : PL} {T' : ML} {th : Nat → Nat → Nat}
theorem SO.names_nodup (h : SO bs L th) : ((ents (txV L bs)).map (·.1)).Nodup := by
 rw [List.nodup_iff_pairwise_ne, List.pairwise_map]
 refine List.Pairwise.imp_of_mem ?_ (ents_pairwise (txV L bs))
 intro p q hp hq hlt e
 have := h.ok.once p hp q hq (by rw [e]) (by rw [e])
 rw [this] at hlt; omega
theorem SO.few (h : SO bs L th) : (ents (txV L bs)).length ≤ 15 := by
 have h1 := nodup_sub_lenG _ h.names_nodup ((List.range 15).map fun j => nmO (j / 5) (j % 5) (th (j / 5) (j % 5))) (fun x hx => by
  obtain ⟨p, hp, rfl⟩ := List.mem_map.1 hx
  obtain ⟨d, k, hd, hk, e, _⟩ := h.mem p hp
  refine List.mem_map.2 ⟨d * 5 + k, List.mem_range.2 (by omega), ?_⟩
  rw [show (d * 5 + k) / 5 = d by omega, show (d * 5 + k) % 5 = k by omega, e])
 simpa using h1
theorem SO.find (h : SO bs L th) {d k : Nat} (hd : d < 3) (hk : k < 5) : (th d k = 0 ∧ findE (txV L bs) (dirD d) (nameO k) = none) ∨ (0 < th d k ∧ ∃ i, findE (txV L bs) (dirD d) (nameO k) = some (nmO d k (th d k), i) ∧ i < bs.length) := by
 cases hf : findE (txV L bs) (dirD d) (nameO k) with
 | none =>
   left
   refine ⟨?_, rfl⟩
   refine Classical.byContradiction fun hn => ?_
   obtain ⟨i, hi⟩ := h.has d k hd hk (by omega)
   exact findE_none hf _ hi ⟨rfl, rfl⟩
 | some p =>
   right
   obtain ⟨h1, h2, h3⟩ := findE_some hf
   obtain ⟨a, b, ha, hb, e, ht⟩ := h.mem p h1
   rw [e] at h2 h3
   have ea : a = d := dirD_inj h2
   have eb : b = k := nameO_inj hb hk h3
   subst ea eb
   obtain ⟨q, i⟩ := p
   dsimp only at e
   subst e
   have hi := (mem_ents.1 h1).1
   rw [txV_length] at hi
   exact ⟨ht, i, rfl, hi⟩
theorem SO.add (h : SO bs [] th) (hN : bs.length = 60) {d k g : Nat} (hd : d < 3) (hk : k < 5) (h0 : 1 ≤ g) (hg : g ≤ 40) {r : Int} (hr : AddR bs [] [] (nmO d k g) r L' T') :
 (0 < th d k ∧ r = 4 ∧ L' = [] ∧ T' = []) ∨ (th d k = 0 ∧ r = 0 ∧ SO bs L' (setO th d k g) ∧ ∃ a : Nat, a < 60 ∧ L' = [((a : Int), (putEntry (nmO d k g)).1)]) := by
 have hmay := nmO_may hd hk h0
 have hfd := h.find hd hk
 rcases hr with ⟨h1, _⟩ | ⟨_, ⟨p, hp⟩, rfl, rfl, rfl⟩ | ⟨_, hno, hc⟩
 · rw [hmay] at h1; cases h1
 · rcases hfd with ⟨_, h1⟩ | ⟨h1, _⟩
   · have hp' : findE (txV [] bs) (dirD d) (nameO k) = some p := hp
     rw [h1] at hp'; cases hp'
   · exact .inl ⟨h1, rfl, rfl, rfl⟩
 · have ht : th d k = 0 := by
    rcases hfd with ⟨h1, _⟩ | ⟨_, i, h1, _⟩
    · exact h1
    · have hp' : findE (txV [] bs) (dirD d) (nameO k) = none := hno
      rw [h1] at hp'; cases hp'
   rcases hc with ⟨hall, _⟩ | ⟨i, hi, hfree, hlow, rfl, rfl, rfl⟩
   · have hfw := h.few
     have hl60 : (txV [] bs).length = 60 := by rw [txV_length, hN]
     obtain ⟨j, hj, hnu⟩ := h.ok.room (T := []) (by simp only [List.length_nil]; omega)
     rw [txV_length] at hj
     exact absurd (hall j hj) hnu
   · have hi' : i < (txV [] bs).length := by rw [txV_length]; exact hi
     have hnone : ∀ q, (q, i) ∉ ents (txV [] bs) := fun q hq => hfree ((h.ok.use hi').2 (.inr (.inr ⟨q, hq⟩)))
     have hno' : findE (txV [] bs) (nmO d k g).dir (nmO d k g).name = none := hno
     have htk := take_putEntry hmay (nmO_wf hd hg)
     refine .inr ⟨ht, rfl, ⟨by rw [txV_up]; exact h.ok.add hmay (nmO_wf hd hg) hi' hnone hno', fun p hp => ?_, fun a b ha hb hab => ?_, setO_le h.le hg⟩, i, by omega, rfl⟩
     · obtain ⟨q, a⟩ := p
       rw [txV_up] at hp
       rcases (ents_mem_set hi').1 hp with ⟨_, h1⟩ | ⟨_, h1⟩
       · rw [htk] at h1
         obtain rfl := Option.some.inj h1
         exact ⟨d, k, hd, hk, by rw [setO_self], by rw [setO_self]; omega⟩
       · obtain ⟨x, y, hx, hy, e, hxy⟩ := h.mem _ h1
         have hne : ¬ (x = d ∧ y = k) := by rintro ⟨rfl, rfl⟩; omega
         exact ⟨x, y, hx, hy, by rw [setO_ne hne]; exact e, by rw [setO_ne hne]; exact hxy⟩
     · rw [txV_up]
       by_cases he : a = d ∧ b = k
       · obtain ⟨rfl, rfl⟩ := he
         rw [setO_self]
         exact ⟨i, (ents_mem_set hi').2 (.inl ⟨rfl, htk⟩)⟩
       · rw [setO_ne he] at hab ⊢
         obtain ⟨c, hc⟩ := h.has a b ha hb hab
         exact ⟨c, (ents_mem_set hi').2 (.inr ⟨fun e => hnone _ (e ▸ hc), hc⟩)⟩
theorem SO.out (h : SO bs [] th) {d k : Nat} (hd : d < 3) (hk : k < 5) {i : Nat} (hp : findE (txV [] bs) (dirD d) (nameO k) = some (nmO d k (th d k), i)) : SO bs (upB [] (i : Int) Blk.zero) (setO th d k 0) := by
 obtain ⟨h1, _, _⟩ := findE_some hp
 have ha := (mem_ents.1 h1).1
 refine ⟨by rw [txV_up]; exact h.ok.out ha, fun p hp2 => ?_, fun a b hda hkb hab => ?_, setO_le h.le (Nat.zero_le _)⟩
 · obtain ⟨q, b⟩ := p
   rw [txV_up] at hp2
   rcases (ents_mem_set ha).1 hp2 with ⟨_, h4⟩ | ⟨hne, h4⟩
   · rw [take_zero] at h4; cases h4
   · obtain ⟨x, y, hx, hy, e, hxy⟩ := h.mem _ h4
     have hn : ¬ (x = d ∧ y = k) := by
      rintro ⟨rfl, rfl⟩
      have := h.ok.once _ h4 _ h1 (by rw [e]) (by rw [e])
      exact absurd (congrArg Prod.snd this) hne
     exact ⟨x, y, hx, hy, by rw [setO_ne hn]; exact e, by rw [setO_ne hn]; exact hxy⟩
 · rw [txV_up]
   by_cases he : a = d ∧ b = k
   · rw [show setO th d k 0 a b = 0 by obtain ⟨rfl, rfl⟩ := he; exact setO_self _ _ _ _] at hab
     omega
   · rw [setO_ne he] at hab ⊢
     obtain ⟨c, hc⟩ := h.has a b hda hkb hab
     refine ⟨c, (ents_mem_set ha).2 (.inr ⟨fun e => ?_, hc⟩)⟩
     subst e
     have h5 := (mem_ents.1 hc).2
     have h6 := (mem_ents.1 h1).2
     rw [h5] at h6
     have h7 := Option.some.inj h6
     exact he ⟨dirD_inj (congrArg Nm.dir h7), nameO_inj hkb hk (congrArg Nm.name h7)⟩
def cntO (th : Nat → Nat → Nat) (d i : Nat) : Nat := ((List.range i).filter fun k => decide (0 < th d k)).length
theorem SO.count (h : SO bs L th) {d : Nat} (hd : d < 3) : (keptD (dirD d) ((ents (txV L bs)).map (·.1))).length = cntO th d 5 := by
 have hnd : (keptD (dirD d) ((ents (txV L bs)).map (·.1))).Nodup := h.names_nodup.filter _
 have hnd2 : (((List.range 5).filter fun k => decide (0 < th d k)).map fun k => nmO d k (th d k)).Nodup := by
  rw [List.nodup_iff_pairwise_ne, List.pairwise_map]
  refine List.Pairwise.imp_of_mem ?_ (List.Pairwise.filter _ List.pairwise_lt_range)
  intro i j hi hj hlt e
  have := nameO_inj (List.mem_range.1 (List.mem_filter.1 hi).1) (List.mem_range.1 (List.mem_filter.1 hj).1) (congrArg Nm.name e)
  omega
 have hperm := (List.perm_ext_iff_of_nodup hnd hnd2).2 fun x => by
  constructor
  · intro hx
    unfold keptD at hx
    obtain ⟨hx, he⟩ := List.mem_filter.1 hx
    obtain ⟨p, hp, rfl⟩ := List.mem_map.1 hx
    obtain ⟨a, k, ha, hk, e, ht⟩ := h.mem p hp
    have hda : a = d := by
     have := of_decide_eq_true he
     rw [e] at this
     exact dirD_inj this
    subst hda
    exact List.mem_map.2 ⟨k, List.mem_filter.2 ⟨List.mem_range.2 hk, by simpa using ht⟩, e.symm⟩
  · intro hx
    obtain ⟨k, hk, rfl⟩ := List.mem_map.1 hx
    obtain ⟨h1, h2⟩ := List.mem_filter.1 hk
    obtain ⟨i, hi⟩ := h.has d k hd (List.mem_range.1 h1) (by simpa using h2)
    exact List.mem_filter.2 ⟨List.mem_map.2 ⟨_, hi, rfl⟩, by simp [nmO]⟩
 rw [hperm.length_eq, List.length_map]
 rfl
theorem SO.start {n : Nat} (h0 : 0 < n) : SO (newBlks n) [] (fun _ _ => 0) := by
 have h := SL.start h0
 have e : txV [] (newBlks n) = newBlks n := txV_nil _
 refine ⟨h.ok, fun p hp => ?_, fun _ _ _ _ ht => absurd ht (by omega), fun _ _ => Nat.zero_le _⟩
 rw [e, newBlks_ents n h0] at hp; simp at hp
end
end
section
open Go.RowKit
attribute [local irreducible] Calls

theorem step_wantedB {P : Program} {ops : Array Oper} {o : Oper} {a b0 : Act} {w : World} {K : Act → World → Prop} {Q : Exit → Act → World → Prop} {F : Prop} (hw : Region.wanted o (yielded ops b0.tmps) = true) (hK : o.wp P a w K Q) : if Region.wanted o (yielded ops b0.tmps) = true then Oper.wp P o a w K Q else F := by
 rw [if_pos hw]; exact hK
theorem WRow.one {w : World} {g : Nat} {S : Nat → Prop} (x : Wr) (h : objAt w g = some (.cells x.cells 52 (0, 0))) (hS : S g) : WRow w S (.slice (some ⟨g, 0, none⟩) 1 1) [x] := by
 have hl : x.cells.toList.length = 58 := by rw [Array.length_toList, Wr.size_cells]
 refine ⟨⟨[x.cells.toList], ⟨by simp [hl], .inr ⟨g, 1, x.cells, rfl, Nat.zero_le _, h, Nat.le_refl _, by decide, by rw [Wr.size_cells], ?_⟩⟩, rfl, fun c hc => by rw [List.mem_singleton] at hc; rw [hc, hl], fun i a c ha hc => ?_⟩, fun q hq => by cases hq; exact hS⟩
 · rw [List.flatten_singleton, List.take_of_length_le (by rw [hl]; show 58 ≤ 1 * 58; decide)]
 · cases i with
   | zero =>
     simp only [List.getElem?_cons_zero, Option.some.injEq] at ha hc
     subst ha hc; rfl
   | succ i => simp at ha
theorem mayRec_one {a : Nat} {b : Blk} (ha : a < 200) (hb : 0 ≤ b.kind ∧ b.kind ≤ 7) : mayRec [⟨(a : Int), b⟩] = true := by
 unfold mayRec
 have : wrsOk [⟨(a : Int), b⟩] = true := wrsOk_iff.2 fun i x hx => by
  cases i with
  | zero =>
    simp only [List.getElem?_cons_zero, Option.some.injEq] at hx
    subst hx
    exact ⟨wrOk_iff.2 ⟨hb.1, hb.2, by show (0 : Int) ≤ (a : Int); omega, by show (a : Int) < 200; omega⟩, by simp [freshWr]⟩
  | succ i => simp at hx
 rw [this]; rfl
theorem changeOk_one {s : Sh} {a : Nat} {b : Blk} (ha : a < s.blocks) (h2 : s.blocks ≤ 200) (hb : 0 ≤ b.kind ∧ b.kind ≤ 7) : changeOk s [⟨(a : Int), b⟩] = true := by
 unfold changeOk
 rw [mayRec_one (by omega) hb]
 simp [pastEnd]; omega
theorem changeV_one (reg : Nat) (s : Sh) (a : Nat) (b : Blk) (st : VSt) : (changeV reg s [⟨(a : Int), b⟩] st).bs = st.bs.set a b := by
 unfold changeV writeV
 show overlay (roomV reg s _ st).bs _ = _
 rw [roomV_bs]; rfl
structure FilS (w wr : World) (d v : Nat) (s : Sh) (gb cap m : Nat) (Sd : Nat → Prop) (st : VSt) (c : Nat) (bs : List Blk) (k : Nat) : Prop where
 vol : VolS wr Sd v d 0 s gb cap m st c
 sd : ∀ q, Sd q → w.heap.size ≤ q
 bel : Below w.heap.size w wr
 bs : st.bs = bs.take k ++ (frBlks bs.length).drop k
 c : c ≤ 1000 + 300 * k
theorem Filled_any {w : World} {bs : List Blk} {n g cap0 : Nat} (h0 : 4 ≤ n) (h1 : n ≤ 200) (hbn : bs.length = n) (hk : KRow w 0 (.slice (some ⟨g, 0, none⟩) n cap0) bs) (hkd : ∀ j, j < n → 0 ≤ (bs.getD j Blk.zero).kind ∧ (bs.getD j Blk.zero).kind ≤ 7) :
 Calls Tryz.prog 18 #[.slice (some ⟨g, 0, none⟩) n cap0] w fun e w' => ∃ d v, e = .returned (.tuple #[.pointer (some ⟨d, 0, none⟩), .pointer (some ⟨v, 0, none⟩), .bool true]) ∧ ∃ Sd gb cap m st c, FillAt w w' d v Sd (shN n) gb cap m st c ∧ st.bs = bs ∧ c ≤ 61000 := by
 have Hkd := Lib.hid (And.intro hkd hbn)
 clear hkd hbn
 have hok := shN_ok (n := n) (by omega) h1
 obtain ⟨R, hR, hRl, hR2, hRb, hRh⟩ := make_seen (n := n) (by omega) h1
 obtain ⟨w0, hw0⟩ : ∃ w0, w0 = w.alloc (.cells #[.int .i64 0, .int .i64 0, .int .i64 (n : Int), .int .i64 40, .int .i64 4] 124) := ⟨_, rfl⟩
 obtain ⟨G, hG⟩ : ∃ G, G = w.heap.size := ⟨_, rfl⟩
 have hB0 : Below w.heap.size w w0 := below_alloc hw0
 have hO : objAt w0 G = some (.cells #[.int .i64 0, .int .i64 0, .int .i64 (n : Int), .int .i64 40, .int .i64 4] 124 (0, 0)) := by rw [hG]; exact obj_alloc hw0
 have HZ := Lib.hid (fun w => Size_any (shN n) hok w)
 have hsc : (shN n).cells = #[.int .i64 0, .int .i64 0, .int .i64 (n : Int), .int .i64 40, .int .i64 4] := rfl
 rw [hsc, shN_size] at HZ
 have H0 := Lib.hid (And.intro hk (And.intro hB0 (And.intro hO (And.intro hok hsc))))
 have HR := Lib.hid (And.intro hR (And.intro hRl (And.intro hR2 (And.intro hRb hRh))))
 have c0 : w0.cell? ⟨G, 0, none⟩ = some (.int .i64 0) := cell_obj hO 0
 have c1 : w0.cell? ⟨G, 1, none⟩ = some (.int .i64 0) := cell_obj hO 1
 have c2 : w0.cell? ⟨G, 2, none⟩ = some (.int .i64 (n : Int)) := cell_obj hO 2
 have c3 : w0.cell? ⟨G, 3, none⟩ = some (.int .i64 40) := cell_obj hO 3
 have c4 : w0.cell? ⟨G, 4, none⟩ = some (.int .i64 4) := cell_obj hO 4
 clear hk hB0 hO hok hR hRl hR2 hRb hRh hsc
 go_enter Tryz.func18, Tryz.ntmps18
 go_upto_region 2 with fail
 rw [← hw0, ← hG]
 clear hw0 hG
 go_upto_region 3 with (first
  | (go_at_call 54; refine (HZ.out _).mono ?_; rintro e w1 ⟨rfl, b1⟩)
  | (go_at_call 53; refine (DevNew_any (some ⟨w1.heap.size, 0, none⟩) [((42 + n : Nat) : Int)] 1 _ ⟨w1.heap.size, 0, fun _ => rfl, fun i hi => by obtain rfl : i = 0 := (by simp only [List.length_singleton] at hi; omega); simp⟩ (by simp) (by simp) (fun x hx => by simp only [List.mem_singleton] at hx; omega)).mono ?_; rintro e w2 ⟨d, rfl, hd, b2⟩))
 have hd2 : DevAt w2 (fun q => w0.heap.size ≤ q ∧ q < w2.heap.size) d (dvN n) 0 := (show DevAt w2 _ d (dvN n) 0 from hd).mono (fun q hq => ⟨by have h1 := hq.1; have h2 := b1.size; simp only [size_alloc] at h1; omega, hq.2⟩) (fun q hq => hq.2) (Nat.le_refl _)
 have hB2 : Below w0.heap.size w0 w2 := grow_trans (grow_alloc b1 _) b2
 have HM := Lib.hid (Make_any (reg := 0) hd2 ⟨Reg.new (42 + n), rfl, by simp [Reg.new, shN_size]⟩ H0.out.2.2.2.1 (by decide))
 rw [H0.out.2.2.2.2] at HM
 have e0 := grow_cell hB2 c0
 have e1 := grow_cell hB2 c1
 have e2 := grow_cell hB2 c2
 have e3 := grow_cell hB2 c3
 have e4 := grow_cell hB2 c4
 have H2 := Lib.hid (And.intro hd2 hB2)
 clear hd hd2 hB2 b1 b2 c0 c1 c2 c3 c4
 go_upto_region 5 with (go_at_call 55; refine HM.out.mono ?_; rintro e w3 ⟨rfl, h3⟩)
 have hG : G < w0.heap.size := block_lt H0.out.2.2.1
 have hO3 : objAt w3 G = some (.cells #[.int .i64 0, .int .i64 0, .int .i64 (n : Int), .int .i64 40, .int .i64 4] 124 (0, 0)) := h3.obj (grow_obj H2.out.2 H0.out.2.2.1) (fun e => by have := e.1; omega)
 have HT := Lib.hid (Mount_new (reg := 0) (hb := frBlks n) H0.out.2.2.2.1 h3.dev (by show 0 + n + 3 < 600000; omega) (R := R) (by rw [HR.out.1]; rfl) HR.out.2.1 (by show 0 < 40; decide) HR.out.2.2.1 zeros_ten HR.out.2.2.2.1 (by decide) (by rw [frBlks_length]; rfl) HR.out.2.2.2.2)
 rw [H0.out.2.2.2.2] at HT
 have k0 : w3.cell? ⟨G, 0, none⟩ = some (.int .i64 0) := cell_obj hO3 0
 have k1 : w3.cell? ⟨G, 1, none⟩ = some (.int .i64 0) := cell_obj hO3 1
 have k2 : w3.cell? ⟨G, 2, none⟩ = some (.int .i64 (n : Int)) := cell_obj hO3 2
 have k3 : w3.cell? ⟨G, 3, none⟩ = some (.int .i64 40) := cell_obj hO3 3
 have k4 : w3.cell? ⟨G, 4, none⟩ = some (.int .i64 4) := cell_obj hO3 4
 have H3 := Lib.hid (And.intro h3 hO3)
 clear h3 hO3 e0 e1 e2 e3 e4 hG
 go_upto_region 8 with (go_at_call 56; refine HT.out.mono ?_; rintro e w4 ⟨v, gb, cap, m, S', rfl, hv, hS', hwv, hwg, hwm, hk4⟩)
 have hbel4 : Below w.heap.size w w4 := by
  have h02 := grow_trans H0.out.2.1 H2.out.2
  have h03 : Below w.heap.size w w3 := h02.trans (H3.out.1.keeps.below h02.size (fun q e => Nat.le_trans H0.out.2.1.size e.1))
  exact h03.trans (hk4.below h03.size (fun q e => by
   rcases e.2 with h | h
   · exact Nat.le_trans H0.out.2.1.size h.1
   · exact Nat.le_trans h02.size h))
 have hw3 : w.heap.size ≤ w3.heap.size := Nat.le_trans (grow_trans H0.out.2.1 H2.out.2).size H3.out.1.keeps.size
 have hFA : FillAt w w4 d v S' (shN n) gb cap m ⟨(1 + 1) % 4294967296, 0, 0, frBlks n, [], tidiesD (makeD (dvN n) 0 (shN n)) 0 (shN n) (frBlks n) [] ((1 + 1) % 4294967296)⟩ (0 + (shN n).blocks + 3 + (frBlks n).length + 4) :=
  ⟨hv, fun q hq => by
   rcases hS' q hq with h | h
   · rcases h.2 with h | h
     · exact Nat.le_trans H0.out.2.1.size h.1
     · exact Nat.le_trans (grow_trans H0.out.2.1 H2.out.2).size h
   · exact Nat.le_trans hw3 h, Nat.le_trans hw3 hwv, Nat.le_trans hw3 hwg, Nat.le_trans hw3 hwm, hbel4⟩
 have hq0 : w.heap.size ≤ v ∧ w.heap.size ≤ gb ∧ w.heap.size ≤ m := ⟨hFA.hv, hFA.hg, hFA.hm⟩
 have hS0 : FilS w w4 d v (shN n) gb cap m S' ⟨(1 + 1) % 4294967296, 0, 0, frBlks n, [], tidiesD (makeD (dvN n) 0 (shN n)) 0 (shN n) (frBlks n) [] ((1 + 1) % 4294967296)⟩ (0 + (shN n).blocks + 3 + (frBlks n).length + 4) bs 0 :=
  ⟨hFA.vol, hFA.sd, hFA.below, by rw [List.take_zero, List.drop_zero, Hkd.out.2]; rfl, by rw [frBlks_length]; show 0 + n + 3 + n + 4 ≤ _; omega⟩
 have HF := Lib.hid (And.intro hq0 hS0)
 clear hFA hbel4 hv hS' hwv hwg hwm hk4 hw3 k0 k1 k2 k3 k4 hq0 hS0
 go_wp2_with fail
 go_loopw [10] (fun q wr => ∃ (k : Nat) (Sd : Nat → Prop) (st : VSt) (c : Nat), k ≤ n ∧ q = .int .i64 k ∧ FilS w wr d v (shN n) gb cap m Sd st c bs k) (fun q _ => n - (Go.RowKit.intOf q).toNat)
 case atStart => exact ⟨0, _, _, _, Nat.zero_le _, rfl, HF.out.2⟩
 case round =>
  obtain ⟨k, Sd, st, c, hk, rfl, hfs⟩ := hrel
  by_cases hlt : k < n
  · have hlti : (k : Int) < (n : Int) := by omega
    have hk2 : (k : Int) < 200 := by omega
    have hG := VolP.get hfs.vol (k : Int)
    have hstl : st.bs.length = n := by rw [hfs.bs, List.length_append, List.length_take, List.length_drop, frBlks_length, Hkd.out.2]; omega
    have hgb : getB st.bs (k : Int) = newBlk k := by
     unfold getB
     rw [inB_nat (by omega), if_pos rfl, blkD_nat, hfs.bs, List.getD_eq_getElem?_getD, List.getElem?_append_right (by rw [List.length_take, Hkd.out.2]; omega), List.length_take, Hkd.out.2, List.getElem?_drop, show k + (k - min k n) = k by omega]
     rw [List.getElem?_eq_getElem (by rw [frBlks_length]; exact hlt)]
     simp [frBlks]
    rw [hgb, inB_nat (by omega)] at hG
    have hK : KRow wr 0 (.slice (some ⟨g, 0, none⟩) n cap0) bs := H0.out.1.below hfs.bel
    have hkl2 : k < bs.length := by rw [Hkd.out.2]; exact hlt
    obtain ⟨b, hb⟩ : ∃ b, b = bs.getD k Blk.zero := ⟨_, rfl⟩
    obtain ⟨x, hx⟩ : ∃ x, x = newBlk k := ⟨_, rfl⟩
    rw [← hx] at hG
    have hset : st.bs.set k b = bs.take (k + 1) ++ (frBlks bs.length).drop (k + 1) := by
     rw [hfs.bs]
     apply List.ext_getElem?
     intro i
     have e1 : (bs.take k).length = k := by rw [List.length_take]; omega
     have e2 : (bs.take (k + 1)).length = k + 1 := by rw [List.length_take]; omega
     rw [List.getElem?_set, List.getElem?_append, List.getElem?_append, e1, e2, List.getElem?_take, List.getElem?_take, List.getElem?_drop, List.getElem?_drop]
     by_cases c1 : k = i
     · subst c1
       rw [if_pos rfl, if_pos (by rw [List.length_append, List.length_take, List.length_drop, frBlks_length]; omega), if_pos (by omega), if_pos (by omega), List.getElem?_eq_getElem hkl2, hb, List.getD_eq_getElem?_getD, List.getElem?_eq_getElem hkl2]; rfl
     · rw [if_neg c1]
       by_cases c2 : i < k
       · have c3 : i < k + 1 := by omega
         simp only [c2, c3, if_true]
       · rw [if_neg c2, if_neg (by omega), show k + (i - k) = i by omega, show k + 1 + (i - (k + 1)) = i by omega]
    have hsame : x = b → st.bs = bs.take (k + 1) ++ (frBlks bs.length).drop (k + 1) := fun e => by
     rw [← hset]
     have hkl : k < st.bs.length := by rw [hstl]; exact hlt
     have : st.bs[k]? = some b := by
      rw [← e, hx, ← hgb]
      unfold getB
      rw [inB_nat hkl, if_pos rfl, blkD_nat, List.getD_eq_getElem?_getD, List.getElem?_eq_getElem hkl]; rfl
     apply List.ext_getElem?
     intro i
     rw [List.getElem?_set]
     by_cases c1 : k = i
     · subst c1; rw [if_pos rfl, if_pos hkl, this]
     · rw [if_neg c1]
    have HX := Lib.hid (And.intro hG (And.intro hfs (And.intro hK (And.intro hkl2 (And.intro hb (And.intro hset hsame))))))
    clear hG hgb hK hkl2 hb hfs hx hset hsame hstl
    go_upto_region 12 with (go_at_call 23; refine HX.out.1.mono ?_; rintro e w5 ⟨rfl, b5⟩)
    obtain ⟨J, hJ⟩ : ∃ J, J = w5.heap.size := ⟨_, rfl⟩
    obtain ⟨w6, hw6⟩ : ∃ w6, w6 = w5.alloc (.cells x.cells 37) := ⟨_, rfl⟩
    have hX6 : BlkAt w6 J x := by rw [hJ]; exact obj_alloc hw6
    have hb6 : Below wr.heap.size wr w6 := grow_trans b5 (below_alloc hw6)
    rw [← hw6, ← hJ]
    have hK6 := HX.out.2.2.1.below hb6
    have i1 := hX6.has
    have i2 := hX6.row
    have i3 := hK6.has k HX.out.2.2.2.1
    have i4 := hK6.row k HX.out.2.2.2.1
    rw [← HX.out.2.2.2.2.1] at i4
    have H6 := Lib.hid (And.intro hb6 (And.intro hX6 hK6))
    clear hw6 hJ hX6 hb6 hK6 b5
    by_cases hxb : x = b
    · have hs2 := HX.out.2.2.2.2.2.2 hxb
      subst hxb
      have Hs2 := Lib.hid hs2
      have hnb : decide (x = x) = true := by simp
      clear hs2
      refine wp_region_held_drew (S := fun w' => hasBlk w' J = true ∧ rowAt w' J = some x.cells ∧ hasOff w' g (k * 57) = true ∧ rowOff w' g (k * 57) = some x.cells ∧ True) (by kernel_rfl) (⟨i1, i2, i3, i4, trivial⟩) (fun hHeld => ?_)
      show wpAnyH _ _ _ _ _ 22 #[false, false, false, false, false, false, false, false, false, false, false, false, false, false, false, false, false, false, false, false, false, false] _ _
      refine gT 0 ?_; try simp only [Act.put, qs]
      refine gT 1 ?_; try simp only [Act.put, qs]
      refine gT 2 ?_; try simp only [Act.put, qs]
      refine gT 3 ?_; try simp only [Act.put, qs]
      refine gT 4 ?_; try simp only [Act.put, qs]
      refine gT 5 ?_; try simp only [Act.put, qs]
      refine gT 6 ?_; try simp only [Act.put, qs]
      refine gT 7 ?_; try simp only [Act.put, qs]
      refine gT 8 ?_; try simp only [Act.put, qs]
      refine gT 9 ?_; try simp only [Act.put, qs]
      refine gU 10 ?_; try simp only [Act.put, qs]
      refine gU 11 ?_; try simp only [Act.put, qs]
      refine gU 12 ?_; try simp only [Act.put, qs]
      refine gU 13 ?_; try simp only [Act.put, qs]
      refine gU 14 ?_; try simp only [Act.put, qs]
      refine gU 15 ?_; try simp only [Act.put, qs]
      refine gU 16 ?_; try simp only [Act.put, qs]
      refine gU 17 ?_; try simp only [Act.put, qs]
      refine gU 18 ?_; try simp only [Act.put, qs]
      refine gU 19 ?_; try simp only [Act.put, qs]
      refine gT 20 ?_; try simp only [Act.put, qs]
      refine gT 21 ?_; try simp only [Act.put, qs]
      refine wpAnyH_done (by kernel_rfl) ?_ _
      go_wp2_with fail
      go_roundw
      case rel => exact ⟨k + 1, Sd, st, c, by omega, by go_num, ⟨VolP.below HX.out.2.1.vol H6.out.1.drew, HX.out.2.1.sd, (grow_trans HX.out.2.1.bel H6.out.1).drew, Hs2.out, by have := HX.out.2.1.c; omega⟩⟩
      case measure => simp [Go.RowKit.intOf]; omega
    · have hnb : decide (x = b) = false := by simpa using hxb
      clear hxb
      have hSdl : ∀ q, Sd q → q < wr.heap.size := fun q hq => HX.out.2.1.vol.dev.lt q hq
      have hc2 := HX.out.2.1.c
      have hok : changeOk (shN n) [⟨(k : Int), b⟩] = true := changeOk_one (show k < n from hlt) h1 (by rw [HX.out.2.2.2.2.1]; exact Hkd.out.1 k hlt)
      have Hok := Lib.hid (And.intro hok (And.intro hSdl hc2))
      have HB6 := Lib.hid (show ∀ w', Below w6.heap.size w6 w' → hasBlk w' J = true ∧ rowAt w' J = some x.cells ∧ hasOff w' g (k * 57) = true ∧ rowOff w' g (k * 57) = some b.cells ∧ Below w6.heap.size w6 w' from fun w' hb => by
       have h6 := BlkAt.below H6.out.2.1 hb (block_lt H6.out.2.1)
       have h7 := H6.out.2.2.below hb
       exact ⟨h6.has, h6.row, h7.has k HX.out.2.2.2.1, by rw [h7.row k HX.out.2.2.2.1, ← HX.out.2.2.2.2.1], hb⟩)
      have HL7 := Lib.hid (show objAt (w6.alloc (.cells (Wr.cells ⟨k, b⟩) 52)).drew w6.heap.size = some (.cells (Wr.cells ⟨k, b⟩) 52 (0, 0)) ∧ Below wr.heap.size wr (w6.alloc (.cells (Wr.cells ⟨k, b⟩) 52)).drew ∧ True from ⟨by show objAt (w6.alloc _) _ = _; rw [objAt_alloc, if_pos rfl], (grow_alloc H6.out.1 _).drew, trivial⟩)
      clear hok hSdl hc2 i1 i2 i3 i4
      refine wp_region_F [18] (S := fun w' => hasBlk w' J = true ∧ rowAt w' J = some x.cells ∧ hasOff w' g (k * 57) = true ∧ rowOff w' g (k * 57) = some b.cells ∧ Below w6.heap.size w6 w') (by kernel_rfl) (HB6.out _ (Below.refl _ _).drew) (fun hHeld => ?_)
      show wpAnyF _ _ _ _ _ _ 22 #[false, false, false, false, false, false, false, false, false, false, false, false, false, false, false, false, false, false, false, false, false, false] _ _
      refine gF 0 [0, 1, 2, 3, 4, 5, 6, 7, 8, 9, 10, 11, 12, 13, 14, 15, 16, 17, 18, 19, 20, 21] ?_; try simp only [Act.put, qs]
      refine gF 1 [1, 2, 3, 4, 5, 6, 7, 8, 9, 10, 11, 12, 13, 14, 15, 16, 17, 18, 19, 20, 21] ?_; try simp only [Act.put, qs]
      refine gF 2 [2, 3, 4, 5, 6, 7, 8, 9, 10, 11, 12, 13, 14, 15, 16, 17, 18, 19, 20, 21] ?_; try simp only [Act.put, qs]
      refine gF 3 [3, 8, 9, 10, 11, 12, 13, 14, 15, 16, 17, 18, 19, 20, 21] ?_; try simp only [Act.put, qs]
      refine gF 4 [4, 6, 7, 8, 9, 10, 11, 12, 13, 14, 15, 16, 17, 18, 19, 20, 21] ?_; try simp only [Act.put, qs]
      refine gF 5 [5, 6, 7, 8, 9, 10, 11, 12, 13, 14, 15, 16, 17, 18, 19, 20, 21] ?_; try simp only [Act.put, qs]
      refine gF 6 [6, 7, 8, 9, 10, 11, 12, 13, 14, 15, 16, 17, 18, 19, 20, 21] ?_; try simp only [Act.put, qs]
      refine gF 7 [7, 8, 9, 10, 11, 12, 13, 14, 15, 16, 17, 18, 19, 20, 21] ?_; try simp only [Act.put, qs]
      refine gF 8 [8, 9, 10, 11, 12, 13, 14, 15, 16, 17, 18, 19, 20, 21] ?_; try simp only [Act.put, qs]
      refine gF 9 [9, 10, 11, 12, 13, 14, 15, 16, 17, 18, 19, 20, 21] ?_; try simp only [Act.put, qs]
      refine gF 10 [10, 18, 19, 20, 21] ?_; try simp only [Act.put, qs]
      refine gF 11 [11, 16, 17, 18, 19, 20, 21] ?_; try simp only [Act.put, qs]
      refine gF 12 [12, 14, 15, 16, 17, 18, 19, 20, 21] ?_; try simp only [Act.put, qs]
      refine gF 13 [13, 14, 15, 16, 17, 18, 19, 20, 21] ?_; try simp only [Act.put, qs]
      refine gF 14 [14, 15, 16, 17, 18, 19, 20, 21] ?_; try simp only [Act.put, qs]
      refine gF 15 [15, 16, 17, 18, 19, 20, 21] ?_; try simp only [Act.put, qs]
      refine gF 16 [16, 17, 18, 19, 20, 21] ?_; try simp only [Act.put, qs]
      refine gW 17 fun K hK => ?_
      refine step_wantedB (by rfl) (wp_lit1 elemWrK _ rfl (by rfl) (Wr.size_cells _) (by decide) ?_); intro w7 hw7
      refine hK.out _ _ (by exact HB6.out _ (grow_trans hHeld.2.2.2.2 (below_alloc hw7))) (fun hN => ?_); replace hHeld := hN; clear hK K hN
      try simp only [Act.put, qs]
      refine gV 18 fun K hK => ?_
      try simp only [qs]
      go_simp
      go_at_call 57; refine (VolP.change (VolP.below HX.out.2.1.vol HL7.out.2.1) (WRow.one (S := fun q => q = w6.heap.size) ⟨k, b⟩ HL7.out.1 rfl) (fun q hq e => by have hq' : w6.heap.size = q := Option.some.inj hq; have := Hok.out.2.1 _ e; have := H6.out.1.size; omega) (by show 1 ≤ 1000; decide) (by show 13 ≤ 40; decide) (by have := Hok.out.2.2; omega)).mono ?_; rintro e w8 hres; obtain ⟨rfl, k8, hv8⟩ := hres.2 Hok.out.1
      refine hK.out _ _ (trivial) (fun hN => ?_); replace hHeld := hN; clear hK K hN
      try simp only [qs]
      refine gP 19 ?_; try simp only [Act.put, qs]
      refine gP 20 ?_; try simp only [Act.put, qs]
      refine gP 21 ?_; try simp only [Act.put, qs]
      refine wpAnyF_done (by kernel_rfl) ?_ _
      have hbel8 : Below w.heap.size w w8 := by
       have h7 := grow_trans HX.out.2.1.bel HL7.out.2.1
       exact h7.trans (k8.below h7.size (fun q e => by
        rcases e with e | e | e | e
        · exact HX.out.2.1.sd q e
        · rw [e]; exact HF.out.1.1
        · rw [e]; exact HF.out.1.2.2
        · rw [e]; exact HF.out.1.2.1))
      have hfs8 : FilS w w8 d v (shN n) gb cap m (grownS Sd (w6.alloc (.cells (Wr.cells ⟨k, b⟩) 52)).drew w8) (changeV 0 (shN n) [⟨k, b⟩] st) (c + 300) bs (k + 1) :=
       ⟨hv8, fun q hq => hq.2.elim (HX.out.2.1.sd q) (fun h => Nat.le_trans (grow_trans HX.out.2.1.bel HL7.out.2.1).size h), hbel8, by rw [changeV_one, HX.out.2.2.2.2.2.1], by have := Hok.out.2.2; omega⟩
      have H8 := Lib.hid hfs8
      clear hfs8 hbel8 k8 hv8 hres
      go_wp2_with fail
      go_roundw
      case rel => exact ⟨k + 1, _, _, _, by omega, by go_num, H8.out⟩
      case measure => simp [Go.RowKit.intOf]; omega
  · obtain rfl : k = n := by omega
    have HB := Lib.hid hfs
    clear hfs
    go_wp2_with fail
    refine bodyPost_ret (results_three rfl (resOne_tmp _ _ _) (resOne_tmp _ _ _) (resOne_tmp _ _ _)) rfl ?_
    refine ⟨d, v, rfl, Sd, gb, cap, m, st, c, ⟨HB.out.vol, HB.out.sd, HF.out.1.1, HF.out.1.2.1, HF.out.1.2.2, HB.out.bel⟩, ?_, by have := HB.out.c; omega⟩
    rw [HB.out.bs, List.take_of_length_le (by rw [Hkd.out.2]; exact Nat.le_refl _), List.drop_of_length_le (by rw [frBlks_length, Hkd.out.2]; exact Nat.le_refl _), List.append_nil]
end
end Go.Proofs.YtbbnejehglonjaaGreat
