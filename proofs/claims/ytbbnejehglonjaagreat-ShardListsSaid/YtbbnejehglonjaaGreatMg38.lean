/- DERIVED. Contracts and laws that the proofs of this seat share, part 38 of 40: ShH FlB. -/
import Derived.Test.YtbbnejehglonjaaGreatMg00
import Derived.Test.YtbbnejehglonjaaGreatMg34
import Derived.Test.YtbbnejehglonjaaGreatMg35
import Derived.Test.YtbbnejehglonjaaGreatMg37
/- DERIVED. Plain: the names of clathrilaw17.ShardLists; which of them are there. No program in sight. -/
namespace Go.Proofs.YtbbnejehglonjaaGreat
open Go.RowKit

def nameK (k : Nat) : ByteArray := ⟨#[UInt8.ofNat (97 + k / 16), UInt8.ofNat (97 + k % 16)]⟩
def nmK (k : Nat) : Nm := ⟨Id.root, nameK k, 3, 1⟩
theorem nameK_list (k : Nat) : (nameK k).toList = [UInt8.ofNat (97 + k / 16), UInt8.ofNat (97 + k % 16)] := by rw [ByteArray.toList_eq]; rfl
theorem nameK_inj {j k : Nat} (hj : j < 256) (hk : k < 256) (h : nameK j = nameK k) : j = k := by
  have h1 := congrArg ByteArray.toList h
  rw [nameK_list, nameK_list] at h1
  simp only [List.cons.injEq, and_true] at h1
  have a := congrArg UInt8.toNat h1.1
  have b := congrArg UInt8.toNat h1.2
  simp only [UInt8.toNat_ofNat'] at a b
  omega
theorem nmK_may (k : Nat) (hk : k < 256) : mayEntry (nmK k) = true := by
  have : ∀ j : Fin 256, mayEntry (nmK j.val) = true := by decide +kernel
  exact this ⟨k, hk⟩
theorem nmK_wf (k : Nat) : (nmK k).wf := ⟨⟨by show (0 : Int) ≤ 0; omega, by show (0 : Int) ≤ 4294967295; omega⟩, by show (0 : Int) ≤ 1; omega, by show (1 : Int) ≤ 4294967295; omega, by show 2 ≤ 1000000; decide⟩
theorem nmK_fl (k : Nat) : (nmK k).dir.fl := ⟨by show (-1 : Int) ≤ -1; omega, by show (-1 : Int) < 9007199254740992; omega, by show (-1 : Int) ≤ 0; omega, by show (0 : Int) < 9007199254740992; omega⟩
theorem nmK_lt {i j : Nat} (hij : i < j) (hj : j < 256) : nlt (nmK j) (nmK i) = false := by
  unfold nlt
  show Op.bytesLess (nameK j).toList (nameK i).toList = false
  rw [nameK_list, nameK_list, bytesLess_eq, decide_eq_false_iff_not]
  intro h
  rw [List.cons_lt_cons_iff, List.cons_lt_cons_iff] at h
  rcases h with h | ⟨h1, h | ⟨_, h⟩⟩
  · have := UInt8.lt_iff_toNat_lt.1 h
    simp only [UInt8.toNat_ofNat'] at this
    omega
  · have h2 := UInt8.lt_iff_toNat_lt.1 h
    have h3 := congrArg UInt8.toNat h1
    simp only [UInt8.toNat_ofNat'] at h2 h3
    omega
  · exact absurd h (by simp)
/-- Which names are there, in a change. -/
structure SL (bs : List Blk) (L : PL) (T : ML) (there : Nat → Bool) (m : Nat) : Prop where
  ok : NamesOk (txV L bs)
  mem : ∀ p ∈ ents (txV L bs), ∃ k, k < 256 ∧ p.1 = nmK k ∧ there k = true
  has : ∀ k, k < 256 → there k = true → ∃ i, (nmK k, i) ∈ ents (txV L bs)
  cntT : T.length ≤ m
  cntE : (ents (txV L bs)).length ≤ m
def setB (f : Nat → Bool) (k : Nat) (b : Bool) : Nat → Bool := fun j => if j = k then b else f j
theorem up_len (T : ML) (k : Int) (v : Value) : (up T k v).length ≤ T.length + 1 := (up_length v).1
theorem nodup_sub_len : ∀ (l : List Nat), l.Nodup → ∀ (r : List Nat), (∀ x ∈ l, x ∈ r) → l.length ≤ r.length
  | [], _, _, _ => Nat.zero_le _
  | x :: l, h, r, hs => by
    have hx := hs x (by simp)
    rw [List.nodup_cons] at h
    have := nodup_sub_len l h.2 (r.erase x) (fun y hy => (List.mem_erase_of_ne (fun e => h.1 (by rw [← e]; exact hy))).2 (hs y (by simp [hy])))
    rw [List.length_erase_of_mem hx] at this
    have := List.length_pos_of_mem hx
    simp only [List.length_cons]; omega
theorem frBlks_eq' {n : Nat} (_ : 0 < n) : frBlks n = newBlks n := by
  apply List.ext_getElem
  · simp [frBlks, newBlks]
  · intro a h1 h2
    simp only [frBlks, newBlks, List.getElem_map, List.getElem_range, List.getElem_set, List.getElem_replicate]
    unfold newBlk
    by_cases e : a = 0
    · subst e
      rw [if_pos rfl, if_pos rfl]
      exact Blk.ext' rfl rfl
    · rw [if_neg e, if_neg (fun h => e h.symm)]
theorem frBlk_kinds (a : Nat) : (newBlk a).kind = 7 ∨ (newBlk a).kind = 0 := by
  unfold newBlk
  split
  · exact .inl superBlk_kind
  · right; unfold Blk.zero; exact Blk.of_kind 0 []
section
variable {bs : List Blk} {L L' : PL} {T T' : ML} {there : Nat → Bool} {m : Nat}
theorem SL.find (h : SL bs L T there m) {k : Nat} (hk : k < 256) : (∃ p, findE (txV L bs) Id.root (nameK k) = some p) ↔ there k = true := by
  constructor
  · rintro ⟨p, hp⟩
    obtain ⟨h1, h2, h3⟩ := findE_some hp
    obtain ⟨j, hj, e, ht⟩ := h.mem p h1
    rw [e] at h3
    have := nameK_inj hj hk h3
    rwa [this] at ht
  · intro ht
    obtain ⟨i, hi⟩ := h.has k hk ht
    cases hf : findE (txV L bs) Id.root (nameK k) with
    | some p => exact ⟨p, rfl⟩
    | none => exact absurd ⟨rfl, rfl⟩ (findE_none hf _ hi)
theorem SL.add (h : SL bs L T there m) (hN : bs.length = 60) (hm : m ≤ 11) {k : Nat} (hk : k < 256) {r : Int} (hr : AddR bs L T (nmK k) r L' T') :
    (there k = true ∧ r = 4 ∧ SL bs L' T' (setB there k true) m) ∨ (there k = false ∧ r = 0 ∧ SL bs L' T' (setB there k true) (m + 1)) := by
  have hmay := nmK_may k hk
  rcases hr with ⟨h1, _⟩ | ⟨_, h1, rfl, rfl, rfl⟩ | ⟨_, hno, hc⟩
  · rw [hmay] at h1; cases h1
  · have ht := (h.find hk).1 h1
    have e : setB there k true = there := by
      funext j; unfold setB; by_cases hj : j = k
      · rw [if_pos hj, hj, ht]
      · rw [if_neg hj]
    exact .inl ⟨ht, rfl, by rw [e]; exact h⟩
  · have ht : there k = false := by
      cases hh : there k with
      | false => rfl
      | true =>
        obtain ⟨p, hp⟩ := (h.find hk).2 hh
        have hp' : findE (txV L bs) (nmK k).dir (nmK k).name = some p := hp
        rw [hno] at hp'; cases hp'
    have hl : (txV L bs).length = 60 := by rw [txV_length, hN]
    rcases hc with ⟨hall, _⟩ | ⟨i, hi, hfree, hlow, rfl, rfl, rfl⟩
    · obtain ⟨j, hj, hnu⟩ := h.ok.room (T := T) (by have := h.cntT; have := h.cntE; omega)
      exact absurd (hall j (by omega)) hnu
    · refine .inr ⟨ht, rfl, ?_⟩
      have hi' : i < (txV L bs).length := by rw [txV_length]; exact hi
      have hnone : ∀ q, (q, i) ∉ ents (txV L bs) := fun q hq => hfree ((h.ok.use hi').2 (.inr (.inr ⟨q, hq⟩)))
      have hno' : findE (txV L bs) (nmK k).dir (nmK k).name = none := hno
      have htk := take_putEntry hmay (nmK_wf k)
      refine ⟨by rw [txV_up]; exact h.ok.add hmay (nmK_wf k) hi' hnone hno', fun p hp => ?_, fun j hj hjt => ?_, ?_, ?_⟩
      · obtain ⟨q, a⟩ := p
        rw [txV_up] at hp
        rcases (ents_mem_set hi').1 hp with ⟨_, h1⟩ | ⟨_, h1⟩
        · rw [htk] at h1
          obtain rfl := Option.some.inj h1
          exact ⟨k, hk, rfl, by unfold setB; rw [if_pos rfl]⟩
        · obtain ⟨j, hj, e, hjt⟩ := h.mem _ h1
          refine ⟨j, hj, e, ?_⟩
          unfold setB
          by_cases hjk : j = k
          · rw [if_pos hjk]
          · rw [if_neg hjk]; exact hjt
      · rw [txV_up]
        by_cases hjk : j = k
        · subst hjk
          exact ⟨i, (ents_mem_set hi').2 (.inl ⟨rfl, htk⟩)⟩
        · unfold setB at hjt
          rw [if_neg hjk] at hjt
          obtain ⟨a, ha⟩ := h.has j hj hjt
          exact ⟨a, (ents_mem_set hi').2 (.inr ⟨fun e => hnone _ (e ▸ ha), ha⟩)⟩
      · have := up_len T (i : Int) (.bool true); have := h.cntT; omega
      · rw [txV_up]; have := ents_set_length (x := (putEntry (nmK k)).1) hi'; have := h.cntE; omega
theorem SL.out (h : SL bs L T there m) {k : Nat} (hk : k < 256) {p : Nm × Nat} (hp : findE (txV L bs) Id.root (nameK k) = some p) : SL bs (upB L (p.2 : Int) Blk.zero) T (setB there k false) m := by
  obtain ⟨h1, h2, h3⟩ := findE_some hp
  obtain ⟨j, hj, e, ht⟩ := h.mem p h1
  rw [e] at h3
  have hjk := nameK_inj hj hk h3
  subst hjk
  obtain ⟨q, a⟩ := p
  dsimp only at e
  subst e
  have ha := (mem_ents.1 h1).1
  refine ⟨by rw [txV_up]; exact h.ok.out ha, fun p hp2 => ?_, fun i hi hit => ?_, h.cntT, ?_⟩
  · obtain ⟨q, b⟩ := p
    rw [txV_up] at hp2
    rcases (ents_mem_set ha).1 hp2 with ⟨_, h4⟩ | ⟨hne, h4⟩
    · rw [take_zero] at h4; cases h4
    · obtain ⟨i, hi, e, hit⟩ := h.mem _ h4
      refine ⟨i, hi, e, ?_⟩
      unfold setB
      by_cases hij : i = j
      · subst hij
        have := h.ok.once _ h4 _ h1 (by rw [e]) (by rw [e])
        exact absurd (congrArg Prod.snd this) hne
      · rw [if_neg hij]; exact hit
  · rw [txV_up]
    unfold setB at hit
    by_cases hij : i = j
    · rw [if_pos hij] at hit; cases hit
    · rw [if_neg hij] at hit
      obtain ⟨b, hb⟩ := h.has i hi hit
      refine ⟨b, (ents_mem_set ha).2 (.inr ⟨fun e => ?_, hb⟩)⟩
      subst e
      have h5 := (mem_ents.1 hb).2
      have h6 := (mem_ents.1 h1).2
      rw [h5] at h6
      exact hij (nameK_inj hi hj (congrArg Nm.name (Option.some.inj h6)))
  · rw [txV_up]
    have hs : (ents ((txV L bs).set a Blk.zero)).length ≤ (ents (txV L bs)).length := by
      refine Nat.le_trans (m := ((ents (txV L bs)).filter fun p => decide (p.2 ≠ a)).length) ?_ (List.length_filter_le _ _)
      have hnd : ((ents ((txV L bs).set a Blk.zero)).map (·.2)).Nodup := by
        rw [List.nodup_iff_pairwise_ne, List.pairwise_map]
        exact (ents_pairwise _).imp fun h => by omega
      have hsub : ∀ x ∈ (ents ((txV L bs).set a Blk.zero)).map (·.2), x ∈ ((ents (txV L bs)).filter fun p => decide (p.2 ≠ a)).map (·.2) := fun x hx => by
        obtain ⟨⟨q, b⟩, hq, rfl⟩ := List.mem_map.1 hx
        rcases (ents_mem_set ha).1 hq with ⟨_, h4⟩ | ⟨hne, h4⟩
        · rw [take_zero] at h4; cases h4
        · exact List.mem_map.2 ⟨(q, b), List.mem_filter.2 ⟨h4, by simpa using hne⟩, rfl⟩
      have := nodup_sub_len _ hnd _ hsub
      simpa using this
    have hm := h.cntE
    exact Nat.le_trans hs hm
/-- What is listed. -/
def thereL (there : Nat → Bool) : List Nat := (List.range 256).filter there
theorem thereL_sorted (there : Nat → Bool) : (thereL there).Pairwise (· < ·) := List.Pairwise.filter _ List.pairwise_lt_range
theorem mem_thereL {there : Nat → Bool} {k : Nat} : k ∈ thereL there ↔ k < 256 ∧ there k = true := by
  unfold thereL; rw [List.mem_filter, List.mem_range]
theorem SL.list (h : SL bs L T there m) {l : List Nm} (hp : l.Perm ((ents (txV L bs)).map (·.1))) (ho : inOrder l) : l = (thereL there).map nmK := by
  have hnd : ((ents (txV L bs)).map (·.1)).Nodup := by
    rw [List.nodup_iff_pairwise_ne, List.pairwise_map]
    refine List.Pairwise.imp_of_mem ?_ (ents_pairwise (txV L bs))
    intro p q hp hq hlt e
    have := h.ok.once p hp q hq (by rw [e]) (by rw [e])
    rw [this] at hlt; omega
  have hnd2 : ((thereL there).map nmK).Nodup := by
    rw [List.nodup_iff_pairwise_ne, List.pairwise_map]
    refine List.Pairwise.imp_of_mem ?_ (thereL_sorted there)
    intro i j hi hj hlt e
    have := nameK_inj (mem_thereL.1 hi).1 (mem_thereL.1 hj).1 (congrArg Nm.name e)
    omega
  have hperm : l.Perm ((thereL there).map nmK) := by
    refine hp.trans ((List.perm_ext_iff_of_nodup hnd hnd2).2 fun x => ?_)
    constructor
    · intro hx
      obtain ⟨p, hp, rfl⟩ := List.mem_map.1 hx
      obtain ⟨k, hk, e, ht⟩ := h.mem p hp
      exact List.mem_map.2 ⟨k, mem_thereL.2 ⟨hk, ht⟩, e.symm⟩
    · intro hx
      obtain ⟨k, hk, rfl⟩ := List.mem_map.1 hx
      obtain ⟨h1, h2⟩ := mem_thereL.1 hk
      obtain ⟨i, hi⟩ := h.has k h1 h2
      exact List.mem_map.2 ⟨_, hi, rfl⟩
  refine List.Perm.eq_of_pairwise (le := fun a b => nlt b a = false) ?_ ho ?_ hperm
  · intro a b ha hb h1 h2
    have hb2 := hb
    have ha2 := hperm.mem_iff.1 ha
    obtain ⟨i, hi, rfl⟩ := List.mem_map.1 ha2
    obtain ⟨j, hj, rfl⟩ := List.mem_map.1 hb2
    have e := blt_total h1 h2
    rw [show (nmK i).name = nameK i from rfl, show (nmK j).name = nameK j from rfl] at e
    rw [nameK_list, nameK_list] at e
    have hn : nameK i = nameK j := by
      unfold nameK
      simp only [List.cons.injEq, and_true] at e
      rw [e.1, e.2]
    rw [nameK_inj (mem_thereL.1 hi).1 (mem_thereL.1 hj).1 hn]
  · rw [List.pairwise_map]
    refine List.Pairwise.imp_of_mem ?_ (thereL_sorted there)
    intro i j hi hj hlt
    exact nmK_lt hlt (mem_thereL.1 hj).1
end
/-- A new store has no names. -/
theorem newBlks_ents (n : Nat) (h0 : 0 < n) : ents (newBlks n) = [] := by
  rw [List.eq_nil_iff_forall_not_mem]
  rintro ⟨q, i⟩ hq
  obtain ⟨h1, h2⟩ := mem_ents.1 hq
  have hk := takeEntry_kind h2
  rw [← frBlks_eq' h0] at hk h1
  rw [frBlks_length] at h1
  rw [List.getD_eq_getElem?_getD, List.getElem?_eq_getElem (by rw [frBlks_length]; exact h1)] at hk
  have := frBlk_kinds i
  simp only [frBlks, List.getElem_map, List.getElem_range, Option.getD_some] at hk
  omega
theorem SL.start {n : Nat} (h0 : 0 < n) : SL (newBlks n) [] [] (fun _ => false) 0 := by
  have e : txV [] (newBlks n) = newBlks n := txV_nil _
  have he := newBlks_ents n h0
  refine ⟨?_, ?_, ?_, by simp, by rw [e, he]; simp⟩
  · rw [e]
    refine ⟨fun i hi => ?_, fun i hi h6 => ?_, fun p hp => by rw [he] at hp; simp at hp⟩
    all_goals rw [← frBlks_eq' h0] at *
    all_goals have := frBlk_kinds i
    all_goals rw [List.getD_eq_getElem?_getD, List.getElem?_eq_getElem hi] at *
    all_goals simp only [frBlks, List.getElem_map, List.getElem_range, Option.getD_some] at *
    · omega
    · omega
  · rw [e, he]; simp
  · intro k hk ht; cases ht
end Go.Proofs.YtbbnejehglonjaaGreat

/- DERIVED. Contract of clathrilaw15.Filled of a new store's blocks. -/
namespace Go.Proofs.YtbbnejehglonjaaGreat
open Go.RowKit
attribute [local irreducible] Calls
set_option maxRecDepth 100000

theorem frBlks_eq {n : Nat} (h : 0 < n) : frBlks n = newBlks n := frBlks_eq' h
/-- What Filled leaves. -/
structure FillAt (w w' : World) (d v : Nat) (Sd : Nat → Prop) (s : Sh) (gb cap m : Nat) (st : VSt) (c : Nat) : Prop where
  vol : VolS w' Sd v d 0 s gb cap m st c
  sd : ∀ q, Sd q → w.heap.size ≤ q
  hv : w.heap.size ≤ v
  hg : w.heap.size ≤ gb
  hm : w.heap.size ≤ m
  below : Below w.heap.size w w'
set_option maxHeartbeats 8000000 in
theorem Filled_new {w : World} {n g cap0 : Nat} (h0 : 4 ≤ n) (h1 : n ≤ 200) (hk : KRow w 0 (.slice (some ⟨g, 0, none⟩) n cap0) (newBlks n)) :
    Calls Tryz.prog 18 #[.slice (some ⟨g, 0, none⟩) n cap0] w fun e w' => ∃ d v, e = .returned (.tuple #[.pointer (some ⟨d, 0, none⟩), .pointer (some ⟨v, 0, none⟩), .bool true]) ∧ ∃ Sd gb cap m st c, FillAt w w' d v Sd (shN n) gb cap m st c ∧ st.bs = newBlks n ∧ c ≤ 1000 := by
  have hok := shN_ok (n := n) (by omega) h1
  obtain ⟨R, hR, hRl, hR2, hRb, hRh⟩ := make_seen (n := n) (by omega) h1
  obtain ⟨w0, hw0⟩ : ∃ w0, w0 = w.alloc (.cells #[.int .i64 0, .int .i64 0, .int .i64 (n : Int), .int .i64 40, .int .i64 4] 124) := ⟨_, rfl⟩
  obtain ⟨G, hG⟩ : ∃ G, G = w.heap.size := ⟨_, rfl⟩
  have hB0 : Below w.heap.size w w0 := below_alloc hw0
  have hO : objAt w0 G = some (.cells #[.int .i64 0, .int .i64 0, .int .i64 (n : Int), .int .i64 40, .int .i64 4] 124 (0, 0)) := by rw [hG]; exact obj_alloc hw0
  have HZ := Lib.hid (fun w => Size_any (shN n) hok w)
  have hsc : (shN n).cells = #[.int .i64 0, .int .i64 0, .int .i64 (n : Int), .int .i64 40, .int .i64 4] := rfl
  rw [hsc, shN_size] at HZ
  have H0 := Lib.hid (And.intro hk (And.intro hB0 (And.intro hO (And.intro hok hsc))))
  have HR := Lib.hid (And.intro hR (And.intro hRl (And.intro hR2 (And.intro hRb hRh))))
  have c0 : w0.cell? ⟨G, 0, none⟩ = some (.int .i64 0) := cell_obj hO 0
  have c1 : w0.cell? ⟨G, 1, none⟩ = some (.int .i64 0) := cell_obj hO 1
  have c2 : w0.cell? ⟨G, 2, none⟩ = some (.int .i64 (n : Int)) := cell_obj hO 2
  have c3 : w0.cell? ⟨G, 3, none⟩ = some (.int .i64 40) := cell_obj hO 3
  have c4 : w0.cell? ⟨G, 4, none⟩ = some (.int .i64 4) := cell_obj hO 4
  clear hk hB0 hO hok hR hRl hR2 hRb hRh hsc
  go_enter Tryz.func18, Tryz.ntmps18
  go_upto_region 2 with fail
  rw [← hw0, ← hG]
  clear hw0 hG
  go_upto_region 3 with (first
    | (go_at_call 54; refine (HZ.out _).mono ?_; rintro e w1 ⟨rfl, b1⟩)
    | (go_at_call 53; refine (DevNew_any (some ⟨w1.heap.size, 0, none⟩) [((42 + n : Nat) : Int)] 1 _ ⟨w1.heap.size, 0, fun _ => rfl, fun i hi => by obtain rfl : i = 0 := (by simp only [List.length_singleton] at hi; omega); simp⟩ (by simp) (by simp) (fun x hx => by simp only [List.mem_singleton] at hx; omega)).mono ?_; rintro e w2 ⟨d, rfl, hd, b2⟩))
  have hd2 : DevAt w2 (fun q => w0.heap.size ≤ q ∧ q < w2.heap.size) d (dvN n) 0 := (show DevAt w2 _ d (dvN n) 0 from hd).mono (fun q hq => ⟨by have h1 := hq.1; have h2 := b1.size; simp only [size_alloc] at h1; omega, hq.2⟩) (fun q hq => hq.2) (Nat.le_refl _)
  have hB2 : Below w0.heap.size w0 w2 := grow_trans (grow_alloc b1 _) b2
  have HM := Lib.hid (Make_any (reg := 0) hd2 ⟨Reg.new (42 + n), rfl, by simp [Reg.new, shN_size]⟩ H0.out.2.2.2.1 (by decide))
  rw [H0.out.2.2.2.2] at HM
  have e0 := grow_cell hB2 c0
  have e1 := grow_cell hB2 c1
  have e2 := grow_cell hB2 c2
  have e3 := grow_cell hB2 c3
  have e4 := grow_cell hB2 c4
  have H2 := Lib.hid (And.intro hd2 hB2)
  clear hd hd2 hB2 b1 b2 c0 c1 c2 c3 c4
  go_upto_region 5 with (go_at_call 55; refine HM.out.mono ?_; rintro e w3 ⟨rfl, h3⟩)
  have hG : G < w0.heap.size := block_lt H0.out.2.2.1
  have hO3 : objAt w3 G = some (.cells #[.int .i64 0, .int .i64 0, .int .i64 (n : Int), .int .i64 40, .int .i64 4] 124 (0, 0)) := h3.obj (grow_obj H2.out.2 H0.out.2.2.1) (fun e => by have := e.1; omega)
  have HT := Lib.hid (Mount_new (reg := 0) (hb := frBlks n) H0.out.2.2.2.1 h3.dev (by show 0 + n + 3 < 600000; omega) (R := R) (by rw [HR.out.1]; rfl) HR.out.2.1 (by show 0 < 40; decide) HR.out.2.2.1 zeros_ten HR.out.2.2.2.1 (by decide) (by rw [frBlks_length]; rfl) HR.out.2.2.2.2)
  rw [H0.out.2.2.2.2] at HT
  have k0 : w3.cell? ⟨G, 0, none⟩ = some (.int .i64 0) := cell_obj hO3 0
  have k1 : w3.cell? ⟨G, 1, none⟩ = some (.int .i64 0) := cell_obj hO3 1
  have k2 : w3.cell? ⟨G, 2, none⟩ = some (.int .i64 (n : Int)) := cell_obj hO3 2
  have k3 : w3.cell? ⟨G, 3, none⟩ = some (.int .i64 40) := cell_obj hO3 3
  have k4 : w3.cell? ⟨G, 4, none⟩ = some (.int .i64 4) := cell_obj hO3 4
  have H3 := Lib.hid (And.intro h3 hO3)
  clear h3 hO3 e0 e1 e2 e3 e4 hG
  go_upto_region 8 with (go_at_call 56; refine HT.out.mono ?_; rintro e w4 ⟨v, gb, cap, m, S', rfl, hv, hS', hwv, hwg, hwm, hk4⟩)
  have hbel4 : Below w.heap.size w w4 := by
    have h02 := grow_trans H0.out.2.1 H2.out.2
    have h03 : Below w.heap.size w w3 := h02.trans (H3.out.1.keeps.below h02.size (fun q e => Nat.le_trans H0.out.2.1.size e.1))
    exact h03.trans (hk4.below h03.size (fun q e => by
      rcases e.2 with h | h
      · exact Nat.le_trans H0.out.2.1.size h.1
      · exact Nat.le_trans h02.size h))
  have hw3 : w.heap.size ≤ w3.heap.size := Nat.le_trans (grow_trans H0.out.2.1 H2.out.2).size H3.out.1.keeps.size
  have hFA : FillAt w w4 d v S' (shN n) gb cap m ⟨(1 + 1) % 4294967296, 0, 0, frBlks n, [], tidiesD (makeD (dvN n) 0 (shN n)) 0 (shN n) (frBlks n) [] ((1 + 1) % 4294967296)⟩ (0 + (shN n).blocks + 3 + (frBlks n).length + 4) :=
    ⟨hv, fun q hq => by
      rcases hS' q hq with h | h
      · rcases h.2 with h | h
        · exact Nat.le_trans H0.out.2.1.size h.1
        · exact Nat.le_trans (grow_trans H0.out.2.1 H2.out.2).size h
      · exact Nat.le_trans hw3 h, Nat.le_trans hw3 hwv, Nat.le_trans hw3 hwg, Nat.le_trans hw3 hwm, hbel4⟩
  have HF := Lib.hid hFA
  clear hFA hbel4 hv hS' hwv hwg hwm hk4 hw3 k0 k1 k2 k3 k4
  go_wp2_with fail
  go_loopw [10] (fun q wr => ∃ k : Nat, k ≤ n ∧ q = .int .i64 k ∧ Below w4.heap.size w4 wr) (fun q _ => n - (Go.RowKit.intOf q).toNat)
  case atStart => exact ⟨0, Nat.zero_le _, rfl, Below.refl _ _⟩
  case round =>
    obtain ⟨k, hk, rfl, hbel⟩ := hrel
    by_cases hlt : k < n
    · have hlti : (k : Int) < (n : Int) := by omega
      have hk2 : (k : Int) < 200 := by omega
      have hG := VolP.get (VolP.below HF.out.vol hbel) (k : Int)
      have hkl : k < (frBlks n).length := by rw [frBlks_length]; exact hlt
      have hgb : getB (frBlks n) (k : Int) = (frBlks n).getD k Blk.zero := by unfold getB; rw [inB_nat hkl, if_pos rfl, blkD_nat]
      have hin : inB (frBlks n) (k : Int) = true := inB_nat hkl
      dsimp only at hG
      rw [hgb, hin, frBlks_eq (by omega)] at hG
      have hK : KRow wr 0 (.slice (some ⟨g, 0, none⟩) n cap0) (newBlks n) := H0.out.1.below (grow_trans HF.out.below hbel)
      have hkl2 : k < (newBlks n).length := by rw [← frBlks_eq (by omega), frBlks_length]; exact hlt
      obtain ⟨b, hb⟩ : ∃ b, b = (newBlks n).getD k Blk.zero := ⟨_, rfl⟩
      rw [← hb] at hG
      have HX := Lib.hid (And.intro hG (And.intro hbel (And.intro hK (And.intro hkl2 hb))))
      clear hG hgb hin hK hkl hkl2 hb hbel
      go_upto_region 12 with (go_at_call 23; refine HX.out.1.mono ?_; rintro e w5 ⟨rfl, b5⟩)
      obtain ⟨J, hJ⟩ : ∃ J, J = w5.heap.size := ⟨_, rfl⟩
      obtain ⟨w6, hw6⟩ : ∃ w6, w6 = w5.alloc (.cells b.cells 37) := ⟨_, rfl⟩
      have hX6 : BlkAt w6 J b := by rw [hJ]; exact obj_alloc hw6
      have hb6 : Below wr.heap.size wr w6 := grow_trans b5 (below_alloc hw6)
      rw [← hw6, ← hJ]
      have hK6 := HX.out.2.2.1.below hb6
      have i1 := hX6.has
      have i2 := hX6.row
      have i3 := hK6.has k HX.out.2.2.2.1
      have i4 := hK6.row k HX.out.2.2.2.1
      rw [← HX.out.2.2.2.2] at i4
      have H6 := Lib.hid hb6
      clear hw6 hJ hX6 hb6 hK6 b5
      have hnb : decide (b = b) = true := by simp
      refine wp_region_held_drew (S := fun w' => hasBlk w' J = true ∧ rowAt w' J = some b.cells ∧ hasOff w' g (k * 57) = true ∧ rowOff w' g (k * 57) = some b.cells ∧ True) (by kernel_rfl) (⟨i1, i2, i3, i4, trivial⟩) (fun hHeld => ?_)
      show wpAnyH _ _ _ _ _ 22 #[false, false, false, false, false, false, false, false, false, false, false, false, false, false, false, false, false, false, false, false, false, false] _ _
      refine wpAnyH_take (i := 0) (v := ?kv1) rfl (by kernel_rfl) (by kernel_rfl) (by kernel_rfl) (fun _ _ _ h => h) (Or.inl ⟨by rfl, ?ky1⟩) (by assumption) ?kr1
      case ky1 => (intro w hSw; (try dsimp only at hSw); go_split_ands; (try simp only [qA, qB]); go_simp; (try with_reducible rfl))
      try simp only [Act.put, qA, qB, qD, qE, qF]
      refine wpAnyH_take (i := 1) (v := ?kv2) rfl (by kernel_rfl) (by kernel_rfl) (by kernel_rfl) (fun _ _ _ h => h) (Or.inl ⟨by rfl, ?ky2⟩) (by assumption) ?kr2
      case ky2 => (intro w hSw; (try dsimp only at hSw); go_split_ands; (try simp only [qA, qB, qC]); go_simp; (try with_reducible rfl))
      try simp only [Act.put, qA, qB, qC, qD, qE, qF]
      refine wpAnyH_take (i := 2) (v := ?kv3) rfl (by kernel_rfl) (by kernel_rfl) (by kernel_rfl) (fun _ _ _ h => h) (Or.inl ⟨by rfl, ?ky3⟩) (by assumption) ?kr3
      case ky3 => (intro w hSw; (try dsimp only at hSw); go_split_ands; (try simp only [qA, qB, qC]); go_simp; (try with_reducible rfl))
      try simp only [Act.put, qA, qB, qC, qD, qE, qF]
      refine wpAnyH_take (i := 3) (v := ?kv4) rfl (by kernel_rfl) (by kernel_rfl) (by kernel_rfl) (fun _ _ _ h => h) (Or.inl ⟨by rfl, ?ky4⟩) (by assumption) ?kr4
      case ky4 => (intro w hSw; (try dsimp only at hSw); go_split_ands; (try simp only [qA, qB, qC]); go_simp; (try with_reducible rfl))
      try simp only [Act.put, qA, qB, qC, qD, qE, qF]
      refine wpAnyH_take (i := 4) (v := ?kv5) rfl (by kernel_rfl) (by kernel_rfl) (by kernel_rfl) (fun _ _ _ h => h) (Or.inl ⟨by rfl, ?ky5⟩) (by assumption) ?kr5
      case ky5 => (intro w hSw; (try dsimp only at hSw); go_split_ands; (try simp only [qA, qB, qC]); go_simp; (try with_reducible rfl))
      try simp only [Act.put, qA, qB, qC, qD, qE, qF]
      refine wpAnyH_take (i := 5) (v := ?kv6) rfl (by kernel_rfl) (by kernel_rfl) (by kernel_rfl) (fun _ _ _ h => h) (Or.inl ⟨by rfl, ?ky6⟩) (by assumption) ?kr6
      case ky6 => (intro w hSw; (try dsimp only at hSw); go_split_ands; (try simp only [qA, qB, qC]); go_simp; (try with_reducible rfl))
      try simp only [Act.put, qA, qB, qC, qD, qE, qF]
      refine wpAnyH_take (i := 6) (v := ?kv7) rfl (by kernel_rfl) (by kernel_rfl) (by kernel_rfl) (fun _ _ _ h => h) (Or.inl ⟨by rfl, ?ky7⟩) (by assumption) ?kr7
      case ky7 => (intro w hSw; (try dsimp only at hSw); go_split_ands; (try simp only [qA, qB, qC]); go_simp; (try with_reducible rfl))
      try simp only [Act.put, qA, qB, qC, qD, qE, qF]
      refine wpAnyH_take (i := 7) (v := ?kv8) rfl (by kernel_rfl) (by kernel_rfl) (by kernel_rfl) (fun _ _ _ h => h) (Or.inl ⟨by rfl, ?ky8⟩) (by assumption) ?kr8
      case ky8 => (intro w hSw; (try dsimp only at hSw); go_split_ands; (try simp only [qA, qB, qC]); go_simp; (try with_reducible rfl))
      try simp only [Act.put, qA, qB, qC, qD, qE, qF]
      refine wpAnyH_take (i := 8) (v := ?kv9) rfl (by kernel_rfl) (by kernel_rfl) (by kernel_rfl) (fun _ _ _ h => h) (Or.inl ⟨by rfl, ?ky9⟩) (by assumption) ?kr9
      case ky9 => (intro w hSw; (try dsimp only at hSw); go_split_ands; (try simp only [qA, qB, qC]); go_simp; (try with_reducible rfl))
      try simp only [Act.put, qA, qB, qC, qD, qE, qF]
      refine wpAnyH_take (i := 9) (v := ?kv10) rfl (by kernel_rfl) (by kernel_rfl) (by kernel_rfl) (fun _ _ _ h => h) (Or.inl ⟨by rfl, ?ky10⟩) (by assumption) ?kr10
      case ky10 => (intro w hSw; (try dsimp only at hSw); go_split_ands; (try simp only [qA, qB, qC]); go_simp; (try with_reducible rfl))
      try simp only [Act.put, qA, qB, qC, qD, qE, qF]
      refine wpAnyH_take (i := 10) (v := undef) rfl (by kernel_rfl) (by kernel_rfl) (by kernel_rfl) (fun _ _ _ h => h) (Or.inr ⟨?kz11, rfl⟩) (by assumption) ?kr11
      case kz11 => rfl
      try simp only [Act.put, qA, qB, qC, qD, qE, qF]
      refine wpAnyH_take (i := 11) (v := undef) rfl (by kernel_rfl) (by kernel_rfl) (by kernel_rfl) (fun _ _ _ h => h) (Or.inr ⟨?kz12, rfl⟩) (by assumption) ?kr12
      case kz12 => rfl
      try simp only [Act.put, qA, qB, qC, qD, qE, qF]
      refine wpAnyH_take (i := 12) (v := undef) rfl (by kernel_rfl) (by kernel_rfl) (by kernel_rfl) (fun _ _ _ h => h) (Or.inr ⟨?kz13, rfl⟩) (by assumption) ?kr13
      case kz13 => rfl
      try simp only [Act.put, qA, qB, qC, qD, qE, qF]
      refine wpAnyH_take (i := 13) (v := undef) rfl (by kernel_rfl) (by kernel_rfl) (by kernel_rfl) (fun _ _ _ h => h) (Or.inr ⟨?kz14, rfl⟩) (by assumption) ?kr14
      case kz14 => rfl
      try simp only [Act.put, qA, qB, qC, qD, qE, qF]
      refine wpAnyH_take (i := 14) (v := undef) rfl (by kernel_rfl) (by kernel_rfl) (by kernel_rfl) (fun _ _ _ h => h) (Or.inr ⟨?kz15, rfl⟩) (by assumption) ?kr15
      case kz15 => rfl
      try simp only [Act.put, qA, qB, qC, qD, qE, qF]
      refine wpAnyH_take (i := 15) (v := undef) rfl (by kernel_rfl) (by kernel_rfl) (by kernel_rfl) (fun _ _ _ h => h) (Or.inr ⟨?kz16, rfl⟩) (by assumption) ?kr16
      case kz16 => rfl
      try simp only [Act.put, qA, qB, qC, qD, qE, qF]
      refine wpAnyH_take (i := 16) (v := undef) rfl (by kernel_rfl) (by kernel_rfl) (by kernel_rfl) (fun _ _ _ h => h) (Or.inr ⟨?kz17, rfl⟩) (by assumption) ?kr17
      case kz17 => rfl
      try simp only [Act.put, qA, qB, qC, qD, qE, qF]
      refine wpAnyH_take (i := 17) (v := undef) rfl (by kernel_rfl) (by kernel_rfl) (by kernel_rfl) (fun _ _ _ h => h) (Or.inr ⟨?kz18, rfl⟩) (by assumption) ?kr18
      case kz18 => rfl
      try simp only [Act.put, qA, qB, qC, qD, qE, qF]
      refine wpAnyH_take (i := 18) (v := undef) rfl (by kernel_rfl) (by kernel_rfl) (by kernel_rfl) (fun _ _ _ h => h) (Or.inr ⟨?kz19, rfl⟩) (by assumption) ?kr19
      case kz19 => rfl
      try simp only [Act.put, qA, qB, qC, qD, qE, qF]
      refine wpAnyH_take (i := 19) (v := undef) rfl (by kernel_rfl) (by kernel_rfl) (by kernel_rfl) (fun _ _ _ h => h) (Or.inr ⟨?kz20, rfl⟩) (by assumption) ?kr20
      case kz20 => rfl
      try simp only [Act.put, qA, qB, qC, qD, qE, qF]
      refine wpAnyH_take (i := 20) (v := ?kv21) rfl (by kernel_rfl) (by kernel_rfl) (by kernel_rfl) (fun _ _ _ h => h) (Or.inl ⟨by rfl, ?ky21⟩) (by assumption) ?kr21
      case ky21 => (intro w hSw; (try dsimp only at hSw); go_split_ands; (try simp only [qA, qB, qC]); go_simp; (try with_reducible rfl))
      try simp only [Act.put, qA, qB, qC, qD, qE, qF]
      refine wpAnyH_take (i := 21) (v := ?kv22) rfl (by kernel_rfl) (by kernel_rfl) (by kernel_rfl) (fun _ _ _ h => h) (Or.inl ⟨by rfl, ?ky22⟩) (by assumption) ?kr22
      case ky22 => (intro w hSw; (try dsimp only at hSw); go_split_ands; (try simp only [qA, qB, qC]); go_simp; (try with_reducible rfl))
      try simp only [Act.put, qA, qB, qC, qD, qE, qF]
      refine wpAnyH_done (by kernel_rfl) ?_ _
      go_wp2_with fail
      go_roundw
      case rel => exact ⟨k + 1, by omega, by go_num, (grow_trans HX.out.2.1 H6.out).drew⟩
      case measure => simp [Go.RowKit.intOf]; omega
    · obtain rfl : k = n := by omega
      have HB := Lib.hid hbel
      clear hbel
      go_wp2_with fail
      refine bodyPost_ret (results_three rfl (resOne_tmp _ _ _) (resOne_tmp _ _ _) (resOne_tmp _ _ _)) rfl ?_
      refine ⟨d, v, rfl, S', gb, cap, m, _, _, ⟨VolP.below HF.out.vol HB.out, HF.out.sd, HF.out.hv, HF.out.hg, HF.out.hm, grow_trans HF.out.below HB.out⟩, frBlks_eq (by omega), ?_⟩
      rw [frBlks_length]; show 0 + k + 3 + k + 4 ≤ 1000; omega
end Go.Proofs.YtbbnejehglonjaaGreat
