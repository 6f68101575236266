/- DERIVED. Contracts and laws that the proofs of this seat share, part 33 of 36: ShN ShG ShM FlB. -/
import Derived.Test.YtbbnejehglonjaaGreatMo00
import Derived.Test.YtbbnejehglonjaaGreatMo28
import Derived.Test.YtbbnejehglonjaaGreatMo30
import Derived.Test.YtbbnejehglonjaaGreatMo31
import Derived.Test.YtbbnejehglonjaaGreatMo32
/- DERIVED. Plain: the names of clathrilaw17.ShardOnce; which of them are there, and since when. No program in sight. -/
namespace Go.Proofs.YtbbnejehglonjaaGreat
open Go.RowKit

def dirD (d : Nat) : Id := if d = 0 then Id.root else ⟨1, 4, d⟩
def nameO (k : Nat) : ByteArray := ⟨#[110, UInt8.ofNat (97 + k)]⟩
def nmO (d k g : Nat) : Nm := ⟨dirD d, nameO k, 7, g⟩
theorem dirD_inj {a b : Nat} (h : dirD a = dirD b) : a = b := by
 unfold dirD at h
 by_cases h1 : a = 0 <;> by_cases h2 : b = 0
 · rw [h1, h2]
 · rw [if_pos h1, if_neg h2] at h; cases h
 · rw [if_neg h1, if_pos h2] at h; cases h
 · rw [if_neg h1, if_neg h2] at h
   have := congrArg Id.gen h
   dsimp only at this
   omega
theorem nameO_inj {j k : Nat} (hj : j < 5) (hk : k < 5) (h : nameO j = nameO k) : j = k := by
 have h1 := congrArg (fun b : ByteArray => b.data.toList) h
 simp only [nameO, List.cons.injEq, and_true, true_and] at h1
 have a := congrArg UInt8.toNat h1
 simp only [UInt8.toNat_ofNat'] at a
 omega
theorem nmO_may {d k g : Nat} (hd : d < 3) (hk : k < 5) (h0 : 1 ≤ g) : mayEntry (nmO d k g) = true := by
 have : ∀ (a : Fin 3) (b : Fin 5), (mayID (dirD a.val) && mayName (nameO b.val).data.toList && okAt 7) = true := by decide +kernel
 have h := this ⟨d, hd⟩ ⟨k, hk⟩
 rw [mayEntry_parts]
 show ((mayID (dirD d) && mayName (nameO k).data.toList && okAt 7) && decide ((1 : Int) ≤ (g : Int))) = true
 rw [h]
 have : (1 : Int) ≤ (g : Int) := by omega
 simp [this]
theorem dirD_wf {d : Nat} (hd : d < 3) : (dirD d).wf := by
 unfold dirD
 by_cases h : d = 0
 · rw [if_pos h]; exact ⟨by show (0 : Int) ≤ 0; omega, by show (0 : Int) ≤ 4294967295; omega⟩
 · rw [if_neg h]; exact ⟨by show (0 : Int) ≤ (d : Int); omega, by show (d : Int) ≤ 4294967295; omega⟩
theorem nmO_wf {d k g : Nat} (hd : d < 3) (hg : g ≤ 40) : (nmO d k g).wf := ⟨dirD_wf hd, by show (0 : Int) ≤ (g : Int); omega, by show (g : Int) ≤ 4294967295; omega, by show 2 ≤ 1000000; decide⟩
theorem nmO_fl (d k g : Nat) : (nmO d k g).dir.fl := by
 show (dirD d).fl
 unfold dirD
 by_cases h : d = 0
 · rw [if_pos h]; exact ⟨by show (-1 : Int) ≤ -1; omega, by show (-1 : Int) < 9007199254740992; omega, by show (-1 : Int) ≤ 0; omega, by show (0 : Int) < 9007199254740992; omega⟩
 · rw [if_neg h]; exact ⟨by show (-1 : Int) ≤ 1; omega, by show (1 : Int) < 9007199254740992; omega, by show (-1 : Int) ≤ 4; omega, by show (4 : Int) < 9007199254740992; omega⟩
theorem nodup_sub_lenG {α : Type} [DecidableEq α] : ∀ (l : List α), l.Nodup → ∀ (r : List α), (∀ x ∈ l, x ∈ r) → l.length ≤ r.length
 | [], _, _, _ => Nat.zero_le _
 | x :: l, h, r, hs => by
   have hx := hs x (by simp)
   rw [List.nodup_cons] at h
   have := nodup_sub_lenG l h.2 (r.erase x) (fun y hy => (List.mem_erase_of_ne (fun e => h.1 (by rw [← e]; exact hy))).2 (hs y (by simp [hy])))
   rw [List.length_erase_of_mem hx] at this
   have := List.length_pos_of_mem hx
   simp only [List.length_cons]; omega
/-- Which names are there, and since when. -/
structure SO (bs : List Blk) (L : PL) (th : Nat → Nat → Nat) : Prop where
 ok : NamesOk (txV L bs)
 mem : ∀ p ∈ ents (txV L bs), ∃ d k, d < 3 ∧ k < 5 ∧ p.1 = nmO d k (th d k) ∧ 0 < th d k
 has : ∀ d k, d < 3 → k < 5 → 0 < th d k → ∃ i, (nmO d k (th d k), i) ∈ ents (txV L bs)
 le : ∀ d k, th d k ≤ 40
def setO (th : Nat → Nat → Nat) (d k g : Nat) : Nat → Nat → Nat := fun a b => if a = d ∧ b = k then g else th a b
theorem setO_self (th : Nat → Nat → Nat) (d k g : Nat) : setO th d k g d k = g := by unfold setO; rw [if_pos ⟨rfl, rfl⟩]
theorem setO_le {th : Nat → Nat → Nat} {d k g : Nat} (h : ∀ a b, th a b ≤ 40) (hg : g ≤ 40) (a b : Nat) : setO th d k g a b ≤ 40 := by
 unfold setO
 by_cases e : a = d ∧ b = k
 · rw [if_pos e]; exact hg
 · rw [if_neg e]; exact h a b
theorem setO_ne {th : Nat → Nat → Nat} {d k g a b : Nat} (h : ¬ (a = d ∧ b = k)) : setO th d k g a b = th a b := by unfold setO; rw [if_neg h]
section
variable {bs : List Blk} {L L' : PL} {T' : ML} {th : Nat → Nat → Nat}
theorem SO.names_nodup (h : SO bs L th) : ((ents (txV L bs)).map (·.1)).Nodup := by
 rw [List.nodup_iff_pairwise_ne, List.pairwise_map]
 refine List.Pairwise.imp_of_mem ?_ (ents_pairwise (txV L bs))
 intro p q hp hq hlt e
 have := h.ok.once p hp q hq (by rw [e]) (by rw [e])
 rw [this] at hlt; omega
theorem SO.few (h : SO bs L th) : (ents (txV L bs)).length ≤ 15 := by
 have h1 := nodup_sub_lenG _ h.names_nodup ((List.range 15).map fun j => nmO (j / 5) (j % 5) (th (j / 5) (j % 5))) (fun x hx => by
  obtain ⟨p, hp, rfl⟩ := List.mem_map.1 hx
  obtain ⟨d, k, hd, hk, e, _⟩ := h.mem p hp
  refine List.mem_map.2 ⟨d * 5 + k, List.mem_range.2 (by omega), ?_⟩
  rw [show (d * 5 + k) / 5 = d by omega, show (d * 5 + k) % 5 = k by omega, e])
 simpa using h1
theorem SO.find (h : SO bs L th) {d k : Nat} (hd : d < 3) (hk : k < 5) : (th d k = 0 ∧ findE (txV L bs) (dirD d) (nameO k) = none) ∨ (0 < th d k ∧ ∃ i, findE (txV L bs) (dirD d) (nameO k) = some (nmO d k (th d k), i) ∧ i < bs.length) := by
 cases hf : findE (txV L bs) (dirD d) (nameO k) with
 | none =>
   left
   refine ⟨?_, rfl⟩
   refine Classical.byContradiction fun hn => ?_
   obtain ⟨i, hi⟩ := h.has d k hd hk (by omega)
   exact findE_none hf _ hi ⟨rfl, rfl⟩
 | some p =>
   right
   obtain ⟨h1, h2, h3⟩ := findE_some hf
   obtain ⟨a, b, ha, hb, e, ht⟩ := h.mem p h1
   rw [e] at h2 h3
   have ea : a = d := dirD_inj h2
   have eb : b = k := nameO_inj hb hk h3
   subst ea eb
   obtain ⟨q, i⟩ := p
   dsimp only at e
   subst e
   have hi := (mem_ents.1 h1).1
   rw [txV_length] at hi
   exact ⟨ht, i, rfl, hi⟩
theorem SO.add (h : SO bs [] th) (hN : bs.length = 60) {d k g : Nat} (hd : d < 3) (hk : k < 5) (h0 : 1 ≤ g) (hg : g ≤ 40) {r : Int} (hr : AddR bs [] [] (nmO d k g) r L' T') :
 (0 < th d k ∧ r = 4 ∧ L' = [] ∧ T' = []) ∨ (th d k = 0 ∧ r = 0 ∧ SO bs L' (setO th d k g) ∧ ∃ a : Nat, a < 60 ∧ L' = [((a : Int), (putEntry (nmO d k g)).1)]) := by
 have hmay := nmO_may hd hk h0
 have hfd := h.find hd hk
 rcases hr with ⟨h1, _⟩ | ⟨_, ⟨p, hp⟩, rfl, rfl, rfl⟩ | ⟨_, hno, hc⟩
 · rw [hmay] at h1; cases h1
 · rcases hfd with ⟨_, h1⟩ | ⟨h1, _⟩
   · have hp' : findE (txV [] bs) (dirD d) (nameO k) = some p := hp
     rw [h1] at hp'; cases hp'
   · exact .inl ⟨h1, rfl, rfl, rfl⟩
 · have ht : th d k = 0 := by
    rcases hfd with ⟨h1, _⟩ | ⟨_, i, h1, _⟩
    · exact h1
    · have hp' : findE (txV [] bs) (dirD d) (nameO k) = none := hno
      rw [h1] at hp'; cases hp'
   rcases hc with ⟨hall, _⟩ | ⟨i, hi, hfree, hlow, rfl, rfl, rfl⟩
   · have hfw := h.few
     have hl60 : (txV [] bs).length = 60 := by rw [txV_length, hN]
     obtain ⟨j, hj, hnu⟩ := h.ok.room (T := []) (by simp only [List.length_nil]; omega)
     rw [txV_length] at hj
     exact absurd (hall j hj) hnu
   · have hi' : i < (txV [] bs).length := by rw [txV_length]; exact hi
     have hnone : ∀ q, (q, i) ∉ ents (txV [] bs) := fun q hq => hfree ((h.ok.use hi').2 (.inr (.inr ⟨q, hq⟩)))
     have hno' : findE (txV [] bs) (nmO d k g).dir (nmO d k g).name = none := hno
     have htk := take_putEntry hmay (nmO_wf hd hg)
     refine .inr ⟨ht, rfl, ⟨by rw [txV_up]; exact h.ok.add hmay (nmO_wf hd hg) hi' hnone hno', fun p hp => ?_, fun a b ha hb hab => ?_, setO_le h.le hg⟩, i, by omega, rfl⟩
     · obtain ⟨q, a⟩ := p
       rw [txV_up] at hp
       rcases (ents_mem_set hi').1 hp with ⟨_, h1⟩ | ⟨_, h1⟩
       · rw [htk] at h1
         obtain rfl := Option.some.inj h1
         exact ⟨d, k, hd, hk, by rw [setO_self], by rw [setO_self]; omega⟩
       · obtain ⟨x, y, hx, hy, e, hxy⟩ := h.mem _ h1
         have hne : ¬ (x = d ∧ y = k) := by rintro ⟨rfl, rfl⟩; omega
         exact ⟨x, y, hx, hy, by rw [setO_ne hne]; exact e, by rw [setO_ne hne]; exact hxy⟩
     · rw [txV_up]
       by_cases he : a = d ∧ b = k
       · obtain ⟨rfl, rfl⟩ := he
         rw [setO_self]
         exact ⟨i, (ents_mem_set hi').2 (.inl ⟨rfl, htk⟩)⟩
       · rw [setO_ne he] at hab ⊢
         obtain ⟨c, hc⟩ := h.has a b ha hb hab
         exact ⟨c, (ents_mem_set hi').2 (.inr ⟨fun e => hnone _ (e ▸ hc), hc⟩)⟩
theorem SO.out (h : SO bs [] th) {d k : Nat} (hd : d < 3) (hk : k < 5) {i : Nat} (hp : findE (txV [] bs) (dirD d) (nameO k) = some (nmO d k (th d k), i)) : SO bs (upB [] (i : Int) Blk.zero) (setO th d k 0) := by
 obtain ⟨h1, _, _⟩ := findE_some hp
 have ha := (mem_ents.1 h1).1
 refine ⟨by rw [txV_up]; exact h.ok.out ha, fun p hp2 => ?_, fun a b hda hkb hab => ?_, setO_le h.le (Nat.zero_le _)⟩
 · obtain ⟨q, b⟩ := p
   rw [txV_up] at hp2
   rcases (ents_mem_set ha).1 hp2 with ⟨_, h4⟩ | ⟨hne, h4⟩
   · rw [take_zero] at h4; cases h4
   · obtain ⟨x, y, hx, hy, e, hxy⟩ := h.mem _ h4
     have hn : ¬ (x = d ∧ y = k) := by
      rintro ⟨rfl, rfl⟩
      have := h.ok.once _ h4 _ h1 (by rw [e]) (by rw [e])
      exact absurd (congrArg Prod.snd this) hne
     exact ⟨x, y, hx, hy, by rw [setO_ne hn]; exact e, by rw [setO_ne hn]; exact hxy⟩
 · rw [txV_up]
   by_cases he : a = d ∧ b = k
   · rw [show setO th d k 0 a b = 0 by obtain ⟨rfl, rfl⟩ := he; exact setO_self _ _ _ _] at hab
     omega
   · rw [setO_ne he] at hab ⊢
     obtain ⟨c, hc⟩ := h.has a b hda hkb hab
     refine ⟨c, (ents_mem_set ha).2 (.inr ⟨fun e => ?_, hc⟩)⟩
     subst e
     have h5 := (mem_ents.1 hc).2
     have h6 := (mem_ents.1 h1).2
     rw [h5] at h6
     have h7 := Option.some.inj h6
     exact he ⟨dirD_inj (congrArg Nm.dir h7), nameO_inj hkb hk (congrArg Nm.name h7)⟩
/-- How many of a folder there are. -/
def cntO (th : Nat → Nat → Nat) (d i : Nat) : Nat := ((List.range i).filter fun k => decide (0 < th d k)).length
theorem cntO_succ (th : Nat → Nat → Nat) (d i : Nat) : cntO th d (i + 1) = cntO th d i + (if 0 < th d i then 1 else 0) := by
 unfold cntO
 rw [List.range_succ, List.filter_append, List.length_append]
 by_cases h : 0 < th d i <;> simp [h]
theorem cntO_le (th : Nat → Nat → Nat) (d i : Nat) : cntO th d i ≤ i := by
 unfold cntO
 exact Nat.le_trans (List.length_filter_le _ _) (by simp)
theorem SO.count (h : SO bs L th) {d : Nat} (hd : d < 3) : (keptD (dirD d) ((ents (txV L bs)).map (·.1))).length = cntO th d 5 := by
 have hnd : (keptD (dirD d) ((ents (txV L bs)).map (·.1))).Nodup := h.names_nodup.filter _
 have hnd2 : (((List.range 5).filter fun k => decide (0 < th d k)).map fun k => nmO d k (th d k)).Nodup := by
  rw [List.nodup_iff_pairwise_ne, List.pairwise_map]
  refine List.Pairwise.imp_of_mem ?_ (List.Pairwise.filter _ List.pairwise_lt_range)
  intro i j hi hj hlt e
  have := nameO_inj (List.mem_range.1 (List.mem_filter.1 hi).1) (List.mem_range.1 (List.mem_filter.1 hj).1) (congrArg Nm.name e)
  omega
 have hperm := (List.perm_ext_iff_of_nodup hnd hnd2).2 fun x => by
  constructor
  · intro hx
    unfold keptD at hx
    obtain ⟨hx, he⟩ := List.mem_filter.1 hx
    obtain ⟨p, hp, rfl⟩ := List.mem_map.1 hx
    obtain ⟨a, k, ha, hk, e, ht⟩ := h.mem p hp
    have hda : a = d := by
     have := of_decide_eq_true he
     rw [e] at this
     exact dirD_inj this
    subst hda
    exact List.mem_map.2 ⟨k, List.mem_filter.2 ⟨List.mem_range.2 hk, by simpa using ht⟩, e.symm⟩
  · intro hx
    obtain ⟨k, hk, rfl⟩ := List.mem_map.1 hx
    obtain ⟨h1, h2⟩ := List.mem_filter.1 hk
    obtain ⟨i, hi⟩ := h.has d k hd (List.mem_range.1 h1) (by simpa using h2)
    exact List.mem_filter.2 ⟨List.mem_map.2 ⟨_, hi, rfl⟩, by simp [nmO]⟩
 rw [hperm.length_eq, List.length_map]
 rfl
theorem SO.start {n : Nat} (h0 : 0 < n) : SO (newBlks n) [] (fun _ _ => 0) := by
 have h := SL.start h0
 have e : txV [] (newBlks n) = newBlks n := txV_nil _
 refine ⟨h.ok, fun p hp => ?_, fun _ _ _ _ ht => absurd ht (by omega), fun _ _ => Nat.zero_le _⟩
 rw [e, newBlks_ents n h0] at hp; simp at hp
end
/-- One block at most is made sure. -/
theorem commitOk_one {s : Sh} {a : Nat} {b : Blk} (ha : a < s.blocks) (h2 : s.blocks ≤ 200) (hb : 0 ≤ b.kind ∧ b.kind ≤ 7) : commitOk s [((a : Int), b)] = true := by
 have hw : writesOf [((a : Int), b)] = [⟨a, b⟩] := by
  unfold writesOf sortedKeys plM keysL
  simp only [List.map_cons, List.map_nil, List.mergeSort_singleton]
  rw [lkB_cons, if_pos rfl]; rfl
 unfold commitOk changeOk
 rw [hw]
 have h1 : mayRec [⟨(a : Int), b⟩] = true := by
  unfold mayRec
  have : wrsOk [⟨(a : Int), b⟩] = true := wrsOk_iff.2 fun i x hx => by
   cases i with
   | zero =>
     simp only [List.getElem?_cons_zero, Option.some.injEq] at hx
     subst hx
     exact ⟨wrOk_iff.2 ⟨hb.1, hb.2, by show (0 : Int) ≤ (a : Int); omega, by show (a : Int) < 200; omega⟩, by simp [freshWr]⟩
   | succ i => simp at hx
  rw [this]; rfl
 have h3 : pastEnd s.blocks ⟨(a : Int), b⟩ = false := by unfold pastEnd; simp; omega
 rw [h1]
 simp [h3]
end Go.Proofs.YtbbnejehglonjaaGreat

/- DERIVED. Contracts of slices.DeleteFunc over names of one folder, of shard's List where all names are of the folder. -/
namespace Go.Proofs.YtbbnejehglonjaaGreat
open Go.RowKit
attribute [local irreducible] Calls
set_option maxRecDepth 100000

theorem deleteA_any {w : World} {S : Nat → Prop} {l : List Nm} {a : Option Addr} {cap : Nat} {J : Nat} {i : Id} (h : NmRow w S (.slice a l.length cap) l) (hJ : objAt w J = some (.cells i.cells 66 (0, 0))) (hl : l.length ≤ 1000) (hall : ∀ x ∈ l, x.dir = i) :
 Calls Tryz.prog 100 #[.slice a l.length cap, .func (.func 101) #[] #[.pointer (some ⟨J, 0, none⟩)]] w fun e w' => e = .returned (.slice a l.length cap) ∧ Below w.heap.size w w' := by
 have HI := Lib.hid (indexNm_any h hJ hl)
 have HA := Lib.hid hall
 clear h hJ hall
 go_enter Tryz.func100, Tryz.ntmps100
 go_wp2_with (go_at_call 157; refine HI.out.mono ?_; rintro e w1 ⟨hor, b1⟩; obtain rfl : e = .returned (.int .i64 (-1)) := (by rcases hor with ⟨h, _⟩ | ⟨k, _, hk, _, x, hx, hne⟩; exact h; exact absurd (HA.out x (List.mem_of_getElem? hx)) hne); clear hor)
 go_ret
 exact ⟨rfl, b1⟩
section
variable {w : World} {t v mp mt : Nat} {L : PL} {T : ML}
variable {Sd : Nat → Prop} {d reg : Nat} {s : Sh} {epoch seq : Nat} {used : Int} {gb cap m : Nat} {bs : List Blk} {Dm : ML} {D : Dv} {c : Nat}
set_option maxHeartbeats 4000000 in
theorem shListA_any (h : TxAt w t v mp mt L T bs.length) (hv : VolP w Sd v d reg s epoch seq used gb cap m bs Dm D c) (i : Id) (hall : ∀ p ∈ ents (txV L bs), p.1.dir = i) (hlt : (ents (txV L bs)).length < 20) :
 Calls Tryz.prog 47 #[.pointer (some ⟨t, 0, none⟩), .agg i.cells] w fun e w' => ∃ u l', e = .returned u ∧ l'.Perm ((ents (txV L bs)).map (·.1)) ∧ inOrder l' ∧ NmRow w' (fun q => w.heap.size ≤ q) u l' ∧ Below w.heap.size w w' := by
 obtain ⟨w0, hw0⟩ : ∃ w0, w0 = w.alloc (.cells i.cells 66) := ⟨_, rfl⟩
 obtain ⟨G, hG⟩ : ∃ G, G = w.heap.size := ⟨_, rfl⟩
 have hB0 : Below w.heap.size w w0 := below_alloc hw0
 have hO : objAt w0 G = some (.cells i.cells 66 (0, 0)) := by rw [hG]; exact obj_alloc hw0
 have HN := Lib.hid (shNames_any (h.below hB0) (hv.below hB0))
 obtain ⟨es, hes⟩ : ∃ es, es = ents (txV L bs) := ⟨_, rfl⟩
 rw [← hes] at HN hall hlt ⊢
 have H0 := Lib.hid (And.intro hB0 (And.intro hO (And.intro hall hlt)))
 clear h hv hB0 hO hall hlt hes
 obtain ⟨l, a, g⟩ := i
 rw [show (⟨l, a, g⟩ : Id).cells = #[.int .i64 l, .int .i64 a, .int .u32 g] from rfl] at hw0 ⊢
 go_enter Tryz.func47, Tryz.ntmps47
 go_upto_region 1 with fail
 rw [← hw0, ← hG]
 clear hw0 hG
 go_upto_region 2 with (go_at_call 99; refine HN.out.mono ?_; rintro e w1 ⟨V, U, rfl, hV, hU, b1⟩)
 obtain ⟨av, cv, rfl, _⟩ := hV.slice
 have HD := Lib.hid (deleteA_any hV (grow_obj b1 H0.out.2.1) (by rw [List.length_map]; have := H0.out.2.2.2; omega) (fun x hx => by obtain ⟨p, hp, rfl⟩ := List.mem_map.1 hx; exact H0.out.2.2.1 p hp))
 have HV := Lib.hid (And.intro hV b1)
 rw [List.length_map] at HD
 rw [List.length_map]
 clear hV hU b1
 go_upto_region 3 with (go_at_call 100; refine HD.out.mono ?_; rintro e w2 ⟨rfl, b2⟩)
 have hV2 := HV.out.1.grow b2 (fun _ _ h => h)
 have HS := Lib.hid (sortStable_any hV2 (by rw [List.length_map]; exact H0.out.2.2.2))
 rw [List.length_map] at HS
 have H2 := Lib.hid b2
 clear hV2 b2
 go_wp2_with (go_at_call 102; refine HS.out.mono ?_; rintro e w3 ⟨rfl, l', hin, hso⟩; have H3 := Lib.hid (And.intro hin hso); clear hin hso)
 go_ret
 have hb2 := grow_trans H0.out.1 (grow_trans HV.out.2 H2.out)
 refine ⟨_, l', rfl, H3.out.2.perm, H3.out.1, RowG.mono H3.out.2.row (fun q hq => Nat.le_trans H0.out.1.size hq), hb2.trans (H3.out.2.keeps.below hb2.size (fun q e => ?_))⟩
 have hh := HV.out.1.own q (by rw [List.length_map]; exact e)
 exact Nat.le_trans H0.out.1.size hh
end
end Go.Proofs.YtbbnejehglonjaaGreat

/- DERIVED. Contract of slices.DeleteFunc over names: those of a folder stay; shard's List, whatever is in the store. -/
namespace Go.Proofs.YtbbnejehglonjaaGreat
open Go.RowKit
attribute [local irreducible] Calls
set_option maxRecDepth 100000

set_option maxHeartbeats 8000000 in
theorem deleteB_any {w : World} {S : Nat → Prop} {l : List Nm} {g : Nat} {cap : Nat} {J : Nat} {i : Id} (h : NmRow w S (.slice (some ⟨g, 0, none⟩) l.length cap) l) (hJ : objAt w J = some (.cells i.cells 66 (0, 0))) (hl : l.length ≤ 1000) (hall : ¬ ∀ x ∈ l, x.dir = i) :
 Calls Tryz.prog 100 #[.slice (some ⟨g, 0, none⟩) l.length cap, .func (.func 101) #[] #[.pointer (some ⟨J, 0, none⟩)]] w fun e w' => e = .returned (.slice (some ⟨g, 0, none⟩) (keptD i l).length cap) ∧ NmRow w' S (.slice (some ⟨g, 0, none⟩) (keptD i l).length cap) (keptD i l) ∧ Keeps (fun q => q = g) w w' := by
 have hI0 : Calls Tryz.prog 157 #[.slice (some ⟨g, 0, none⟩) l.length cap, .func (.func 101) #[] #[.pointer (some ⟨J, 0, none⟩)]] w fun e w' => ∃ k : Nat, e = .returned (.int .i64 k) ∧ k < l.length ∧ DelAt i l l k (k + 1) ∧ Below w.heap.size w w' := by
  refine (indexNm_any h hJ hl).mono ?_
  rintro e w' ⟨⟨_, hh⟩ | ⟨k, rfl, hk, hno, x, hx, hne⟩, hb⟩
  · exact absurd hh hall
  · exact ⟨k, rfl, hk, DelAt.start hk hno hx hne, hb⟩
 have HI := Lib.hid hI0
 clear hI0
 have hJg : J ≠ g := by
  rintro rfl
  obtain ⟨c, hc, _⟩ := RowG.objF h
  rw [hJ] at hc
  simp only [Option.some.injEq, Obj.cells.injEq] at hc
  exact absurd hc.2.1 (by decide)
 have H := Lib.hid (And.intro h (And.intro hJ hJg))
 clear h hJ hJg hall
 go_enter Tryz.func100, Tryz.ntmps100
 go_upto_region 4 with (go_at_call 157; refine HI.out.mono ?_; rintro e w1 ⟨k, rfl, hk, hdel, b1⟩; have hkne : ¬ ((k : Int) = -1) := (by omega); have hk1000 : (k : Int) < 1000 := (by omega))
 have H1 := Lib.hid (And.intro hdel (And.intro (H.out.1.grow b1 (fun _ _ h => h)) (And.intro (grow_obj b1 H.out.2.1) (Keeps.of_below (S := fun q => q = g) b1))))
 clear hdel b1
 rw [show ((k : Int) == -1) = false from beq_false_of_ne hkne]
 go_wp2_with fail
 go_loopw [5, 6] (fun qi qj wr => ∃ (m j : Nat) (cur : List Nm), qi = .int .i64 m ∧ qj = .int .i64 j ∧ m < j ∧ DelAt i l cur m j ∧ NmRow wr S (.slice (some ⟨g, 0, none⟩) l.length cap) cur ∧ objAt wr J = some (.cells i.cells 66 (0, 0)) ∧ Keeps (fun q => q = g) w wr) (fun _ qj _ => l.length - (Go.RowKit.intOf qj).toNat)
 case atStart => exact ⟨k, k + 1, l, rfl, by go_num, by omega, H1.out.1, H1.out.2.1, H1.out.2.2.1, H1.out.2.2.2⟩
 case round =>
  obtain ⟨m, j, cur, rfl, rfl, hmj, hd, hrow, hJ, hkp⟩ := hrel
  by_cases hlt : j < l.length
  · obtain ⟨x, hx⟩ : ∃ x, l[j]? = some x := ⟨_, List.getElem?_eq_getElem hlt⟩
    have hcx : cur[j]? = some x := by rw [hd.hi j (Nat.le_refl _)]; exact hx
    obtain ⟨x0, x1, x2, x3, x4, x5⟩ := NmRow.at_ hrow hcx
    have hlti : (j : Int) < (l.length : Int) := by omega
    have hj1000 : (j : Int) < 1000 := by omega
    have hm1000 : (m : Int) < 1000 := by omega
    obtain ⟨w2, hw2⟩ : ∃ w2, w2 = wr.alloc (.cells #[.int .i64 x.dir.label, .int .i64 x.dir.at_, .int .u32 x.dir.gen, .string x.name, .int .i64 x.at_, .int .u32 x.gen] 100) := ⟨_, rfl⟩
    obtain ⟨G, hG⟩ : ∃ G, G = wr.heap.size := ⟨_, rfl⟩
    have b2 : Below wr.heap.size wr w2 := below_alloc hw2
    have hO : objAt w2 G = some (.cells #[.int .i64 x.dir.label, .int .i64 x.dir.at_, .int .u32 x.dir.gen, .string x.name, .int .i64 x.at_, .int .u32 x.gen] 100 (0, 0)) := by rw [hG]; exact obj_alloc hw2
    have hrow2 := hrow.grow b2 (fun _ _ h => h)
    have hJ2 := grow_obj b2 hJ
    have hkp2 := hkp.trans (Keeps.of_below (S := fun q => q = g) b2)
    have y0 : w2.cell? ⟨G, 0, none⟩ = some (.int .i64 x.dir.label) := cell_obj hO 0
    have y1 : w2.cell? ⟨G, 1, none⟩ = some (.int .i64 x.dir.at_) := cell_obj hO 1
    have y2 : w2.cell? ⟨G, 2, none⟩ = some (.int .u32 x.dir.gen) := cell_obj hO 2
    have y3 : w2.cell? ⟨G, 3, none⟩ = some (.string x.name) := cell_obj hO 3
    have y4 : w2.cell? ⟨G, 4, none⟩ = some (.int .i64 x.at_) := cell_obj hO 4
    have y5 : w2.cell? ⟨G, 5, none⟩ = some (.int .u32 x.gen) := cell_obj hO 5
    have Hc := Lib.hid (list1_any x w2 hJ2)
    have HX := Lib.hid (And.intro hd (And.intro hrow2 (And.intro hJ2 (And.intro hkp2 (And.intro hx (And.intro hO hcx))))))
    clear hd hrow hJ hkp hx hcx b2 hO hrow2 hJ2 hkp2
    by_cases hp : x.dir = i
    · rw [decide_eq_true hp] at Hc
      have Hp := Lib.hid hp
      clear hp
      go_upto_region 8 with fail
      rw [← hw2, ← hG]
      clear hw2 hG x0 x1 x2 x3 x4 x5
      go_upto_region 9 with (go_at_call 101; refine Hc.out.mono ?_; rintro e w3 ⟨rfl, b3⟩)
      have hO3 := grow_obj b3 HX.out.2.2.2.2.2.1
      have z0 : w3.cell? ⟨G, 0, none⟩ = some (.int .i64 x.dir.label) := cell_obj hO3 0
      have z1 : w3.cell? ⟨G, 1, none⟩ = some (.int .i64 x.dir.at_) := cell_obj hO3 1
      have z2 : w3.cell? ⟨G, 2, none⟩ = some (.int .u32 x.dir.gen) := cell_obj hO3 2
      have z3 : w3.cell? ⟨G, 3, none⟩ = some (.string x.name) := cell_obj hO3 3
      have z4 : w3.cell? ⟨G, 4, none⟩ = some (.int .i64 x.at_) := cell_obj hO3 4
      have z5 : w3.cell? ⟨G, 5, none⟩ = some (.int .u32 x.gen) := cell_obj hO3 5
      have hrow3 := HX.out.2.1.grow b3 (fun _ _ h => h)
      obtain ⟨cc, hcc, hcs⟩ := RowG.objF hrow3
      have H3 := Lib.hid (And.intro hrow3 (And.intro hcc (And.intro (grow_obj b3 HX.out.2.2.1) (HX.out.2.2.2.1.trans (Keeps.of_below (S := fun q => q = g) b3)))))
      have hcl : cur.length = l.length := HX.out.1.len
      have hml : (m : Int) < (l.length : Int) := by omega
      clear y0 y1 y2 y3 y4 y5 hO3 hrow3 hcc b3
      have hOnce : True := trivial
      go_upto_region 10 with (clear hOnce; refine list_storeOff aggNmE rfl (.tmp 33) (.tmp 32) rfl rfl rfl H3.out.2.1 rfl (by omega) (Nm.one_cells x) ?_; intro w4 hw4)
      have r4 : NmRow w4 S (.slice (some ⟨g, 0, none⟩) l.length cap) (cur.set m x) := RowG.putK H3.out.1 (by omega) H3.out.2.1 rfl (c := x.cells) hw4 rfl (fun _ _ h => h)
      have k4 : Keeps (fun q => q = g) w3 w4 := by rw [hw4]; exact setRow_keeps' _ _ _
      have j4 : objAt w4 J = some (.cells i.cells 66 (0, 0)) := (k4.block J (block_lt H3.out.2.2.1) H.out.2.2).trans H3.out.2.2.1
      have H4 := Lib.hid (And.intro (HX.out.1.keep HX.out.2.2.2.2.1 Hp.out) (And.intro r4 (And.intro j4 (H3.out.2.2.2.trans k4))))
      clear hw4 r4 k4 j4 hcs z0 z1 z2 z3 z4 z5
      go_wp2_with fail
      go_roundw
      case rel => exact ⟨m + 1, j + 1, cur.set m x, by go_num, by go_num, by omega, H4.out.1, H4.out.2.1, H4.out.2.2.1, H4.out.2.2.2⟩
      case measure => simp [Go.RowKit.intOf]; omega
    · rw [decide_eq_false hp] at Hc
      have Hp := Lib.hid hp
      clear hp
      go_upto_region 8 with fail
      rw [← hw2, ← hG]
      clear hw2 hG x0 x1 x2 x3 x4 x5
      go_upto_region 6 with (go_at_call 101; refine Hc.out.mono ?_; rintro e w3 ⟨rfl, b3⟩)
      have H4 := Lib.hid (And.intro (HX.out.1.drop HX.out.2.2.2.2.1 Hp.out) (And.intro (HX.out.2.1.grow b3 (fun _ _ h => h)) (And.intro (grow_obj b3 HX.out.2.2.1) (HX.out.2.2.2.1.trans (Keeps.of_below (S := fun q => q = g) b3)))))
      clear b3 y0 y1 y2 y3 y4 y5
      go_wp2_with fail
      go_roundw
      case rel => exact ⟨m, j + 1, cur, by go_num, by go_num, by omega, H4.out.1, H4.out.2.1, H4.out.2.2.1, H4.out.2.2.2⟩
      case measure => simp [Go.RowKit.intOf]; omega
  · obtain rfl : j = l.length := by have := hd.jle; omega
    have hlti : ¬ ((l.length : Int) < (l.length : Int)) := by omega
    obtain ⟨cc, hcc, hcs⟩ := RowG.objF hrow
    have hcl : cur.length = l.length := hd.len
    have hm0 : (0 : Int) ≤ (m : Int) := by omega
    have hml : (m : Int) ≤ (l.length : Int) := by omega
    have hcap : l.length ≤ cap := by rw [← hcl]; exact hrow.capLe
    have hml' : (m : Int) ≤ (cap : Int) := by omega
    have hlc : (l.length : Int) ≤ (cap : Int) := by omega
    have hl1000 : (l.length : Int) ≤ 1000 := by omega
    have HX := Lib.hid (And.intro hd (And.intro hrow (And.intro hJ (And.intro hkp (And.intro hcc hcs)))))
    clear hd hrow hJ hkp hcc hcap
    have hOnce : True := trivial
    go_upto_region 12 with (clear hOnce; refine list_clearK elemNameK zeroName_one rfl (.tmp 38) rfl rfl (by omega) HX.out.2.2.2.2.1 (by omega) ?_; intro Z hZ)
    obtain ⟨w4, hw4⟩ : ∃ w4, w4 = wr.setRow g (cc.toList.take (m * 6) ++ Z ++ cc.toList.drop (m * 6 + (l.length - m) * 6)).toArray := ⟨_, rfl⟩
    rw [← hw4]
    have hsz : (cc.toList.take (m * 6) ++ Z ++ cc.toList.drop (m * 6 + (l.length - m) * 6)).toArray.size = cc.size := by
     simp only [List.size_toArray, List.length_append, List.length_take, List.length_drop, Array.length_toList, hZ]; omega
    have o4 : objAt w4 g = some (.cells (cc.toList.take (m * 6) ++ Z ++ cc.toList.drop (m * 6 + (l.length - m) * 6)).toArray 100 (0, 0)) := by rw [hw4]; exact objAt_setRow HX.out.2.2.2.2.1 _
    have hpre : (cc.toList.take (m * 6) ++ Z ++ cc.toList.drop (m * 6 + (l.length - m) * 6)).toArray.toList.take (m * 6) = cc.toList.take (m * 6) := by
     have hlt : (cc.toList.take (m * 6)).length = m * 6 := by rw [List.length_take, Array.length_toList]; omega
     rw [List.append_assoc, List.take_append_of_le_length (by omega), List.take_of_length_le (by omega)]
    have r4 : NmRow w4 S (.slice (some ⟨g, 0, none⟩) m cap) (cur.take m) := RowG.takeK HX.out.2.1 (by omega) HX.out.2.2.2.2.1 hsz hpre o4 (fun _ _ h => h)
    have k4 : Keeps (fun q => q = g) wr w4 := by rw [hw4]; exact setRow_keeps' _ _ _
    rw [HX.out.1.end_] at r4
    have hmk : m = (keptD i l).length := by rw [← HX.out.1.end_, List.length_take]; omega
    have H4 := Lib.hid (And.intro r4 (HX.out.2.2.2.1.trans k4))
    have HM := Lib.hid hmk
    clear hw4 hsz o4 hpre r4 k4 hmk
    go_wp2_with fail
    go_ret
    rw [← HM.out]
    exact ⟨rfl, H4.out.1, H4.out.2⟩
/-- Those of a folder stay, in the order in which they are. -/
theorem delete_any {w : World} {S : Nat → Prop} {l : List Nm} {a : Option Addr} {cap : Nat} {J : Nat} {i : Id} (h : NmRow w S (.slice a l.length cap) l) (hJ : objAt w J = some (.cells i.cells 66 (0, 0))) (hl : l.length ≤ 1000) :
 Calls Tryz.prog 100 #[.slice a l.length cap, .func (.func 101) #[] #[.pointer (some ⟨J, 0, none⟩)]] w fun e w' => e = .returned (.slice a (keptD i l).length cap) ∧ NmRow w' S (.slice a (keptD i l).length cap) (keptD i l) ∧ Keeps (fun q => (Value.slice a l.length cap).ownBlock = some q) w w' := by
 by_cases hall : ∀ x ∈ l, x.dir = i
 · refine (deleteA_any h hJ hl hall).mono ?_
   rintro e w' ⟨rfl, hb⟩
   rw [keptD_all hall]
   exact ⟨rfl, h.grow hb (fun _ _ h => h), Keeps.of_below hb⟩
 · have h0 : 0 < l.length := by
    cases l with
    | nil => exact absurd (fun x hx => by simp at hx) hall
    | cons x l => simp
   obtain ⟨g, cap', hf⟩ := h.form h0
   simp only [Value.slice.injEq] at hf
   obtain ⟨rfl, _, rfl⟩ := hf
   refine (deleteB_any h hJ hl hall).mono ?_
   rintro e w' ⟨rfl, hr, hk⟩
   exact ⟨rfl, hr, hk.mono fun _ _ e => by rw [e]; rfl⟩
section
variable {w : World} {t v mp mt : Nat} {L : PL} {T : ML}
variable {Sd : Nat → Prop} {d reg : Nat} {s : Sh} {epoch seq : Nat} {used : Int} {gb cap m : Nat} {bs : List Blk} {Dm : ML} {D : Dv} {c : Nat}
set_option maxHeartbeats 4000000 in
theorem shList_any (h : TxAt w t v mp mt L T bs.length) (hv : VolP w Sd v d reg s epoch seq used gb cap m bs Dm D c) (i : Id) (hlt : (keptD i ((ents (txV L bs)).map (·.1))).length < 20) (hle : (ents (txV L bs)).length ≤ 1000) :
 Calls Tryz.prog 47 #[.pointer (some ⟨t, 0, none⟩), .agg i.cells] w fun e w' => ∃ u l', e = .returned u ∧ l'.Perm (keptD i ((ents (txV L bs)).map (·.1))) ∧ inOrder l' ∧ NmRow w' (fun q => w.heap.size ≤ q) u l' ∧ Below w.heap.size w w' := by
 obtain ⟨w0, hw0⟩ : ∃ w0, w0 = w.alloc (.cells i.cells 66) := ⟨_, rfl⟩
 obtain ⟨G, hG⟩ : ∃ G, G = w.heap.size := ⟨_, rfl⟩
 have hB0 : Below w.heap.size w w0 := below_alloc hw0
 have hO : objAt w0 G = some (.cells i.cells 66 (0, 0)) := by rw [hG]; exact obj_alloc hw0
 have HN := Lib.hid (shNames_any (h.below hB0) (hv.below hB0))
 obtain ⟨es, hes⟩ : ∃ es, es = (ents (txV L bs)).map (·.1) := ⟨_, rfl⟩
 have hel : (ents (txV L bs)).length = es.length := by rw [hes, List.length_map]
 rw [← hes] at HN
 rw [← hes] at hlt ⊢
 rw [hel] at hle
 have H0 := Lib.hid (And.intro hB0 (And.intro hO (And.intro hlt hle)))
 clear h hv hB0 hO hlt hle hes hel
 obtain ⟨l, a, g⟩ := i
 rw [show (⟨l, a, g⟩ : Id).cells = #[.int .i64 l, .int .i64 a, .int .u32 g] from rfl] at hw0 ⊢
 go_enter Tryz.func47, Tryz.ntmps47
 go_upto_region 1 with fail
 rw [← hw0, ← hG]
 clear hw0 hG
 go_upto_region 2 with (go_at_call 99; refine HN.out.mono ?_; rintro e w1 ⟨V, U, rfl, hV, hU, b1⟩)
 obtain ⟨av, cv, rfl, _⟩ := hV.slice
 have HD := Lib.hid (delete_any hV (grow_obj b1 H0.out.2.1) H0.out.2.2.2)
 have HV := Lib.hid (And.intro hV b1)
 clear hV hU b1
 go_upto_region 3 with (go_at_call 100; refine HD.out.mono ?_; rintro e w2 ⟨rfl, r2, k2⟩)
 have HS := Lib.hid (sortStable_any r2 H0.out.2.2.1)
 have H2 := Lib.hid (And.intro r2 k2)
 clear r2 k2
 go_wp2_with (go_at_call 102; refine HS.out.mono ?_; rintro e w3 ⟨rfl, l', hin, hso⟩; have H3 := Lib.hid (And.intro hin hso); clear hin hso)
 go_ret
 have hb2 := grow_trans H0.out.1 HV.out.2
 refine ⟨_, l', rfl, H3.out.2.perm, H3.out.1, RowG.mono H3.out.2.row (fun q hq => Nat.le_trans H0.out.1.size hq), ?_⟩
 have hk3 : Keeps (fun q => w.heap.size ≤ q) w w3 := ((Keeps.of_below hb2).trans (H2.out.2.mono fun q _ e => Nat.le_trans H0.out.1.size (HV.out.1.own q e))).trans (H3.out.2.keeps.mono fun q _ e => Nat.le_trans H0.out.1.size (H2.out.1.own q e))
 exact (Below.refl _ _).trans (hk3.below (Nat.le_refl _) (fun q e => e))
end
end Go.Proofs.YtbbnejehglonjaaGreat

/- DERIVED. Contract of clathrilaw15.Filled of a new store's blocks. -/
namespace Go.Proofs.YtbbnejehglonjaaGreat
open Go.RowKit
attribute [local irreducible] Calls
set_option maxRecDepth 100000

theorem frBlks_eq {n : Nat} (h : 0 < n) : frBlks n = newBlks n := frBlks_eq' h
/-- What Filled leaves. -/
structure FillAt (w w' : World) (d v : Nat) (Sd : Nat → Prop) (s : Sh) (gb cap m : Nat) (st : VSt) (c : Nat) : Prop where
 vol : VolS w' Sd v d 0 s gb cap m st c
 sd : ∀ q, Sd q → w.heap.size ≤ q
 hv : w.heap.size ≤ v
 hg : w.heap.size ≤ gb
 hm : w.heap.size ≤ m
 below : Below w.heap.size w w'
set_option maxHeartbeats 8000000 in
theorem Filled_new {w : World} {n g cap0 : Nat} (h0 : 4 ≤ n) (h1 : n ≤ 200) (hk : KRow w 0 (.slice (some ⟨g, 0, none⟩) n cap0) (newBlks n)) :
 Calls Tryz.prog 18 #[.slice (some ⟨g, 0, none⟩) n cap0] w fun e w' => ∃ d v, e = .returned (.tuple #[.pointer (some ⟨d, 0, none⟩), .pointer (some ⟨v, 0, none⟩), .bool true]) ∧ ∃ Sd gb cap m st c, FillAt w w' d v Sd (shN n) gb cap m st c ∧ st.bs = newBlks n ∧ c ≤ 1000 := by
 have hok := shN_ok (n := n) (by omega) h1
 obtain ⟨R, hR, hRl, hR2, hRb, hRh⟩ := make_seen (n := n) (by omega) h1
 obtain ⟨w0, hw0⟩ : ∃ w0, w0 = w.alloc (.cells #[.int .i64 0, .int .i64 0, .int .i64 (n : Int), .int .i64 40, .int .i64 4] 124) := ⟨_, rfl⟩
 obtain ⟨G, hG⟩ : ∃ G, G = w.heap.size := ⟨_, rfl⟩
 have hB0 : Below w.heap.size w w0 := below_alloc hw0
 have hO : objAt w0 G = some (.cells #[.int .i64 0, .int .i64 0, .int .i64 (n : Int), .int .i64 40, .int .i64 4] 124 (0, 0)) := by rw [hG]; exact obj_alloc hw0
 have HZ := Lib.hid (fun w => Size_any (shN n) hok w)
 have hsc : (shN n).cells = #[.int .i64 0, .int .i64 0, .int .i64 (n : Int), .int .i64 40, .int .i64 4] := rfl
 rw [hsc, shN_size] at HZ
 have H0 := Lib.hid (And.intro hk (And.intro hB0 (And.intro hO (And.intro hok hsc))))
 have HR := Lib.hid (And.intro hR (And.intro hRl (And.intro hR2 (And.intro hRb hRh))))
 have c0 : w0.cell? ⟨G, 0, none⟩ = some (.int .i64 0) := cell_obj hO 0
 have c1 : w0.cell? ⟨G, 1, none⟩ = some (.int .i64 0) := cell_obj hO 1
 have c2 : w0.cell? ⟨G, 2, none⟩ = some (.int .i64 (n : Int)) := cell_obj hO 2
 have c3 : w0.cell? ⟨G, 3, none⟩ = some (.int .i64 40) := cell_obj hO 3
 have c4 : w0.cell? ⟨G, 4, none⟩ = some (.int .i64 4) := cell_obj hO 4
 clear hk hB0 hO hok hR hRl hR2 hRb hRh hsc
 go_enter Tryz.func18, Tryz.ntmps18
 go_upto_region 2 with fail
 rw [← hw0, ← hG]
 clear hw0 hG
 go_upto_region 3 with (first
  | (go_at_call 54; refine (HZ.out _).mono ?_; rintro e w1 ⟨rfl, b1⟩)
  | (go_at_call 53; refine (DevNew_any (some ⟨w1.heap.size, 0, none⟩) [((42 + n : Nat) : Int)] 1 _ ⟨w1.heap.size, 0, fun _ => rfl, fun i hi => by obtain rfl : i = 0 := (by simp only [List.length_singleton] at hi; omega); simp⟩ (by simp) (by simp) (fun x hx => by simp only [List.mem_singleton] at hx; omega)).mono ?_; rintro e w2 ⟨d, rfl, hd, b2⟩))
 have hd2 : DevAt w2 (fun q => w0.heap.size ≤ q ∧ q < w2.heap.size) d (dvN n) 0 := (show DevAt w2 _ d (dvN n) 0 from hd).mono (fun q hq => ⟨by have h1 := hq.1; have h2 := b1.size; simp only [size_alloc] at h1; omega, hq.2⟩) (fun q hq => hq.2) (Nat.le_refl _)
 have hB2 : Below w0.heap.size w0 w2 := grow_trans (grow_alloc b1 _) b2
 have HM := Lib.hid (Make_any (reg := 0) hd2 ⟨Reg.new (42 + n), rfl, by simp [Reg.new, shN_size]⟩ H0.out.2.2.2.1 (by decide))
 rw [H0.out.2.2.2.2] at HM
 have e0 := grow_cell hB2 c0
 have e1 := grow_cell hB2 c1
 have e2 := grow_cell hB2 c2
 have e3 := grow_cell hB2 c3
 have e4 := grow_cell hB2 c4
 have H2 := Lib.hid (And.intro hd2 hB2)
 clear hd hd2 hB2 b1 b2 c0 c1 c2 c3 c4
 go_upto_region 5 with (go_at_call 55; refine HM.out.mono ?_; rintro e w3 ⟨rfl, h3⟩)
 have hG : G < w0.heap.size := block_lt H0.out.2.2.1
 have hO3 : objAt w3 G = some (.cells #[.int .i64 0, .int .i64 0, .int .i64 (n : Int), .int .i64 40, .int .i64 4] 124 (0, 0)) := h3.obj (grow_obj H2.out.2 H0.out.2.2.1) (fun e => by have := e.1; omega)
 have HT := Lib.hid (Mount_new (reg := 0) (hb := frBlks n) H0.out.2.2.2.1 h3.dev (by show 0 + n + 3 < 600000; omega) (R := R) (by rw [HR.out.1]; rfl) HR.out.2.1 (by show 0 < 40; decide) HR.out.2.2.1 zeros_ten HR.out.2.2.2.1 (by decide) (by rw [frBlks_length]; rfl) HR.out.2.2.2.2)
 rw [H0.out.2.2.2.2] at HT
 have k0 : w3.cell? ⟨G, 0, none⟩ = some (.int .i64 0) := cell_obj hO3 0
 have k1 : w3.cell? ⟨G, 1, none⟩ = some (.int .i64 0) := cell_obj hO3 1
 have k2 : w3.cell? ⟨G, 2, none⟩ = some (.int .i64 (n : Int)) := cell_obj hO3 2
 have k3 : w3.cell? ⟨G, 3, none⟩ = some (.int .i64 40) := cell_obj hO3 3
 have k4 : w3.cell? ⟨G, 4, none⟩ = some (.int .i64 4) := cell_obj hO3 4
 have H3 := Lib.hid (And.intro h3 hO3)
 clear h3 hO3 e0 e1 e2 e3 e4 hG
 go_upto_region 8 with (go_at_call 56; refine HT.out.mono ?_; rintro e w4 ⟨v, gb, cap, m, S', rfl, hv, hS', hwv, hwg, hwm, hk4⟩)
 have hbel4 : Below w.heap.size w w4 := by
  have h02 := grow_trans H0.out.2.1 H2.out.2
  have h03 : Below w.heap.size w w3 := h02.trans (H3.out.1.keeps.below h02.size (fun q e => Nat.le_trans H0.out.2.1.size e.1))
  exact h03.trans (hk4.below h03.size (fun q e => by
   rcases e.2 with h | h
   · exact Nat.le_trans H0.out.2.1.size h.1
   · exact Nat.le_trans h02.size h))
 have hw3 : w.heap.size ≤ w3.heap.size := Nat.le_trans (grow_trans H0.out.2.1 H2.out.2).size H3.out.1.keeps.size
 have hFA : FillAt w w4 d v S' (shN n) gb cap m ⟨(1 + 1) % 4294967296, 0, 0, frBlks n, [], tidiesD (makeD (dvN n) 0 (shN n)) 0 (shN n) (frBlks n) [] ((1 + 1) % 4294967296)⟩ (0 + (shN n).blocks + 3 + (frBlks n).length + 4) :=
  ⟨hv, fun q hq => by
   rcases hS' q hq with h | h
   · rcases h.2 with h | h
     · exact Nat.le_trans H0.out.2.1.size h.1
     · exact Nat.le_trans (grow_trans H0.out.2.1 H2.out.2).size h
   · exact Nat.le_trans hw3 h, Nat.le_trans hw3 hwv, Nat.le_trans hw3 hwg, Nat.le_trans hw3 hwm, hbel4⟩
 have HF := Lib.hid hFA
 clear hFA hbel4 hv hS' hwv hwg hwm hk4 hw3 k0 k1 k2 k3 k4
 go_wp2_with fail
 go_loopw [10] (fun q wr => ∃ k : Nat, k ≤ n ∧ q = .int .i64 k ∧ Below w4.heap.size w4 wr) (fun q _ => n - (Go.RowKit.intOf q).toNat)
 case atStart => exact ⟨0, Nat.zero_le _, rfl, Below.refl _ _⟩
 case round =>
  obtain ⟨k, hk, rfl, hbel⟩ := hrel
  by_cases hlt : k < n
  · have hlti : (k : Int) < (n : Int) := by omega
    have hk2 : (k : Int) < 200 := by omega
    have hG := VolP.get (VolP.below HF.out.vol hbel) (k : Int)
    have hkl : k < (frBlks n).length := by rw [frBlks_length]; exact hlt
    have hgb : getB (frBlks n) (k : Int) = (frBlks n).getD k Blk.zero := by unfold getB; rw [inB_nat hkl, if_pos rfl, blkD_nat]
    have hin : inB (frBlks n) (k : Int) = true := inB_nat hkl
    dsimp only at hG
    rw [hgb, hin, frBlks_eq (by omega)] at hG
    have hK : KRow wr 0 (.slice (some ⟨g, 0, none⟩) n cap0) (newBlks n) := H0.out.1.below (grow_trans HF.out.below hbel)
    have hkl2 : k < (newBlks n).length := by rw [← frBlks_eq (by omega), frBlks_length]; exact hlt
    obtain ⟨b, hb⟩ : ∃ b, b = (newBlks n).getD k Blk.zero := ⟨_, rfl⟩
    rw [← hb] at hG
    have HX := Lib.hid (And.intro hG (And.intro hbel (And.intro hK (And.intro hkl2 hb))))
    clear hG hgb hin hK hkl hkl2 hb hbel
    go_upto_region 12 with (go_at_call 23; refine HX.out.1.mono ?_; rintro e w5 ⟨rfl, b5⟩)
    obtain ⟨J, hJ⟩ : ∃ J, J = w5.heap.size := ⟨_, rfl⟩
    obtain ⟨w6, hw6⟩ : ∃ w6, w6 = w5.alloc (.cells b.cells 37) := ⟨_, rfl⟩
    have hX6 : BlkAt w6 J b := by rw [hJ]; exact obj_alloc hw6
    have hb6 : Below wr.heap.size wr w6 := grow_trans b5 (below_alloc hw6)
    rw [← hw6, ← hJ]
    have hK6 := HX.out.2.2.1.below hb6
    have i1 := hX6.has
    have i2 := hX6.row
    have i3 := hK6.has k HX.out.2.2.2.1
    have i4 := hK6.row k HX.out.2.2.2.1
    rw [← HX.out.2.2.2.2] at i4
    have H6 := Lib.hid hb6
    clear hw6 hJ hX6 hb6 hK6 b5
    have hnb : decide (b = b) = true := by simp
    refine wp_region_held_drew (S := fun w' => hasBlk w' J = true ∧ rowAt w' J = some b.cells ∧ hasOff w' g (k * 57) = true ∧ rowOff w' g (k * 57) = some b.cells ∧ True) (by kernel_rfl) (⟨i1, i2, i3, i4, trivial⟩) (fun hHeld => ?_)
    show wpAnyH _ _ _ _ _ 22 #[false, false, false, false, false, false, false, false, false, false, false, false, false, false, false, false, false, false, false, false, false, false] _ _
    refine gT (i := 0) (v := ?kv1) rfl ?ky1 ?kr1
    case ky1 => (intro w hSw; (try dsimp only at hSw); go_split_ands; (try simp only [qA, qB]); go_simp; (try with_reducible rfl))
    try simp only [Act.put, qA, qB, qD, qE, qF]
    refine gT (i := 1) (v := ?kv2) rfl ?ky2 ?kr2
    case ky2 => (intro w hSw; (try dsimp only at hSw); go_split_ands; (try simp only [qA, qB, qC]); go_simp; (try with_reducible rfl))
    try simp only [Act.put, qA, qB, qC, qD, qE, qF]
    refine gT (i := 2) (v := ?kv3) rfl ?ky3 ?kr3
    case ky3 => (intro w hSw; (try dsimp only at hSw); go_split_ands; (try simp only [qA, qB, qC]); go_simp; (try with_reducible rfl))
    try simp only [Act.put, qA, qB, qC, qD, qE, qF]
    refine gT (i := 3) (v := ?kv4) rfl ?ky4 ?kr4
    case ky4 => (intro w hSw; (try dsimp only at hSw); go_split_ands; (try simp only [qA, qB, qC]); go_simp; (try with_reducible rfl))
    try simp only [Act.put, qA, qB, qC, qD, qE, qF]
    refine gT (i := 4) (v := ?kv5) rfl ?ky5 ?kr5
    case ky5 => (intro w hSw; (try dsimp only at hSw); go_split_ands; (try simp only [qA, qB, qC]); go_simp; (try with_reducible rfl))
    try simp only [Act.put, qA, qB, qC, qD, qE, qF]
    refine gT (i := 5) (v := ?kv6) rfl ?ky6 ?kr6
    case ky6 => (intro w hSw; (try dsimp only at hSw); go_split_ands; (try simp only [qA, qB, qC]); go_simp; (try with_reducible rfl))
    try simp only [Act.put, qA, qB, qC, qD, qE, qF]
    refine gT (i := 6) (v := ?kv7) rfl ?ky7 ?kr7
    case ky7 => (intro w hSw; (try dsimp only at hSw); go_split_ands; (try simp only [qA, qB, qC]); go_simp; (try with_reducible rfl))
    try simp only [Act.put, qA, qB, qC, qD, qE, qF]
    refine gT (i := 7) (v := ?kv8) rfl ?ky8 ?kr8
    case ky8 => (intro w hSw; (try dsimp only at hSw); go_split_ands; (try simp only [qA, qB, qC]); go_simp; (try with_reducible rfl))
    try simp only [Act.put, qA, qB, qC, qD, qE, qF]
    refine gT (i := 8) (v := ?kv9) rfl ?ky9 ?kr9
    case ky9 => (intro w hSw; (try dsimp only at hSw); go_split_ands; (try simp only [qA, qB, qC]); go_simp; (try with_reducible rfl))
    try simp only [Act.put, qA, qB, qC, qD, qE, qF]
    refine gT (i := 9) (v := ?kv10) rfl ?ky10 ?kr10
    case ky10 => (intro w hSw; (try dsimp only at hSw); go_split_ands; (try simp only [qA, qB, qC]); go_simp; (try with_reducible rfl))
    try simp only [Act.put, qA, qB, qC, qD, qE, qF]
    refine gU (i := 10) rfl ?kr11
    try simp only [Act.put, qA, qB, qC, qD, qE, qF]
    refine gU (i := 11) rfl ?kr12
    try simp only [Act.put, qA, qB, qC, qD, qE, qF]
    refine gU (i := 12) rfl ?kr13
    try simp only [Act.put, qA, qB, qC, qD, qE, qF]
    refine gU (i := 13) rfl ?kr14
    try simp only [Act.put, qA, qB, qC, qD, qE, qF]
    refine gU (i := 14) rfl ?kr15
    try simp only [Act.put, qA, qB, qC, qD, qE, qF]
    refine gU (i := 15) rfl ?kr16
    try simp only [Act.put, qA, qB, qC, qD, qE, qF]
    refine gU (i := 16) rfl ?kr17
    try simp only [Act.put, qA, qB, qC, qD, qE, qF]
    refine gU (i := 17) rfl ?kr18
    try simp only [Act.put, qA, qB, qC, qD, qE, qF]
    refine gU (i := 18) rfl ?kr19
    try simp only [Act.put, qA, qB, qC, qD, qE, qF]
    refine gU (i := 19) rfl ?kr20
    try simp only [Act.put, qA, qB, qC, qD, qE, qF]
    refine gT (i := 20) (v := ?kv21) rfl ?ky21 ?kr21
    case ky21 => (intro w hSw; (try dsimp only at hSw); go_split_ands; (try simp only [qA, qB, qC]); go_simp; (try with_reducible rfl))
    try simp only [Act.put, qA, qB, qC, qD, qE, qF]
    refine gT (i := 21) (v := ?kv22) rfl ?ky22 ?kr22
    case ky22 => (intro w hSw; (try dsimp only at hSw); go_split_ands; (try simp only [qA, qB, qC]); go_simp; (try with_reducible rfl))
    try simp only [Act.put, qA, qB, qC, qD, qE, qF]
    refine wpAnyH_done (by kernel_rfl) ?_ _
    go_wp2_with fail
    go_roundw
    case rel => exact ⟨k + 1, by omega, by go_num, (grow_trans HX.out.2.1 H6.out).drew⟩
    case measure => simp [Go.RowKit.intOf]; omega
  · obtain rfl : k = n := by omega
    have HB := Lib.hid hbel
    clear hbel
    go_wp2_with fail
    refine bodyPost_ret (results_three rfl (resOne_tmp _ _ _) (resOne_tmp _ _ _) (resOne_tmp _ _ _)) rfl ?_
    refine ⟨d, v, rfl, S', gb, cap, m, _, _, ⟨VolP.below HF.out.vol HB.out, HF.out.sd, HF.out.hv, HF.out.hg, HF.out.hm, grow_trans HF.out.below HB.out⟩, frBlks_eq (by omega), ?_⟩
    rw [frBlks_length]; show 0 + k + 3 + k + 4 ≤ 1000; omega
end Go.Proofs.YtbbnejehglonjaaGreat
