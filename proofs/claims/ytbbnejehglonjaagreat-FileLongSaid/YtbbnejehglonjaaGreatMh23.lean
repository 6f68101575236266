/- DERIVED. Contracts and laws that the proofs of this seat share, part 23 of 36: LibIt TxD TxE TxF PvI. -/
import Derived.Maps.RangeRun
import Derived.Test.YtbbnejehglonjaaGreatLibNH
import Derived.Test.YtbbnejehglonjaaGreatMh00
import Derived.Test.YtbbnejehglonjaaGreatMh08
import Derived.Test.YtbbnejehglonjaaGreatMh09
import Derived.Test.YtbbnejehglonjaaGreatMh15
import Derived.Test.YtbbnejehglonjaaGreatMh17
import Derived.Test.YtbbnejehglonjaaGreatMh21
import Derived.Test.YtbbnejehglonjaaGreatMh22
namespace Go.Proofs.YtbbnejehglonjaaGreat
set_option maxHeartbeats 8000000
set_option maxRecDepth 100000
set_option linter.unusedSimpArgs false
set_option linter.unusedVariables false
section
open Go.RowKit Go.ChangeMaps

structure IterI (w : World) (m r : Nat) (L : ML) (done : List Int) : Prop where
 ex : ∃ es clock since seen c0, objAt w m = some (.map es clock) ∧ es.toList.map (fun e => (e.key, e.val)) = L.map (fun p => (Value.int .i64 p.1, p.2)) ∧ MapKept.Stamped es clock ∧
  objAt w r = some (.mapIter (some m) since seen c0) ∧ (∀ x ∈ es.toList, x.born < since) ∧ since ≤ c0 ∧ since ≤ clock ∧
  (∀ x ∈ es.toList, seen.contains x.born = true → ∃ k ∈ done, x.key = .int .i64 k)
 keys : ∀ k ∈ done, k ∈ keysL L
theorem IterI.keeps {w w' : World} {m r : Nat} {L : ML} {done : List Int} {T : Nat → Prop} (h : IterI w m r L done) (hk : Keeps T w w') (h1 : ¬ T m) (h2 : ¬ T r) : IterI w' m r L done := by
 obtain ⟨es, clock, since, seen, c0, a1, a2, a3, a4, a5⟩ := h.ex
 exact ⟨⟨es, clock, since, seen, c0, hk.obj a1 h1, a2, a3, hk.obj a4 h2, a5⟩, h.keys⟩
theorem IterI.start {P : Program} {w : World} {m : Nat} {L : ML} (h : MapI w m L) : ∃ o, IterI (w.alloc o) m w.heap.size L [] ∧
 ∀ t k e, P.underlying t = some (.map k e) → (Instr.range t (.map (some m))).run P w = .ok (.pointer (some ⟨w.heap.size, 0, none⟩)) (w.alloc o) := by
 obtain ⟨es, clock, h1, h2, h3⟩ := h.ex
 refine ⟨.mapIter (some m) clock #[] clock, ⟨⟨es, clock, clock, #[], clock, ?_, h2, h3, ?_, h3.1, Nat.le_refl _, Nat.le_refl _, fun x hx hs => by simp at hs⟩, fun k hk => by simp at hk⟩, fun t k e ht => run_range_map w t k e m es clock ht h1⟩
 · exact grow_obj (grow_alloc (Below.refl _ _) _) h1
 · rw [objAt_alloc, if_pos rfl]
theorem key_mem {es : Array MapEntry} {L : ML} (h2 : es.toList.map (fun e => (e.key, e.val)) = L.map (fun p => (Value.int .i64 p.1, p.2))) {e : MapEntry} (he : e ∈ es.toList) : ∃ k, k ∈ keysL L ∧ e.key = .int .i64 k := by
 have hm : (e.key, e.val) ∈ L.map (fun p => (Value.int .i64 p.1, p.2)) := by rw [← h2]; exact List.mem_map.2 ⟨e, he, rfl⟩
 obtain ⟨p, hp, hpe⟩ := List.mem_map.1 hm
 rw [Prod.mk.injEq] at hpe
 exact ⟨p.1, List.mem_map.2 ⟨p, hp, rfl⟩, hpe.1.symm⟩
theorem mem_key {es : Array MapEntry} {L : ML} (h2 : es.toList.map (fun e => (e.key, e.val)) = L.map (fun p => (Value.int .i64 p.1, p.2))) {k : Int} (hk : k ∈ keysL L) : ∃ e ∈ es.toList, e.key = .int .i64 k := by
 obtain ⟨p, hp, rfl⟩ := List.mem_map.1 hk
 have hm : (Value.int .i64 p.1, p.2) ∈ es.toList.map (fun e => (e.key, e.val)) := by rw [h2]; exact List.mem_map.2 ⟨p, hp, rfl⟩
 obtain ⟨e, he, hpe⟩ := List.mem_map.1 hm
 rw [Prod.mk.injEq] at hpe
 exact ⟨e, he, hpe.1⟩
theorem setB_same {w : World} {r : Nat} {o : Obj} (h : objAt w r = some o) (o' : Obj) : objAt (setBlock w r o') r = some o' := by
 have hlt := block_lt h
 unfold objAt setBlock
 simp [hlt]
theorem setB_other {w : World} {r k : Nat} (o' : Obj) (hn : k ≠ r) : (setBlock w r o').heap[k]? = w.heap[k]? := by
 unfold setBlock
 simp [Ne.symm hn]
theorem leftOf_push {es : Array MapEntry} {seen : Array Nat} {e : MapEntry} (he : e ∈ (leftOf es seen).toList) : (leftOf es (seen.push e.born)).size < (leftOf es seen).size := by
 unfold leftOf at *
 have e1 : Array.filter (fun x => !(seen.push e.born).contains x.born) es = Array.filter (fun x => !(x.born == e.born)) (Array.filter (fun x => !seen.contains x.born) es) := by
  rw [Array.filter_filter]
  congr 1
  funext x
  simp only [Array.contains_push, Bool.not_or]
  rw [Bool.and_comm]
 rw [e1]
 generalize Array.filter (fun x => !seen.contains x.born) es = A at *
 have hs : (Array.filter (fun x => !(x.born == e.born)) A).size = (A.toList.filter (fun x => !(x.born == e.born))).length := by
  rw [← Array.toList_filter, Array.length_toList]
 rw [hs, ← Array.length_toList]
 exact List.length_filter_lt_length_iff_exists.2 ⟨e, he, by simp⟩
theorem IterI.next {P : Program} {w : World} {m r : Nat} {L : ML} {done : List Int} (h : IterI w m r L done) (ty : TypeId) :
 ((∀ k ∈ keysL L, k ∈ done) ∧ (Instr.next (.pointer (some ⟨r, 0, none⟩)) false ty).run P w = .ok (.tuple #[.bool false]) w) ∨
 ∃ k v w', k ∈ keysL L ∧ (Instr.next (.pointer (some ⟨r, 0, none⟩)) false ty).run P w = .ok (.tuple #[.bool true, .int .i64 k, v]) w' ∧ (Instr.entry (.pointer (some ⟨r, 0, none⟩))).run P w' = .ok (.tuple #[.int .i64 k, v]) w' ∧
   IterI w' m r L (k :: done) ∧ w'.rangeLeft m r < w.rangeLeft m r ∧ Keeps (fun q => q = r) w w' := by
 obtain ⟨es, clock, since, seen, c0, a1, a2, a3, a4, a5, a6, a7, a8⟩ := h.ex
 have hrm : m ≠ r := fun e => by rw [e, a4] at a1; cases a1
 rcases run_next_at (P := P) w ty r m since c0 seen es clock a4 a1 a5 a6 with ⟨h0, hrun⟩ | ⟨e, he, w1, hw1, hrun⟩
 · refine .inl ⟨fun k hk => ?_, hrun⟩
   obtain ⟨e, he, hek⟩ := mem_key a2 hk
   have hs : seen.contains e.born = true := by
    cases hc : seen.contains e.born with
    | true => rfl
    | false =>
      have : e ∈ (leftOf es seen).toList := by unfold leftOf; simp only [Array.toList_filter, List.mem_filter]; exact ⟨he, by rw [hc]; rfl⟩
      have hz : (leftOf es seen) = #[] := Array.eq_empty_of_size_eq_zero h0
      rw [hz] at this; simp at this
   obtain ⟨k', hk', e'⟩ := a8 e he hs
   rw [hek] at e'
   obtain rfl := (Value.int.inj e').2
   exact hk'
 · right
   have he' : e ∈ es.toList := by unfold leftOf at he; simp only [Array.toList_filter, List.mem_filter] at he; exact he.1
   obtain ⟨k, hk, hek⟩ := key_mem a2 he'
   have b1 : objAt w1 m = some (.map es clock) := by rcases hw1 with rfl | rfl <;> exact a1
   have b4 : objAt w1 r = some (.mapIter (some m) since seen c0) := by rcases hw1 with rfl | rfl <;> exact a4
   have d4 : objAt (setBlock w1 r (.mapIter (some m) since (seen.push e.born) clock)) r = some (.mapIter (some m) since (seen.push e.born) clock) := setB_same b4 _
   have d1 : objAt (setBlock w1 r (.mapIter (some m) since (seen.push e.born) clock)) m = some (.map es clock) := (setB_other _ hrm).trans b1
   refine ⟨k, e.val, _, hk, by rw [← hek]; exact hrun, by rw [← hek]; exact run_entry_at _ r m since seen es clock e d4 d1 he' a3.2.1, ⟨⟨es, clock, since, seen.push e.born, clock, d1, a2, a3, d4, a5, a7, a7, fun x hx hs => ?_⟩, fun k' hk' => ?_⟩, ?_, ?_⟩
   · simp only [Array.contains_push, Bool.or_eq_true, beq_iff_eq] at hs
     rcases hs with hs | hs
     · obtain ⟨k', hk', e'⟩ := a8 x hx (by simpa using hs)
       exact ⟨k', List.mem_cons_of_mem _ hk', e'⟩
     · have : x = e := born_inj a3.2.1 hx he' hs
       subst this
       exact ⟨k, List.mem_cons_self, hek⟩
   · rcases List.mem_cons.1 hk' with rfl | hk'
     · exact hk
     · exact h.keys k' hk'
   · unfold World.rangeLeft
     unfold objAt at d1 d4 a1 a4
     rw [d1, d4, a1, a4]
     exact leftOf_push he
   · have hk2 : Keeps (fun q => q = r) w1 (setBlock w1 r (.mapIter (some m) since (seen.push e.born) clock)) := ⟨rfl, rfl, rfl, by simp [setBlock], fun k hk hn => setB_other _ hn⟩
     rcases hw1 with rfl | rfl
     · exact hk2
     · exact ⟨hk2.os, hk2.tape, hk2.output, hk2.size, hk2.block⟩
end
section
open Go.RowKit
attribute [local irreducible] Calls

structure Sets (U : List Bool) (n : Nat) (S : Int → Prop) : Prop where
 len : U.length = n
 at_ : ∀ j : Nat, j < n → (U[j]? = some true ↔ S (j : Int))
theorem Sets.iff {U : List Bool} {n : Nat} {S S' : Int → Prop} (h : Sets U n S) (hs : ∀ j : Nat, j < n → (S (j : Int) ↔ S' (j : Int))) : Sets U n S' := ⟨h.len, fun j hj => (h.at_ j hj).trans (hs j hj)⟩
theorem Sets.none (n : Nat) : Sets (List.replicate n false) n (fun _ => False) := ⟨by simp, fun j hj => by simp [hj]⟩
theorem Sets.set {U : List Bool} {n : Nat} {S : Int → Prop} (h : Sets U n S) (x : Int) : Sets (bitSet U x true) n (fun j => S j ∨ j = x) := by
 unfold bitSet
 by_cases hx : 0 ≤ x ∧ x < (n : Int)
 · obtain ⟨i, rfl⟩ : ∃ i : Nat, x = i := ⟨x.toNat, by omega⟩
   have hin : i < n := by omega
   have hiU : i < U.length := by rw [h.len]; exact hin
   have hb : bitAt U (i : Int) = some (U[i]) := by rw [bitAt_in (by omega) (by omega)]; simp
   rw [hb]
   cases hv : U[i] with
   | true =>
     rw [if_neg (by simp)]
     refine h.iff fun j hj => ⟨.inl, fun e => ?_⟩
     rcases e with e | e
     · exact e
     · obtain rfl : j = i := by omega
       exact (h.at_ j hj).1 (by rw [List.getElem?_eq_getElem hiU, hv])
   | false =>
     rw [if_pos (by simp)]
     refine ⟨by rw [List.length_set]; exact h.len, fun j hj => ?_⟩
     rw [Int.toNat_natCast, List.getElem?_set]
     by_cases e : i = j
     · subst e; rw [if_pos rfl, if_pos hiU]; simp
     · rw [if_neg e, h.at_ j hj]
       exact ⟨.inl, fun e' => e'.resolve_right (by omega)⟩
 · have hb : bitAt U x = Option.none := bitAt_out (by rw [h.len]; exact hx)
   rw [hb, if_neg (by simp)]
   exact h.iff fun j hj => ⟨.inl, fun e => e.resolve_right (by omega)⟩
theorem Sets.all {n : Nat} (xs : List Int) : ∀ {U : List Bool} {S : Int → Prop}, Sets U n S → Sets (setAll U xs) n (fun j => S j ∨ j ∈ xs) := by
 induction xs with
 | nil => intro U S h; exact h.iff fun j _ => by simp
 | cons x xs ih =>
   intro U S h
   have := ih (h.set x)
   refine Sets.iff this fun j _ => ?_
   simp only [List.mem_cons]
   exact or_assoc
def useBy (bs : List Blk) (i : Nat) (j : Int) : Prop :=
 ((bs.getD i Blk.zero).kind = 1 ∧ (j ∈ namesT bs (bs.getD i Blk.zero) ∨ j = i)) ∨ (((bs.getD i Blk.zero).kind = 2 ∨ (bs.getD i Blk.zero).kind = 3 ∨ (bs.getD i Blk.zero).kind = 6) ∧ j = i)
def inUse (bs : List Blk) (T : ML) (j : Int) : Prop := j = 0 ∨ j ∈ keysL T ∨ ∃ i, i < bs.length ∧ useBy bs i j
def useUpto (bs : List Blk) (T : ML) (k : Nat) (j : Int) : Prop := j = 0 ∨ j ∈ keysL T ∨ ∃ i, i < k ∧ useBy bs i j
theorem useUpto_succ {bs : List Blk} {T : ML} {k : Nat} {j : Int} : useUpto bs T (k + 1) j ↔ useUpto bs T k j ∨ useBy bs k j := by
 unfold useUpto
 constructor
 · rintro (h | h | ⟨i, hi, h⟩)
   · exact .inl (.inl h)
   · exact .inl (.inr (.inl h))
   · rcases Nat.lt_succ_iff_lt_or_eq.1 hi with h' | rfl
     · exact .inl (.inr (.inr ⟨i, h', h⟩))
     · exact .inr h
 · rintro ((h | h | ⟨i, hi, h⟩) | h)
   · exact .inl h
   · exact .inr (.inl h)
   · exact .inr (.inr ⟨i, by omega, h⟩)
   · exact .inr (.inr ⟨k, by omega, h⟩)
structure UsSt (w wr : World) (q n : Nat) (S : Int → Prop) : Prop where
 bel : Below w.heap.size w wr
 bits : ∃ U, BitsAt wr (q + 1) q U ∧ Sets U n S
theorem rangeLeft_keeps {w w' : World} {S : Nat → Prop} {m r : Nat} (hk : Keeps S w w') (h1 : ¬ S m) (h2 : ¬ S r) (hm : m < w.heap.size) (hr : r < w.heap.size) : w'.rangeLeft m r = w.rangeLeft m r := by
 unfold World.rangeLeft
 rw [hk.block m hm h1, hk.block r hr h2]
theorem UsSt.iff {w wr : World} {q n : Nat} {S S' : Int → Prop} (h : UsSt w wr q n S) (hs : ∀ j : Nat, j < n → (S (j : Int) ↔ S' (j : Int))) : UsSt w wr q n S' := by
 obtain ⟨U, h1, h2⟩ := h.bits
 exact ⟨h.bel, U, h1, h2.iff hs⟩
theorem UsSt.go {w wr w' : World} {q n : Nat} {S S' : Int → Prop} {U' : List Bool} (h : UsSt w wr q n S) (hq : q = w.heap.size) (hk : Keeps (· = q) wr w') (hb : BitsAt w' (q + 1) q U') (hs : Sets U' n S') : UsSt w w' q n S' :=
 ⟨h.bel.trans (hk.below h.bel.size (fun x e => by show _ ≤ x; have : x = q := e; omega)), U', hb, hs⟩
theorem UsSt.grow {w wr w' : World} {q n : Nat} {S : Int → Prop} (h : UsSt w wr q n S) (hb : Below wr.heap.size wr w') : UsSt w w' q n S := by
 obtain ⟨U, h1, h2⟩ := h.bits
 exact ⟨grow_trans h.bel hb, U, h1.below hb, h2⟩
theorem useBy_file {bs : List Blk} {i : Nat} {b : Blk} {j : Int} (h : bs.getD i Blk.zero = b) (hk : b.kind = 1) : useBy bs i j ↔ (j ∈ namesT bs b ∨ j = i) := by
 unfold useBy; rw [h, hk]; simp
theorem useBy_plain {bs : List Blk} {i : Nat} {b : Blk} {j : Int} (h : bs.getD i Blk.zero = b) (hk : b.kind = 2 ∨ b.kind = 3 ∨ b.kind = 6) : useBy bs i j ↔ j = i := by
 unfold useBy; rw [h]
 constructor
 · rintro (⟨h1, _⟩ | ⟨_, h2⟩)
   · omega
   · exact h2
 · exact fun h2 => .inr ⟨hk, h2⟩
theorem useBy_none {bs : List Blk} {i : Nat} {b : Blk} {j : Int} {kd : Int} (h : bs.getD i Blk.zero = b) (hk : b.kind = kd) (hn : ¬ kd = 1 ∧ ¬ kd = 2 ∧ ¬ kd = 3 ∧ ¬ kd = 6) : ¬ useBy bs i j := by
 unfold useBy; rw [h, hk]
 rintro (⟨h1, _⟩ | ⟨h1, _⟩)
 · exact hn.1 h1
 · omega
section
variable {w : World} {t v mp mt : Nat} {L : PL} {T : ML} {n : Nat}
variable {Sd : Nat → Prop} {d reg : Nat} {s : Sh} {epoch seq : Nat} {used : Int} {gb cap m : Nat} {bs : List Blk} {Dm : ML} {D : Dv} {c : Nat}
theorem txUsed_any (h : TxAt w t v mp mt L T bs.length) (hv : VolP w Sd v d reg s epoch seq used gb cap m bs Dm D c) :
 Calls Tryz.prog 59 #[.pointer (some ⟨t, 0, none⟩)] w fun e w' => ∃ B q U, e = .returned (.pointer (some ⟨B, 0, none⟩)) ∧ BitsAt w' B q U ∧ Sets U bs.length (inUse (txV L bs) T) ∧ w.heap.size ≤ B ∧ w.heap.size ≤ q ∧ Below w.heap.size w w' := by
 have hlen : bs.length ≤ 200 := by rw [← hv.slen]; exact hv.sok.blocks
 have c0 := h.c0
 have HB := Lib.hid hv.blocks
 have H := Lib.hid (And.intro h hv)
 have hqS : ¬ Sd w.heap.size := fun e => Nat.lt_irrefl _ (hv.dev.lt _ e)
 obtain ⟨q, hq⟩ : ∃ q, q = w.heap.size := ⟨_, rfl⟩
 have Hq := Lib.hid (And.intro hq hqS)
 clear h hv hqS hq
 go_enter Tryz.func59, Tryz.ntmps59
 go_upto_region 3 with (first
  | (go_at_call 61; refine HB.out.mono ?_; rintro e w1 ⟨rfl, hw1⟩; obtain rfl : w = w1 := hw1.symm)
  | (go_at_call 125; refine (bNew_any _ _).mono ?_; rintro e w2 ⟨rfl, hb2, b2⟩)
  | (go_at_call 126; refine (bSet_any 0 _ hb2).mono ?_; rintro e w3 ⟨rfl, hb3, k3⟩))
 rw [← Hq.out.1] at hb3 k3 ⊢
 have hrep : (min (max (bs.length : Int) 0) 200).toNat = bs.length := by omega
 rw [hrep] at hb3
 have k3' : Keeps (· = q) w w3 := (Keeps.of_below b2).trans k3
 have hU : UsSt w w3 q bs.length (fun j => j = 0) := ⟨b2.trans (k3.below b2.size (fun x e => by show _ ≤ x; have : x = q := e; have := Hq.out.1; omega)), _, hb3, ((Sets.none bs.length).set 0).iff fun j _ => by simp⟩
 clear hb2 b2 hb3 k3 k3' hrep
 have ht3 := H.out.1.below hU.bel
 have c2 := ht3.c2
 obtain ⟨o, hit, hrun⟩ := IterI.start (P := Tryz.prog) ht3.tk
 have hrun2 := hrun 34 _ _ Tryz.underlying34
 have hU4 := hU.grow (grow_alloc (Below.refl _ _) o)
 have hrq : w3.heap.size ≠ q ∧ w3.heap.size ≠ q + 1 := by
  obtain ⟨U, hb, _⟩ := hU.bits
  have h1 : q + 1 < w3.heap.size := block_lt hb.head
  omega
 obtain ⟨r, hr⟩ : ∃ r, r = w3.heap.size := ⟨_, rfl⟩
 rw [← hr] at hit hrun2 hrq
 obtain ⟨w4, hw4⟩ : ∃ w4, w4 = w3.alloc o := ⟨_, rfl⟩
 rw [← hw4] at hit hrun2 hU4
 have hwr : w.heap.size ≤ r := by rw [hr]; exact hU.bel.size
 have H4 := Lib.hid (And.intro hU4 (And.intro hit (And.intro hrq hwr)))
 clear hU ht3 hrun hit hU4 hrq hr hw4 hwr
 go_wp2_with fail
 clear hrun2 c2
 go_loopw [4] (fun s4 wr => ∃ done, IterI wr mt r T done ∧ UsSt w wr q bs.length (fun j => j = 0 ∨ j ∈ done)) (fun _ wr => wr.rangeLeft mt r)
 case atStart => exact ⟨[], H4.out.2.1, H4.out.1.iff fun j _ => by simp⟩
 case round =>
  obtain ⟨done, hit, hU⟩ := hrel
  obtain ⟨U, hb, hs⟩ := hU.bits
  have htm : mt ≠ q := hb.neMap (H.out.1.below hU.bel).tk
  rcases hit.next (P := Tryz.prog) 0 with ⟨hall, hrun⟩ | ⟨k, vv, w5, hk, hrun, hent, hit5, hlt5, hk5⟩
  · have hU5 : UsSt w wr q bs.length (useUpto (txV L bs) T 0) := hU.iff fun j _ => by
     unfold useUpto
     constructor
     · rintro (h | h)
       · exact .inl h
       · exact .inr (.inl (hit.keys _ h))
     · rintro (h | h | ⟨i, hi, _⟩)
       · exact .inl h
       · exact .inr (hall _ h)
       · omega
    have HU := Lib.hid hU5
    have c0 := (H.out.1.below hU5.bel).c0
    have HB := Lib.hid (H.out.2.below hU5.bel).blocks
    clear hU5 hU hb hs hall hit htm
    go_wp2_with (go_at_call 61; refine HB.out.mono ?_; rintro e w6 ⟨rfl, hw6⟩; obtain rfl : wr = w6 := hw6.symm)
    go_loopw [33] (fun i wr2 => ∃ k : Nat, k ≤ bs.length ∧ i = .int .i64 k ∧ UsSt w wr2 q bs.length (useUpto (txV L bs) T k)) (fun i _ => bs.length - (Go.RowKit.intOf i).toNat)
    case atStart => exact ⟨0, Nat.zero_le _, rfl, HU.out⟩
    case round =>
    obtain ⟨k, hk, rfl, hU⟩ := hrel
    by_cases hlt : k < bs.length
    · have hlti : (k : Int) < (bs.length : Int) := by omega
      have hget := txGet_any (H.out.1.below hU.bel) (H.out.2.below hU.bel) (k : Int)
      obtain ⟨b, hbv⟩ : ∃ b, b = getB (txV L bs) (k : Int) := ⟨_, rfl⟩
      rw [← hbv] at hget
      have hbk : (txV L bs).getD k Blk.zero = b := by
       rw [hbv]; unfold getB
       rw [if_pos (by unfold inB; rw [txV_length]; simp [hlt]), blkD_nat]
      have HGt := Lib.hid hget
      have HU2 := Lib.hid (And.intro hU hbk)
      clear hget hbv hU hbk c0
      go_upto_region 11 with (go_at_call 26; refine HGt.out.mono ?_; rintro e x1 ⟨rfl, b1⟩)
      have hU7 := (HU2.out.1.grow b1).grow (grow_alloc (Below.refl _ _) (.cells b.cells 37))
      have hK7 := BlkAt.alloc_new x1 b
      obtain ⟨x2, hx2⟩ : ∃ x2, x2 = x1.alloc (.cells b.cells 37) := ⟨_, rfl⟩
      obtain ⟨K, hKe⟩ : ∃ K, K = x1.heap.size := ⟨_, rfl⟩
      rw [← hx2] at hU7 hK7 ⊢
      rw [← hKe] at hK7 ⊢
      obtain ⟨U, hb7, hs7⟩ := hU7.bits
      have q0 : x2.cell? ⟨K, 0, none⟩ = some (.int .i64 b.kind) := (cell_obj hK7 0).trans b.cell0
      have q1 := hK7.has
      have q2 := hK7.row
      obtain ⟨kd, hkd⟩ : ∃ kd, kd = b.kind := ⟨_, rfl⟩
      rw [← hkd] at q0
      have hqS : ¬ Sd q := by rw [Hq.out.1]; exact Hq.out.2
      have HNm := Lib.hid (txNames_any (H.out.1.below hU7.bel) (H.out.2.below hU7.bel) hb7 hqS b)
      have H7 := Lib.hid (And.intro hU7 (And.intro hb7 (And.intro hs7 (And.intro hkd HU2.out.2))))
      clear hU7 hb7 hs7 hkd hK7 hx2 hKe b1 hqS
      by_cases k1 : kd = 1
      · subst k1
        go_wp2_with (first
         | (go_at_call 127; refine HNm.out.mono ?_; rintro e w8 ⟨rfl, k8, hb8⟩; have hU8 := H7.out.1.go Hq.out.1 k8 hb8 (H7.out.2.2.1.all _))
         | (go_at_call 126; refine (bSet_any (k : Int) _ hb8).mono ?_; rintro e w9 ⟨rfl, hb9, k9⟩))
        go_roundw
        case rel => exact ⟨k + 1, by omega, by go_num, (hU8.go Hq.out.1 k9 hb9 ((H7.out.2.2.1.all _).set (k : Int))).iff fun j _ => by rw [useUpto_succ, useBy_file H7.out.2.2.2.2 H7.out.2.2.2.1.symm, or_assoc]⟩
        case measure => simp [Go.RowKit.intOf]; omega
      · have e1 : (kd == 1) = false := by simpa using k1
        by_cases k2 : kd = 2
        · subst k2
          clear k1
          go_wp2_with (go_at_call 126; refine (bSet_any (k : Int) _ H7.out.2.1).mono ?_; rintro e w9 ⟨rfl, hb9, k9⟩)
          go_roundw
          case rel => exact ⟨k + 1, by omega, by go_num, (H7.out.1.go Hq.out.1 k9 hb9 (H7.out.2.2.1.set (k : Int))).iff fun j _ => by rw [useUpto_succ, useBy_plain H7.out.2.2.2.2 (.inl H7.out.2.2.2.1.symm)]⟩
          case measure => simp [Go.RowKit.intOf]; omega
        · have e2 : (kd == 2) = false := by simpa using k2
          by_cases k3 : kd = 3
          · subst k3
            clear k1 k2
            go_wp2_with (go_at_call 126; refine (bSet_any (k : Int) _ H7.out.2.1).mono ?_; rintro e w9 ⟨rfl, hb9, k9⟩)
            go_roundw
            case rel => exact ⟨k + 1, by omega, by go_num, (H7.out.1.go Hq.out.1 k9 hb9 (H7.out.2.2.1.set (k : Int))).iff fun j _ => by rw [useUpto_succ, useBy_plain H7.out.2.2.2.2 (.inr (.inl H7.out.2.2.2.1.symm))]⟩
            case measure => simp [Go.RowKit.intOf]; omega
          · have e3 : (kd == 3) = false := by simpa using k3
            by_cases k6 : kd = 6
            · subst k6
              clear k1 k2 k3
              go_wp2_with (go_at_call 126; refine (bSet_any (k : Int) _ H7.out.2.1).mono ?_; rintro e w9 ⟨rfl, hb9, k9⟩)
              go_roundw
              case rel => exact ⟨k + 1, by omega, by go_num, (H7.out.1.go Hq.out.1 k9 hb9 (H7.out.2.2.1.set (k : Int))).iff fun j _ => by rw [useUpto_succ, useBy_plain H7.out.2.2.2.2 (.inr (.inr H7.out.2.2.2.1.symm))]⟩
              case measure => simp [Go.RowKit.intOf]; omega
            · have e6 : (kd == 6) = false := by simpa using k6
              have Hn := Lib.hid (And.intro k1 (And.intro k2 (And.intro k3 k6)))
              clear k1 k2 k3 k6
              go_wp2_with fail
              go_roundw
              case rel => exact ⟨k + 1, by omega, by go_num, H7.out.1.iff fun j _ => by rw [useUpto_succ]; exact ⟨.inl, fun h => h.elim id (fun h => absurd h (useBy_none H7.out.2.2.2.2 H7.out.2.2.2.1.symm Hn.out))⟩⟩
              case measure => simp [Go.RowKit.intOf]; omega
    · obtain rfl : k = bs.length := by omega
      obtain ⟨U, hb7, hs7⟩ := hU.bits
      have HF := Lib.hid (And.intro hU.bel (And.intro hb7 hs7))
      clear hU hb7 hs7 c0
      go_wp2_with fail
      go_ret
      refine ⟨q + 1, q, U, rfl, HF.out.2.1, HF.out.2.2.iff fun j _ => ?_, by have := Hq.out.1; omega, by rw [← Hq.out.1]; exact Nat.le_refl _, HF.out.1⟩
      unfold useUpto inUse
      rw [txV_length]
  · have hU5 : UsSt w w5 q bs.length (fun j => j = 0 ∨ j ∈ done) := ⟨hU.bel.trans (hk5.below hU.bel.size (fun x e => by show _ ≤ x; have : x = r := e; have := H4.out.2.2.2; omega)), U, hb.keeps hk5 (fun e => H4.out.2.2.1.2 e.symm) (fun e => H4.out.2.2.1.1 e.symm), hs⟩
    obtain ⟨U5, hb5, hs5⟩ := hU5.bits
    have H5 := Lib.hid (And.intro hU5 (And.intro hit5 (And.intro hlt5 hs5)))
    clear hU5 hU hb hs hit hit5 hlt5 hs5 hk5
    go_wp2_with (go_at_call 126; refine (bSet_any k _ hb5).mono ?_; rintro e w6 ⟨rfl, hb6, k6⟩)
    go_roundw
    case rel => exact ⟨k :: done, H5.out.2.1.keeps k6 htm H4.out.2.2.1.1, (H5.out.1.go Hq.out.1 k6 hb6 (H5.out.2.2.2.set k)).iff fun j _ => by rw [List.mem_cons]; exact ⟨fun h => h.elim (fun h => h.elim .inl (fun h => .inr (.inr h))) (fun h => .inr (.inl h)), fun h => h.elim (fun h => .inl (.inl h)) (fun h => h.elim .inr (fun h => .inl (.inr h)))⟩⟩
    case measure =>
     obtain ⟨_, _, _, _, _, a1, _, _, a4, _⟩ := H5.out.2.1.ex
     rw [rangeLeft_keeps k6 htm H4.out.2.2.1.1 (block_lt a1) (block_lt a4)]
     exact H5.out.2.2.1
end
end
section
open Go.RowKit
attribute [local irreducible] Calls

def takeT (T : ML) (o : Option Nat) : ML := match o with | some k => up T k (.bool true) | none => T
section
variable {w : World} {t v mp mt : Nat} {L : PL} {T : ML} {n : Nat}
variable {Sd : Nat → Prop} {d reg : Nat} {s : Sh} {epoch seq : Nat} {used : Int} {gb cap m : Nat} {bs : List Blk} {Dm : ML} {D : Dv} {c : Nat}
theorem firstFrom_lt {l : List Bool} : ∀ (m k j : Nat), l.length - k = m → firstFrom l k = some j → j < l.length := by
 intro m
 induction m with
 | zero => intro k j hm h; rw [firstFrom_none (by omega)] at h; cases h
 | succ m ih =>
   intro k j hm h
   have hk : k < l.length := by omega
   cases hv : l[k] with
   | true => rw [firstFrom_yes hk hv] at h; exact ih (k + 1) j (by omega) h
   | false => rw [firstFrom_no hk hv] at h; obtain rfl := Option.some.inj h; exact hk
theorem firstVal_eq (o : Option Nat) : firstVal o = .tuple #[.int .i64 (o.getD 0 : Nat), .bool o.isSome] := by cases o <;> rfl
theorem txTake_any (h : TxAt w t v mp mt L T bs.length) (hv : VolP w Sd v d reg s epoch seq used gb cap m bs Dm D c) :
 Calls Tryz.prog 21 #[.pointer (some ⟨t, 0, none⟩)] w fun e w' => ∃ U, Sets U bs.length (inUse (txV L bs) T) ∧ e = .returned (firstVal (firstFrom U 0)) ∧ TxAt w' t v mp mt L (takeT T (firstFrom U 0)) bs.length ∧ Keeps (fun q => q = mt) w w' := by
 have hlen : bs.length ≤ 200 := by rw [← hv.slen]; exact hv.sok.blocks
 have HU := Lib.hid (txUsed_any h hv)
 have H := Lib.hid h
 clear h hv
 go_enter Tryz.func21, Tryz.ntmps21
 go_upto_region 4 with (first
  | (go_at_call 59; refine HU.out.mono ?_; rintro e w1 ⟨B, q, U, rfl, hb, hs, _, _, b1⟩)
  | (go_at_call 60; refine (bFirst_any _ hb).mono ?_; rw [firstVal_eq]; rintro e w2 ⟨rfl, hw2⟩; obtain rfl : w1 = w2 := hw2))
 obtain ⟨o, ho⟩ : ∃ o, o = firstFrom U 0 := ⟨_, rfl⟩
 rw [← ho]
 have ht1 := H.out.below b1
 have HS := Lib.hid (And.intro hs (And.intro ho (And.intro ht1 b1)))
 have c2 := ht1.c2
 clear hb hs b1 ht1
 cases o with
 | none =>
   clear ho
   go_wp2_with fail
   refine bodyPost_ret (results_two rfl (resOne_tmp _ _ _) (resOne_tmp _ _ _)) rfl ?_
   refine ⟨U, HS.out.1, by rw [← HS.out.2.1]; rfl, by rw [← HS.out.2.1]; exact HS.out.2.2.1, Keeps.of_below HS.out.2.2.2⟩
 | some k =>
   have hkl : k < bs.length := by rw [← HS.out.1.len]; exact firstFrom_lt _ 0 k rfl ho.symm
   have hTl : T.length < 1000000 := by
    have := MapI.few HS.out.2.2.1.tk (n := bs.length) (fun x hx => HS.out.2.2.1.inT x hx)
    omega
   clear ho
   simp only [Option.getD_some, Option.isSome_some]
   have hOnce : True := trivial
   go_wp2_with (clear hOnce; refine list_updateI rfl 34 3 4 _ _ _ rfl HS.out.2.2.1.tk Tryz.underlying34 Tryz.underlying3 rfl rfl (by omega) (by omega) rfl hTl ?_; intro w4 hM4 hk4; replace hM4 : MapI w4 mt (up T k (.bool true)) := hM4)
   refine bodyPost_ret (results_two rfl (resOne_tmp _ _ _) (resOne_tmp _ _ _)) rfl ?_
   have ht := HS.out.2.2.1
   refine ⟨U, HS.out.1, by rw [← HS.out.2.1]; rfl, ?_, (Keeps.of_below HS.out.2.2.2).trans hk4⟩
   rw [← HS.out.2.1]
   exact { obj := hk4.obj ht.obj (ht.tk.neCells ht.obj), put := ht.put.keeps hk4 ht.ne, tk := hM4, ne := ht.ne, allT := allTrue_up ht.allT _, inP := ht.inP,
           inT := fun x hx => by rcases (keys_up _ x).1 hx with rfl | hx; exact (by omega); exact ht.inT x hx }
end
end
section
open Go.RowKit
attribute [local irreducible] Calls

def writesOf (L : PL) : List Wr := (sortedKeys (plM L)).map fun k => ⟨k, (lkB L k).getD Blk.zero⟩
section
variable {w : World} {t v mp mt : Nat} {L : PL} {T : ML} {n : Nat}
theorem txWrites_any (h : TxAt w t v mp mt L T n) :
 Calls Tryz.prog 25 #[.pointer (some ⟨t, 0, none⟩)] w fun e w' => ∃ u, e = .returned u ∧ WRow w' (fun q => w.heap.size ≤ q) u (writesOf L) ∧ Below w.heap.size w w' := by
 have c1 := h.c1
 have hKs : (sortedKeys (plM L)).length ≤ 1000000 := by rw [sortedKeys_length]; exact h.put.small
 have HS := Lib.hid (SortedBlk_any mp (plM L) w h.put)
 have HK := Lib.hid (KeysBlk_any mp w)
 have H := Lib.hid h
 clear h
 go_enter Tryz.func25, Tryz.ntmps25
 go_wp2_with (first
  | (go_at_call 63; refine HK.out.mono ?_; rintro e w1 ⟨rfl, rfl⟩)
  | (go_at_call 62; refine HS.out.mono ?_; rintro e w2 ⟨V2, rfl, hr2, b2⟩; obtain ⟨ai, ci, rfl, _⟩ := IRow.fromB hr2))
 obtain ⟨ks, hks⟩ : ∃ ks, ks = sortedKeys (plM L) := ⟨_, rfl⟩
 rw [← hks] at hr2 hKs
 try rw [← hks]
 have hwl : writesOf L = ks.map fun k => ⟨k, (lkB L k).getD Blk.zero⟩ := by rw [hks]; rfl
 obtain ⟨wl, hwle⟩ : ∃ wl, wl = writesOf L := ⟨_, rfl⟩
 have hwlk : ∀ k x, ks[k]? = some x → wl.take (k + 1) = wl.take k ++ [⟨x, (lkB L x).getD Blk.zero⟩] := fun k x hx => by
  obtain ⟨hk, rfl⟩ := List.getElem?_eq_some_iff.1 hx
  have hk2 : k < wl.length := by rw [hwle, hwl, List.length_map]; exact hk
  rw [List.take_succ_eq_append_getElem hk2]
  congr 2
  simp [hwle, hwl]
 have hlen : wl.length = ks.length := by rw [hwle, hwl, List.length_map]
 have H2 := Lib.hid (And.intro hr2 (And.intro b2 (And.intro hwlk (And.intro hlen hwle))))
 clear hr2 b2 hwl hwle hwlk hlen hks
 go_loopw [2, 14] (fun l i wr => ∃ (k : Nat) (V : Value), k ≤ ks.length ∧ i = .int .i64 k ∧ V = l ∧ WRow wr (fun q => w2.heap.size ≤ q) V (wl.take k) ∧ Below w2.heap.size w2 wr) (fun _ i _ => ks.length - (Go.RowKit.intOf i).toNat)
 case atStart => exact ⟨0, _, Nat.zero_le _, rfl, rfl, RowG.nil _ _ _ _ _, Below.refl _ _⟩
 case round =>
  obtain ⟨k, V, hk, rfl, rfl, hV, hb⟩ := hrel
  by_cases hlt : k < ks.length
  · obtain ⟨x, hx⟩ : ∃ x, ks[k]? = some x := ⟨_, List.getElem?_eq_getElem hlt⟩
    obtain ⟨ai', ci', he, b0, off, h1, h2⟩ := IRow.fromB (H2.out.1.below hb)
    obtain ⟨rfl, _, rfl⟩ := (by simpa using he : ai = ai' ∧ True ∧ ci = ci')
    obtain ⟨rfl, _⟩ := h1 (by omega)
    have hcx := h2 k hlt
    rw [List.getD_eq_getElem?_getD, hx, Option.getD_some] at hcx
    have hlti : (k : Int) < (ks.length : Int) := by omega
    have ht := (H.out.below H2.out.2.1).below hb
    have hlk := run_lookupI (P := Tryz.prog) ht.put Tryz.underlying132 Tryz.underlying3 (zero_blkV wr) x false
    simp only [Bool.false_eq_true, if_false] at hlk
    have hval : (lk (plM L) x).getD (.agg Blk.zero.cells) = .agg ((lkB L x).getD Blk.zero).cells := by rw [plM_lk]; cases lkB L x <;> rfl
    rw [hval] at hlk
    have c1' := ht.c1
    have Hs := Lib.hid (H2.out.2.2.1 k x hx)
    generalize (lkB L x).getD Blk.zero = b at *
    have hdn : (wl.take k).length < 2000000 := by rw [List.length_take]; omega
    have HX := Lib.hid (And.intro hV hb)
    have hdn' : (wl.take k).length < 1000000 := by rw [List.length_take]; omega
    clear hV hb hx he h1 h2 ht hval
    go_wp2_with (first
     | (refine list_lit1 elemWrK rfl _ rfl (by rfl) (Wr.size_cells _) (by decide) ?_; intro w5 hw5; have hB5 := below_alloc hw5; have ho5 : objAt w5 wr.heap.size = some (.cells (Wr.cells ⟨x, b⟩) 52 (0, 0)) := obj_alloc hw5; have HX5 := Lib.hid (And.intro (HX.out.1.below hB5) (And.intro ho5 hB5)); clear hw5 hB5 ho5)
     | (at_builtin; refine list_appG elemWrK rfl _ _ rfl rfl HX5.out.1 rfl HX5.out.2.1 (Wr.size_cells _) (Wr.one_cells _) hdn' WREl ⟨x, b⟩ (fun w' _ => ⟨fun _ _ h => h, rfl⟩) ?_; intro g6 cap6 w6 hr6 hk6 ho6 hl6; have H6 := Lib.hid (And.intro hr6 hk6); clear hr6 hk6 ho6 hl6))
    go_roundw
    case rel =>
     have hb5 : Below w2.heap.size w2 _ := grow_trans HX.out.2 HX5.out.2.2
     refine ⟨k + 1, _, by omega, by go_num, rfl, ?_, hb5.trans (H6.out.2.below hb5.size (fun q e => HX5.out.1.own q e))⟩
     rw [Hs.out]
     have h6 := H6.out.1
     rw [List.length_take] at h6
     exact RowG.mono (S2 := fun q => w2.heap.size ≤ q) h6 (fun q hq => Or.elim hq id (fun h => Nat.le_trans hb5.size h))
    case measure => simp [Go.RowKit.intOf]; omega
  · obtain rfl : k = ks.length := by omega
    have HX := Lib.hid (And.intro hV hb)
    clear hV hb
    go_wp2_with fail
    go_ret
    refine ⟨V, rfl, ?_, H2.out.2.1.trans (HX.out.2.mono H2.out.2.1.size)⟩
    rw [← H2.out.2.2.2.2]
    have := HX.out.1
    rw [List.take_of_length_le (by rw [H2.out.2.2.2.1]; exact Nat.le_refl _)] at this
    exact RowG.mono (S2 := fun q => w.heap.size ≤ q) this (fun q hq => Nat.le_trans H2.out.2.1.size hq)
end
end
section
open Go.RowKit
attribute [local irreducible] Calls

def pastEnd (n : Nat) (x : Wr) : Bool := decide ((n : Int) ≤ x.at_)
theorem change1_any (B v d reg : Nat) (s : Sh) (epoch seq : Nat) (used : Int) (bv : Value) (m : Nat) (x : Wr) (w : World) (hB : w.cell? ⟨B, 0, none⟩ = some (.pointer (some ⟨v, 0, none⟩))) (hv : VolO w v d reg s epoch seq used bv m) :
 Calls Tryz.prog 119 #[.agg x.cells, .pointer (some ⟨B, 0, none⟩)] w fun e w' => e = .returned (.bool (pastEnd s.blocks x)) ∧ Below w.heap.size w w' := by
 have hx := WrAt.new w x
 have hB0 : Below w.heap.size w (w.alloc (.cells x.cells 52)) := grow_alloc (Below.refl _ _) _
 have k0 := hx.c0
 have k1 := grow_cell hB0 hB
 have k2 := VolO.c4 (grow_obj hB0 hv)
 have Hf := Lib.hid hB0
 clear hx hB0
 go_enter Tryz.func119, Tryz.ntmps119
 go_upto_region 1 with fail
 obtain ⟨G, hG⟩ : ∃ G, G = w.heap.size := ⟨_, rfl⟩
 obtain ⟨w1, hw1⟩ : ∃ w1, w1 = w.alloc (.cells x.cells 52) := ⟨_, rfl⟩
 rw [← hw1] at k0 k1 k2 Hf ⊢
 rw [← hG] at k0 ⊢
 clear hG hw1 hB
 refine wp_region_held_drew (S := fun w' => w'.cell? ⟨G, 0, none⟩ = some (.int .i64 x.at_) ∧ w'.cell? ⟨B, 0, none⟩ = some (.pointer (some ⟨v, 0, none⟩)) ∧ w'.cell? ⟨v, 4, none⟩ = some (.int .i64 s.blocks) ∧ True) (by kernel_rfl) (⟨k0, k1, k2, trivial⟩) (fun hHeld => ?_)
 show wpAnyH _ _ _ _ _ 9 #[false, false, false, false, false, false, false, false, false] _ _
 refine gT 0 ?_; try simp only [Act.put, qs]
 refine gT 1 ?_; try simp only [Act.put, qs]
 refine gT 2 ?_; try simp only [Act.put, qs]
 refine gT 3 ?_; try simp only [Act.put, qs]
 refine gT 4 ?_; try simp only [Act.put, qs]
 refine gT 5 ?_; try simp only [Act.put, qs]
 refine gT 6 ?_; try simp only [Act.put, qs]
 refine gT 7 ?_; try simp only [Act.put, qs]
 refine gT 8 ?_; try simp only [Act.put, qs]
 refine wpAnyH_done (by kernel_rfl) ?_ _
 go_wp2_with fail
 go_ret
 exact ⟨rfl, (Hf.out).drew⟩
theorem indexWr_any {S : Nat → Prop} {B v d reg : Nat} {s : Sh} {epoch seq : Nat} {used : Int} {bv u : Value} {m : Nat} {ws : List Wr} {w : World} (hB : w.cell? ⟨B, 0, none⟩ = some (.pointer (some ⟨v, 0, none⟩))) (hv : VolO w v d reg s epoch seq used bv m) (h : WRow w S u ws) (hl : ws.length ≤ 1000) :
 Calls Tryz.prog 178 #[u, .func (.func 119) #[] #[.pointer (some ⟨B, 0, none⟩)]] w fun e w' => (∃ i : Int, e = .returned (.int .i64 i) ∧ (0 ≤ i ↔ ws.any (pastEnd s.blocks) = true)) ∧ Below w.heap.size w w' := by
 obtain ⟨a, cap, rfl, _⟩ := RowG.slice h
 have H0 := Lib.hid (And.intro hB (And.intro hv h))
 clear hB hv h
 go_enter Tryz.func178, Tryz.ntmps178
 go_wp2_with fail
 go_loopw [8] (fun i wr => ∃ k : Nat, k ≤ ws.length ∧ i = .int .i64 k ∧ (∀ i x, i < k → ws[i]? = some x → pastEnd s.blocks x = false) ∧ Below w.heap.size w wr) (fun i _ => ws.length - (Go.RowKit.intOf i).toNat)
 case atStart => exact ⟨0, Nat.zero_le _, rfl, fun i x hi => by omega, Below.refl _ _⟩
 case round =>
  obtain ⟨k, hk, rfl, hno, hbel⟩ := hrel
  by_cases hlt : k < ws.length
  · obtain ⟨x, hx⟩ : ∃ x, ws[k]? = some x := ⟨_, List.getElem?_eq_getElem hlt⟩
    have hWr := WRow.below H0.out.2.2 hbel
    obtain ⟨g, cap', hf⟩ := RowG.form hWr (by omega)
    simp only [Value.slice.injEq] at hf
    obtain ⟨rfl, _, rfl⟩ := hf
    have hhas := WRow.has hWr hx
    have hrow := WRow.row hWr hx
    have hlti : (k : Int) < (ws.length : Int) := by omega
    have Hc := Lib.hid (change1_any B v d reg s epoch seq used bv m x wr (grow_cell hbel H0.out.1) (grow_obj hbel H0.out.2.1))
    have HX := Lib.hid (And.intro hno (And.intro hbel hx))
    clear hno hbel hx hWr
    cases hp : pastEnd s.blocks x with
    | true =>
      rw [hp] at Hc
      have Hp := Lib.hid hp
      clear hp
      go_wp2_with (go_at_call 119; refine Hc.out.mono ?_; rintro e w2 ⟨rfl, b2⟩)
      go_ret
      exact ⟨⟨k, rfl, by
       constructor
       · intro _; exact List.any_eq_true.2 ⟨x, List.mem_of_getElem? HX.out.2.2, Hp.out⟩
       · intro _; exact Int.natCast_nonneg _⟩, grow_trans HX.out.2.1 b2⟩
    | false =>
      rw [hp] at Hc
      have Hp := Lib.hid hp
      clear hp
      go_wp2_with (go_at_call 119; refine Hc.out.mono ?_; rintro e w2 ⟨rfl, b2⟩)
      go_roundw
      case rel =>
       refine ⟨k + 1, by omega, by go_num, fun i y hi hy => ?_, grow_trans HX.out.2.1 b2⟩
       by_cases e : i = k
       · subst e
         rw [HX.out.2.2] at hy
         obtain rfl := Option.some.inj hy
         exact Hp.out
       · exact HX.out.1 i y (by omega) hy
      case measure => simp [Go.RowKit.intOf]; omega
  · obtain rfl : k = ws.length := by omega
    have hn : ¬ ((ws.length : Int) < (ws.length : Int)) := by omega
    have hany : ws.any (pastEnd s.blocks) = false := by
     rw [List.any_eq_false]
     intro x hx
     obtain ⟨i, hi⟩ := List.getElem?_of_mem hx
     rw [hno i x (List.getElem?_eq_some_iff.1 hi).1 hi]; decide
    have HX := Lib.hid (And.intro hany hbel)
    clear hno hbel hany
    go_wp2_with fail
    go_ret
    refine ⟨⟨-1, rfl, ⟨fun h => absurd h (by decide), fun h => ?_⟩⟩, HX.out.2⟩
    have h2 := HX.out.1
    rw [List.any_eq_false] at h2
    obtain ⟨x, hx, hp⟩ := h
    exact absurd hp (h2 x hx)
theorem containsWr_any {S : Nat → Prop} {B v d reg : Nat} {s : Sh} {epoch seq : Nat} {used : Int} {bv u : Value} {m : Nat} {ws : List Wr} {w : World} (hB : w.cell? ⟨B, 0, none⟩ = some (.pointer (some ⟨v, 0, none⟩))) (hv : VolO w v d reg s epoch seq used bv m) (h : WRow w S u ws) (hl : ws.length ≤ 1000) :
 Calls Tryz.prog 118 #[u, .func (.func 119) #[] #[.pointer (some ⟨B, 0, none⟩)]] w fun e w' => e = .returned (.bool (ws.any (pastEnd s.blocks))) ∧ Below w.heap.size w w' := by
 have HI := Lib.hid (indexWr_any hB hv h hl)
 clear hB hv h
 go_enter Tryz.func118, Tryz.ntmps118
 go_wp2_with (go_at_call 178; refine HI.out.mono ?_; rintro e w2 ⟨⟨i, rfl, hi⟩, b2⟩; have Hi := Lib.hid hi; clear hi)
 go_ret
 refine ⟨?_, b2⟩
 cases h : ws.any (pastEnd s.blocks) with
 | true => have := Hi.out.2 h; simp [this]
 | false =>
   have : ¬ 0 ≤ i := fun e => by have := Hi.out.1 e; rw [h] at this; cases this
   simp [this]
end
end Go.Proofs.YtbbnejehglonjaaGreat
