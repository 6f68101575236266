/- DERIVED. Contracts and laws that the proofs of this seat share, part 10 of 36: LibO RcA NoB ShelfB LibSi NoC. -/
import Derived.Shelf.Small.Bits
import Derived.Shelf.Strconv.Itoa0
import Derived.Shelf.GgClosure.StringsIndexFunc
import Derived.Ground.GgwProg
import Derived.Shelf.GgClosure.StringsIndexFuncTop
import Derived.Shelf.Bits.Mul64
import Derived.Ground.SlgmProg
import Derived.Shelf.SortM.Plain
import Derived.Shelf.SortM.SortNone
import Derived.Test.YtbbnejehglonjaaGreatProg
import Derived.Lib.Bytealg
import Derived.Test.YtbbnejehglonjaaGreatLibNH
import Derived.Test.YtbbnejehglonjaaGreatMh00
import Derived.Test.YtbbnejehglonjaaGreatMh09
namespace Go.Proofs.YtbbnejehglonjaaGreat
set_option maxHeartbeats 8000000
set_option maxRecDepth 100000
set_option linter.unusedSimpArgs false
set_option linter.unusedVariables false
section
open Go.RowKit Go.ChangeMaps

def EntryAt (w : World) (m : Nat) (k : Int) (stamp : Nat) : Prop := ∃ es clock j, objAt w m = some (.map es clock) ∧ ∃ h : j < es.size, es[j].born = stamp ∧ es[j].key = .int .i64 k
section
variable {P : Program}
theorem run_entryI {w : World} {t kt et m : Nat} {L : ML} (h : MapI w m L) (ht : P.underlying t = some (.map kt et)) (hk : P.underlying kt = some (.int .i64)) (k : Int) (hk0 : 0 ≤ k) (hk1 : k < 1000000) {z : Value} (hz : (zeroValue et).run P w = .ok z w) (hl : L.length < 1000000) :
 ∃ w' v stamp, (Instr.mapEntry t (.map (some m)) (.int .i64 k)).run P w = .ok (.tuple #[v, .int .i64 (stamp : Nat)]) w' ∧ (∃ v', MapI w' m (up L k v')) ∧ EntryAt w' m k stamp ∧ Keeps (fun g => g = m) w w' := by
 obtain ⟨es, clock, h1, h2, h3⟩ := h.ex
 have hc : ∀ b, (Instr.checkKey b 10000 kt (.int .i64 k)).run P w = .ok () w := fun b => MapKept.run_checkKey (k := .int .i64 k) hk (by simp [MapKept.IsKey]) b 9999
 have hf := MapKept.run_findKey (w := w) hk (findNow_int k L es.toList 0 h2)
 have hg := MapKept.run_getObj_map (P := P) (objAt_heap h1)
 have hr : ∀ v, ∀ x ∈ keysL (up L k v), 0 ≤ x ∧ x < 1000000 := fun v x hx => by
  rcases (keys_up v x).1 hx with rfl | hx
  · exact ⟨hk0, hk1⟩
  · exact h.range x hx
 cases hi : L.findIdx? (fun p => p.1 == k) with
 | none =>
   have hnk : k ∉ keysL L := by
    intro hm
    rw [List.findIdx?_eq_none_iff] at hi
    obtain ⟨p, hp, e⟩ := List.mem_map.1 hm
    have := hi p hp
    rw [e] at this; simp at this
   rw [hi] at hf
   have hup := up_none hnk z
   have hs := MapI.set h (up L k z) (es.push { key := .int .i64 k, val := z, born := clock }) (clock + 1) (by rw [hup]; simp [h2]) ⟨?_, ?_, ?_⟩ (hr z) (by have := (up_length (L := L) (k := k) z).1; omega)
   · refine ⟨_, z, clock, ?_, ⟨z, hs.1⟩, ⟨_, _, es.size, heap_setBlock_same (objAt_heap h1) _, by simp, by simp, by simp⟩, hs.2⟩
     simp [Instr.mapEntry, run_underlying ht, hg, hc, hf, hz, MapKept.run_setObj_map _ (objAt_heap h1), Result.andThen, setBlock, goInt]
   · intro x hx
     simp only [Array.toList_push, List.mem_append, List.mem_singleton] at hx
     rcases hx with hx | rfl
     · have := h3.1 x hx; omega
     · show clock < clock + 1; omega
   · simp only [Array.toList_push, List.map_append, List.map_cons, List.map_nil]
     rw [List.nodup_append]
     refine ⟨h3.2.1, by simp, fun a ha b hb e => ?_⟩
     simp only [List.mem_singleton] at hb
     obtain ⟨x, hx, rfl⟩ := List.mem_map.1 ha
     have := h3.1 x hx
     omega
   · simp only [Array.toList_push, List.map_append, List.map_cons, List.map_nil]
     rw [List.nodup_append]
     refine ⟨h3.2.2, by simp, fun a ha b hb e => ?_⟩
     simp only [List.mem_singleton] at hb
     subst hb; subst e
     have e2 : es.toList.map (·.key) = (keysL L).map (Value.int .i64) := by
      have := congrArg (List.map Prod.fst) h2
      simpa [keysL, Function.comp_def] using this
     rw [e2] at ha
     obtain ⟨x, hx, e3⟩ := List.mem_map.1 ha
     simp only [Value.int.injEq, true_and] at e3
     subst e3
     exact hnk hx
 | some j =>
   obtain ⟨hj, e1, hlk⟩ := idx_spec hi
   have hup := up_some hi L[j].2
   rw [hi] at hf
   simp only [Option.bind_some, List.getElem?_eq_getElem hj, Option.map_some, Nat.zero_add] at hf
   have hjs : j < es.toList.length := by have := congrArg List.length h2; simp only [List.length_map] at this; omega
   have hjs' : j < es.size := by simpa using hjs
   have hkv : (es.toList[j].key, es.toList[j].val) = (.int .i64 k, L[j].2) := by
    have := congrArg (fun l => l[j]?) h2
    simp only [List.getElem?_map, List.getElem?_eq_getElem hjs, List.getElem?_eq_getElem hj, Option.map_some, Option.some.injEq] at this
    rw [this, e1]
   have hkey' : es[j].key = .int .i64 k := by have := congrArg Prod.fst hkv; simpa using this
   have hmod : (es.modify j fun e => { e with key := .int .i64 k }) = es := by
    apply Array.ext
    · simp
    · intro i h5 h6
      rw [Array.getElem_modify]
      split
      · rename_i e; subst e; cases hx : es[j]; rw [hx] at hkey'; simp at hkey'; simp [hkey']
      · rfl
   have hsame : up L k L[j].2 = L := by
    rw [hup, ← e1]
    apply List.ext_getElem
    · simp
    · intro i h5 h6
      rw [List.getElem_set]
      split
      · rename_i e; subst e; rfl
      · rfl
   refine ⟨setBlock w m (.map es clock), L[j].2, es[j].born, ?_, ⟨L[j].2, by rw [hsame]; exact (MapI.set h L es clock h2 h3 h.range h.small).1⟩, ⟨es, clock, j, heap_setBlock_same (objAt_heap h1) _, hjs', rfl, hkey'⟩, (MapI.set h L es clock h2 h3 h.range h.small).2⟩
   have hst : (Instr.keyThatStays (.int .i64 k) (.int .i64 k)).run P w = .ok (.int .i64 k) w := by simp [Instr.keyThatStays, Instr.sameBits]
   simp [Instr.mapEntry, run_underlying ht, hg, hc, hf, hjs', hkey', hst, hmod, MapKept.run_setObj_map _ (objAt_heap h1), Result.andThen, setBlock, goInt]
theorem run_entryStoreI {w : World} {t m : Nat} {L : ML} (h : MapI w m L) {k : Int} {stamp : Nat} (he : EntryAt w m k stamp) (hkm : k ∈ keysL L) (v : Value) :
 ∃ w', (Instr.entryStore t (.map (some m)) (.int .i64 stamp) v).run P w = .ok () w' ∧ MapI w' m (up L k v) ∧ Keeps (fun g => g = m) w w' := by
 obtain ⟨es, clock, h1, h2, h3⟩ := h.ex
 obtain ⟨es', clock', j, h1', hj, hb, hkey⟩ := he
 rw [h1] at h1'
 simp only [Option.some.injEq, Obj.map.injEq] at h1'
 obtain ⟨rfl, rfl⟩ := h1'
 have hg := MapKept.run_getObj_map (P := P) (objAt_heap h1)
 have hlen : es.toList.length = L.length := by have := congrArg List.length h2; simpa using this
 have hjL : j < L.length := by rw [← hlen]; simpa using hj
 have hLk : L[j].1 = k := by
  have := congrArg (fun l => l[j]?) h2
  simp only [List.getElem?_map, List.getElem?_eq_getElem (show j < es.toList.length by simpa using hj), List.getElem?_eq_getElem hjL, Option.map_some, Option.some.injEq, Prod.mk.injEq, Array.getElem_toList] at this
  have h4 := this.1
  rw [hkey] at h4
  simp only [Value.int.injEq, true_and] at h4
  exact h4.symm
 have hidx : L.findIdx? (fun p => p.1 == k) = some j := by
  rw [List.findIdx?_eq_some_iff_getElem]
  refine ⟨hjL, by simpa using hLk, fun i hi => ?_⟩
  simp only [beq_iff_eq]
  intro e
  have hn := h.nodup
  have := (List.pairwise_iff_getElem.1 hn) i j (by simp [keysL]; omega) (by simpa [keysL] using hjL) hi
  simp only [keysL, List.getElem_map, ne_eq] at this
  exact this (e.trans hLk.symm)
 have hfind : es.findIdx? (fun e => (e.born : Int) == (stamp : Int)) = some j := by
  rw [Array.findIdx?_eq_some_iff_getElem]
  refine ⟨hj, by simp [hb], fun i hi => ?_⟩
  have hn := h3.2.1
  have := (List.pairwise_iff_getElem.1 hn) i j (by simp; omega) (by simpa using hj) hi
  simp only [List.getElem_map, Array.getElem_toList, ne_eq] at this
  simp only [beq_iff_eq]
  intro e
  exact this (by rw [hb]; omega)
 have hmod : (es.modify j fun e => { e with val := v }).toList = es.toList.set j { es.toList[j]'(by simpa using hj) with val := v } := by
  apply List.ext_getElem
  · simp
  · intro i h5 h6
    simp only [Array.getElem_toList, Array.getElem_modify, List.getElem_set]
    by_cases e : j = i
    · subst e; simp
    · simp [e]
 have hs := MapI.set h (up L k v) (es.modify j fun e => { e with val := v }) clock (by
  rw [up_some hidx v, hmod, List.map_set, List.map_set, h2]
  simp only [Array.getElem_toList, hkey]) ⟨?_, ?_, ?_⟩ (fun x hx => by
   rcases (keys_up v x).1 hx with rfl | hx
   · exact h.range _ hkm
   · exact h.range x hx) (by rw [up_some hidx v, List.length_set]; exact h.small)
 · refine ⟨_, ?_, hs⟩
   simp [Instr.entryStore, hg, asInt, asIntOf, hfind, MapKept.run_setObj_map _ (objAt_heap h1), Result.andThen, setBlock]
 · intro x hx
   rw [hmod] at hx
   rcases List.mem_or_eq_of_mem_set hx with hx | rfl
   · exact h3.1 x hx
   · exact h3.1 (es.toList[j]'(by simpa using hj)) (List.getElem_mem _)
 · rw [hmod, List.map_set]
   have : (es.toList.map (·.born)).set j (es.toList[j]'(by simpa using hj)).born = es.toList.map (·.born) := by
    apply List.ext_getElem
    · simp
    · intro i h5 h6
      rw [List.getElem_set]
      split
      · rename_i e; subst e; simp
      · rfl
   show ((es.toList.map (·.born)).set j (es.toList[j]'(by simpa using hj)).born).Nodup
   rw [this]; exact h3.2.1
 · rw [hmod, List.map_set]
   have : (es.toList.map (·.key)).set j (es.toList[j]'(by simpa using hj)).key = es.toList.map (·.key) := by
    apply List.ext_getElem
    · simp
    · intro i h5 h6
      rw [List.getElem_set]
      split
      · rename_i e; subst e; simp
      · rfl
   show ((es.toList.map (·.key)).set j (es.toList[j]'(by simpa using hj)).key).Nodup
   rw [this]; exact h3.2.2
theorem up_up {L : ML} {k : Int} (v v' : Value) : up (up L k v) k v' = up L k v' := by
 cases hi : L.findIdx? (fun p => p.1 == k) with
 | none =>
   have hk : k ∉ keysL L := fun h => by
    rw [List.findIdx?_eq_none_iff] at hi
    obtain ⟨p, hp, e⟩ := List.mem_map.1 h
    have := hi p hp
    rw [e] at this; simp at this
   have h2 : (L ++ [(k, v)]).findIdx? (fun p => p.1 == k) = some L.length := by
    rw [List.findIdx?_append, hi]
    simp [List.findIdx?_cons]
   rw [up_none hk v, up_none hk v', up_some h2]
   simp
 | some j =>
   obtain ⟨hj, e1, _⟩ := idx_spec hi
   have h2 : (L.set j (k, v)).findIdx? (fun p => p.1 == k) = some j := by
    rw [List.findIdx?_eq_some_iff_getElem] at hi ⊢
    obtain ⟨_, _, h3⟩ := hi
    refine ⟨by simpa using hj, by simp, fun i hij => ?_⟩
    rw [List.getElem_set_ne (by omega)]
    exact h3 i hij
   rw [up_some hi v, up_some hi v', up_some h2]
   simp
variable {ops : Array Oper} {o : Oper} {a b0 : Act} {w : World} {K : Act → World → Prop} {Q : Exit → Act → World → Prop} {F : Prop}
theorem wp_entryI (t kt et : TypeId) (x y : Operand) (ho : o.op = .mapEntry t x y) {m : Nat} {L : ML} (h : MapI w m L) (ht : P.underlying t = some (.map kt et)) (hk : P.underlying kt = some (.int .i64)) {z : Value} (hz : (zeroValue et).run P w = .ok z w) (hx : a.eval x = .map (some m)) {k : Int} (hy : a.eval y = .int .i64 k) (h0 : 0 ≤ k) (h1 : k < 1000000)
 (hl : L.length < 1000000) (hK : ∀ w' v v' stamp, MapI w' m (up L k v') → EntryAt w' m k stamp → Keeps (fun g => g = m) w w' → K (a.put o.dst (.tuple #[v, .int .i64 (stamp : Nat)])) w') : o.wp P a w K Q := by
 obtain ⟨w', v, stamp, hr, ⟨v', h2⟩, h3, h4⟩ := run_entryI h ht hk k h0 h1 hz hl
 unfold Oper.wp execOp
 simp only [ho, hx, hy, Sem.run_bind]
 rw [hr]
 exact hK w' v v' stamp h2 h3 h4
theorem wp_entryStoreI (t : TypeId) (x y u : Operand) (ho : o.op = .entryStore t x y u) {m : Nat} {L : ML} (h : MapI w m L) {k : Int} {stamp : Nat} (he : EntryAt w m k stamp) (hkm : k ∈ keysL L) (hx : a.eval x = .map (some m)) (hy : a.eval y = .int .i64 (stamp : Nat)) {v : Value} (hu : a.eval u = v)
 (hK : ∀ w', MapI w' m (up L k v) → Keeps (fun g => g = m) w w' → K (a.put o.dst undef) w') : o.wp P a w K Q := by
 obtain ⟨w', hr, h2, h3⟩ := run_entryStoreI (P := P) (t := t) h he hkm v
 unfold Oper.wp execOp
 simp only [ho, hx, hy, hu, Sem.run_bind]
 rw [hr]
 exact hK w' h2 h3
end
end
section
open Go.RowKit
attribute [local irreducible] Calls

def wrOk (x : Wr) : Bool := decide (0 ≤ x.b.kind) && decide (x.b.kind ≤ 7) && decide (0 ≤ x.at_) && decide (x.at_ < 200)
def freshWr (pre : List Wr) (x : Wr) : Bool := !(pre.any fun y => y.at_ == x.at_)
def wrsOk (ws : List Wr) : Bool := (List.range ws.length).all fun i => (ws[i]?).all fun x => wrOk x && freshWr (ws.take i) x
def mayRec (ws : List Wr) : Bool := wrsOk ws && decide (1 ≤ ws.length) && decide (ws.length ≤ 12)
theorem wrOk_iff {x : Wr} : wrOk x = true ↔ 0 ≤ x.b.kind ∧ x.b.kind ≤ 7 ∧ 0 ≤ x.at_ ∧ x.at_ < 200 := by simp [wrOk, and_assoc]
theorem wrsOk_not {ws : List Wr} {i : Nat} {x : Wr} (h : ws[i]? = some x) (hb : wrOk x = false ∨ freshWr (ws.take i) x = false) : mayRec ws = false := by
 have : wrsOk ws = false := by
  unfold wrsOk
  rw [List.all_eq_false]
  refine ⟨i, List.mem_range.2 (List.getElem?_eq_some_iff.1 h).1, ?_⟩
  rw [h]
  rcases hb with hb | hb <;> simp [hb]
 simp [mayRec, this]
theorem wrsOk_iff {ws : List Wr} : wrsOk ws = true ↔ ∀ i x, ws[i]? = some x → wrOk x = true ∧ freshWr (ws.take i) x = true := by
 unfold wrsOk
 rw [List.all_eq_true]
 constructor
 · intro h i x hi
   have := h i (List.mem_range.2 (List.getElem?_eq_some_iff.1 hi).1)
   rw [hi] at this
   simpa using this
 · intro h i hi
   cases hx : ws[i]? with
   | none => rfl
   | some x => have := h i x hx; simp [this]
theorem ats_take {ws : List Wr} {k : Nat} {x : Wr} (h : ws[k]? = some x) (y : Int) : y ∈ (ws.take (k + 1)).map (·.at_) ↔ y = x.at_ ∨ y ∈ (ws.take k).map (·.at_) := by
 obtain ⟨hk, rfl⟩ := List.getElem?_eq_some_iff.1 h
 rw [List.take_succ_eq_append_getElem hk, List.map_append, List.mem_append]
 simp [or_comm]
theorem fresh_lk {ws : List Wr} {L : ML} {k : Nat} {x : Wr} (hL : ∀ y, y ∈ keysL L ↔ y ∈ (ws.take k).map (·.at_)) : (lk L x.at_).isSome = !freshWr (ws.take k) x := by
 unfold freshWr
 rw [Bool.not_not]
 cases h : lk L x.at_ with
 | none =>
   have := lk_none.1 h
   rw [hL] at this
   symm
   simp only [Option.isSome_none]
   rw [List.any_eq_false]
   intro y hy e
   exact this (List.mem_map.2 ⟨y, hy, by simpa using e⟩)
 | some v =>
   have : x.at_ ∈ keysL L := by
    by_cases hm : x.at_ ∈ keysL L
    · exact hm
    · rw [lk_none.2 hm] at h; cases h
   rw [hL] at this
   obtain ⟨y, hy, e⟩ := List.mem_map.1 this
   symm
   simp only [Option.isSome_some]
   exact List.any_eq_true.2 ⟨y, hy, by simpa using e⟩
def allTrue (L : ML) : Prop := ∀ p ∈ L, p.2 = .bool true
theorem allTrue_lk {L : ML} (h : allTrue L) (k : Int) : (lk L k).getD (.bool false) = .bool (lk L k).isSome := by
 cases hl : lk L k with
 | none => rfl
 | some v =>
   unfold lk at hl
   rw [Option.map_eq_some_iff] at hl
   obtain ⟨p, hp, rfl⟩ := hl
   rw [Option.getD_some, h p (List.mem_of_find?_eq_some hp)]; rfl
theorem allTrue_up {L : ML} (h : allTrue L) (k : Int) : allTrue (up L k (.bool true)) := by
 intro p hp
 unfold up at hp
 split at hp
 · rcases List.mem_or_eq_of_mem_set hp with hp | rfl
   · exact h p hp
   · rfl
 · rw [List.mem_append, List.mem_singleton] at hp
   rcases hp with hp | rfl
   · exact h p hp
   · rfl

theorem may_any {w : World} {S : Nat → Prop} {v : Value} {ws : List Wr} (h : WRow w S v ws) (hl : ws.length ≤ 1000) :
 Calls Tryz.prog 175 #[v] w fun e w' => e = .returned (.bool (mayRec ws)) ∧ Below w.heap.size w w' := by
 obtain ⟨a, cap, rfl, ha⟩ := RowG.slice h
 have hmm : ∀ w, (Instr.makeMap 34 none).run Tryz.prog w = .ok (.map (some w.heap.size)) (w.alloc (.map #[] 0)) := fun w => run_makeMap _ w
 have HW := Lib.hid (And.intro h ha)
 clear h ha
 go_enter Tryz.func175, Tryz.ntmps175
 go_wp2_with fail
 clear hmm
 have hM0 := MapI.made w
 have hB0 : Below w.heap.size w (w.alloc (.map #[] 0)) := grow_alloc (Below.refl _ _) _
 obtain ⟨m, hm⟩ : ∃ m, m = w.heap.size := ⟨_, rfl⟩
 obtain ⟨w1, hw1⟩ : ∃ w1, w1 = w.alloc (.map #[] 0) := ⟨_, rfl⟩
 rw [← hm, ← hw1]
 rw [← hm, ← hw1] at hM0
 rw [← hw1] at hB0
 have H1 := Lib.hid (And.intro hM0 (And.intro hB0 hm))
 clear hM0 hB0 hm hw1
 go_loopw [9] (fun i wr => ∃ (k : Nat) (L : ML), k ≤ ws.length ∧ i = .int .i64 k ∧ MapI wr m L ∧ (∀ y, y ∈ keysL L ↔ y ∈ (ws.take k).map (·.at_)) ∧ allTrue L ∧ L.length ≤ k ∧ (∀ i x, i < k → ws[i]? = some x → wrOk x = true ∧ freshWr (ws.take i) x = true) ∧ Below w.heap.size w wr) (fun i _ => ws.length - (Go.RowKit.intOf i).toNat)
 case atStart => exact ⟨0, [], Nat.zero_le _, rfl, H1.out.1, fun y => by simp [keysL], fun p hp => by simp at hp, Nat.le_refl _, fun i x hi => by omega, H1.out.2.1⟩
 case round =>
  obtain ⟨k, L, hk, rfl, hM, hL, hT, hLl, hok, hbel⟩ := hrel
  by_cases hlt : k < ws.length
  · obtain ⟨x, hx⟩ : ∃ x, ws[k]? = some x := ⟨_, List.getElem?_eq_getElem hlt⟩
    have hWr := WRow.below HW.out.1 hbel
    obtain ⟨g, cap', hf⟩ := RowG.form hWr (by omega)
    simp only [Value.slice.injEq] at hf
    obtain ⟨rfl, _, rfl⟩ := hf
    have hhas := WRow.has hWr hx
    have hrow := WRow.row hWr hx
    have hglt : g < wr.heap.size := RowG.lt hWr (g := g) rfl
    have hlti : (k : Int) < (ws.length : Int) := by omega
    have HX := Lib.hid (And.intro hM (And.intro hL (And.intro hT (And.intro hLl (And.intro hok (And.intro hbel hx))))))
    clear hM hL hT hLl hok hbel hWr hx
    go_upto_region 5 with fail
    have hxa := WrAt.new wr x
    have hB2 : Below wr.heap.size wr (wr.alloc (.cells x.cells 52)) := grow_alloc (Below.refl _ _) _
    obtain ⟨G, hG⟩ : ∃ G, G = wr.heap.size := ⟨_, rfl⟩
    obtain ⟨w2, hw2⟩ : ∃ w2, w2 = wr.alloc (.cells x.cells 52) := ⟨_, rfl⟩
    rw [← hG, ← hw2] at hxa ⊢
    rw [← hw2] at hB2
    have hM2 := HX.out.1.below hB2
    have k0 := hxa.c0
    have k1 := hxa.c1
    have hlk := run_lookupI (P := Tryz.prog) hM2 Tryz.underlying34 Tryz.underlying3 (zero_bool w2) x.at_ false
    have e2 := fresh_lk (x := x) HX.out.2.1
    simp only [Bool.false_eq_true, if_false] at hlk
    rw [allTrue_lk HX.out.2.2.1, e2] at hlk
    have H2 := Lib.hid (And.intro hB2 (And.intro hM2 hxa))
    have hnot := fun hb => wrsOk_not HX.out.2.2.2.2.2.2 hb
    have Hn := Lib.hid hnot
    have hfin : Below w.heap.size w w2 := HX.out.2.2.2.2.2.1.trans (hB2.mono HX.out.2.2.2.2.2.1.size)
    have Hf := Lib.hid hfin
    have hwo := wrOk_iff (x := x)
    obtain ⟨xa, xb⟩ := id x
    obtain ⟨ka, hka⟩ : ∃ ka, ka = x.at_ := ⟨_, rfl⟩
    obtain ⟨kk, hkk⟩ : ∃ kk, kk = x.b.kind := ⟨_, rfl⟩
    rw [← hka] at k0 hlk hwo
    rw [← hkk] at k1 hwo
    have Hka := Lib.hid (And.intro hka hkk)
    clear hG hw2 hxa hB2 hM2 e2 hnot hfin hka hkk hhas hrow hglt
    by_cases c1 : kk < 0
    · have Hw := Lib.hid (Hn.out (.inl (by cases h : wrOk x with | false => rfl | true => rw [hwo] at h; omega)))
      clear hwo
      go_wp2_with fail
      go_ret
      exact ⟨by rw [Hw.out]; rfl, Hf.out⟩
    by_cases c2 : 7 < kk
    · have Hw := Lib.hid (Hn.out (.inl (by cases h : wrOk x with | false => rfl | true => rw [hwo] at h; omega)))
      clear hwo
      go_wp2_with fail
      go_ret
      exact ⟨by rw [Hw.out]; rfl, Hf.out⟩
    by_cases c3 : ka < 0
    · have Hw := Lib.hid (Hn.out (.inl (by cases h : wrOk x with | false => rfl | true => rw [hwo] at h; omega)))
      clear hwo
      go_wp2_with fail
      go_ret
      exact ⟨by rw [Hw.out]; rfl, Hf.out⟩
    by_cases c4 : 200 ≤ ka
    · have Hw := Lib.hid (Hn.out (.inl (by cases h : wrOk x with | false => rfl | true => rw [hwo] at h; omega)))
      clear hwo
      go_wp2_with fail
      go_ret
      exact ⟨by rw [Hw.out]; rfl, Hf.out⟩
    have hgood : wrOk x = true := hwo.2 (by omega)
    have Hg := Lib.hid hgood
    clear hwo hgood
    cases hfr : freshWr (ws.take k) x with
    | false =>
      rw [hfr] at hlk
      have Hw := Lib.hid (Hn.out (.inr hfr))
      clear hfr
      go_wp2_with fail
      go_ret
      exact ⟨by rw [Hw.out]; rfl, Hf.out⟩
    | true =>
      rw [hfr] at hlk
      have Hfr := Lib.hid hfr
      clear hfr
      go_wp2_with (refine list_updateI rfl 34 3 4 _ _ _ rfl H2.out.2.1 Tryz.underlying34 Tryz.underlying3 rfl rfl (by omega) (by omega) rfl (by have := HX.out.2.2.2.1; omega) ?_; intro w3 hM3 hk3; replace hM3 : MapI w3 m (up L ka (.bool true)) := hM3)
      go_roundw
      case rel =>
       have hx := HX.out.2.2.2.2.2.2
       rw [Hka.out.1] at hM3
       refine ⟨k + 1, _, by omega, by go_num, hM3, fun y => by rw [keys_up, ats_take hx, HX.out.2.1], allTrue_up HX.out.2.2.1 _, by have := (up_length (L := L) (k := x.at_) (.bool true)).1; have := HX.out.2.2.2.1; omega, fun i y hi hy => ?_, Hf.out.trans (hk3.below (Hf.out.size) (fun q e => by rw [e, H1.out.2.2]; exact Nat.le_refl _))⟩
       by_cases e : i = k
       · subst e
         rw [hx] at hy
         obtain rfl := Option.some.inj hy
         exact ⟨Hg.out, Hfr.out⟩
       · exact HX.out.2.2.2.2.1 i y (by omega) hy
      case measure => simp [Go.RowKit.intOf]; omega
  · obtain rfl : k = ws.length := by omega
    have hall : wrsOk ws = true := wrsOk_iff.2 fun i x hx => hok i x (List.getElem?_eq_some_iff.1 hx).1 hx
    have hres : mayRec ws = (decide (1 ≤ ws.length) && decide (ws.length ≤ 12)) := by unfold mayRec; rw [hall, Bool.true_and]
    have Hr := Lib.hid (And.intro hres hbel)
    have hn : ¬ ((ws.length : Int) < (ws.length : Int)) := by omega
    clear hM hL hT hLl hok hbel hall hres
    by_cases c1 : 1 ≤ ws.length
    · have c1' : (1 : Int) ≤ (ws.length : Int) := by omega
      by_cases c2 : ws.length ≤ 12
      · have c2' : (ws.length : Int) ≤ 12 := by omega
        go_wp2_with fail
        go_ret
        exact ⟨by rw [Hr.out.1]; show Ending.returned (.bool _) = _; simp [c1, c2], Hr.out.2⟩
      · have c2' : ¬ ((ws.length : Int) ≤ 12) := by omega
        go_wp2_with fail
        go_ret
        exact ⟨by rw [Hr.out.1]; show Ending.returned (.bool _) = _; simp [c1, c2], Hr.out.2⟩
    · have c1' : ¬ ((1 : Int) ≤ (ws.length : Int)) := by omega
      go_wp2_with fail
      go_ret
      exact ⟨by rw [Hr.out.1]; show Ending.returned (.bool _) = _; simp [c1], Hr.out.2⟩
end
section
open Go.RowKit
attribute [local irreducible] Calls

theorem keys_lk {L : ML} (k : Int) : (lk L k).isSome = (keysL L).contains k := by
 cases h : lk L k with
 | none =>
   have : k ∉ keysL L := fun hk => by
    unfold lk at h
    rw [Option.map_eq_none_iff, List.find?_eq_none] at h
    unfold keysL at hk
    obtain ⟨p, hp, rfl⟩ := List.mem_map.1 hk
    exact h p hp (by simp)
   simpa using this
 | some v =>
   unfold lk at h
   rw [Option.map_eq_some_iff] at h
   obtain ⟨p, hp, rfl⟩ := h
   have h1 := List.find?_some hp
   have h2 := List.mem_of_find?_eq_some hp
   have : k ∈ keysL L := by
    unfold keysL
    exact List.mem_map.2 ⟨p, h2, by simpa using h1⟩
   simpa using this
def fileOk (n : Nd) : Bool := placesOk n.places && (decide (0 ≤ n.size) && decide (n.size ≤ 1120) && n.target.data.toList.isEmpty)
theorem file_any (n : Nd) (w : World) : Calls Tryz.prog 218 #[.agg n.cells] w fun e w' => e = .returned (.bool (fileOk n)) ∧ Below w.heap.size w w' := by
 have hB0 : Below w.heap.size w (w.alloc (.cells n.cells 165)) := grow_alloc (Below.refl _ _) _
 have ho : objAt (w.alloc (.cells n.cells 165)) w.heap.size = some (.cells n.cells 165 (0, 0)) := by rw [objAt_alloc, if_pos rfl]
 have hmm : ∀ w, (Instr.makeMap 34 none).run Tryz.prog w = .ok (.map (some w.heap.size)) (w.alloc (.map #[] 0)) := fun w => run_makeMap _ w
 obtain ⟨G, hG⟩ : ∃ G, G = w.heap.size := ⟨_, rfl⟩
 obtain ⟨w1, hw1⟩ : ∃ w1, w1 = w.alloc (.cells n.cells 165) := ⟨_, rfl⟩
 rw [← hw1] at hB0 ho
 rw [← hG] at ho
 have hM0 := MapI.made w1
 have hB1 : Below w1.heap.size w1 (w1.alloc (.map #[] 0)) := grow_alloc (Below.refl _ _) _
 obtain ⟨m, hm⟩ : ∃ m, m = w1.heap.size := ⟨_, rfl⟩
 obtain ⟨w2, hw2⟩ : ∃ w2, w2 = w1.alloc (.map #[] 0) := ⟨_, rfl⟩
 rw [← hw2] at hB1
 rw [← hm, ← hw2] at hM0
 have HP := Lib.hid (places_any n)
 have HG := Lib.hid (And.intro hG hw1)
 have HM := Lib.hid (And.intro hm hw2)
 clear hm hw2
 have H1 := Lib.hid (And.intro hB0 (And.intro ho (And.intro hM0 hB1)))
 clear hB0 hG hw1 hM0 hB1 ho
 go_enter Tryz.func218, Tryz.ntmps218
 go_upto_region 1 with fail
 rw [← HG.out.2, ← HG.out.1]
 go_upto_region 2 with fail
 clear hmm
 rw [← HM.out.2, ← HM.out.1]
 have ho2 := grow_obj H1.out.2.2.2 H1.out.2.1
 have hN := hasNd_obj ho2
 have hrow := rowAt_heap ho2
 clear ho2
 go_wp2_with (go_at_call 190; refine (HP.out _).mono ?_; rintro e w3 ⟨g, cap, rfl, hr, b3⟩)
 have H3 := Lib.hid (And.intro hr (And.intro b3 (And.intro (H1.out.2.2.1.below b3) (grow_obj (grow_trans H1.out.2.2.2 b3) H1.out.2.1))))
 have hbw : Below w.heap.size w w3 := H1.out.1.trans ((grow_trans H1.out.2.2.2 b3).mono H1.out.1.size)
 have hgm : g ≠ m := fun e => by
  obtain ⟨g', cap', e', hb, _⟩ := World.ownsRow.form hr (show 0 < n.places.length from Nat.zero_lt_succ 4)
  rw [Value.slice.injEq, Option.some.injEq, Addr.mk.injEq] at e'
  have := H1.out.2.2.1.lt
  omega
 have HW := Lib.hid (And.intro hbw hgm)
 clear hr b3 hN hrow hbw hgm
 go_loopw [10] (fun i wr => ∃ (k : Nat) (L : ML), k ≤ 5 ∧ i = .int .i64 k ∧ MapI wr m L ∧ (∀ y, y ∈ keysL L ↔ y ∈ n.places.take k ∧ y ≠ -1) ∧ allTrue L ∧ L.length ≤ k ∧ (∀ j, j < k → okNew (n.places.take j) (n.places.getD j 0) = true) ∧ Keeps (fun q => q = m) w3 wr) (fun i _ => 5 - (Go.RowKit.intOf i).toNat)
 case atStart => exact ⟨0, [], by decide, rfl, H3.out.2.2.1, fun y => by simp [keysL], fun p hp => by simp at hp, Nat.le_refl _, fun j hj => by omega, Keeps.refl _ _⟩
 case round =>
  obtain ⟨k, L, hk, rfl, hM, hL, hT, hLl, hok, hK⟩ := hrel
  by_cases hlt : k < 5
  · have hlti : (k : Int) < 5 := by omega
    obtain ⟨x, hx⟩ : ∃ x, n.places[k]? = some x := ⟨_, List.getElem?_eq_getElem hlt⟩
    have hgd : n.places.getD k 0 = x := by rw [List.getD_eq_getElem?_getD, hx]; rfl
    have hrr : IRow wr 0 (.slice (some ⟨g, 0, none⟩) 5 cap) n.places := IRow.mono (owns_keeps H3.out.1 hK (fun q hq e => by obtain rfl := Option.some.inj hq; exact HW.out.2 e)) (Nat.zero_le _)
    have hcx := IRow.at_ hrr hx
    have hlk := run_lookupI (P := Tryz.prog) hM Tryz.underlying34 Tryz.underlying3 (zero_bool wr) x false
    simp only [Bool.false_eq_true, if_false] at hlk
    rw [allTrue_lk hT] at hlk
    have hbad : okNew (n.places.take k) x = false → fileOk n = false := fun h => by
     unfold fileOk
     rw [placesOk_not (l := n.places) k hlt (by rw [hgd]; exact h), Bool.false_and]
    have hbw : Below w.heap.size w wr := HW.out.1.trans (hK.below HW.out.1.size (fun q e => by rw [e, HM.out.1]; exact H1.out.1.size))
    have HX := Lib.hid (And.intro hM (And.intro hL (And.intro hT (And.intro hLl (And.intro hok (And.intro hK (And.intro hx (And.intro hgd (And.intro hbad hbw)))))))))
    clear hM hL hT hLl hok hK hx hgd hbad hrr hbw
    by_cases hm1 : x = -1
    · subst hm1
      go_wp2_with fail
      go_roundw
      case rel =>
       refine ⟨k + 1, L, by omega, by go_num, HX.out.1, fun y => ?_, HX.out.2.2.1, by have := HX.out.2.2.2.1; omega, fun j hj => ?_, HX.out.2.2.2.2.2.1⟩
       · rw [HX.out.2.1]
         obtain ⟨hk', he⟩ := List.getElem?_eq_some_iff.1 HX.out.2.2.2.2.2.2.1
         rw [List.take_succ_eq_append_getElem hk', List.mem_append, List.mem_singleton, he]
         constructor
         · exact fun h => ⟨.inl h.1, h.2⟩
         · rintro ⟨h | h, h2⟩
           · exact ⟨h, h2⟩
           · exact absurd h h2
       · by_cases e : j = k
         · subst e; rw [HX.out.2.2.2.2.2.2.2.1]; rfl
         · exact HX.out.2.2.2.2.1 j (by omega)
      case measure => simp [Go.RowKit.intOf]; omega
    · have hm1' : (x == -1) = false := by simpa using hm1
      by_cases c1 : x < 1
      · have hf := HX.out.2.2.2.2.2.2.2.2.1 (by unfold okNew okAt; rw [hm1']; simp; omega)
        have Hf := Lib.hid hf
        clear hf hlk
        go_wp2_with fail
        go_ret
        exact ⟨by rw [Hf.out]; rfl, HX.out.2.2.2.2.2.2.2.2.2⟩
      · by_cases c2 : 200 ≤ x
        · have hf := HX.out.2.2.2.2.2.2.2.2.1 (by unfold okNew okAt; rw [hm1']; simp; omega)
          have Hf := Lib.hid hf
          clear hf hlk
          go_wp2_with fail
          go_ret
          exact ⟨by rw [Hf.out]; rfl, HX.out.2.2.2.2.2.2.2.2.2⟩
        · have hcon : (lk L x).isSome = (n.places.take k).contains x := by
           rw [keys_lk]
           have h1 := HX.out.2.1 x
           have : x ∈ keysL L ↔ x ∈ n.places.take k := by rw [h1]; exact ⟨fun h => h.1, fun h => ⟨h, hm1⟩⟩
           cases h : (n.places.take k).contains x with
           | true => simpa using this.2 (by simpa using h)
           | false => simpa using fun h' => absurd (this.1 h') (by simpa using h)
          have hokx : okNew (n.places.take k) x = !((n.places.take k).contains x) := by
           unfold okNew okAt; rw [hm1']; simp; omega
          rw [hcon] at hlk
          obtain ⟨cb, hcb⟩ : ∃ cb, cb = (n.places.take k).contains x := ⟨_, rfl⟩
          rw [← hcb] at hlk hokx
          have Ho := Lib.hid hokx
          clear hcon hokx hcb
          cases cb with
          | true =>
            have Hf := Lib.hid (HX.out.2.2.2.2.2.2.2.2.1 Ho.out)
            go_wp2_with fail
            go_ret
            exact ⟨by rw [Hf.out]; rfl, HX.out.2.2.2.2.2.2.2.2.2⟩
          | false =>
            go_wp2_with (refine list_updateI rfl 34 3 4 _ _ _ rfl HX.out.1 Tryz.underlying34 Tryz.underlying3 rfl rfl (by omega) (by omega) rfl (by have := HX.out.2.2.2.1; omega) ?_; intro w4 hM4 hk4; replace hM4 : MapI w4 m (up L x (.bool true)) := hM4)
            go_roundw
            case rel =>
             refine ⟨k + 1, _, by omega, by go_num, hM4, fun y => ?_, allTrue_up HX.out.2.2.1 _, by have := (up_length (L := L) (k := x) (.bool true)).1; have := HX.out.2.2.2.1; omega, fun j hj => ?_, HX.out.2.2.2.2.2.1.trans hk4⟩
             · rw [keys_up, HX.out.2.1]
               obtain ⟨hk', he⟩ := List.getElem?_eq_some_iff.1 HX.out.2.2.2.2.2.2.1
               rw [List.take_succ_eq_append_getElem hk', List.mem_append, List.mem_singleton, he]
               constructor
               · rintro (h | h)
                 · exact ⟨.inr h, by rw [h]; exact hm1⟩
                 · exact ⟨.inl h.1, h.2⟩
               · rintro ⟨h | h, h2⟩
                 · exact .inr ⟨h, h2⟩
                 · exact .inl h
             · by_cases e : j = k
               · subst e; rw [HX.out.2.2.2.2.2.2.2.1]; exact Ho.out
               · exact HX.out.2.2.2.2.1 j (by omega)
            case measure => simp [Go.RowKit.intOf]; omega
  · obtain rfl : k = 5 := by omega
    have hpl : placesOk n.places = true := placesOk_iff.2 fun j hj => hok j hj
    have hbw : Below w.heap.size w wr := HW.out.1.trans (hK.below HW.out.1.size (fun q e => by rw [e, HM.out.1]; exact H1.out.1.size))
    have hoG := hK.obj H3.out.2.2.2 (fun e => by have := HG.out.1; have := HM.out.1; have := H1.out.1.size; have := HG.out.2; have := block_lt H1.out.2.1; omega)
    have c2 : wr.cell? ⟨G, 2, none⟩ = some (.int .i64 n.size) := Nd.c n hoG 2
    have c8 : wr.cell? ⟨G, 8, none⟩ = some (.string n.target) := Nd.c n hoG 8
    have hres : fileOk n = (decide (0 ≤ n.size) && decide (n.size ≤ 1120) && n.target.data.toList.isEmpty) := by unfold fileOk; rw [hpl, Bool.true_and]
    have Hr := Lib.hid (And.intro hres hbw)
    clear hM hL hT hLl hok hK hpl hbw hoG hres
    obtain ⟨sz, hsz⟩ : ∃ sz, sz = n.size := ⟨_, rfl⟩
    rw [← hsz] at c2 Hr
    by_cases d1 : 0 ≤ sz
    · by_cases d2 : sz ≤ 1120
      · go_wp2_with fail
        go_ret
        exact ⟨by rw [Hr.out.1, decide_eq_true d1, decide_eq_true d2, ← ByteArray.toList_eq]; rfl, Hr.out.2⟩
      · go_wp2_with fail
        go_ret
        exact ⟨by rw [Hr.out.1, decide_eq_true d1, decide_eq_false (show ¬ sz ≤ 1120 by omega)]; rfl, Hr.out.2⟩
    · go_wp2_with fail
      go_ret
      exact ⟨by rw [Hr.out.1, decide_eq_false (show ¬ 0 ≤ sz by omega)]; rfl, Hr.out.2⟩
end
end Go.Proofs.YtbbnejehglonjaaGreat
set_option maxHeartbeats 8000000
set_option maxRecDepth 100000
set_option linter.unusedSimpArgs false
set_option linter.unusedVariables false
namespace Go.Proofs
open Go.Shelf
def Tryz.laysGw17_ren : Go.Shelf.Ren := ⟨fun | 17 => 224 | 15 => 235 | 20 => 238 | n => n, fun | 9 => 9 | 23 => 308 | 4 => 4 | 3 => 3 | 0 => 0 | 21 => 21 | n => n, fun | n => n⟩
theorem Tryz.laysGw17 : Go.Proofs.LaysGw.n17 Tryz.prog Tryz.laysGw17_ren := {
 mixed := by kernel_rfl
 f15 := Tryz.func235.trans (congrArg some (by kernel_rfl))
 f17 := Tryz.func224.trans (congrArg some (by kernel_rfl))
 f20 := Tryz.func238.trans (congrArg some (by kernel_rfl))
 t0 := Tryz.underlying0
 a0 := Tryz.isAgg0
 z0 := Tryz.sizeOf0
 v0 := Tryz.zeroValue0
 i0 := by kernel_rfl
 t3 := Tryz.underlying3
 a3 := Tryz.isAgg3
 z3 := Tryz.sizeOf3
 v3 := Tryz.zeroValue3
 i3 := by kernel_rfl
 t4 := Tryz.underlying4
 a4 := Tryz.isAgg4
 z4 := Tryz.sizeOf4
 v4 := Tryz.zeroValue4
 i4 := by kernel_rfl
 t9 := Tryz.underlying9
 a9 := Tryz.isAgg9
 z9 := Tryz.sizeOf9
 v9 := Tryz.zeroValue9
 i9 := by kernel_rfl
 t21 := Tryz.underlying21
 a21 := Tryz.isAgg21
 z21 := Tryz.sizeOf21
 v21 := Tryz.zeroValue21
 i21 := by kernel_rfl
 t23 := Tryz.underlying308
 a23 := Tryz.isAgg308
 z23 := Tryz.sizeOf308
 v23 := Tryz.zeroValue308
 i23 := by kernel_rfl }
open Go.RowKit Go.Lib in
theorem Tryz.strings_ContainsFunc (g : Nat) (lb : Array Value) (eg : ∀ args w, (callFunc g args).run Tryz.prog w = .ok (.enter g args) w) (p : Nat → Bool) (s : ByteArray) (w : World) (hp : PredAt Tryz.prog g lb encR p w) :
 Calls Tryz.prog 224 #[.string s, .func (.func g) #[] lb] w fun e w' => e = .returned (.bool (decide (0 ≤ Lib.idxFunc p true s))) ∧ Below w.heap.size w w' := Any.strings_ContainsFunc Tryz.laysGw17 g lb eg p s w hp
end Go.Proofs
namespace Go.Proofs.YtbbnejehglonjaaGreat
set_option maxHeartbeats 8000000
set_option maxRecDepth 100000
set_option linter.unusedSimpArgs false
set_option linter.unusedVariables false
section
open Go.RowKit

theorem idxFunc_any (p : Nat → Bool) (hp : ∀ r, 128 ≤ r → p r = true) (s : ByteArray) : ∀ (f pos : Nat), s.size - pos ≤ f → pos ≤ s.size →
 (decide (0 ≤ Lib.idxFuncFrom p true s f pos) = (s.data.toList.drop pos).any (fun c => p c.toNat)) := by
 intro f
 induction f with
 | zero =>
   intro pos h1 h2
   have : s.data.toList.drop pos = [] := List.drop_eq_nil_of_le (by have : s.data.toList.length = s.size := by simp
                                                                    omega)
   rw [this]; rfl
 | succ f ih =>
   intro pos h1 h2
   unfold Lib.idxFuncFrom
   by_cases hlt : pos < s.size
   · have hlen : s.data.toList.length = s.size := by simp
     have hdrop : s.data.toList.drop pos = s[pos]'hlt :: s.data.toList.drop (pos + 1) := by
      rw [List.drop_eq_getElem_cons (by omega)]; rfl
     rw [if_pos hlt, hdrop, List.any_cons]
     by_cases ha : (s[pos]'hlt).toNat < 128
     · rw [decode_ascii s pos hlt ha]
       by_cases hpp : p (s[pos]'hlt).toNat = true
       · rw [if_pos hpp, hpp]; simp
       · rw [if_neg hpp, ih (pos + 1) (by omega) (by omega)]
         simp only [Bool.not_eq_true] at hpp
         rw [hpp]; simp
     · have hh := decode_high s pos hlt (by omega)
       rw [if_pos (hp _ hh.1), hp _ (by omega : 128 ≤ (s[pos]'hlt).toNat)]
       simp
   · rw [if_neg hlt]
     have hlen : s.data.toList.length = s.size := by simp
     rw [List.drop_eq_nil_of_le (by omega)]; rfl

theorem idxFunc_bytes (p : Nat → Bool) (hp : ∀ r, 128 ≤ r → p r = true) (s : ByteArray) : decide (0 ≤ Lib.idxFunc p true s) = s.data.toList.any (fun c => p c.toNat) := by
 unfold Lib.idxFunc
 rw [idxFunc_any p hp s s.size 0 (by omega) (by omega), List.drop_zero]

end
section
open Go.RowKit
attribute [local irreducible] Calls

theorem sign_pred (w : World) : PredAt Tryz.prog 234 #[] encR badSign w := fun W r _ => by
 unfold FnGives
 by_cases h1 : r < 33
 · have z1 : (r : Int) < 33 := by omega
   go_enter Tryz.func234, Tryz.ntmps234
   go_wp2
   go_ret
   exact ⟨by simp [badSign, h1], 0, rfl⟩
 · have z1 : ¬ (r : Int) < 33 := by omega
   by_cases h2 : 126 < r
   · have z2 : (126 : Int) < (r : Int) := by omega
     go_enter Tryz.func234, Tryz.ntmps234
     go_wp2
     go_ret
     exact ⟨by simp [badSign, h1, h2], 0, rfl⟩
   · have z2 : ¬ (126 : Int) < (r : Int) := by omega
     go_enter Tryz.func234, Tryz.ntmps234
     go_wp2
     go_ret
     exact ⟨by simp [badSign, h1, h2], 0, rfl⟩
theorem badSign_high : ∀ r, 128 ≤ r → badSign r = true := fun r h => by simp [badSign]; omega
theorem sign_any (s : ByteArray) (w : World) (hs : s.size ≤ 1000000) : Calls Tryz.prog 220 #[.string s] w fun e w' => e = .returned (.bool (mayTarget s.data.toList)) ∧ Below w.heap.size w w' := by
 have hlen : s.data.toList.length = s.size := by simp
 by_cases h1 : 1 ≤ s.size
 · by_cases h2 : s.size ≤ 32
   · have hr : mayTarget s.data.toList = !(s.data.toList.any fun c => badSign c.toNat) := by
      unfold mayTarget; rw [decide_eq_true (by omega), decide_eq_true (by omega)]; simp
     have Hr := Lib.hid hr
     clear hr hlen
     go_enter Tryz.func220, Tryz.ntmps220
     go_wp2_with fail
     refine (Tryz.strings_ContainsFunc 234 #[] (fun _ _ => by kernel_rfl) badSign s _ (sign_pred _)).mono ?_
     rintro e w1 ⟨rfl, b1⟩
     rw [idxFunc_bytes badSign badSign_high s]
     generalize (s.data.toList.any fun c => badSign c.toNat) = bb at *
     go_wp2_with fail
     go_ret
     exact ⟨by rw [Hr.out]; rfl, b1⟩
   · have hr : mayTarget s.data.toList = false := by
      unfold mayTarget; rw [decide_eq_false (p := s.data.toList.length ≤ 32) (by omega)]; simp
     have Hr := Lib.hid hr
     clear hr hlen
     go_enter Tryz.func220, Tryz.ntmps220
     go_wp2_with fail
     go_ret
     exact ⟨by rw [Hr.out]; rfl, Below.refl _ _⟩
 · have hr : mayTarget s.data.toList = false := by
    unfold mayTarget; rw [decide_eq_false (p := 1 ≤ s.data.toList.length) (by omega)]; simp
   have Hr := Lib.hid hr
   clear hr hlen
   go_enter Tryz.func220, Tryz.ntmps220
   go_wp2_with fail
   go_ret
   exact ⟨by rw [Hr.out]; rfl, Below.refl _ _⟩
theorem none5_ok {l : List Int} (h : none5 l = true) : placesOk l = true := placesOk_iff.2 fun k hk => by
 have : l.getD k 0 = -1 := by
  rw [List.getD_eq_getElem?_getD, List.getElem?_eq_getElem hk, Option.getD_some]
  simpa using List.all_eq_true.1 h _ (List.getElem_mem hk)
 rw [this]; rfl
theorem mayNode_file {kind : Int} {n : Nd} (h : 1 ≤ n.gen ∧ 0 ≤ n.links ∧ n.links ≤ 1000) (hk : kind = 1) : mayNode kind n = fileOk n := by
 unfold mayNode kindOk fileOk
 rw [decide_eq_true h.1, decide_eq_true h.2.1, decide_eq_true h.2.2, if_pos hk]; rfl
theorem mayNode_dir {kind : Int} {n : Nd} (h : 1 ≤ n.gen ∧ 0 ≤ n.links ∧ n.links ≤ 1000) (hk : kind = 2) : mayNode kind n = (decide (n.size = 0) && none5 n.places && n.target.data.toList.isEmpty && decide (n.links ≤ 1)) := by
 unfold mayNode kindOk
 rw [decide_eq_true h.1, decide_eq_true h.2.1, decide_eq_true h.2.2, if_neg (by omega), if_pos hk]
 cases hn : none5 n.places with
 | true => rw [none5_ok hn]; simp
 | false => simp
theorem mayNode_sign {kind : Int} {n : Nd} (h : 1 ≤ n.gen ∧ 0 ≤ n.links ∧ n.links ≤ 1000) (hk : kind = 3) : mayNode kind n = (mayTarget n.target.data.toList && decide (n.size = n.target.size) && none5 n.places) := by
 unfold mayNode kindOk
 rw [decide_eq_true h.1, decide_eq_true h.2.1, decide_eq_true h.2.2, if_neg (by omega), if_neg (by omega), if_pos hk]
 cases hn : none5 n.places with
 | true => rw [none5_ok hn]; simp
 | false => simp
theorem mayNode_no {kind : Int} {n : Nd} (h : n.gen < 1 ∨ n.links < 0 ∨ 1000 < n.links ∨ (kind ≠ 1 ∧ kind ≠ 2 ∧ kind ≠ 3)) : mayNode kind n = false := by
 unfold mayNode kindOk
 rcases h with h | h | h | ⟨h1, h2, h3⟩
 · rw [decide_eq_false (by omega)]; simp
 · rw [decide_eq_false (p := 0 ≤ n.links) (by omega)]; simp
 · rw [decide_eq_false (p := n.links ≤ 1000) (by omega)]; simp
 · rw [if_neg h1, if_neg h2, if_neg h3]; simp
end
end Go.Proofs.YtbbnejehglonjaaGreat
