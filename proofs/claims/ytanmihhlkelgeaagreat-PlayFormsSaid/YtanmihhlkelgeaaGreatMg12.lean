/- DERIVED. Contracts and laws that the proofs of this seat share, part 12 of 32: LibO RcA RcB RcC. -/
import Derived.Test.YtanmihhlkelgeaaGreatLibNM
import Derived.Test.YtanmihhlkelgeaaGreatMg06
import Derived.Test.YtanmihhlkelgeaaGreatMg07
import Derived.Test.YtanmihhlkelgeaaGreatMg11
/- DERIVED. Maps with small whole numbers as keys: an entry is made, and stored into. -/
namespace Go.Proofs.YtanmihhlkelgeaaGreat
open Go.RowKit Go.ChangeMaps
set_option maxRecDepth 100000

/-- The entry of a key. -/
def EntryAt (w : World) (m : Nat) (k : Int) (stamp : Nat) : Prop := ∃ es clock j, objAt w m = some (.map es clock) ∧ ∃ h : j < es.size, es[j].born = stamp ∧ es[j].key = .int .i64 k
section
variable {P : Program}
theorem run_entryI {w : World} {t kt et m : Nat} {L : ML} (h : MapI w m L) (ht : P.underlying t = some (.map kt et)) (hk : P.underlying kt = some (.int .i64)) (k : Int) (hk0 : 0 ≤ k) (hk1 : k < 1000000) {z : Value} (hz : (zeroValue et).run P w = .ok z w) (hl : L.length < 1000000) :
    ∃ w' v stamp, (Instr.mapEntry t (.map (some m)) (.int .i64 k)).run P w = .ok (.tuple #[v, .int .i64 (stamp : Nat)]) w' ∧ (∃ v', MapI w' m (up L k v')) ∧ EntryAt w' m k stamp ∧ Keeps (fun g => g = m) w w' := by
  obtain ⟨es, clock, h1, h2, h3⟩ := h.ex
  have hc : ∀ b, (Instr.checkKey b 10000 kt (.int .i64 k)).run P w = .ok () w := fun b => MapKept.run_checkKey (k := .int .i64 k) hk (by simp [MapKept.IsKey]) b 9999
  have hf := MapKept.run_findKey (w := w) hk (findNow_int k L es.toList 0 h2)
  have hg := MapKept.run_getObj_map (P := P) (objAt_heap h1)
  have hr : ∀ v, ∀ x ∈ keysL (up L k v), 0 ≤ x ∧ x < 1000000 := fun v x hx => by
    rcases (keys_up v x).1 hx with rfl | hx
    · exact ⟨hk0, hk1⟩
    · exact h.range x hx
  cases hi : L.findIdx? (fun p => p.1 == k) with
  | none =>
    have hnk : k ∉ keysL L := by
      intro hm
      rw [List.findIdx?_eq_none_iff] at hi
      obtain ⟨p, hp, e⟩ := List.mem_map.1 hm
      have := hi p hp
      rw [e] at this; simp at this
    rw [hi] at hf
    have hup := up_none hnk z
    have hs := MapI.set h (up L k z) (es.push { key := .int .i64 k, val := z, born := clock }) (clock + 1) (by rw [hup]; simp [h2]) ⟨?_, ?_, ?_⟩ (hr z) (by have := (up_length (L := L) (k := k) z).1; omega)
    · refine ⟨_, z, clock, ?_, ⟨z, hs.1⟩, ⟨_, _, es.size, heap_setBlock_same (objAt_heap h1) _, by simp, by simp, by simp⟩, hs.2⟩
      simp [Instr.mapEntry, run_underlying ht, hg, hc, hf, hz, MapKept.run_setObj_map _ (objAt_heap h1), Result.andThen, setBlock, goInt]
    · intro x hx
      simp only [Array.toList_push, List.mem_append, List.mem_singleton] at hx
      rcases hx with hx | rfl
      · have := h3.1 x hx; omega
      · show clock < clock + 1; omega
    · simp only [Array.toList_push, List.map_append, List.map_cons, List.map_nil]
      rw [List.nodup_append]
      refine ⟨h3.2.1, by simp, fun a ha b hb e => ?_⟩
      simp only [List.mem_singleton] at hb
      obtain ⟨x, hx, rfl⟩ := List.mem_map.1 ha
      have := h3.1 x hx
      omega
    · simp only [Array.toList_push, List.map_append, List.map_cons, List.map_nil]
      rw [List.nodup_append]
      refine ⟨h3.2.2, by simp, fun a ha b hb e => ?_⟩
      simp only [List.mem_singleton] at hb
      subst hb; subst e
      have e2 : es.toList.map (·.key) = (keysL L).map (Value.int .i64) := by
        have := congrArg (List.map Prod.fst) h2
        simpa [keysL, Function.comp_def] using this
      rw [e2] at ha
      obtain ⟨x, hx, e3⟩ := List.mem_map.1 ha
      simp only [Value.int.injEq, true_and] at e3
      subst e3
      exact hnk hx
  | some j =>
    obtain ⟨hj, e1, hlk⟩ := idx_spec hi
    have hup := up_some hi L[j].2
    rw [hi] at hf
    simp only [Option.bind_some, List.getElem?_eq_getElem hj, Option.map_some, Nat.zero_add] at hf
    have hjs : j < es.toList.length := by have := congrArg List.length h2; simp only [List.length_map] at this; omega
    have hjs' : j < es.size := by simpa using hjs
    have hkv : (es.toList[j].key, es.toList[j].val) = (.int .i64 k, L[j].2) := by
      have := congrArg (fun l => l[j]?) h2
      simp only [List.getElem?_map, List.getElem?_eq_getElem hjs, List.getElem?_eq_getElem hj, Option.map_some, Option.some.injEq] at this
      rw [this, e1]
    have hkey' : es[j].key = .int .i64 k := by have := congrArg Prod.fst hkv; simpa using this
    have hmod : (es.modify j fun e => { e with key := .int .i64 k }) = es := by
      apply Array.ext
      · simp
      · intro i h5 h6
        rw [Array.getElem_modify]
        split
        · rename_i e; subst e; cases hx : es[j]; rw [hx] at hkey'; simp at hkey'; simp [hkey']
        · rfl
    have hsame : up L k L[j].2 = L := by
      rw [hup, ← e1]
      apply List.ext_getElem
      · simp
      · intro i h5 h6
        rw [List.getElem_set]
        split
        · rename_i e; subst e; rfl
        · rfl
    refine ⟨setBlock w m (.map es clock), L[j].2, es[j].born, ?_, ⟨L[j].2, by rw [hsame]; exact (MapI.set h L es clock h2 h3 h.range h.small).1⟩, ⟨es, clock, j, heap_setBlock_same (objAt_heap h1) _, hjs', rfl, hkey'⟩, (MapI.set h L es clock h2 h3 h.range h.small).2⟩
    have hst : (Instr.keyThatStays (.int .i64 k) (.int .i64 k)).run P w = .ok (.int .i64 k) w := by simp [Instr.keyThatStays, Instr.sameBits]
    simp [Instr.mapEntry, run_underlying ht, hg, hc, hf, hjs', hkey', hst, hmod, MapKept.run_setObj_map _ (objAt_heap h1), Result.andThen, setBlock, goInt]
theorem run_entryStoreI {w : World} {t m : Nat} {L : ML} (h : MapI w m L) {k : Int} {stamp : Nat} (he : EntryAt w m k stamp) (hkm : k ∈ keysL L) (v : Value) :
    ∃ w', (Instr.entryStore t (.map (some m)) (.int .i64 stamp) v).run P w = .ok () w' ∧ MapI w' m (up L k v) ∧ Keeps (fun g => g = m) w w' := by
  obtain ⟨es, clock, h1, h2, h3⟩ := h.ex
  obtain ⟨es', clock', j, h1', hj, hb, hkey⟩ := he
  rw [h1] at h1'
  simp only [Option.some.injEq, Obj.map.injEq] at h1'
  obtain ⟨rfl, rfl⟩ := h1'
  have hg := MapKept.run_getObj_map (P := P) (objAt_heap h1)
  have hlen : es.toList.length = L.length := by have := congrArg List.length h2; simpa using this
  have hjL : j < L.length := by rw [← hlen]; simpa using hj
  have hLk : L[j].1 = k := by
    have := congrArg (fun l => l[j]?) h2
    simp only [List.getElem?_map, List.getElem?_eq_getElem (show j < es.toList.length by simpa using hj), List.getElem?_eq_getElem hjL, Option.map_some, Option.some.injEq, Prod.mk.injEq, Array.getElem_toList] at this
    have h4 := this.1
    rw [hkey] at h4
    simp only [Value.int.injEq, true_and] at h4
    exact h4.symm
  have hidx : L.findIdx? (fun p => p.1 == k) = some j := by
    rw [List.findIdx?_eq_some_iff_getElem]
    refine ⟨hjL, by simpa using hLk, fun i hi => ?_⟩
    simp only [beq_iff_eq]
    intro e
    have hn := h.nodup
    have := (List.pairwise_iff_getElem.1 hn) i j (by simp [keysL]; omega) (by simpa [keysL] using hjL) hi
    simp only [keysL, List.getElem_map, ne_eq] at this
    exact this (e.trans hLk.symm)
  have hfind : es.findIdx? (fun e => (e.born : Int) == (stamp : Int)) = some j := by
    rw [Array.findIdx?_eq_some_iff_getElem]
    refine ⟨hj, by simp [hb], fun i hi => ?_⟩
    have hn := h3.2.1
    have := (List.pairwise_iff_getElem.1 hn) i j (by simp; omega) (by simpa using hj) hi
    simp only [List.getElem_map, Array.getElem_toList, ne_eq] at this
    simp only [beq_iff_eq]
    intro e
    exact this (by rw [hb]; omega)
  have hmod : (es.modify j fun e => { e with val := v }).toList = es.toList.set j { es.toList[j]'(by simpa using hj) with val := v } := by
    apply List.ext_getElem
    · simp
    · intro i h5 h6
      simp only [Array.getElem_toList, Array.getElem_modify, List.getElem_set]
      by_cases e : j = i
      · subst e; simp
      · simp [e]
  have hs := MapI.set h (up L k v) (es.modify j fun e => { e with val := v }) clock (by
    rw [up_some hidx v, hmod, List.map_set, List.map_set, h2]
    simp only [Array.getElem_toList, hkey]) ⟨?_, ?_, ?_⟩ (fun x hx => by
      rcases (keys_up v x).1 hx with rfl | hx
      · exact h.range _ hkm
      · exact h.range x hx) (by rw [up_some hidx v, List.length_set]; exact h.small)
  · refine ⟨_, ?_, hs⟩
    simp [Instr.entryStore, hg, asInt, asIntOf, hfind, MapKept.run_setObj_map _ (objAt_heap h1), Result.andThen, setBlock]
  · intro x hx
    rw [hmod] at hx
    rcases List.mem_or_eq_of_mem_set hx with hx | rfl
    · exact h3.1 x hx
    · exact h3.1 (es.toList[j]'(by simpa using hj)) (List.getElem_mem _)
  · rw [hmod, List.map_set]
    have : (es.toList.map (·.born)).set j (es.toList[j]'(by simpa using hj)).born = es.toList.map (·.born) := by
      apply List.ext_getElem
      · simp
      · intro i h5 h6
        rw [List.getElem_set]
        split
        · rename_i e; subst e; simp
        · rfl
    show ((es.toList.map (·.born)).set j (es.toList[j]'(by simpa using hj)).born).Nodup
    rw [this]; exact h3.2.1
  · rw [hmod, List.map_set]
    have : (es.toList.map (·.key)).set j (es.toList[j]'(by simpa using hj)).key = es.toList.map (·.key) := by
      apply List.ext_getElem
      · simp
      · intro i h5 h6
        rw [List.getElem_set]
        split
        · rename_i e; subst e; simp
        · rfl
    show ((es.toList.map (·.key)).set j (es.toList[j]'(by simpa using hj)).key).Nodup
    rw [this]; exact h3.2.2
theorem up_up {L : ML} {k : Int} (v v' : Value) : up (up L k v) k v' = up L k v' := by
  cases hi : L.findIdx? (fun p => p.1 == k) with
  | none =>
    have hk : k ∉ keysL L := fun h => by
      rw [List.findIdx?_eq_none_iff] at hi
      obtain ⟨p, hp, e⟩ := List.mem_map.1 h
      have := hi p hp
      rw [e] at this; simp at this
    have h2 : (L ++ [(k, v)]).findIdx? (fun p => p.1 == k) = some L.length := by
      rw [List.findIdx?_append, hi]
      simp [List.findIdx?_cons]
    rw [up_none hk v, up_none hk v', up_some h2]
    simp
  | some j =>
    obtain ⟨hj, e1, _⟩ := idx_spec hi
    have h2 : (L.set j (k, v)).findIdx? (fun p => p.1 == k) = some j := by
      rw [List.findIdx?_eq_some_iff_getElem] at hi ⊢
      obtain ⟨_, _, h3⟩ := hi
      refine ⟨by simpa using hj, by simp, fun i hij => ?_⟩
      rw [List.getElem_set_ne (by omega)]
      exact h3 i hij
    rw [up_some hi v, up_some hi v', up_some h2]
    simp
variable {ops : Array Oper} {o : Oper} {a b0 : Act} {w : World} {K : Act → World → Prop} {Q : Exit → Act → World → Prop} {F : Prop}
theorem wp_entryI (t kt et : TypeId) (x y : Operand) (ho : o.op = .mapEntry t x y) {m : Nat} {L : ML} (h : MapI w m L) (ht : P.underlying t = some (.map kt et)) (hk : P.underlying kt = some (.int .i64)) {z : Value} (hz : (zeroValue et).run P w = .ok z w) (hx : a.eval x = .map (some m)) {k : Int} (hy : a.eval y = .int .i64 k) (h0 : 0 ≤ k) (h1 : k < 1000000)
    (hl : L.length < 1000000) (hK : ∀ w' v v' stamp, MapI w' m (up L k v') → EntryAt w' m k stamp → Keeps (fun g => g = m) w w' → K (a.put o.dst (.tuple #[v, .int .i64 (stamp : Nat)])) w') : o.wp P a w K Q := by
  obtain ⟨w', v, stamp, hr, ⟨v', h2⟩, h3, h4⟩ := run_entryI h ht hk k h0 h1 hz hl
  unfold Oper.wp execOp
  simp only [ho, hx, hy, Sem.run_bind]
  rw [hr]
  exact hK w' v v' stamp h2 h3 h4
theorem wp_entryStoreI (t : TypeId) (x y u : Operand) (ho : o.op = .entryStore t x y u) {m : Nat} {L : ML} (h : MapI w m L) {k : Int} {stamp : Nat} (he : EntryAt w m k stamp) (hkm : k ∈ keysL L) (hx : a.eval x = .map (some m)) (hy : a.eval y = .int .i64 (stamp : Nat)) {v : Value} (hu : a.eval u = v)
    (hK : ∀ w', MapI w' m (up L k v) → Keeps (fun g => g = m) w w' → K (a.put o.dst undef) w') : o.wp P a w K Q := by
  obtain ⟨w', hr, h2, h3⟩ := run_entryStoreI (P := P) (t := t) h he hkm v
  unfold Oper.wp execOp
  simp only [ho, hx, hy, hu, Sem.run_bind]
  rw [hr]
  exact hK w' h2 h3
end
end Go.Proofs.YtanmihhlkelgeaaGreat

/- DERIVED. Contract of rec.may. -/
namespace Go.Proofs.YtanmihhlkelgeaaGreat
open Go.RowKit
attribute [local irreducible] Calls
set_option maxRecDepth 100000

/-- May a write be, as such; behind others; may a record. -/
def wrOk (x : Wr) : Bool := decide (0 ≤ x.b.kind) && decide (x.b.kind ≤ 7) && decide (0 ≤ x.at_) && decide (x.at_ < 200)
def freshWr (pre : List Wr) (x : Wr) : Bool := !(pre.any fun y => y.at_ == x.at_)
def wrsOk (ws : List Wr) : Bool := (List.range ws.length).all fun i => (ws[i]?).all fun x => wrOk x && freshWr (ws.take i) x
def mayRec (ws : List Wr) : Bool := wrsOk ws && decide (1 ≤ ws.length) && decide (ws.length ≤ 12)
theorem wrOk_iff {x : Wr} : wrOk x = true ↔ 0 ≤ x.b.kind ∧ x.b.kind ≤ 7 ∧ 0 ≤ x.at_ ∧ x.at_ < 200 := by simp [wrOk, and_assoc]
theorem wrsOk_not {ws : List Wr} {i : Nat} {x : Wr} (h : ws[i]? = some x) (hb : wrOk x = false ∨ freshWr (ws.take i) x = false) : mayRec ws = false := by
  have : wrsOk ws = false := by
    unfold wrsOk
    rw [List.all_eq_false]
    refine ⟨i, List.mem_range.2 (List.getElem?_eq_some_iff.1 h).1, ?_⟩
    rw [h]
    rcases hb with hb | hb <;> simp [hb]
  simp [mayRec, this]
theorem wrsOk_iff {ws : List Wr} : wrsOk ws = true ↔ ∀ i x, ws[i]? = some x → wrOk x = true ∧ freshWr (ws.take i) x = true := by
  unfold wrsOk
  rw [List.all_eq_true]
  constructor
  · intro h i x hi
    have := h i (List.mem_range.2 (List.getElem?_eq_some_iff.1 hi).1)
    rw [hi] at this
    simpa using this
  · intro h i hi
    cases hx : ws[i]? with
    | none => rfl
    | some x => have := h i x hx; simp [this]
theorem ats_take {ws : List Wr} {k : Nat} {x : Wr} (h : ws[k]? = some x) (y : Int) : y ∈ (ws.take (k + 1)).map (·.at_) ↔ y = x.at_ ∨ y ∈ (ws.take k).map (·.at_) := by
  obtain ⟨hk, rfl⟩ := List.getElem?_eq_some_iff.1 h
  rw [List.take_succ_eq_append_getElem hk, List.map_append, List.mem_append]
  simp [or_comm]
theorem fresh_lk {ws : List Wr} {L : ML} {k : Nat} {x : Wr} (hL : ∀ y, y ∈ keysL L ↔ y ∈ (ws.take k).map (·.at_)) : (lk L x.at_).isSome = !freshWr (ws.take k) x := by
  unfold freshWr
  rw [Bool.not_not]
  cases h : lk L x.at_ with
  | none =>
    have := lk_none.1 h
    rw [hL] at this
    symm
    simp only [Option.isSome_none]
    rw [List.any_eq_false]
    intro y hy e
    exact this (List.mem_map.2 ⟨y, hy, by simpa using e⟩)
  | some v =>
    have : x.at_ ∈ keysL L := by
      by_cases hm : x.at_ ∈ keysL L
      · exact hm
      · rw [lk_none.2 hm] at h; cases h
    rw [hL] at this
    obtain ⟨y, hy, e⟩ := List.mem_map.1 this
    symm
    simp only [Option.isSome_some]
    exact List.any_eq_true.2 ⟨y, hy, by simpa using e⟩
/-- All that a set of places holds is true. -/
def allTrue (L : ML) : Prop := ∀ p ∈ L, p.2 = .bool true
theorem allTrue_lk {L : ML} (h : allTrue L) (k : Int) : (lk L k).getD (.bool false) = .bool (lk L k).isSome := by
  cases hl : lk L k with
  | none => rfl
  | some v =>
    unfold lk at hl
    rw [Option.map_eq_some_iff] at hl
    obtain ⟨p, hp, rfl⟩ := hl
    rw [Option.getD_some, h p (List.mem_of_find?_eq_some hp)]; rfl
theorem allTrue_up {L : ML} (h : allTrue L) (k : Int) : allTrue (up L k (.bool true)) := by
  intro p hp
  unfold up at hp
  split at hp
  · rcases List.mem_or_eq_of_mem_set hp with hp | rfl
    · exact h p hp
    · rfl
  · rw [List.mem_append, List.mem_singleton] at hp
    rcases hp with hp | rfl
    · exact h p hp
    · rfl

set_option maxHeartbeats 4000000 in
theorem may_any {w : World} {S : Nat → Prop} {v : Value} {ws : List Wr} (h : WRow w S v ws) (hl : ws.length ≤ 1000) :
    Calls Tryz.prog 180 #[v] w fun e w' => e = .returned (.bool (mayRec ws)) ∧ Below w.heap.size w w' := by
  obtain ⟨a, cap, rfl, ha⟩ := RowG.slice h
  have hmm : ∀ w, (Instr.makeMap 176 none).run Tryz.prog w = .ok (.map (some w.heap.size)) (w.alloc (.map #[] 0)) := fun w => run_makeMap _ w
  have HW := Lib.hid (And.intro h ha)
  clear h ha
  go_enter Tryz.func180, Tryz.ntmps180
  go_wp2_with fail
  clear hmm
  have hM0 := MapI.made w
  have hB0 : Below w.heap.size w (w.alloc (.map #[] 0)) := grow_alloc (Below.refl _ _) _
  obtain ⟨m, hm⟩ : ∃ m, m = w.heap.size := ⟨_, rfl⟩
  obtain ⟨w1, hw1⟩ : ∃ w1, w1 = w.alloc (.map #[] 0) := ⟨_, rfl⟩
  rw [← hm, ← hw1]
  rw [← hm, ← hw1] at hM0
  rw [← hw1] at hB0
  have H1 := Lib.hid (And.intro hM0 (And.intro hB0 hm))
  clear hM0 hB0 hm hw1
  go_loopw [9] (fun i wr => ∃ (k : Nat) (L : ML), k ≤ ws.length ∧ i = .int .i64 k ∧ MapI wr m L ∧ (∀ y, y ∈ keysL L ↔ y ∈ (ws.take k).map (·.at_)) ∧ allTrue L ∧ L.length ≤ k ∧ (∀ i x, i < k → ws[i]? = some x → wrOk x = true ∧ freshWr (ws.take i) x = true) ∧ Below w.heap.size w wr) (fun i _ => ws.length - (Go.RowKit.intOf i).toNat)
  case atStart => exact ⟨0, [], Nat.zero_le _, rfl, H1.out.1, fun y => by simp [keysL], fun p hp => by simp at hp, Nat.le_refl _, fun i x hi => by omega, H1.out.2.1⟩
  case round =>
    obtain ⟨k, L, hk, rfl, hM, hL, hT, hLl, hok, hbel⟩ := hrel
    by_cases hlt : k < ws.length
    · obtain ⟨x, hx⟩ : ∃ x, ws[k]? = some x := ⟨_, List.getElem?_eq_getElem hlt⟩
      have hWr := WRow.below HW.out.1 hbel
      obtain ⟨g, cap', hf⟩ := RowG.form hWr (by omega)
      simp only [Value.slice.injEq] at hf
      obtain ⟨rfl, _, rfl⟩ := hf
      have hhas := WRow.has hWr hx
      have hrow := WRow.row hWr hx
      have hglt : g < wr.heap.size := RowG.lt hWr (g := g) rfl
      have hlti : (k : Int) < (ws.length : Int) := by omega
      have HX := Lib.hid (And.intro hM (And.intro hL (And.intro hT (And.intro hLl (And.intro hok (And.intro hbel hx))))))
      clear hM hL hT hLl hok hbel hWr hx
      go_upto_region 5 with fail
      have hxa := WrAt.new wr x
      have hB2 : Below wr.heap.size wr (wr.alloc (.cells x.cells 231)) := grow_alloc (Below.refl _ _) _
      obtain ⟨G, hG⟩ : ∃ G, G = wr.heap.size := ⟨_, rfl⟩
      obtain ⟨w2, hw2⟩ : ∃ w2, w2 = wr.alloc (.cells x.cells 231) := ⟨_, rfl⟩
      rw [← hG, ← hw2] at hxa ⊢
      rw [← hw2] at hB2
      have hM2 := HX.out.1.below hB2
      have k0 := hxa.c0
      have k1 := hxa.c1
      have hlk := run_lookupI (P := Tryz.prog) hM2 Tryz.underlying176 Tryz.underlying3 (zero_bool w2) x.at_ false
      have e2 := fresh_lk (x := x) HX.out.2.1
      simp only [Bool.false_eq_true, if_false] at hlk
      rw [allTrue_lk HX.out.2.2.1, e2] at hlk
      have H2 := Lib.hid (And.intro hB2 (And.intro hM2 hxa))
      have hnot := fun hb => wrsOk_not HX.out.2.2.2.2.2.2 hb
      have Hn := Lib.hid hnot
      have hfin : Below w.heap.size w w2 := HX.out.2.2.2.2.2.1.trans (hB2.mono HX.out.2.2.2.2.2.1.size)
      have Hf := Lib.hid hfin
      have hwo := wrOk_iff (x := x)
      obtain ⟨xa, xb⟩ := id x
      obtain ⟨ka, hka⟩ : ∃ ka, ka = x.at_ := ⟨_, rfl⟩
      obtain ⟨kk, hkk⟩ : ∃ kk, kk = x.b.kind := ⟨_, rfl⟩
      rw [← hka] at k0 hlk hwo
      rw [← hkk] at k1 hwo
      have Hka := Lib.hid (And.intro hka hkk)
      clear hG hw2 hxa hB2 hM2 e2 hnot hfin hka hkk hhas hrow hglt
      by_cases c1 : kk < 0
      · have Hw := Lib.hid (Hn.out (.inl (by cases h : wrOk x with | false => rfl | true => rw [hwo] at h; omega)))
        clear hwo
        go_wp2_with fail
        go_ret
        exact ⟨by rw [Hw.out]; rfl, Hf.out⟩
      by_cases c2 : 7 < kk
      · have Hw := Lib.hid (Hn.out (.inl (by cases h : wrOk x with | false => rfl | true => rw [hwo] at h; omega)))
        clear hwo
        go_wp2_with fail
        go_ret
        exact ⟨by rw [Hw.out]; rfl, Hf.out⟩
      by_cases c3 : ka < 0
      · have Hw := Lib.hid (Hn.out (.inl (by cases h : wrOk x with | false => rfl | true => rw [hwo] at h; omega)))
        clear hwo
        go_wp2_with fail
        go_ret
        exact ⟨by rw [Hw.out]; rfl, Hf.out⟩
      by_cases c4 : 200 ≤ ka
      · have Hw := Lib.hid (Hn.out (.inl (by cases h : wrOk x with | false => rfl | true => rw [hwo] at h; omega)))
        clear hwo
        go_wp2_with fail
        go_ret
        exact ⟨by rw [Hw.out]; rfl, Hf.out⟩
      have hgood : wrOk x = true := hwo.2 (by omega)
      have Hg := Lib.hid hgood
      clear hwo hgood
      cases hfr : freshWr (ws.take k) x with
      | false =>
        rw [hfr] at hlk
        have Hw := Lib.hid (Hn.out (.inr hfr))
        clear hfr
        go_wp2_with fail
        go_ret
        exact ⟨by rw [Hw.out]; rfl, Hf.out⟩
      | true =>
        rw [hfr] at hlk
        have Hfr := Lib.hid hfr
        clear hfr
        go_wp2_with (refine list_updateI rfl 176 3 4 _ _ _ rfl H2.out.2.1 Tryz.underlying176 Tryz.underlying3 rfl rfl (by omega) (by omega) rfl (by have := HX.out.2.2.2.1; omega) ?_; intro w3 hM3 hk3; replace hM3 : MapI w3 m (up L ka (.bool true)) := hM3)
        go_roundw
        case rel =>
          have hx := HX.out.2.2.2.2.2.2
          rw [Hka.out.1] at hM3
          refine ⟨k + 1, _, by omega, by go_num, hM3, fun y => by rw [keys_up, ats_take hx, HX.out.2.1], allTrue_up HX.out.2.2.1 _, by have := (up_length (L := L) (k := x.at_) (.bool true)).1; have := HX.out.2.2.2.1; omega, fun i y hi hy => ?_, Hf.out.trans (hk3.below (Hf.out.size) (fun q e => by rw [e, H1.out.2.2]; exact Nat.le_refl _))⟩
          by_cases e : i = k
          · subst e
            rw [hx] at hy
            obtain rfl := Option.some.inj hy
            exact ⟨Hg.out, Hfr.out⟩
          · exact HX.out.2.2.2.2.1 i y (by omega) hy
        case measure => simp [Go.RowKit.intOf]; omega
    · obtain rfl : k = ws.length := by omega
      have hall : wrsOk ws = true := wrsOk_iff.2 fun i x hx => hok i x (List.getElem?_eq_some_iff.1 hx).1 hx
      have hres : mayRec ws = (decide (1 ≤ ws.length) && decide (ws.length ≤ 12)) := by unfold mayRec; rw [hall, Bool.true_and]
      have Hr := Lib.hid (And.intro hres hbel)
      have hn : ¬ ((ws.length : Int) < (ws.length : Int)) := by omega
      clear hM hL hT hLl hok hbel hall hres
      by_cases c1 : 1 ≤ ws.length
      · have c1' : (1 : Int) ≤ (ws.length : Int) := by omega
        by_cases c2 : ws.length ≤ 12
        · have c2' : (ws.length : Int) ≤ 12 := by omega
          go_wp2_with fail
          go_ret
          exact ⟨by rw [Hr.out.1]; show Ending.returned (.bool _) = _; simp [c1, c2], Hr.out.2⟩
        · have c2' : ¬ ((ws.length : Int) ≤ 12) := by omega
          go_wp2_with fail
          go_ret
          exact ⟨by rw [Hr.out.1]; show Ending.returned (.bool _) = _; simp [c1, c2], Hr.out.2⟩
      · have c1' : ¬ ((1 : Int) ≤ (ws.length : Int)) := by omega
        go_wp2_with fail
        go_ret
        exact ⟨by rw [Hr.out.1]; show Ending.returned (.bool _) = _; simp [c1], Hr.out.2⟩
end Go.Proofs.YtanmihhlkelgeaaGreat

/- DERIVED. Contracts of rec.head, image, Put. -/
namespace Go.Proofs.YtanmihhlkelgeaaGreat
open Go.RowKit
attribute [local irreducible] Calls
set_option maxRecDepth 100000

/-- A record's blocks. -/
def imageB (epoch seq : Nat) (b : Blk) : List UInt8 := sealR (b.body ++ high epoch 2 ++ high seq 2)
def placeB (x : Wr) : List UInt8 := high x.at_.toNat 2 ++ high x.b.kind.toNat 1
def placesB (ws : List Wr) : List UInt8 := ws.flatMap placeB
def headL (lb : UInt8) (epoch seq n : Nat) : List UInt8 := [72, lb] ++ high epoch 4 ++ high seq 4 ++ [UInt8.ofNat n]
def headB (lb : UInt8) (epoch seq : Nat) (ws : List Wr) : List UInt8 := sealR (headL lb epoch seq ws.length ++ placesB ws)
def putRec (lb : UInt8) (epoch seq : Nat) (ws : List Wr) : List (List UInt8) := headB lb epoch seq ws :: ws.map fun x => imageB epoch seq x.b
theorem placeB_length (x : Wr) : (placeB x).length = 3 := by simp [placeB, high_length]
theorem placesB_length (ws : List Wr) : (placesB ws).length = 3 * ws.length := by
  induction ws with
  | nil => rfl
  | cons x ws ih => simp only [placesB, List.flatMap_cons, List.length_append, List.length_cons] at ih ⊢; rw [ih, placeB_length]; omega
theorem placesB_succ {ws : List Wr} {k : Nat} {x : Wr} (h : ws[k]? = some x) : placesB (ws.take (k + 1)) = placesB (ws.take k) ++ placeB x := by
  obtain ⟨hk, rfl⟩ := List.getElem?_eq_some_iff.1 h
  unfold placesB
  rw [List.take_succ_eq_append_getElem hk, List.flatMap_append]
  simp only [List.flatMap_cons, List.flatMap_nil, List.append_nil]
theorem headL_length (lb : UInt8) (epoch seq n : Nat) : (headL lb epoch seq n).length = 11 := by simp [headL, high_length]
theorem imageB_length (epoch seq : Nat) (b : Blk) : (imageB epoch seq b).length = 64 := sealR_length (by simp [high_length, b.len])
theorem mayRec_iff {ws : List Wr} : mayRec ws = true ↔ wrsOk ws = true ∧ 1 ≤ ws.length ∧ ws.length ≤ 12 := by simp [mayRec, and_assoc]
theorem headB_length {lb : UInt8} {epoch seq : Nat} {ws : List Wr} (h : mayRec ws = true) : (headB lb epoch seq ws).length = 64 := by
  have := (mayRec_iff.1 h).2.2
  exact sealR_length (by rw [List.length_append, headL_length, placesB_length]; omega)

set_option maxHeartbeats 2000000 in
theorem image_any (epoch seq : Nat) (x : Wr) (w : World) (he : epoch < 4294967296) (hs : seq < 4294967296) :
    Calls Tryz.prog 182 #[.int .u32 epoch, .int .u32 seq, .agg x.cells] w fun e w' => ∃ v, e = .returned v ∧ BRow w' w.heap.size v (imageB epoch seq x.b) ∧ Below w.heap.size w w' := by
  have hx := WrAt.new w x
  have hB0 : Below w.heap.size w (w.alloc (.cells x.cells 231)) := grow_alloc (Below.refl _ _) _
  obtain ⟨G, hG⟩ : ∃ G, G = w.heap.size := ⟨_, rfl⟩
  obtain ⟨w1, hw1⟩ : ∃ w1, w1 = w.alloc (.cells x.cells 231) := ⟨_, rfl⟩
  rw [← hG, ← hw1] at hx
  rw [← hw1] at hB0
  have H1 := Lib.hid (And.intro hx (And.intro hB0 (And.intro hw1 hG)))
  have Hc := Lib.hid (Clone_len ⟨G, 2, none⟩ x.b.body 56 56 w1 x.b.len.symm hx.bytes (by decide) (by decide))
  have Hl := Lib.hid x.b.len
  clear hx hB0 hw1 hG
  go_enter Tryz.func182, Tryz.ntmps182
  go_upto_region 1 with fail
  rw [← H1.out.2.2.1, ← H1.out.2.2.2]
  go_wp2_with (first | (go_at_call 114; refine Hc.out.mono ?_; rintro e w2 ⟨g2, cap2, rfl, hb2, b2⟩; have hr2 := BRow.mono hb2 H1.out.2.1.size) | (go_at_call 167; first | (refine (number_any _ _ epoch 2 w.heap.size _ (Nat.le_trans H1.out.2.1.size b2.size) hr2 he (by decide) (by rw [Hl.out]; decide)).mono ?_; rintro e w3 ⟨v3, rfl, hr3, b3⟩) | (refine (number_any _ _ seq 2 w.heap.size _ (Nat.le_trans (Nat.le_trans H1.out.2.1.size b2.size) b3.size) hr3 hs (by decide) (by simp [high_length, Hl.out])).mono ?_; rintro e w4 ⟨v4, rfl, hr4, b4⟩)) | (go_at_call 166; refine (Sealed_any _ _ w.heap.size _ (Nat.le_trans (Nat.le_trans (Nat.le_trans H1.out.2.1.size b2.size) b3.size) b4.size) hr4 (by simp [high_length, Hl.out]) (by simp [high_length, Hl.out])).mono ?_; rintro e w5 ⟨v5, rfl, hr5, b5⟩))
  go_ret
  exact ⟨v5, rfl, hr5, ((((H1.out.2.1.trans (b2.mono H1.out.2.1.size)).trans b3).trans b4).trans b5)⟩
end Go.Proofs.YtanmihhlkelgeaaGreat

/- DERIVED. Contracts of rec.head, Put. -/
namespace Go.Proofs.YtanmihhlkelgeaaGreat
open Go.RowKit
attribute [local irreducible] Calls
set_option maxRecDepth 100000

theorem lit2 {w : World} {g : Nat} {x0 x1 : Int} {c0 c1 : UInt8} (h : objAt w g = some (.cells #[.int .u8 x0, .int .u8 x1] 5 (0, 0))) (e0 : x0 = c0.toNat) (e1 : x1 = c1.toNat) {B : Nat} (hb : B ≤ g) : BRow w B (.slice (some ⟨g, 0, none⟩) 2 2) [c0, c1] := by
  subst e0 e1
  exact ⟨rfl, .inr ⟨g, 2, _, rfl, hb, h, Nat.le_refl _, by decide, rfl, rfl⟩⟩
theorem lit_rowB {w : World} {S : Nat → Prop} {g : Nat} {x : Value} {l : List UInt8} (h : objAt w g = some (.cells #[x] 22 (0, 0))) (hx : ByteAt w S x l) (hS : S g) : RowB w S (.slice (some ⟨g, 0, none⟩) 1 1) [l] :=
  ⟨⟨[[x]], ⟨rfl, .inr ⟨g, 1, _, rfl, Nat.zero_le _, h, Nat.le_refl _, by decide, rfl, rfl⟩⟩, rfl, fun c hc => by simp at hc; subst hc; rfl, fun i a c ha hc => by
    match i with
    | 0 => simp at ha hc; subst ha hc; exact ⟨x, rfl, hx⟩
    | i + 1 => simp at ha⟩, fun q hq => by obtain rfl : g = q := Option.some.inj hq; exact hS⟩
theorem RowB.below {w w' : World} {S : Nat → Prop} {v : Value} {ls : List (List UInt8)} (h : RowB w S v ls) (hb : Below w.heap.size w w') : RowB w' S v ls :=
  RowB.keeps h (Keeps.of_below_size hb) (fun g hg e => by have := RowG.lt h hg; omega) (fun g q _ hq e => by have := block_lt hq; omega) (fun _ h _ => h)
theorem BRow.ownObjR {w : World} {B : Nat} {v : Value} {l : List UInt8} (h : BRow w B v l) {g : Nat} (hg : v.ownBlock = some g) : ∃ q, objAt w g = some (.cells q 5 (0, 0)) := by
  rcases h.2 with ⟨h', _⟩ | ⟨g', cap', cur, h', hb, hg', _⟩
  · rw [h'] at hg; cases hg
  · rw [h'] at hg; obtain rfl := Option.some.inj hg; exact ⟨cur, hg'⟩
theorem nat_of {a : Int} (h : 0 ≤ a) : ∃ n : Nat, a = (n : Int) := ⟨a.toNat, by omega⟩

set_option maxHeartbeats 4000000 in
theorem head_any (lb : UInt8) (epoch seq : Nat) {w : World} {S : Nat → Prop} {v : Value} {ws : List Wr} (h : WRow w S v ws) (hm : mayRec ws = true) (he : epoch < 4294967296) (hs : seq < 4294967296) :
    Calls Tryz.prog 181 #[.int .u8 (lb.toNat : Int), .int .u32 epoch, .int .u32 seq, v] w fun e w' => ∃ v', e = .returned v' ∧ BRow w' w.heap.size v' (headB lb epoch seq ws) ∧ Below w.heap.size w w' := by
  obtain ⟨hok, hl1, hl2⟩ := mayRec_iff.1 hm
  rw [wrsOk_iff] at hok
  obtain ⟨g, cap, rfl⟩ := RowG.form h hl1
  have ho1 : objAt (w.alloc (.cells #[.int .u8 72, .int .u8 (lb.toNat : Int)] 5)) w.heap.size = some (.cells #[.int .u8 72, .int .u8 (lb.toNat : Int)] 5 (0, 0)) := by rw [objAt_alloc, if_pos rfl]
  have hb1 := lit2 (c0 := 72) (c1 := lb) ho1 rfl rfl (B := w.heap.size) (Nat.le_refl _)
  have hB1 : Below w.heap.size w (w.alloc (.cells #[.int .u8 72, .int .u8 (lb.toNat : Int)] 5)) := grow_alloc (Below.refl _ _) _
  have HW := Lib.hid (And.intro h (And.intro hok (And.intro hb1 hB1)))
  have U0 := Lib.hid (show (ws.length : Int) = ((UInt8.ofNat ws.length).toNat : Int) by rw [UInt8.toNat_ofNat']; omega)
  clear h hok hb1 hB1 ho1 hm
  go_enter Tryz.func181, Tryz.ntmps181
  go_upto_region 2 with (first | (go_at_call 167; first | (refine (number_any _ _ epoch 4 w.heap.size _ HW.out.2.2.2.size HW.out.2.2.1 he (by decide) (by simp)).mono ?_; rintro e w2 ⟨v2, rfl, hr2, b2⟩) | (refine (number_any _ _ seq 4 w.heap.size _ (Nat.le_trans HW.out.2.2.2.size b2.size) hr2 hs (by decide) (by simp [high_length])).mono ?_; rintro e w3 ⟨v3, rfl, hr3, b3⟩)))
  go_upto_region 3 with (at_builtin; refine list_appB rfl _ _ rfl rfl (BRow.alloc hr3 _) rfl (lit_row w3 w.heap.size _ (UInt8.ofNat ws.length) U0.out (Nat.le_trans (Nat.le_trans HW.out.2.2.2.size b2.size) b3.size)) (by simp) 11 (by simp [high_length]) (by decide) (by rw [size_alloc]; exact Nat.le_succ_of_le (Nat.le_trans (Nat.le_trans HW.out.2.2.2.size b2.size) b3.size)) ?_; intro g4 cap4 w4 hr4 _ b4)
  have hB4 := ((HW.out.2.2.2.trans b2).trans b3).trans ((grow_alloc (Below.refl w3.heap.size w3) _).mono (Nat.le_trans (Nat.le_trans HW.out.2.2.2.size b2.size) b3.size) |>.trans b4)
  have H4 := Lib.hid (And.intro hr4 hB4)
  clear hr2 hr3 hr4 b2 b3 b4 hB4
  go_wp2_with fail
  go_loopw [9, 26] (fun s9 i wr => ∃ (k : Nat) (V : Value), k ≤ ws.length ∧ i = .int .i64 k ∧ V = s9 ∧ BRow wr w.heap.size V (headL lb epoch seq ws.length ++ placesB (ws.take k)) ∧ Below w.heap.size w wr) (fun _ i _ => ws.length - (Go.RowKit.intOf i).toNat)
  case atStart => exact ⟨0, _, Nat.zero_le _, rfl, rfl, by rw [List.take_zero]; show BRow _ _ _ (_ ++ []); rw [List.append_nil]; exact H4.out.1, H4.out.2⟩
  case round =>
    obtain ⟨k, V, hk, rfl, rfl, hV, hbel⟩ := hrel
    by_cases hlt : k < ws.length
    · obtain ⟨x, hx⟩ : ∃ x, ws[k]? = some x := ⟨_, List.getElem?_eq_getElem hlt⟩
      have hWr := WRow.below HW.out.1 hbel
      have hhas := WRow.has hWr hx
      have hrow := WRow.row hWr hx
      have hglt : g < wr.heap.size := RowG.lt hWr (g := g) rfl
      have hlti : (k : Int) < (ws.length : Int) := by omega
      have hok := (HW.out.2.1 k x hx).1
      rw [wrOk_iff] at hok
      obtain ⟨an, han⟩ := nat_of hok.2.2.1
      obtain ⟨kn, hkn⟩ := nat_of hok.1
      have hb1 : an < 200 := by omega
      have hb2 : kn ≤ 7 := by omega
      have HX := Lib.hid (And.intro hV (And.intro hbel (And.intro hx (And.intro han hkn))))
      clear hV hbel hWr hx hok
      go_upto_region 6 with fail
      have hxa := WrAt.new wr x
      have hB2 : Below wr.heap.size wr (wr.alloc (.cells x.cells 231)) := grow_alloc (Below.refl _ _) _
      obtain ⟨G, hG⟩ : ∃ G, G = wr.heap.size := ⟨_, rfl⟩
      obtain ⟨w2, hw2⟩ : ∃ w2, w2 = wr.alloc (.cells x.cells 231) := ⟨_, rfl⟩
      rw [← hG, ← hw2] at hxa ⊢
      rw [← hw2] at hB2
      have k0 := hxa.c0
      have k1 := hxa.c1
      rw [han] at k0
      rw [hkn] at k1
      have hle2 : w.heap.size ≤ w2.heap.size := Nat.le_trans HX.out.2.1.size hB2.size
      have hnG : ∀ q, But V q → q ≠ G := fun q hq e => by obtain ⟨c, hc⟩ := BRow.ownObjR (HX.out.1.below hB2) hq; exact ne_of_obj hc hxa (by decide) e
      have H2 := Lib.hid (And.intro hB2 (And.intro (HX.out.1.below hB2) (And.intro hxa hnG)))
      have hlen : (headL lb epoch seq ws.length ++ placesB (ws.take k)).length ≤ 60 := by rw [List.length_append, headL_length, placesB_length, List.length_take]; omega
      have hS : ∀ w', Below w.heap.size w2 w' → G < w.heap.size → True := fun _ _ _ => trivial
      have hGw : w.heap.size ≤ G := by rw [hG]; exact HX.out.2.1.size
      clear hG hw2 hxa hB2 hhas hrow hglt han hkn hS hnG
      have u1 : IntKind.u32.wrap (an : Int) = an := IntWalk.u32_in _ (by omega)
      have u2 : IntKind.u32.wrap (kn : Int) = kn := IntWalk.u32_in _ (by omega)
      refine wp_region_F [9] (S := fun w' => w'.cell? ⟨G, 0, none⟩ = some (.int .i64 (an : Int)) ∧ w'.cell? ⟨G, 1, none⟩ = some (.int .i64 (kn : Int)) ∧ True) (by kernel_rfl) (⟨k0, k1, trivial⟩) (fun hHeld => ?_)
      show wpAnyF _ _ _ _ _ _ 11 #[false, false, false, false, false, false, false, false, false, false, false] _ _
      refine wpAnyF_take [0, 4, 9, 10] (i := 0) (v := ?kv1) rfl (by kernel_rfl) (by kernel_rfl) (by kernel_rfl) (by kernel_rfl) (fun _ _ _ h => h) (Or.inl ⟨by rfl, ?ky1⟩) (by assumption) ?kr1
      case ky1 => (intro w hSw; (try dsimp only at hSw); go_split_ands; (try simp only [List.getElem_toArray, List.getElem_cons_zero]); go_simp; (try with_reducible rfl))
      try simp only [Act.put, List.getElem_toArray, List.getElem_cons_zero, List.setIfInBounds_toArray, List.set_cons_zero, List.set_cons_succ]
      refine wpAnyF_take [1, 2, 3, 4, 9, 10] (i := 1) (v := ?kv2) rfl (by kernel_rfl) (by kernel_rfl) (by kernel_rfl) (by kernel_rfl) (fun _ _ _ h => h) (Or.inl ⟨by rfl, ?ky2⟩) (by assumption) ?kr2
      case ky2 => (intro w hSw; (try dsimp only at hSw); go_split_ands; (try simp only [List.getElem_toArray, List.getElem_cons_zero, List.getElem_cons_succ]); go_simp; (try with_reducible rfl))
      try simp only [Act.put, List.getElem_toArray, List.getElem_cons_zero, List.getElem_cons_succ, List.setIfInBounds_toArray, List.set_cons_zero, List.set_cons_succ]
      refine wpAnyF_take [2, 3, 4, 9, 10] (i := 2) (v := ?kv3) rfl (by kernel_rfl) (by kernel_rfl) (by kernel_rfl) (by kernel_rfl) (fun _ _ _ h => h) (Or.inl ⟨by rfl, ?ky3⟩) (by assumption) ?kr3
      case ky3 => (intro w hSw; (try dsimp only at hSw); go_split_ands; (try simp only [List.getElem_toArray, List.getElem_cons_zero, List.getElem_cons_succ]); go_simp; (try with_reducible rfl))
      try simp only [Act.put, List.getElem_toArray, List.getElem_cons_zero, List.getElem_cons_succ, List.setIfInBounds_toArray, List.set_cons_zero, List.set_cons_succ]
      refine wpAnyF_take [3, 4, 9, 10] (i := 3) (v := ?kv4) rfl (by kernel_rfl) (by kernel_rfl) (by kernel_rfl) (by kernel_rfl) (fun _ _ _ h => h) (Or.inl ⟨by rfl, ?ky4⟩) (by assumption) ?kr4
      case ky4 => (intro w hSw; (try dsimp only at hSw); go_split_ands; (try simp only [List.getElem_toArray, List.getElem_cons_zero, List.getElem_cons_succ]); go_simp; (try with_reducible rfl))
      try simp only [Act.put, List.getElem_toArray, List.getElem_cons_zero, List.getElem_cons_succ, List.setIfInBounds_toArray, List.set_cons_zero, List.set_cons_succ]
      refine wpAnyF_take [5, 6, 7, 8, 9, 10] (i := 5) (v := ?kv5) rfl (by kernel_rfl) (by kernel_rfl) (by kernel_rfl) (by kernel_rfl) (fun _ _ _ h => h) (Or.inl ⟨by rfl, ?ky5⟩) (by assumption) ?kr5
      case ky5 => (intro w hSw; (try dsimp only at hSw); go_split_ands; (try simp only [List.getElem_toArray, List.getElem_cons_zero, List.getElem_cons_succ]); go_simp; (try with_reducible rfl))
      try simp only [Act.put, List.getElem_toArray, List.getElem_cons_zero, List.getElem_cons_succ, List.setIfInBounds_toArray, List.set_cons_zero, List.set_cons_succ]
      refine wpAnyF_take [6, 7, 8, 9, 10] (i := 6) (v := ?kv6) rfl (by kernel_rfl) (by kernel_rfl) (by kernel_rfl) (by kernel_rfl) (fun _ _ _ h => h) (Or.inl ⟨by rfl, ?ky6⟩) (by assumption) ?kr6
      case ky6 => (intro w hSw; (try dsimp only at hSw); go_split_ands; (try simp only [List.getElem_toArray, List.getElem_cons_zero, List.getElem_cons_succ]); go_simp; (try with_reducible rfl))
      try simp only [Act.put, List.getElem_toArray, List.getElem_cons_zero, List.getElem_cons_succ, List.setIfInBounds_toArray, List.set_cons_zero, List.set_cons_succ]
      refine wpAnyF_take [7, 8, 9, 10] (i := 7) (v := ?kv7) rfl (by kernel_rfl) (by kernel_rfl) (by kernel_rfl) (by kernel_rfl) (fun _ _ _ h => h) (Or.inl ⟨by rfl, ?ky7⟩) (by assumption) ?kr7
      case ky7 => (intro w hSw; (try dsimp only at hSw); go_split_ands; (try simp only [List.getElem_toArray, List.getElem_cons_zero, List.getElem_cons_succ]); go_simp; (try with_reducible rfl))
      try simp only [Act.put, List.getElem_toArray, List.getElem_cons_zero, List.getElem_cons_succ, List.setIfInBounds_toArray, List.set_cons_zero, List.set_cons_succ]
      refine wpAnyF_take [8, 9, 10] (i := 8) (v := ?kv8) rfl (by kernel_rfl) (by kernel_rfl) (by kernel_rfl) (by kernel_rfl) (fun _ _ _ h => h) (Or.inl ⟨by rfl, ?ky8⟩) (by assumption) ?kr8
      case ky8 => (intro w hSw; (try dsimp only at hSw); go_split_ands; (try simp only [List.getElem_toArray, List.getElem_cons_zero, List.getElem_cons_succ]); go_simp; (try with_reducible rfl))
      try simp only [Act.put, List.getElem_toArray, List.getElem_cons_zero, List.getElem_cons_succ, List.setIfInBounds_toArray, List.set_cons_zero, List.set_cons_succ]
      refine wpAnyF_ready (rs := [4]) (by kernel_rfl) (by simp) ?_
      refine (AllReadyF.cons rfl (fun K hK => ?_) AllReadyF.nil)
      try simp only [List.getElem_toArray, List.getElem_cons_zero, List.getElem_cons_succ]
      go_simp
      go_at_call 167; refine (number_own _ _ an 2 w.heap.size w2.drew hle2 (BRow.drew H2.out.2.1) (by omega) (by decide) (by omega)).mono ?_; rintro e w5 ⟨v5, rfl, hr5, b5, k5, _⟩; have hle5 := Nat.le_trans hle2 b5.size; have hx5 : WrAt w5 G x := k5.obj (show objAt w2.drew G = _ from H2.out.2.2.1) (fun e => H2.out.2.2.2 _ e rfl); have d0 := hx5.c0; have d1 := hx5.c1; rw [HX.out.2.2.2.1] at d0; rw [HX.out.2.2.2.2] at d1
      refine hK.out _ _ (by exact ⟨d0, d1, trivial⟩) (fun hHeldn => ?_)
      clear hHeld hK K
      have hHeld := hHeldn
      clear hHeldn
      try simp only [List.setIfInBounds_toArray, List.set_cons_zero, List.set_cons_succ]
      refine wpAnyF_ready (rs := [9]) (by kernel_rfl) (by simp) ?_
      refine (AllReadyF.last rfl (by kernel_rfl) (fun K hK => ?_) AllReadyF.nil)
      try simp only [List.getElem_toArray, List.getElem_cons_zero, List.getElem_cons_succ]
      go_simp
      go_at_call 167; refine (number_any _ _ kn 1 w.heap.size _ hle5 hr5 (by omega) (by decide) (by rw [List.length_append, high_length]; omega)).mono ?_; rintro e w6 ⟨v6, rfl, hr6, b6⟩
      refine hK.out _ _ (trivial) (fun hHeldn => ?_)
      clear hHeld hK K
      have hHeld := hHeldn
      clear hHeldn
      try simp only [List.setIfInBounds_toArray, List.set_cons_zero, List.set_cons_succ]
      refine wpAnyF_pure (i := 10) (v := ?kv11) rfl (by kernel_rfl) (by kernel_rfl) (by kernel_rfl) (by kernel_rfl) (fun _ _ _ h => h) (Or.inl ⟨by rfl, ?ky11⟩) (by first | (intro _; assumption) | (intro h; exact absurd h (by decide))) ?kr11
      case ky11 => (intro w hSw; clear hSw; (try simp only [List.getElem_toArray, List.getElem_cons_zero, List.getElem_cons_succ]); go_simp; (try with_reducible rfl))
      try simp only [Act.put, List.getElem_toArray, List.getElem_cons_zero, List.getElem_cons_succ, List.setIfInBounds_toArray, List.set_cons_zero, List.set_cons_succ]
      refine wpAnyF_done (by kernel_rfl) ?_ _
      go_wp2_with fail
      go_roundw
      case rel =>
        refine ⟨k + 1, _, by omega, by go_num, rfl, ?_, ?_⟩
        · rw [placesB_succ HX.out.2.2.1]
          unfold placeB
          rw [HX.out.2.2.2.1, HX.out.2.2.2.2, Int.toNat_natCast, Int.toNat_natCast, ← List.append_assoc, ← List.append_assoc]
          exact hr6
        · exact ((HX.out.2.1.trans (H2.out.1.mono HX.out.2.1.size)).trans ((Below.refl w.heap.size w2).drew)).trans (b5.trans b6)
      case measure => simp [Go.RowKit.intOf]; omega
    · obtain rfl : k = ws.length := by omega
      have HX := Lib.hid (And.intro hV hbel)
      have hlen : (headL lb epoch seq ws.length ++ placesB (ws.take ws.length)).length ≤ 60 ∧ 0 < (headL lb epoch seq ws.length ++ placesB (ws.take ws.length)).length := by rw [List.length_append, headL_length, placesB_length, List.length_take]; omega
      have Hl := Lib.hid hlen
      have hn : ¬ ((ws.length : Int) < (ws.length : Int)) := by omega
      clear hV hbel hlen
      go_wp2_with (go_at_call 166; refine (Sealed_any _ _ w.heap.size _ HX.out.2.size HX.out.1 Hl.out.1 Hl.out.2).mono ?_; rintro e w5 ⟨v5, rfl, hr5, b5⟩)
      go_ret
      rw [List.take_length] at hr5
      exact ⟨v5, rfl, hr5, HX.out.2.trans b5⟩

set_option maxHeartbeats 4000000 in
theorem recPut_any (lb : UInt8) (epoch seq : Nat) {w : World} {S : Nat → Prop} {v : Value} {ws : List Wr} (h : WRow w S v ws) (hl : ws.length ≤ 1000) (he : epoch < 4294967296) (hs : seq < 4294967296) :
    Calls Tryz.prog 134 #[.int .u8 (lb.toNat : Int), .int .u32 epoch, .int .u32 seq, v] w fun e w' => ∃ v', e = .returned (.tuple #[v', .bool (mayRec ws)]) ∧ (mayRec ws = true → RowB w' (fun q => w.heap.size ≤ q) v' (putRec lb epoch seq ws)) ∧ Below w.heap.size w w' := by
  have Hm := Lib.hid (fun w' (hb : Below w.heap.size w w') => may_any (WRow.below h hb) hl)
  have Hh := Lib.hid (fun hm w' (hb : Below w.heap.size w w') => head_any lb epoch seq (WRow.below h hb) hm he hs)
  have HW := Lib.hid h
  obtain ⟨R, hR⟩ : ∃ R, R = mayRec ws := ⟨_, rfl⟩
  have HR := Lib.hid hR
  rw [← hR] at Hm ⊢
  clear h hR
  go_enter Tryz.func134, Tryz.ntmps134
  cases R with
  | false =>
    go_wp2_with (go_at_call 180; refine (Hm.out _ (Below.refl _ _)).mono ?_; rintro e w1 ⟨rfl, b1⟩)
    refine bodyPost_ret (results_two rfl (resOne_tmp _ _ _) (resOne_tmp _ _ _)) rfl ?_
    exact ⟨_, rfl, (fun h => by cases h), b1⟩
  | true =>
    have hm := HR.out.symm
    obtain ⟨hok, hl1, hl2⟩ := mayRec_iff.1 hm
    have hhl := headB_length (lb := lb) (epoch := epoch) (seq := seq) hm
    obtain ⟨g, cap, rfl⟩ := RowG.form HW.out hl1
    have Hh2 := Lib.hid (Hh.out hm)
    have Hhl := Lib.hid hhl
    clear hok hm Hh hhl
    go_wp2_with (first | (go_at_call 180; refine (Hm.out _ (Below.refl _ _)).mono ?_; rintro e w1 ⟨rfl, b1⟩) | (go_at_call 181; refine (Hh2.out _ b1).mono ?_; rintro e w2 ⟨v2, rfl, hr2, b2⟩; obtain ⟨g2, cap2, rfl, hg2, _⟩ := hr2.form (by rw [Hhl.out]; decide); rw [Hhl.out] at hr2 ⊢))
    have hB2 : Below w.heap.size w w2 := grow_trans b1 b2
    have hgw : w.heap.size ≤ g2 := Nat.le_trans b1.size hg2
    have hB3 : Below w2.heap.size w2 (w2.alloc (.cells #[.slice (some ⟨g2, 0, none⟩) 64 cap2] 22)) := grow_alloc (Below.refl _ _) _
    have hR3 := lit_rowB (S := fun q => w.heap.size ≤ q) (show objAt (w2.alloc (.cells #[.slice (some ⟨g2, 0, none⟩) 64 cap2] 22)) w2.heap.size = _ by rw [objAt_alloc, if_pos rfl]) (BRow.byteAt (hr2.below hB3) Hhl.out.symm hgw) hB2.size
    have H3 := Lib.hid (And.intro (grow_trans hB2 hB3) hR3)
    clear b1 b2 hr2 hg2 hB2 hgw hB3 hR3
    go_loopw [10, 24] (fun s10 i wr => ∃ (k : Nat) (V : Value), k ≤ ws.length ∧ i = .int .i64 k ∧ V = s10 ∧ RowB wr (fun q => w.heap.size ≤ q) V (headB lb epoch seq ws :: (ws.take k).map fun x => imageB epoch seq x.b) ∧ Below w.heap.size w wr) (fun _ i _ => ws.length - (Go.RowKit.intOf i).toNat)
    case atStart => exact ⟨0, _, Nat.zero_le _, rfl, rfl, H3.out.2, H3.out.1⟩
    case round =>
      obtain ⟨k, V, hk, rfl, rfl, hV, hbel⟩ := hrel
      by_cases hlt : k < ws.length
      · obtain ⟨x, hx⟩ : ∃ x, ws[k]? = some x := ⟨_, List.getElem?_eq_getElem hlt⟩
        have hWr := WRow.below HW.out hbel
        have hhas := WRow.has hWr hx
        have hrow := WRow.row hWr hx
        have hglt : g < wr.heap.size := RowG.lt hWr (g := g) rfl
        have hlti : (k : Int) < (ws.length : Int) := by omega
        have HX := Lib.hid (And.intro hV (And.intro hbel hx))
        have hB4 : Below wr.heap.size wr (wr.alloc (.cells x.cells 231)) := grow_alloc (Below.refl _ _) _
        have Hi := Lib.hid (image_any epoch seq x (wr.alloc (.cells x.cells 231)) he hs)
        have Hil := Lib.hid (imageB_length epoch seq x.b)
        have HB4 := Lib.hid hB4
        have hklen : (headB lb epoch seq ws :: (ws.take k).map fun x => imageB epoch seq x.b).length < 1000000 := by simp; omega
        clear hV hbel hWr hx hB4
        go_wp2_with (first | (go_at_call 182; refine Hi.out.mono ?_; rintro e w5 ⟨v5, rfl, hr5, b5⟩; obtain ⟨g5, cap5, rfl, hg5, _⟩ := hr5.form (by rw [Hil.out]; decide); rw [Hil.out] at hr5 ⊢; have hB5 := grow_trans HB4.out b5; have hR5 := (RowB.below HX.out.1 hB5); have hB6 : Below w5.heap.size w5 (w5.alloc (.cells #[.slice (some ⟨g5, 0, none⟩) 64 cap5] 22)) := grow_alloc (Below.refl _ _) _; have hR6 := RowB.below hR5 hB6; have hby := BRow.byteAt (S := fun q => w.heap.size ≤ q) (hr5.below hB6) Hil.out.symm (Nat.le_trans (Nat.le_trans HX.out.2.1.size HB4.out.size) hg5); have H6 := Lib.hid (And.intro hR6 (And.intro hby (And.intro hB5 hB6))); clear hR6 hby hR5 hr5 b5 hB5 hB6) | (at_builtin; refine list_appG elemBytesK (v := V) rfl _ _ rfl rfl H6.out.1 rfl (by rw [objAt_alloc, if_pos rfl]) rfl (by simp [Value.oneCell']) hklen (BEl (fun q => w.heap.size ≤ q)) (imageB epoch seq x.b) (fun w7 hk7 => ⟨fun a c h => BEl.own H6.out.1 (by decide) hk7 a c h, BEl.own H6.out.1 (by decide) hk7 _ _ ⟨_, rfl, H6.out.2.1⟩⟩) ?_; intro g7 cap7 w7 hv7 hk7 ho7 hl7))
        have hle : w.heap.size ≤ (w5.alloc (.cells #[.slice (some ⟨g5, 0, none⟩) 64 cap5] 22)).heap.size := Nat.le_trans HX.out.2.1.size (Nat.le_trans H6.out.2.2.1.size H6.out.2.2.2.size)
        have hfin : Below w.heap.size w w7 := (grow_trans HX.out.2.1 (grow_trans H6.out.2.2.1 H6.out.2.2.2)).trans (hk7.below hle (fun q e => H6.out.1.own q e))
        have hrow7 := RowG.mono (S2 := fun q => w.heap.size ≤ q) hv7 (fun q hq => hq.elim id (Nat.le_trans hle))
        go_roundw
        case rel =>
          refine ⟨k + 1, _, by omega, by go_num, rfl, ?_, hfin⟩
          obtain ⟨hk', hx'⟩ := List.getElem?_eq_some_iff.1 HX.out.2.2
          rw [show (headB lb epoch seq ws :: (ws.take k).map fun x => imageB epoch seq x.b).length = k + 1 by simp; omega] at hrow7
          rw [List.take_succ_eq_append_getElem hk', List.map_append, hx']
          exact hrow7
        case measure => simp [Go.RowKit.intOf]; omega
      · obtain rfl : k = ws.length := by omega
        have HX := Lib.hid (And.intro hV hbel)
        have hn : ¬ ((ws.length : Int) < (ws.length : Int)) := by omega
        clear hV hbel
        go_wp2_with fail
        refine bodyPost_ret (results_two rfl (resOne_tmp _ _ _) (resOne_tmp _ _ _)) rfl ?_
        have := HX.out.1
        rw [List.take_length] at this
        exact ⟨V, rfl, this, HX.out.2⟩
end Go.Proofs.YtanmihhlkelgeaaGreat
