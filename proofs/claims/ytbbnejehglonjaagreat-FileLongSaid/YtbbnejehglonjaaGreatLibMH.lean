/- DERIVED. Maps with small whole numbers as keys: what lies in them, as a list. -/
import Derived.Maps.OwnOps
import Derived.Maps.OwnSet
import Derived.Maps.Range
import Derived.Test.YtbbnejehglonjaaGreatMh00
import Derived.Test.YtbbnejehglonjaaGreatMh08
namespace Go.Proofs.YtbbnejehglonjaaGreat
set_option maxHeartbeats 8000000
set_option maxRecDepth 100000
set_option linter.unusedSimpArgs false
set_option linter.unusedVariables false
open Go.RowKit Go.ChangeMaps

abbrev ML := List (Int × Value)
def lk (L : ML) (k : Int) : Option Value := (L.find? (fun p => p.1 == k)).map (·.2)
def up (L : ML) (k : Int) (v : Value) : ML := match L.findIdx? (fun p => p.1 == k) with | some j => L.set j (k, v) | none => L ++ [(k, v)]
def keysL (L : ML) : List Int := L.map (·.1)
theorem lk_none {L : ML} {k : Int} : lk L k = none ↔ k ∉ keysL L := by
 unfold lk keysL
 rw [Option.map_eq_none_iff, List.find?_eq_none]
 simp only [List.mem_map, beq_iff_eq, not_exists, not_and]
theorem up_none {L : ML} {k : Int} (h : k ∉ keysL L) (v : Value) : up L k v = L ++ [(k, v)] := by
 unfold up
 have : L.findIdx? (fun p => p.1 == k) = none := by
  rw [List.findIdx?_eq_none_iff]
  intro p hp
  simp only [beq_eq_false_iff_ne, ne_eq]
  exact fun e => h (List.mem_map.2 ⟨p, hp, e⟩)
 rw [this]
theorem up_some {L : ML} {k : Int} {j : Nat} (h : L.findIdx? (fun p => p.1 == k) = some j) (v : Value) : up L k v = L.set j (k, v) := by unfold up; rw [h]
theorem idx_spec {L : ML} {k : Int} {j : Nat} (h : L.findIdx? (fun p => p.1 == k) = some j) : ∃ hj : j < L.length, L[j].1 = k ∧ lk L k = some L[j].2 := by
 rw [List.findIdx?_eq_some_iff_getElem] at h
 obtain ⟨hj, h1, h2⟩ := h
 refine ⟨hj, by simpa using h1, ?_⟩
 unfold lk
 have hf : L.find? (fun p => p.1 == k) = some L[j] := List.find?_eq_some_iff_getElem.2 ⟨h1, j, hj, rfl, fun i hi => by simpa using h2 i hi⟩
 rw [hf]; rfl
theorem keys_up {L : ML} {k : Int} (v : Value) (x : Int) : x ∈ keysL (up L k v) ↔ x = k ∨ x ∈ keysL L := by
 by_cases hk : k ∈ keysL L
 · cases hi : L.findIdx? (fun p => p.1 == k) with
   | none =>
     rw [List.findIdx?_eq_none_iff] at hi
     obtain ⟨p, hp, e⟩ := List.mem_map.1 hk
     have := hi p hp
     rw [e] at this; simp at this
   | some j =>
     obtain ⟨hj, h1, _⟩ := idx_spec hi
     rw [up_some hi]
     unfold keysL
     rw [List.map_set]
     have : (L.map (·.1)).set j k = L.map (·.1) := by
      apply List.ext_getElem
      · simp
      · intro i h2 h3
        rw [List.getElem_set]
        split
        · rename_i e; subst e; simp [h1]
        · rfl
     rw [this]
     constructor
     · exact fun h => .inr h
     · rintro (rfl | h)
       · exact hk
       · exact h
 · rw [up_none hk]
   simp [keysL, or_comm]
theorem up_length {L : ML} {k : Int} (v : Value) : (up L k v).length ≤ L.length + 1 ∧ L.length ≤ (up L k v).length := by
 cases hi : L.findIdx? (fun p => p.1 == k) with
 | none => unfold up; rw [hi]; simp
 | some j => rw [up_some hi, List.length_set]; omega

structure MapI (w : World) (m : Nat) (L : ML) : Prop where
 ex : ∃ es clock, objAt w m = some (.map es clock) ∧ es.toList.map (fun e => (e.key, e.val)) = L.map (fun p => (Value.int .i64 p.1, p.2)) ∧ MapKept.Stamped es clock
 range : ∀ k ∈ keysL L, 0 ≤ k ∧ k < 1000000
 small : L.length ≤ 1000000
theorem MapI.nodup {w : World} {m : Nat} {L : ML} (h : MapI w m L) : (keysL L).Nodup := by
 obtain ⟨es, clock, _, hm, _, _, hn⟩ := h.ex
 have e : es.toList.map (·.key) = (keysL L).map (Value.int .i64) := by
  have := congrArg (List.map Prod.fst) hm
  simpa [keysL, Function.comp_def] using this
 rw [e] at hn
 exact (List.pairwise_map.1 hn).imp (fun h e => h (by rw [e]))
theorem MapI.obj {w w' : World} {m : Nat} {L : ML} (h : MapI w m L) (e : objAt w' m = objAt w m) : MapI w' m L := by
 obtain ⟨es, clock, h1, h2⟩ := h.ex
 exact ⟨⟨es, clock, e.trans h1, h2⟩, h.range, h.small⟩
theorem MapI.lt {w : World} {m : Nat} {L : ML} (h : MapI w m L) : m < w.heap.size := by
 obtain ⟨es, clock, h1, _⟩ := h.ex
 exact block_lt h1
theorem MapI.below {w w' : World} {m : Nat} {L : ML} (h : MapI w m L) (hb : Below w.heap.size w w') : MapI w' m L := h.obj (hb.block m h.lt)
theorem MapI.keeps {w w' : World} {m : Nat} {L : ML} {T : Nat → Prop} (h : MapI w m L) (hk : Keeps T w w') (hT : ¬ T m) : MapI w' m L := h.obj (hk.block m h.lt hT)
theorem MapI.made (w : World) : MapI (w.alloc (.map #[] 0)) w.heap.size [] :=
 ⟨⟨#[], 0, by rw [objAt_alloc, if_pos rfl], rfl, by simp [MapKept.Stamped]⟩, fun k hk => by simp [keysL] at hk, by simp⟩

theorem findNow_int (k : Int) (L : ML) : ∀ (es : List MapEntry) (i : Nat), es.map (fun e => (e.key, e.val)) = L.map (fun p => (Value.int .i64 p.1, p.2)) →
 Instr.findNow (.int .i64) (.int .i64 k) es i = some ((L.findIdx? (fun p => p.1 == k)).bind fun j => (L[j]?).map fun p => (i + j, p.2)) := by
 induction L with
 | nil => intro es i h; cases es with
   | nil => rfl
   | cons e es => simp at h
 | cons p L ih =>
   intro es i h
   cases es with
   | nil => simp at h
   | cons e es =>
     simp only [List.map_cons, List.cons.injEq, Prod.mk.injEq] at h
     obtain ⟨⟨hk, hv⟩, ht⟩ := h
     have h1 := ih es (i + 1) ht
     unfold Instr.findNow
     rw [hk]
     by_cases hpk : p.1 = k
     · have e1 : Instr.sameNow (.int .i64) (.int .i64 k) (.int .i64 p.1) = some true := by simp [Instr.sameNow, hpk]
       rw [e1]
       simp [List.findIdx?_cons, hpk, hv]
     · have e1 : Instr.sameNow (.int .i64) (.int .i64 k) (.int .i64 p.1) = some false := by simp [Instr.sameNow]; exact fun e => hpk e.symm
       rw [e1, h1]
       simp only [List.findIdx?_cons, beq_iff_eq, hpk, if_false]
       cases L.findIdx? (fun p => p.1 == k) with
       | none => rfl
       | some j => simp; cases L[j]? with
         | none => rfl
         | some q => simp; omega
variable {P : Program}
theorem run_lookupI {w : World} {t kt et m : Nat} {L : ML} (h : MapI w m L) (ht : P.underlying t = some (.map kt et)) (hk : P.underlying kt = some (.int .i64)) {z : Value} (hz : (zeroValue et).run P w = .ok z w) (k : Int) (ok : Bool) :
 (Instr.lookup t (.map (some m)) (.int .i64 k) ok).run P w = .ok (if ok then .tuple #[(lk L k).getD z, .bool (lk L k).isSome] else (lk L k).getD z) w := by
 obtain ⟨es, clock, h1, h2, h3⟩ := h.ex
 have hc : ∀ b, (Instr.checkKey b 10000 kt (.int .i64 k)).run P w = .ok () w := fun b => MapKept.run_checkKey (k := .int .i64 k) hk (by simp [MapKept.IsKey]) b 9999
 have hf := MapKept.run_findKey (w := w) hk (findNow_int k L es.toList 0 h2)
 have hg := MapKept.run_getObj_map (P := P) (objAt_heap h1)
 cases hi : L.findIdx? (fun p => p.1 == k) with
 | none =>
   have hl : lk L k = none := by
    rw [lk_none]
    intro hm
    rw [List.findIdx?_eq_none_iff] at hi
    obtain ⟨p, hp, e⟩ := List.mem_map.1 hm
    have := hi p hp
    rw [e] at this; simp at this
   rw [hi] at hf
   simp [Instr.lookup, run_underlying ht, hg, hc, hf, hz, hl, Result.andThen]
 | some j =>
   obtain ⟨hj, e1, hl⟩ := idx_spec hi
   rw [hi] at hf
   simp only [Option.bind_some, List.getElem?_eq_getElem hj, Option.map_some] at hf
   simp [Instr.lookup, run_underlying ht, hg, hc, hf, hl, Result.andThen]
theorem MapI.set {w : World} {m : Nat} {L : ML} (h : MapI w m L) (L' : ML) (es' : Array MapEntry) (clock' : Nat) (h2 : es'.toList.map (fun e => (e.key, e.val)) = L'.map (fun p => (Value.int .i64 p.1, p.2))) (h3 : MapKept.Stamped es' clock') (hr : ∀ k ∈ keysL L', 0 ≤ k ∧ k < 1000000) (hs : L'.length ≤ 1000000) :
 MapI (setBlock w m (.map es' clock')) m L' ∧ Keeps (fun g => g = m) w (setBlock w m (.map es' clock')) := by
 obtain ⟨es, clock, h1, _⟩ := h.ex
 refine ⟨⟨⟨es', clock', heap_setBlock_same (objAt_heap h1) _, h2, h3⟩, hr, hs⟩, rfl, rfl, rfl, by simp [setBlock], fun k hk hn => heap_setBlock_other (objAt_heap h1) _ hn⟩
theorem run_updateI {w : World} {t kt et m : Nat} {L : ML} (h : MapI w m L) (ht : P.underlying t = some (.map kt et)) (hk : P.underlying kt = some (.int .i64)) (k : Int) (hk0 : 0 ≤ k) (hk1 : k < 1000000) (v : Value) (hl : L.length < 1000000) :
 ∃ w', (Instr.mapUpdate t (.map (some m)) (.int .i64 k) v).run P w = .ok () w' ∧ MapI w' m (up L k v) ∧ Keeps (fun g => g = m) w w' := by
 obtain ⟨es, clock, h1, h2, h3⟩ := h.ex
 have hc : ∀ b, (Instr.checkKey b 10000 kt (.int .i64 k)).run P w = .ok () w := fun b => MapKept.run_checkKey (k := .int .i64 k) hk (by simp [MapKept.IsKey]) b 9999
 have hf := MapKept.run_findKey (w := w) hk (findNow_int k L es.toList 0 h2)
 have hg := MapKept.run_getObj_map (P := P) (objAt_heap h1)
 have hr : ∀ x ∈ keysL (up L k v), 0 ≤ x ∧ x < 1000000 := fun x hx => by
  rcases (keys_up v x).1 hx with rfl | hx
  · exact ⟨hk0, hk1⟩
  · exact h.range x hx
 have hlen := (up_length (L := L) (k := k) v).1
 cases hi : L.findIdx? (fun p => p.1 == k) with
 | none =>
   have hnk : k ∉ keysL L := by
    intro hm
    rw [List.findIdx?_eq_none_iff] at hi
    obtain ⟨p, hp, e⟩ := List.mem_map.1 hm
    have := hi p hp
    rw [e] at this; simp at this
   rw [hi] at hf
   have hup := up_none hnk v
   have hs := MapI.set h (up L k v) (es.push { key := .int .i64 k, val := v, born := clock }) (clock + 1) (by rw [hup]; simp [h2]) ⟨?_, ?_, ?_⟩ hr (by omega)
   · refine ⟨_, ?_, hs⟩
     simp [Instr.mapUpdate, run_underlying ht, hg, hc, hf, MapKept.run_setObj_map _ (objAt_heap h1), Result.andThen, setBlock]
   · intro x hx
     simp only [Array.toList_push, List.mem_append, List.mem_singleton] at hx
     rcases hx with hx | rfl
     · have := h3.1 x hx; omega
     · show clock < clock + 1; omega
   · simp only [Array.toList_push, List.map_append, List.map_cons, List.map_nil]
     rw [List.nodup_append]
     refine ⟨h3.2.1, by simp, fun a ha b hb e => ?_⟩
     simp only [List.mem_singleton] at hb
     obtain ⟨x, hx, rfl⟩ := List.mem_map.1 ha
     have := h3.1 x hx
     omega
   · simp only [Array.toList_push, List.map_append, List.map_cons, List.map_nil]
     rw [List.nodup_append]
     refine ⟨h3.2.2, by simp, fun a ha b hb e => ?_⟩
     simp only [List.mem_singleton] at hb
     subst hb; subst e
     have e2 : es.toList.map (·.key) = (keysL L).map (Value.int .i64) := by
      have := congrArg (List.map Prod.fst) h2
      simpa [keysL, Function.comp_def] using this
     rw [e2] at ha
     obtain ⟨x, hx, e3⟩ := List.mem_map.1 ha
     simp only [Value.int.injEq, true_and] at e3
     subst e3
     exact hnk hx
 | some j =>
   obtain ⟨hj, e1, hlk⟩ := idx_spec hi
   have hup := up_some hi v
   rw [hi] at hf
   simp only [Option.bind_some, List.getElem?_eq_getElem hj, Option.map_some, Nat.zero_add] at hf
   have hjs : j < es.toList.length := by have := congrArg List.length h2; simp only [List.length_map] at this; omega
   have hkey : es.toList[j].key = .int .i64 k := by
    have := congrArg (fun l => l[j]?) h2
    simp only [List.getElem?_map, List.getElem?_eq_getElem hjs, List.getElem?_eq_getElem hj, Option.map_some, Option.some.injEq, Prod.mk.injEq] at this
    rw [this.1, e1]
   have hjs' : j < es.size := by simpa using hjs
   have hkey' : es[j].key = .int .i64 k := by simpa using hkey
   have hmod : (es.modify j fun e => { e with key := .int .i64 k, val := v }).toList = es.toList.set j { es.toList[j] with key := .int .i64 k, val := v } := by
    apply List.ext_getElem
    · simp
    · intro i h5 h6
      simp only [Array.getElem_toList, Array.getElem_modify, List.getElem_set]
      by_cases e : j = i
      · subst e; simp
      · simp [e]
   have hs := MapI.set h (up L k v) (es.modify j fun e => { e with key := .int .i64 k, val := v }) clock (by
    rw [hup, hmod, List.map_set, List.map_set, h2]) ⟨?_, ?_, ?_⟩ hr (by omega)
   · refine ⟨_, ?_, hs⟩
     have hst : (Instr.keyThatStays (.int .i64 k) (.int .i64 k)).run P w = .ok (.int .i64 k) w := by simp [Instr.keyThatStays, Instr.sameBits]
     simp [Instr.mapUpdate, run_underlying ht, hg, hc, hf, hjs', hkey', hst, MapKept.run_setObj_map _ (objAt_heap h1), Result.andThen, setBlock]
   · intro x hx
     rw [hmod] at hx
     rcases List.mem_or_eq_of_mem_set hx with hx | rfl
     · exact h3.1 x hx
     · exact h3.1 es.toList[j] (List.getElem_mem hjs)
   · rw [hmod, List.map_set]
     have : (es.toList.map (·.born)).set j es.toList[j].born = es.toList.map (·.born) := by
      apply List.ext_getElem
      · simp
      · intro i h5 h6
        rw [List.getElem_set]
        split
        · rename_i e; subst e; simp
        · rfl
     show ((es.toList.map (·.born)).set j es.toList[j].born).Nodup
     rw [this]; exact h3.2.1
   · rw [hmod, List.map_set]
     have : (es.toList.map (·.key)).set j (.int .i64 k) = es.toList.map (·.key) := by
      apply List.ext_getElem
      · simp
      · intro i h5 h6
        rw [List.getElem_set]
        split
        · rename_i e; subst e; rw [List.getElem_map]; exact hkey.symm
        · rfl
     rw [this]; exact h3.2.2
theorem run_clearI {w : World} {t kt et m : Nat} {L : ML} (h : MapI w m L) (ht : P.underlying t = some (.map kt et)) (ty : TypeId) :
 ∃ w', (Builtin.clear_ #[t] ty #[.map (some m)]).run P w = .ok (.tuple #[]) w' ∧ MapI w' m [] ∧ Keeps (fun g => g = m) w w' := by
 obtain ⟨es, clock, h1, h2, h3⟩ := h.ex
 have hg := MapKept.run_getObj_map (P := P) (objAt_heap h1)
 have hs := MapI.set h [] #[] clock rfl (by simp [MapKept.Stamped]) (fun k hk => by simp [keysL] at hk) (by simp)
 refine ⟨_, ?_, hs⟩
 simp [Builtin.clear_, run_underlying ht, hg, MapKept.run_setObj_map _ (objAt_heap h1), Result.andThen, setBlock]
theorem run_lenI {w : World} {t kt et m : Nat} {L : ML} (h : MapI w m L) (ht : P.underlying t = some (.map kt et)) (ty : TypeId) :
 (Builtin.len_ #[t] ty #[.map (some m)]).run P w = .ok (.int .i64 L.length) w := by
 obtain ⟨es, clock, h1, h2, h3⟩ := h.ex
 have hg := MapKept.run_getObj_map (P := P) (objAt_heap h1)
 have hl : es.size = L.length := by have := congrArg List.length h2; simpa using this
 simp [Builtin.len_, run_underlying ht, hg, goInt, Result.andThen, hl]
end Go.Proofs.YtbbnejehglonjaaGreat
