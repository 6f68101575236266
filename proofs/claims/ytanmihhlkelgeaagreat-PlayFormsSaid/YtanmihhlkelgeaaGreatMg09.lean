/- DERIVED. Contracts and laws that the proofs of this seat share, part 9 of 32: Shelf LibM. -/
import Derived.Shelf.SlGeneric
import Derived.Shelf.SlIterI.Nil
import Derived.Shelf.SortM.Plain
import Derived.Shelf.SortM.SortNone
import Derived.Ground.GgzProg
import Derived.Ground.SlgmProg
import Derived.Test.YtanmihhlkelgeaaGreatProg
import Derived.Maps.OwnOps
import Derived.Maps.OwnSet
import Derived.Maps.Range
import Derived.Test.YtanmihhlkelgeaaGreatMg05
/-
  DERIVED: THE SHELF's CONTRACTS AT THIS DUMP, IN PLAIN WORDS (tools/lay-plain.mjs out of 'TryzShelf.lean', which tools/lay-shelf.mjs wrote): THE SAME DECLARATIONS UNDER THE SAME NAMES: 'import', 'namespace', 'open', 'def', 'theorem' AND NOTHING ELSE: no command of the shelf's: FOR A HAND-IN. Each laying: the table of numbers ('.._ren') and one theorem, a field a fact of the dump's own or the kernel's comparison; each contract: ONE APPLICATION.
-/
namespace Go.Proofs
open Go.Shelf
def Tryz.keys126_ren : Go.Shelf.Ren := ⟨fun | 7 => 126 | 10 => 171 | n => n, fun | 23 => 176 | 26 => 3 | 3 => 4 | 28 => 235 | 0 => 0 | 27 => 234 | 33 => 158 | 4 => 4 | n => n, fun | n => n⟩
theorem Tryz.keys126 : Go.Proofs.SlLaysZI.n7 Tryz.prog Tryz.keys126_ren := {
  mixed := by kernel_rfl
  f7 := ⟨Tryz.f126.name, by decide, Tryz.func126.trans (congrArg some (by kernel_rfl))⟩
  f10 := ⟨Tryz.f171.name, by decide, Tryz.func171.trans (congrArg some (by kernel_rfl))⟩
  t0 := Tryz.underlying0
  a0 := Tryz.isAgg0
  z0 := Tryz.sizeOf0
  v0 := Tryz.zeroValue0
  t4 := Tryz.underlying4
  a4 := Tryz.isAgg4
  z4 := Tryz.sizeOf4
  v4 := Tryz.zeroValue4
  t23 := Tryz.underlying176
  a23 := Tryz.isAgg176
  z23 := Tryz.sizeOf176
  v23 := Tryz.zeroValue176
  t26 := Tryz.underlying3
  a26 := Tryz.isAgg3
  z26 := Tryz.sizeOf3
  v26 := Tryz.zeroValue3
  t27 := Tryz.underlying234
  a27 := Tryz.isAgg234
  z27 := Tryz.sizeOf234
  v27 := Tryz.zeroValue234
  t28 := Tryz.underlying235
  a28 := Tryz.isAgg235
  z28 := Tryz.sizeOf235
  v28 := Tryz.zeroValue235
  t33 := Tryz.underlying158
  a33 := Tryz.isAgg158
  z33 := Tryz.sizeOf158
  v33 := Tryz.zeroValue158 }
def Tryz.keys139_ren : Go.Shelf.Ren := ⟨fun | 7 => 139 | 10 => 184 | n => n, fun | 23 => 173 | 26 => 3 | 3 => 139 | 28 => 235 | 0 => 0 | 27 => 234 | 33 => 158 | 4 => 4 | n => n, fun | n => n⟩
theorem Tryz.keys139 : Go.Proofs.SlLaysZI.n7 Tryz.prog Tryz.keys139_ren := {
  mixed := by kernel_rfl
  f7 := ⟨Tryz.f139.name, by decide, Tryz.func139.trans (congrArg some (by kernel_rfl))⟩
  f10 := ⟨Tryz.f184.name, by decide, Tryz.func184.trans (congrArg some (by kernel_rfl))⟩
  t0 := Tryz.underlying0
  a0 := Tryz.isAgg0
  z0 := Tryz.sizeOf0
  v0 := Tryz.zeroValue0
  t4 := Tryz.underlying4
  a4 := Tryz.isAgg4
  z4 := Tryz.sizeOf4
  v4 := Tryz.zeroValue4
  t23 := Tryz.underlying173
  a23 := Tryz.isAgg173
  z23 := Tryz.sizeOf173
  v23 := Tryz.zeroValue173
  t26 := Tryz.underlying3
  a26 := Tryz.isAgg3
  z26 := Tryz.sizeOf3
  v26 := Tryz.zeroValue3
  t27 := Tryz.underlying234
  a27 := Tryz.isAgg234
  z27 := Tryz.sizeOf234
  v27 := Tryz.zeroValue234
  t28 := Tryz.underlying235
  a28 := Tryz.isAgg235
  z28 := Tryz.sizeOf235
  v28 := Tryz.zeroValue235
  t33 := Tryz.underlying158
  a33 := Tryz.isAgg158
  z33 := Tryz.sizeOf158
  v33 := Tryz.zeroValue158 }
def Tryz.keys160_ren : Go.Shelf.Ren := ⟨fun | 7 => 160 | 10 => 211 | n => n, fun | 23 => 249 | 26 => 3 | 3 => 51 | 28 => 235 | 0 => 0 | 27 => 234 | 33 => 158 | 4 => 4 | n => n, fun | n => n⟩
theorem Tryz.keys160 : Go.Proofs.SlLaysZI.n7 Tryz.prog Tryz.keys160_ren := {
  mixed := by kernel_rfl
  f7 := ⟨Tryz.f160.name, by decide, Tryz.func160.trans (congrArg some (by kernel_rfl))⟩
  f10 := ⟨Tryz.f211.name, by decide, Tryz.func211.trans (congrArg some (by kernel_rfl))⟩
  t0 := Tryz.underlying0
  a0 := Tryz.isAgg0
  z0 := Tryz.sizeOf0
  v0 := Tryz.zeroValue0
  t4 := Tryz.underlying4
  a4 := Tryz.isAgg4
  z4 := Tryz.sizeOf4
  v4 := Tryz.zeroValue4
  t23 := Tryz.underlying249
  a23 := Tryz.isAgg249
  z23 := Tryz.sizeOf249
  v23 := Tryz.zeroValue249
  t26 := Tryz.underlying3
  a26 := Tryz.isAgg3
  z26 := Tryz.sizeOf3
  v26 := Tryz.zeroValue3
  t27 := Tryz.underlying234
  a27 := Tryz.isAgg234
  z27 := Tryz.sizeOf234
  v27 := Tryz.zeroValue234
  t28 := Tryz.underlying235
  a28 := Tryz.isAgg235
  z28 := Tryz.sizeOf235
  v28 := Tryz.zeroValue235
  t33 := Tryz.underlying158
  a33 := Tryz.isAgg158
  z33 := Tryz.sizeOf158
  v33 := Tryz.zeroValue158 }
def Tryz.sorted125_ren : Go.Shelf.Ren := ⟨fun | 6 => 125 | 8 => 169 | 9 => 170 | 11 => 214 | 13 => 216 | 12 => 215 | 23 => 265 | 24 => 266 | 14 => 256 | 15 => 257 | 16 => 258 | 17 => 259 | 18 => 260 | 19 => 261 | 20 => 262 | 21 => 263 | 22 => 264 | 25 => 296 | 26 => 297 | 27 => 298 | 28 => 299 | 29 => 300 | 30 => 301 | 31 => 330 | n => n, fun | 26 => 3 | 28 => 235 | 24 => 93 | 0 => 0 | 3 => 3 | 37 => 72 | 48 => 49 | 50 => 382 | 4 => 4 | 40 => 376 | 39 => 375 | 45 => 155 | 5 => 5 | 9 => 9 | 51 => 409 | 55 => 344 | 57 => 433 | 58 => 434 | 33 => 158 | n => n, fun | n => n⟩
theorem Tryz.sorted125 : Go.Proofs.SlLaysZI.n6 Tryz.prog Tryz.sorted125_ren := {
  mixed := by kernel_rfl
  f6 := ⟨Tryz.f125.name, by decide, Tryz.func125.trans (congrArg some (by kernel_rfl))⟩
  f8 := ⟨Tryz.f169.name, by decide, Tryz.func169.trans (congrArg some (by kernel_rfl))⟩
  f11 := ⟨Tryz.f214.name, by decide, Tryz.func214.trans (congrArg some (by kernel_rfl))⟩
  t0 := Tryz.underlying0
  a0 := Tryz.isAgg0
  z0 := Tryz.sizeOf0
  v0 := Tryz.zeroValue0
  t24 := Tryz.underlying93
  a24 := Tryz.isAgg93
  z24 := Tryz.sizeOf93
  v24 := Tryz.zeroValue93
  t26 := Tryz.underlying3
  a26 := Tryz.isAgg3
  z26 := Tryz.sizeOf3
  v26 := Tryz.zeroValue3
  t28 := Tryz.underlying235
  a28 := Tryz.isAgg235
  z28 := Tryz.sizeOf235
  v28 := Tryz.zeroValue235
  i26 := by kernel_rfl }
def Tryz.sort170_ren : Go.Shelf.Ren := ⟨fun | 5 => 170 | 8 => 216 | 7 => 215 | 19 => 265 | 20 => 266 | 10 => 256 | 11 => 257 | 12 => 258 | 13 => 259 | 14 => 260 | 15 => 261 | 16 => 262 | 17 => 263 | 18 => 264 | 30 => 296 | 31 => 297 | 32 => 298 | 33 => 299 | 34 => 300 | 35 => 301 | 40 => 330 | n => n, fun | 23 => 93 | 25 => 3 | 3 => 3 | 32 => 72 | 22 => 93 | 0 => 0 | 44 => 49 | 46 => 382 | 4 => 4 | 36 => 376 | 35 => 375 | 41 => 155 | 5 => 5 | 9 => 9 | 53 => 409 | 57 => 344 | 63 => 433 | 64 => 434 | n => n, fun | n => n⟩
theorem Tryz.sort170 : Go.Proofs.SlLaysM.n5 Tryz.prog Tryz.sort170_ren := {
  mixed := by kernel_rfl
  f5 := ⟨Tryz.f170.name, by decide, Tryz.func170.trans (congrArg some (by kernel_rfl))⟩
  f7 := ⟨Tryz.f215.name, by decide, Tryz.func215.trans (congrArg some (by kernel_rfl))⟩
  f8 := Tryz.func216.trans (congrArg some (by kernel_rfl))
  f10 := ⟨Tryz.f256.name, by decide, Tryz.func256.trans (congrArg some (by kernel_rfl))⟩
  f11 := ⟨Tryz.f257.name, by decide, Tryz.func257.trans (congrArg some (by kernel_rfl))⟩
  f12 := ⟨Tryz.f258.name, by decide, Tryz.func258.trans (congrArg some (by kernel_rfl))⟩
  f13 := ⟨Tryz.f259.name, by decide, Tryz.func259.trans (congrArg some (by kernel_rfl))⟩
  f14 := ⟨Tryz.f260.name, by decide, Tryz.func260.trans (congrArg some (by kernel_rfl))⟩
  f15 := ⟨Tryz.f261.name, by decide, Tryz.func261.trans (congrArg some (by kernel_rfl))⟩
  f16 := ⟨Tryz.f262.name, by decide, Tryz.func262.trans (congrArg some (by kernel_rfl))⟩
  f17 := ⟨Tryz.f263.name, by decide, Tryz.func263.trans (congrArg some (by kernel_rfl))⟩
  f18 := ⟨Tryz.f264.name, by decide, Tryz.func264.trans (congrArg some (by kernel_rfl))⟩
  f19 := Tryz.func265.trans (congrArg some (by kernel_rfl))
  f20 := Tryz.func266.trans (congrArg some (by kernel_rfl))
  f30 := ⟨Tryz.f296.name, by decide, Tryz.func296.trans (congrArg some (by kernel_rfl))⟩
  f31 := Tryz.func297.trans (congrArg some (by kernel_rfl))
  f32 := Tryz.func298.trans (congrArg some (by kernel_rfl))
  f33 := ⟨Tryz.f299.name, by decide, Tryz.func299.trans (congrArg some (by kernel_rfl))⟩
  f34 := ⟨Tryz.f300.name, by decide, Tryz.func300.trans (congrArg some (by kernel_rfl))⟩
  f35 := ⟨Tryz.f301.name, by decide, Tryz.func301.trans (congrArg some (by kernel_rfl))⟩
  f40 := ⟨Tryz.f330.name, by decide, Tryz.func330.trans (congrArg some (by kernel_rfl))⟩
  t0 := Tryz.underlying0
  a0 := Tryz.isAgg0
  z0 := Tryz.sizeOf0
  v0 := Tryz.zeroValue0
  t3 := Tryz.underlying3
  a3 := Tryz.isAgg3
  z3 := Tryz.sizeOf3
  v3 := Tryz.zeroValue3
  t4 := Tryz.underlying4
  a4 := Tryz.isAgg4
  z4 := Tryz.sizeOf4
  v4 := Tryz.zeroValue4
  t5 := Tryz.underlying5
  a5 := Tryz.isAgg5
  z5 := Tryz.sizeOf5
  v5 := Tryz.zeroValue5
  t9 := Tryz.underlying9
  a9 := Tryz.isAgg9
  z9 := Tryz.sizeOf9
  v9 := Tryz.zeroValue9
  t22 := Tryz.underlying93
  a22 := Tryz.isAgg93
  z22 := Tryz.sizeOf93
  v22 := Tryz.zeroValue93
  t23 := Tryz.underlying93
  a23 := Tryz.isAgg93
  z23 := Tryz.sizeOf93
  v23 := Tryz.zeroValue93
  t25 := Tryz.underlying3
  a25 := Tryz.isAgg3
  z25 := Tryz.sizeOf3
  v25 := Tryz.zeroValue3
  t32 := Tryz.underlying72
  a32 := Tryz.isAgg72
  z32 := Tryz.sizeOf72
  v32 := Tryz.zeroValue72
  t35 := Tryz.underlying375
  a35 := Tryz.isAgg375
  z35 := Tryz.sizeOf375
  v35 := Tryz.zeroValue375
  t36 := Tryz.underlying376
  a36 := Tryz.isAgg376
  z36 := Tryz.sizeOf376
  v36 := Tryz.zeroValue376
  t41 := Tryz.underlying155
  a41 := Tryz.isAgg155
  z41 := Tryz.sizeOf155
  v41 := Tryz.zeroValue155
  t44 := Tryz.underlying49
  a44 := Tryz.isAgg49
  z44 := Tryz.sizeOf49
  v44 := Tryz.zeroValue49
  t46 := Tryz.underlying382
  a46 := Tryz.isAgg382
  z46 := Tryz.sizeOf382
  v46 := Tryz.zeroValue382
  t53 := Tryz.underlying409
  a53 := Tryz.isAgg409
  z53 := Tryz.sizeOf409
  v53 := Tryz.zeroValue409
  t57 := Tryz.underlying344
  a57 := Tryz.isAgg344
  z57 := Tryz.sizeOf344
  v57 := Tryz.zeroValue344
  t63 := Tryz.underlying433
  a63 := Tryz.isAgg433
  z63 := Tryz.sizeOf433
  v63 := Tryz.zeroValue433
  t64 := Tryz.underlying434
  a64 := Tryz.isAgg434
  z64 := Tryz.sizeOf434
  v64 := Tryz.zeroValue434 }
end Go.Proofs

/- DERIVED. Maps with small whole numbers as keys: what lies in them, as a list. -/
namespace Go.Proofs.YtanmihhlkelgeaaGreat
open Go.RowKit Go.ChangeMaps
set_option maxRecDepth 100000

abbrev ML := List (Int × Value)
def lk (L : ML) (k : Int) : Option Value := (L.find? (fun p => p.1 == k)).map (·.2)
def up (L : ML) (k : Int) (v : Value) : ML := match L.findIdx? (fun p => p.1 == k) with | some j => L.set j (k, v) | none => L ++ [(k, v)]
def keysL (L : ML) : List Int := L.map (·.1)
theorem lk_none {L : ML} {k : Int} : lk L k = none ↔ k ∉ keysL L := by
  unfold lk keysL
  rw [Option.map_eq_none_iff, List.find?_eq_none]
  simp only [List.mem_map, beq_iff_eq, not_exists, not_and]
theorem up_none {L : ML} {k : Int} (h : k ∉ keysL L) (v : Value) : up L k v = L ++ [(k, v)] := by
  unfold up
  have : L.findIdx? (fun p => p.1 == k) = none := by
    rw [List.findIdx?_eq_none_iff]
    intro p hp
    simp only [beq_eq_false_iff_ne, ne_eq]
    exact fun e => h (List.mem_map.2 ⟨p, hp, e⟩)
  rw [this]
theorem up_some {L : ML} {k : Int} {j : Nat} (h : L.findIdx? (fun p => p.1 == k) = some j) (v : Value) : up L k v = L.set j (k, v) := by unfold up; rw [h]
theorem idx_spec {L : ML} {k : Int} {j : Nat} (h : L.findIdx? (fun p => p.1 == k) = some j) : ∃ hj : j < L.length, L[j].1 = k ∧ lk L k = some L[j].2 := by
  rw [List.findIdx?_eq_some_iff_getElem] at h
  obtain ⟨hj, h1, h2⟩ := h
  refine ⟨hj, by simpa using h1, ?_⟩
  unfold lk
  have hf : L.find? (fun p => p.1 == k) = some L[j] := List.find?_eq_some_iff_getElem.2 ⟨h1, j, hj, rfl, fun i hi => by simpa using h2 i hi⟩
  rw [hf]; rfl
theorem keys_up {L : ML} {k : Int} (v : Value) (x : Int) : x ∈ keysL (up L k v) ↔ x = k ∨ x ∈ keysL L := by
  by_cases hk : k ∈ keysL L
  · cases hi : L.findIdx? (fun p => p.1 == k) with
    | none =>
      rw [List.findIdx?_eq_none_iff] at hi
      obtain ⟨p, hp, e⟩ := List.mem_map.1 hk
      have := hi p hp
      rw [e] at this; simp at this
    | some j =>
      obtain ⟨hj, h1, _⟩ := idx_spec hi
      rw [up_some hi]
      unfold keysL
      rw [List.map_set]
      have : (L.map (·.1)).set j k = L.map (·.1) := by
        apply List.ext_getElem
        · simp
        · intro i h2 h3
          rw [List.getElem_set]
          split
          · rename_i e; subst e; simp [h1]
          · rfl
      rw [this]
      constructor
      · exact fun h => .inr h
      · rintro (rfl | h)
        · exact hk
        · exact h
  · rw [up_none hk]
    simp [keysL, or_comm]
theorem nodup_up {L : ML} {k : Int} (v : Value) (h : (keysL L).Nodup) : (keysL (up L k v)).Nodup := by
  by_cases hk : k ∈ keysL L
  · cases hi : L.findIdx? (fun p => p.1 == k) with
    | none =>
      rw [List.findIdx?_eq_none_iff] at hi
      obtain ⟨p, hp, e⟩ := List.mem_map.1 hk
      have := hi p hp
      rw [e] at this; simp at this
    | some j =>
      obtain ⟨hj, h1, _⟩ := idx_spec hi
      rw [up_some hi]
      unfold keysL
      rw [List.map_set]
      have : (L.map (·.1)).set j k = L.map (·.1) := by
        apply List.ext_getElem
        · simp
        · intro i h2 h3
          rw [List.getElem_set]
          split
          · rename_i e; subst e; simp [h1]
          · rfl
      rw [this]; exact h
  · rw [up_none hk]
    unfold keysL
    rw [List.map_append, List.nodup_append]
    refine ⟨h, by simp, fun a ha b hb e => ?_⟩
    simp only [List.map_cons, List.map_nil, List.mem_singleton] at hb
    subst hb; subst e; exact hk ha
theorem lk_up {L : ML} {k : Int} (v : Value) (x : Int) (hn : (keysL L).Nodup) : lk (up L k v) x = if x = k then some v else lk L x := by
  cases hi : L.findIdx? (fun p => p.1 == k) with
  | none =>
    have hk : k ∉ keysL L := fun h => by
      rw [List.findIdx?_eq_none_iff] at hi
      obtain ⟨p, hp, e⟩ := List.mem_map.1 h
      have := hi p hp
      rw [e] at this; simp at this
    rw [up_none hk]
    unfold lk
    rw [List.find?_append]
    by_cases hx : x = k
    · subst hx
      have : L.find? (fun p => p.1 == x) = none := by
        have := (lk_none (L := L) (k := x)).2 hk
        unfold lk at this
        simpa using this
      rw [this]; simp
    · have hne : (k == x) = false := by simpa using fun e => hx e.symm
      simp [hne, hx]
  | some j =>
    obtain ⟨hj, h1, _⟩ := idx_spec hi
    rw [up_some hi]
    have hnd := nodup_up (k := k) v hn
    rw [up_some hi] at hnd
    by_cases hx : x = k
    · subst hx
      rw [if_pos rfl]
      unfold lk
      have hf : (L.set j (x, v)).find? (fun p => p.1 == x) = some (x, v) := by
        refine List.find?_eq_some_iff_getElem.2 ⟨by simp, j, by simpa using hj, by simp, fun i hij => ?_⟩
        rw [List.getElem_set_ne (by omega)]
        rw [List.findIdx?_eq_some_iff_getElem] at hi
        obtain ⟨_, _, h3⟩ := hi
        simpa using h3 i hij
      rw [hf]; rfl
    · rw [if_neg hx]
      unfold lk
      congr 1
      have : ∀ (M : ML) (j : Nat) (hj : j < M.length), M[j].1 = k → (M.set j (k, v)).find? (fun p => p.1 == x) = M.find? (fun p => p.1 == x) := by
        intro M
        induction M with
        | nil => intro j hj; simp at hj
        | cons p M ih =>
          intro j hj hp
          cases j with
          | zero =>
            simp only [List.getElem_cons_zero] at hp
            have e1 : (p.1 == x) = false := by rw [hp]; simpa using fun e => hx e.symm
            have e2 : (k == x) = false := by simpa using fun e => hx e.symm
            simp [e1, e2]
          | succ j =>
            simp only [List.set_cons_succ, List.find?_cons]
            rw [ih j (by simpa using hj) (by simpa using hp)]
      exact this L j hj h1
theorem up_length {L : ML} {k : Int} (v : Value) : (up L k v).length ≤ L.length + 1 ∧ L.length ≤ (up L k v).length := by
  cases hi : L.findIdx? (fun p => p.1 == k) with
  | none => unfold up; rw [hi]; simp
  | some j => rw [up_some hi, List.length_set]; omega

/-- A map block. -/
structure MapI (w : World) (m : Nat) (L : ML) : Prop where
  ex : ∃ es clock, objAt w m = some (.map es clock) ∧ es.toList.map (fun e => (e.key, e.val)) = L.map (fun p => (Value.int .i64 p.1, p.2)) ∧ MapKept.Stamped es clock
  range : ∀ k ∈ keysL L, 0 ≤ k ∧ k < 1000000
  small : L.length ≤ 1000000
theorem MapI.nodup {w : World} {m : Nat} {L : ML} (h : MapI w m L) : (keysL L).Nodup := by
  obtain ⟨es, clock, _, hm, _, _, hn⟩ := h.ex
  have e : es.toList.map (·.key) = (keysL L).map (Value.int .i64) := by
    have := congrArg (List.map Prod.fst) hm
    simpa [keysL, Function.comp_def] using this
  rw [e] at hn
  exact (List.pairwise_map.1 hn).imp (fun h e => h (by rw [e]))
theorem MapI.obj {w w' : World} {m : Nat} {L : ML} (h : MapI w m L) (e : objAt w' m = objAt w m) : MapI w' m L := by
  obtain ⟨es, clock, h1, h2⟩ := h.ex
  exact ⟨⟨es, clock, e.trans h1, h2⟩, h.range, h.small⟩
theorem MapI.lt {w : World} {m : Nat} {L : ML} (h : MapI w m L) : m < w.heap.size := by
  obtain ⟨es, clock, h1, _⟩ := h.ex
  exact block_lt h1
theorem MapI.below {w w' : World} {m : Nat} {L : ML} (h : MapI w m L) (hb : Below w.heap.size w w') : MapI w' m L := h.obj (hb.block m h.lt)
theorem MapI.keeps {w w' : World} {m : Nat} {L : ML} {T : Nat → Prop} (h : MapI w m L) (hk : Keeps T w w') (hT : ¬ T m) : MapI w' m L := h.obj (hk.block m h.lt hT)
theorem MapI.made (w : World) : MapI (w.alloc (.map #[] 0)) w.heap.size [] :=
  ⟨⟨#[], 0, by rw [objAt_alloc, if_pos rfl], rfl, by simp [MapKept.Stamped]⟩, fun k hk => by simp [keysL] at hk, by simp⟩

theorem findNow_int (k : Int) (L : ML) : ∀ (es : List MapEntry) (i : Nat), es.map (fun e => (e.key, e.val)) = L.map (fun p => (Value.int .i64 p.1, p.2)) →
    Instr.findNow (.int .i64) (.int .i64 k) es i = some ((L.findIdx? (fun p => p.1 == k)).bind fun j => (L[j]?).map fun p => (i + j, p.2)) := by
  induction L with
  | nil => intro es i h; cases es with
    | nil => rfl
    | cons e es => simp at h
  | cons p L ih =>
    intro es i h
    cases es with
    | nil => simp at h
    | cons e es =>
      simp only [List.map_cons, List.cons.injEq, Prod.mk.injEq] at h
      obtain ⟨⟨hk, hv⟩, ht⟩ := h
      have h1 := ih es (i + 1) ht
      unfold Instr.findNow
      rw [hk]
      by_cases hpk : p.1 = k
      · have e1 : Instr.sameNow (.int .i64) (.int .i64 k) (.int .i64 p.1) = some true := by simp [Instr.sameNow, hpk]
        rw [e1]
        simp [List.findIdx?_cons, hpk, hv]
      · have e1 : Instr.sameNow (.int .i64) (.int .i64 k) (.int .i64 p.1) = some false := by simp [Instr.sameNow]; exact fun e => hpk e.symm
        rw [e1, h1]
        simp only [List.findIdx?_cons, beq_iff_eq, hpk, if_false]
        cases L.findIdx? (fun p => p.1 == k) with
        | none => rfl
        | some j => simp; cases L[j]? with
          | none => rfl
          | some q => simp; omega
variable {P : Program}
theorem run_lookupI {w : World} {t kt et m : Nat} {L : ML} (h : MapI w m L) (ht : P.underlying t = some (.map kt et)) (hk : P.underlying kt = some (.int .i64)) {z : Value} (hz : (zeroValue et).run P w = .ok z w) (k : Int) (ok : Bool) :
    (Instr.lookup t (.map (some m)) (.int .i64 k) ok).run P w = .ok (if ok then .tuple #[(lk L k).getD z, .bool (lk L k).isSome] else (lk L k).getD z) w := by
  obtain ⟨es, clock, h1, h2, h3⟩ := h.ex
  have hc : ∀ b, (Instr.checkKey b 10000 kt (.int .i64 k)).run P w = .ok () w := fun b => MapKept.run_checkKey (k := .int .i64 k) hk (by simp [MapKept.IsKey]) b 9999
  have hf := MapKept.run_findKey (w := w) hk (findNow_int k L es.toList 0 h2)
  have hg := MapKept.run_getObj_map (P := P) (objAt_heap h1)
  cases hi : L.findIdx? (fun p => p.1 == k) with
  | none =>
    have hl : lk L k = none := by
      rw [lk_none]
      intro hm
      rw [List.findIdx?_eq_none_iff] at hi
      obtain ⟨p, hp, e⟩ := List.mem_map.1 hm
      have := hi p hp
      rw [e] at this; simp at this
    rw [hi] at hf
    simp [Instr.lookup, run_underlying ht, hg, hc, hf, hz, hl, Result.andThen]
  | some j =>
    obtain ⟨hj, e1, hl⟩ := idx_spec hi
    rw [hi] at hf
    simp only [Option.bind_some, List.getElem?_eq_getElem hj, Option.map_some] at hf
    simp [Instr.lookup, run_underlying ht, hg, hc, hf, hl, Result.andThen]
theorem MapI.set {w : World} {m : Nat} {L : ML} (h : MapI w m L) (L' : ML) (es' : Array MapEntry) (clock' : Nat) (h2 : es'.toList.map (fun e => (e.key, e.val)) = L'.map (fun p => (Value.int .i64 p.1, p.2))) (h3 : MapKept.Stamped es' clock') (hr : ∀ k ∈ keysL L', 0 ≤ k ∧ k < 1000000) (hs : L'.length ≤ 1000000) :
    MapI (setBlock w m (.map es' clock')) m L' ∧ Keeps (fun g => g = m) w (setBlock w m (.map es' clock')) := by
  obtain ⟨es, clock, h1, _⟩ := h.ex
  refine ⟨⟨⟨es', clock', heap_setBlock_same (objAt_heap h1) _, h2, h3⟩, hr, hs⟩, rfl, rfl, rfl, by simp [setBlock], fun k hk hn => heap_setBlock_other (objAt_heap h1) _ hn⟩
theorem run_updateI {w : World} {t kt et m : Nat} {L : ML} (h : MapI w m L) (ht : P.underlying t = some (.map kt et)) (hk : P.underlying kt = some (.int .i64)) (k : Int) (hk0 : 0 ≤ k) (hk1 : k < 1000000) (v : Value) (hl : L.length < 1000000) :
    ∃ w', (Instr.mapUpdate t (.map (some m)) (.int .i64 k) v).run P w = .ok () w' ∧ MapI w' m (up L k v) ∧ Keeps (fun g => g = m) w w' := by
  obtain ⟨es, clock, h1, h2, h3⟩ := h.ex
  have hc : ∀ b, (Instr.checkKey b 10000 kt (.int .i64 k)).run P w = .ok () w := fun b => MapKept.run_checkKey (k := .int .i64 k) hk (by simp [MapKept.IsKey]) b 9999
  have hf := MapKept.run_findKey (w := w) hk (findNow_int k L es.toList 0 h2)
  have hg := MapKept.run_getObj_map (P := P) (objAt_heap h1)
  have hr : ∀ x ∈ keysL (up L k v), 0 ≤ x ∧ x < 1000000 := fun x hx => by
    rcases (keys_up v x).1 hx with rfl | hx
    · exact ⟨hk0, hk1⟩
    · exact h.range x hx
  have hlen := (up_length (L := L) (k := k) v).1
  cases hi : L.findIdx? (fun p => p.1 == k) with
  | none =>
    have hnk : k ∉ keysL L := by
      intro hm
      rw [List.findIdx?_eq_none_iff] at hi
      obtain ⟨p, hp, e⟩ := List.mem_map.1 hm
      have := hi p hp
      rw [e] at this; simp at this
    rw [hi] at hf
    have hup := up_none hnk v
    have hs := MapI.set h (up L k v) (es.push { key := .int .i64 k, val := v, born := clock }) (clock + 1) (by rw [hup]; simp [h2]) ⟨?_, ?_, ?_⟩ hr (by omega)
    · refine ⟨_, ?_, hs⟩
      simp [Instr.mapUpdate, run_underlying ht, hg, hc, hf, MapKept.run_setObj_map _ (objAt_heap h1), Result.andThen, setBlock]
    · intro x hx
      simp only [Array.toList_push, List.mem_append, List.mem_singleton] at hx
      rcases hx with hx | rfl
      · have := h3.1 x hx; omega
      · show clock < clock + 1; omega
    · simp only [Array.toList_push, List.map_append, List.map_cons, List.map_nil]
      rw [List.nodup_append]
      refine ⟨h3.2.1, by simp, fun a ha b hb e => ?_⟩
      simp only [List.mem_singleton] at hb
      obtain ⟨x, hx, rfl⟩ := List.mem_map.1 ha
      have := h3.1 x hx
      omega
    · simp only [Array.toList_push, List.map_append, List.map_cons, List.map_nil]
      rw [List.nodup_append]
      refine ⟨h3.2.2, by simp, fun a ha b hb e => ?_⟩
      simp only [List.mem_singleton] at hb
      subst hb; subst e
      have e2 : es.toList.map (·.key) = (keysL L).map (Value.int .i64) := by
        have := congrArg (List.map Prod.fst) h2
        simpa [keysL, Function.comp_def] using this
      rw [e2] at ha
      obtain ⟨x, hx, e3⟩ := List.mem_map.1 ha
      simp only [Value.int.injEq, true_and] at e3
      subst e3
      exact hnk hx
  | some j =>
    obtain ⟨hj, e1, hlk⟩ := idx_spec hi
    have hup := up_some hi v
    rw [hi] at hf
    simp only [Option.bind_some, List.getElem?_eq_getElem hj, Option.map_some, Nat.zero_add] at hf
    have hjs : j < es.toList.length := by have := congrArg List.length h2; simp only [List.length_map] at this; omega
    have hkey : es.toList[j].key = .int .i64 k := by
      have := congrArg (fun l => l[j]?) h2
      simp only [List.getElem?_map, List.getElem?_eq_getElem hjs, List.getElem?_eq_getElem hj, Option.map_some, Option.some.injEq, Prod.mk.injEq] at this
      rw [this.1, e1]
    have hjs' : j < es.size := by simpa using hjs
    have hkey' : es[j].key = .int .i64 k := by simpa using hkey
    have hmod : (es.modify j fun e => { e with key := .int .i64 k, val := v }).toList = es.toList.set j { es.toList[j] with key := .int .i64 k, val := v } := by
      apply List.ext_getElem
      · simp
      · intro i h5 h6
        simp only [Array.getElem_toList, Array.getElem_modify, List.getElem_set]
        by_cases e : j = i
        · subst e; simp
        · simp [e]
    have hs := MapI.set h (up L k v) (es.modify j fun e => { e with key := .int .i64 k, val := v }) clock (by
      rw [hup, hmod, List.map_set, List.map_set, h2]) ⟨?_, ?_, ?_⟩ hr (by omega)
    · refine ⟨_, ?_, hs⟩
      have hst : (Instr.keyThatStays (.int .i64 k) (.int .i64 k)).run P w = .ok (.int .i64 k) w := by simp [Instr.keyThatStays, Instr.sameBits]
      simp [Instr.mapUpdate, run_underlying ht, hg, hc, hf, hjs', hkey', hst, MapKept.run_setObj_map _ (objAt_heap h1), Result.andThen, setBlock]
    · intro x hx
      rw [hmod] at hx
      rcases List.mem_or_eq_of_mem_set hx with hx | rfl
      · exact h3.1 x hx
      · exact h3.1 es.toList[j] (List.getElem_mem hjs)
    · rw [hmod, List.map_set]
      have : (es.toList.map (·.born)).set j es.toList[j].born = es.toList.map (·.born) := by
        apply List.ext_getElem
        · simp
        · intro i h5 h6
          rw [List.getElem_set]
          split
          · rename_i e; subst e; simp
          · rfl
      show ((es.toList.map (·.born)).set j es.toList[j].born).Nodup
      rw [this]; exact h3.2.1
    · rw [hmod, List.map_set]
      have : (es.toList.map (·.key)).set j (.int .i64 k) = es.toList.map (·.key) := by
        apply List.ext_getElem
        · simp
        · intro i h5 h6
          rw [List.getElem_set]
          split
          · rename_i e; subst e; rw [List.getElem_map]; exact hkey.symm
          · rfl
      rw [this]; exact h3.2.2
theorem run_clearI {w : World} {t kt et m : Nat} {L : ML} (h : MapI w m L) (ht : P.underlying t = some (.map kt et)) (ty : TypeId) :
    ∃ w', (Builtin.clear_ #[t] ty #[.map (some m)]).run P w = .ok (.tuple #[]) w' ∧ MapI w' m [] ∧ Keeps (fun g => g = m) w w' := by
  obtain ⟨es, clock, h1, h2, h3⟩ := h.ex
  have hg := MapKept.run_getObj_map (P := P) (objAt_heap h1)
  have hs := MapI.set h [] #[] clock rfl (by simp [MapKept.Stamped]) (fun k hk => by simp [keysL] at hk) (by simp)
  refine ⟨_, ?_, hs⟩
  simp [Builtin.clear_, run_underlying ht, hg, MapKept.run_setObj_map _ (objAt_heap h1), Result.andThen, setBlock]
theorem run_lenI {w : World} {t kt et m : Nat} {L : ML} (h : MapI w m L) (ht : P.underlying t = some (.map kt et)) (ty : TypeId) :
    (Builtin.len_ #[t] ty #[.map (some m)]).run P w = .ok (.int .i64 L.length) w := by
  obtain ⟨es, clock, h1, h2, h3⟩ := h.ex
  have hg := MapKept.run_getObj_map (P := P) (objAt_heap h1)
  have hl : es.size = L.length := by have := congrArg List.length h2; simpa using this
  simp [Builtin.len_, run_underlying ht, hg, goInt, Result.andThen, hl]
end Go.Proofs.YtanmihhlkelgeaaGreat
