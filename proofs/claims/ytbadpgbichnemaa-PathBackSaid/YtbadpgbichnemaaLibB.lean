/- DERIVED. What the reading of an argument tells of memory: slices of whole numbers, of arrays of whole numbers. -/
import Derived.Test.YtbadpgbichnemaaLibA
import Derived.ProofKit
import Derived.OpenShut
import Derived.Deep.Slices
namespace Go.Proofs.Ytbadpgbichnemaa
open Go.RowKit Go.ChangeShapes Go.WideShapes Go.Deep

/-- n cells from a slice's address on hold the whole numbers f 0, f 1, ..; they lie below block B. -/
def Flat (k : IntKind) (w : World) (B : Nat) (a : Option Addr) (n : Nat) (f : Nat → Int) : Prop :=
  ∃ b off, (0 < n → a = some ⟨b, off, none⟩ ∧ b < B) ∧ ∀ i, i < n → w.cell? ⟨b, off + i, none⟩ = some (.int k (f i)) ∧ (Lit.int k (f i)).wf = true

theorem Flat.below {k : IntKind} {w w' : World} {B : Nat} {a : Option Addr} {n : Nat} {f : Nat → Int} (h : Flat k w B a n f) (hb : Below B w w') : Flat k w' B a n f := by
  obtain ⟨b, off, h1, h2⟩ := h
  refine ⟨b, off, h1, fun i hi => ⟨?_, (h2 i hi).2⟩⟩
  rw [hb.cell (p := ⟨b, off + i, none⟩) (h1 (by omega)).2]
  exact (h2 i hi).1

theorem spot_of_cell {w : World} {a : Addr} {v : Value} (h : w.cell? a = some v) : a = ⟨a.block, a.off, none⟩ := by
  obtain ⟨b, o, s⟩ := a
  cases s with
  | none => rfl
  | some s => unfold World.cell? at h; split at h <;> simp at h

theorem add_off (b off i : Nat) : (⟨b, off, none⟩ : Addr).add i = ⟨b, off + i, none⟩ := by
  unfold Addr.add; split
  · rename_i h; subst h; rfl
  · rfl

section
variable {H : Type} {enc : TypeId × Value → H} {P : Program} {w : World}

theorem lt_of_cell {a : Addr} {v : Value} (h : w.cell? a = some v) : a.block < w.heap.size := World.block_lt_of_cell? w a h

/-- A slice of whole numbers. -/
theorem flat_ints {t e : TypeId} {k : IntKind} {a : Option Addr} {len cap : Nat} {d : DataW H} {p : List MemPlace} (ht : P.underlying t = some (.slice e)) (he : P.underlying e = some (.int k)) (hc : P.cellsOf e = 1)
    (h : DataW.Trod enc P w 0 (fun _ => true) true t (.slice a len cap) d p) : len ≤ maxLen ∧ ∃ f, Flat k w w.heap.size a len f := by
  obtain ⟨fuel, hf⟩ := h
  rcases open_ints ht he hc hf with ⟨hcs, _⟩ | ⟨x, l, c, zs, hcs, _, hl, hm, hz, _, hcell, hwz⟩
  · simp [Value.cells] at hcs
    obtain ⟨rfl, rfl, rfl⟩ := hcs
    exact ⟨Nat.zero_le _, fun _ => 0, 0, 0, fun h => absurd h (Nat.lt_irrefl 0), fun i hi => absurd hi (Nat.not_lt_zero i)⟩
  · simp [Value.cells] at hcs
    obtain ⟨rfl, rfl, rfl⟩ := hcs
    have hz' : zs.length = cap := by simpa using hz
    refine ⟨by omega, fun i => zs.getD i 0, x.block, x.off, fun h0 => ?_, fun i hi => ?_⟩
    · have h1 := hcell 0 (by omega)
      have e0 : x.add 0 = x := rfl
      rw [e0] at h1
      exact ⟨congrArg some (spot_of_cell h1), lt_of_cell h1⟩
    · have h1 := hcell 0 (by omega)
      have e0 : x.add 0 = x := rfl
      rw [e0] at h1
      have hx := spot_of_cell h1
      have h2 := hcell i (by omega)
      rw [hx, add_off] at h2
      refine ⟨h2, hwz _ ?_⟩
      show zs.getD i 0 ∈ zs
      rw [List.getD_eq_getElem?_getD, List.getElem?_eq_getElem (by omega)]
      exact List.getElem_mem _

/-- A slice of arrays of m whole numbers. -/
theorem flat_arrays {t e e' : TypeId} {m : Nat} {k : IntKind} {a : Option Addr} {len cap : Nat} {d : DataW H} {p : List MemPlace} (ht : P.underlying t = some (.slice e)) (he : P.underlying e = some (.array m e')) (he' : P.underlying e' = some (.int k))
    (hc' : P.cellsOf e' = 1) (hc : P.cellsOf e = m) (hm : 0 < m)
    (h : DataW.Trod enc P w 0 (fun _ => true) true t (.slice a len cap) d p) : len ≤ maxLen ∧ ∃ f, Flat k w w.heap.size a (len * m) f := by
  obtain ⟨fuel, hf⟩ := h
  rcases open_slice ht hf with ⟨hcs, _⟩ | ⟨x, l, c, mm, n, D, Pl, hcs, _, hl, hml, hmm, _, hx⟩
  · simp [Value.cells] at hcs
    obtain ⟨rfl, rfl, rfl⟩ := hcs
    exact ⟨Nat.zero_le _, fun _ => 0, 0, 0, fun h => absurd h (by simp), fun i hi => absurd hi (by simp)⟩
  · simp [Value.cells] at hcs
    obtain ⟨rfl, rfl, rfl⟩ := hcs
    have hmc : mm = cap := by simpa using hmm
    have each : ∀ i, i < len → ∀ j, j < m → ∃ z, w.cell? (x.add (i * m + j)) = some (.int k z) ∧ (Lit.int k z).wf = true := by
      intro i hi j hj
      obtain ⟨cs', h1, h2⟩ := hx i (by omega)
      obtain ⟨_, h3, h4⟩ := World.cells?_some h1
      obtain ⟨xs, q, _, _, hl', hxl, hxe⟩ := DataW.trod_array he h2
      have h5 := hxe j hj
      rw [hc', List.getElem?_eq_getElem (by omega)] at h5
      obtain ⟨z, hz, _, hw⟩ := DataW.trod_int he' h5
      refine ⟨z, ?_, hw⟩
      have h6 := h4 j (by omega)
      rw [add_add, hc] at h6
      rw [h6]
      have h7 : (cs'.drop (j * 1)).head? = some (.int k z) := by
        have := congrArg List.head? hz
        rw [List.head?_take] at this
        simpa using this
      rw [List.head?_drop, Nat.mul_one] at h7
      exact h7
    refine ⟨by omega, ?_⟩
    rcases Nat.eq_zero_or_pos len with h0 | h0
    · subst h0
      exact ⟨fun _ => 0, 0, 0, fun h => absurd h (by simp), fun i hi => absurd hi (by simp)⟩
    · obtain ⟨z0, hz0, _⟩ := each 0 h0 0 hm
      have e0 : x.add (0 * m + 0) = x := by simp [Addr.add]
      rw [e0] at hz0
      have hx0 := spot_of_cell hz0
      have all : ∀ i, i < len * m → ∃ z, w.cell? ⟨x.block, x.off + i, none⟩ = some (.int k z) ∧ (Lit.int k z).wf = true := by
        intro i hi
        obtain ⟨z, hz, hw⟩ := each (i / m) (Nat.div_lt_of_lt_mul (by rwa [Nat.mul_comm] at hi)) (i % m) (Nat.mod_lt _ hm)
        rw [Nat.div_add_mod' i m] at hz
        rw [hx0, add_off] at hz
        exact ⟨z, hz, hw⟩
      obtain ⟨f, hf⟩ := choose_lt all
      exact ⟨f, x.block, x.off, fun _ => ⟨congrArg some hx0, lt_of_cell hz0⟩, hf⟩
end
end Go.Proofs.Ytbadpgbichnemaa
