/- DERIVED. Contracts and laws that the proofs of this seat share, part 22 of 36: Rf15B. -/
import Derived.Test.YtbbnejehglonjaaGreatMo00
import Derived.Test.YtbbnejehglonjaaGreatMo04
/- DERIVED. Contracts of clathriref15.Used, Left, First. -/
namespace Go.Proofs.YtbbnejehglonjaaGreat
open Go.RowKit
attribute [local irreducible] Calls
/-- A []bool of the call's own. -/
def ORow (w : World) (B : Nat) (v : Value) (l : List Bool) : Prop := w.ownsRow B 4 1 v l.length (l.map fun x => Value.bool x)
section
variable {w : World} {B g n cap : Nat} {v : Value} {l : List Bool}
theorem ORow.below {w' : World} (h : ORow w B v l) (hb : Below w.heap.size w w') : ORow w' B v l := by
 refine World.ownsRow.kept h ⟨hb.os, hb.tape, hb.output, hb.size, fun k hk _ => hb.block k hk⟩ (row := none) ?_
 cases v.ownBlock <;> simp
theorem ORow.get (h : ORow w B (.slice (some ⟨g, 0, none⟩) n cap) l) (j : Nat) (hj : j < l.length) : w.cell? ⟨g, j, none⟩ = some (.bool (l.getD j false)) := by
 have := World.ownsRow.cells h (g := g) rfl j (.bool (l.getD j false)) (by simp [hj])
 rw [add_off'] at this; simpa using this
theorem ORow.len (h : ORow w B (.slice (some ⟨g, 0, none⟩) n cap) l) : n = l.length := by
 rcases h.2 with ⟨h', _⟩ | ⟨g', cap', cur, h', _⟩
 · simp at h'
 · simp only [Value.slice.injEq] at h'; exact h'.2.1
theorem ORow.free (h : ORow w B (.slice (some ⟨g, 0, none⟩) n cap) l) (j : Nat) : w.frozen? ⟨g, j, none⟩ = false := by
 obtain rfl := h.len
 exact World.ownsRow.frozenAt h j
theorem ORow.set (h : ORow w B (.slice (some ⟨g, 0, none⟩) n cap) l) (j : Nat) (x : Bool) : ORow (w.setCell ⟨g, j, none⟩ (.bool x)) B (.slice (some ⟨g, 0, none⟩) n cap) (l.set j x) := by
 obtain rfl := h.len
 have := (World.ownsRow.stored h j (.bool x)).1
 unfold ORow
 rw [List.length_set, List.map_set]; exact this
theorem ORow.ge (h : ORow w B (.slice (some ⟨g, 0, none⟩) n cap) l) : B ≤ g := by
 rcases h.2 with ⟨h', _⟩ | ⟨g', cap', cur, h', hb, _⟩
 · simp at h'
 · simp only [Value.slice.injEq, Option.some.injEq, Addr.mk.injEq, and_true] at h'
   obtain ⟨rfl, _⟩ := h'; exact hb
end
end Go.Proofs.YtbbnejehglonjaaGreat
