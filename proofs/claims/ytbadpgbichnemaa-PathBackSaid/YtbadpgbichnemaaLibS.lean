/- DERIVED. Plain laws on strings of bytes: a text all of whose bytes are good; a text cut at slashes. -/
import Derived.Test.YtbadpgbichnemaaLibA
import Derived.Shelf.GgClosure.StringsIndexFunc
import Derived.Lib.Bytealg
namespace Go.Proofs.Ytbadpgbichnemaa
open Go.RowKit

/-- A predicate on runes that all runes from 128 on meet: it is met somewhere just if some byte meets it. -/
theorem idxFunc_any (p : Nat → Bool) (hp : ∀ r, 128 ≤ r → p r = true) (s : ByteArray) : ∀ (f pos : Nat), s.size - pos ≤ f → pos ≤ s.size →
    (decide (0 ≤ Lib.idxFuncFrom p true s f pos) = (s.data.toList.drop pos).any (fun c => p c.toNat)) := by
  intro f
  induction f with
  | zero =>
    intro pos h1 h2
    have : s.data.toList.drop pos = [] := List.drop_eq_nil_of_le (by have : s.data.toList.length = s.size := by simp
                                                                     omega)
    rw [this]; rfl
  | succ f ih =>
    intro pos h1 h2
    unfold Lib.idxFuncFrom
    by_cases hlt : pos < s.size
    · have hlen : s.data.toList.length = s.size := by simp
      have hdrop : s.data.toList.drop pos = s[pos]'hlt :: s.data.toList.drop (pos + 1) := by
        rw [List.drop_eq_getElem_cons (by omega)]; rfl
      rw [if_pos hlt, hdrop, List.any_cons]
      by_cases ha : (s[pos]'hlt).toNat < 128
      · rw [decode_ascii s pos hlt ha]
        by_cases hpp : p (s[pos]'hlt).toNat = true
        · rw [if_pos hpp, hpp]; simp
        · rw [if_neg hpp, ih (pos + 1) (by omega) (by omega)]
          simp only [Bool.not_eq_true] at hpp
          rw [hpp]; simp
      · have hh := decode_high s pos hlt (by omega)
        rw [if_pos (hp _ hh.1), hp _ (by omega : 128 ≤ (s[pos]'hlt).toNat)]
        simp
    · rw [if_neg hlt]
      have hlen : s.data.toList.length = s.size := by simp
      rw [List.drop_eq_nil_of_le (by omega)]; rfl

theorem idxFunc_bytes (p : Nat → Bool) (hp : ∀ r, 128 ≤ r → p r = true) (s : ByteArray) : decide (0 ≤ Lib.idxFunc p true s) = s.data.toList.any (fun c => p c.toNat) := by
  unfold Lib.idxFunc
  rw [idxFunc_any p hp s s.size 0 (by omega) (by omega), List.drop_zero]

/-- A byte that no name bears. -/
def badName (r : Nat) : Bool := decide (r < 33) || decide (126 < r) || decide (r = 47)
theorem badName_high (r : Nat) (h : 128 ≤ r) : badName r = true := by
  unfold badName
  have : decide (126 < r) = true := by simp; omega
  rw [this]; simp

/-- May a name be: P14.1. -/
def mayName (l : List UInt8) : Bool := decide (1 ≤ l.length) && decide (l.length ≤ 14) && !(l.any fun c => badName c.toNat) && !(l == [46]) && !(l == [46, 46])

/-- One part more ahead of what is behind it. -/
def partOn (q : List UInt8) (r : Option (List (List UInt8))) : Option (List (List UInt8)) :=
  if q = [46] then r else if mayName q then r.map (q :: ·) else none

/-- The names of what is behind the first slash, q being the part that is being read. -/
def scan : List UInt8 → List UInt8 → Option (List (List UInt8))
  | q, [] => partOn q (some [])
  | q, c :: s => if c = 47 then partOn q (scan [] s) else scan (q ++ [c]) s

/-- The names of a path: P20.1. -/
def splitOf (p : List UInt8) : Option (List (List UInt8)) :=
  match p with
  | [] => none
  | c :: r => if c = 47 ∧ p.length ≤ 120 then (if r = [] then some [] else scan [] r) else none

theorem scan_take (q s : List UInt8) (h : (47 : UInt8) ∉ s) : scan q s = partOn (q ++ s) (some []) := by
  induction s generalizing q with
  | nil => simp [scan]
  | cons c s ih =>
    have hc : c ≠ 47 := fun e => h (by simp [e])
    rw [scan, if_neg hc, ih (q ++ [c]) (fun hm => h (by simp [hm]))]
    simp

theorem scan_cut (q a b : List UInt8) (h : (47 : UInt8) ∉ a) : scan q (a ++ 47 :: b) = partOn (q ++ a) (scan [] b) := by
  induction a generalizing q with
  | nil => simp [scan]
  | cons c a ih =>
    have hc : c ≠ 47 := fun e => h (by simp [e])
    rw [List.cons_append, scan, if_neg hc, ih (q ++ [c]) (fun hm => h (by simp [hm]))]
    simp

/-- Where a byte is first: what is ahead of it has none. -/
theorem indexByte_none {s : List UInt8} {c : UInt8} : c ∉ s → Lib.indexByte s c = -1 := by
  induction s with
  | nil => intro _; rfl
  | cons x s ih =>
    intro h
    have h1 : (x == c) = false := by simp; intro e; exact h (by simp [e])
    rw [Lib.indexByte, h1, ih (fun hm => h (by simp [hm]))]; rfl
theorem indexByte_cut {a b : List UInt8} {c : UInt8} : c ∉ a → Lib.indexByte (a ++ c :: b) c = a.length := by
  induction a with
  | nil => intro _; simp [Lib.indexByte]
  | cons x a ih =>
    intro h
    have h1 : (x == c) = false := by simp; intro e; exact h (by simp [e])
    rw [List.cons_append, Lib.indexByte, h1, ih (fun hm => h (by simp [hm]))]
    have : ((a.length : Int) == -1) = false := by simp
    simp only [this]
    simp
theorem cut_cases (s : List UInt8) (c : UInt8) : c ∉ s ∨ ∃ a b, s = a ++ c :: b ∧ c ∉ a := by
  induction s with
  | nil => left; simp
  | cons x s ih =>
    by_cases hx : x = c
    · right; exact ⟨[], s, by simp [hx], by simp⟩
    · rcases ih with h | ⟨a, b, rfl, h⟩
      · left; simp; exact ⟨fun e => hx e.symm, h⟩
      · right; exact ⟨x :: a, b, by simp, by simp; exact ⟨fun e => hx e.symm, h⟩⟩

end Go.Proofs.Ytbadpgbichnemaa
