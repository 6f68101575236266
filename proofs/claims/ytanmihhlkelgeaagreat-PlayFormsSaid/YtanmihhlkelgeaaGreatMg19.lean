/- DERIVED. Contracts and laws that the proofs of this seat share, part 19 of 32: PyA. -/
import Derived.Test.YtanmihhlkelgeaaGreatMg04
/- DERIVED. Plain Lean: steps as bytes, and bytes as steps. No program in sight. -/
namespace Go.Proofs.YtanmihhlkelgeaaGreat
attribute [local go_sem] hasBlk

structure Stp where
  kind : Int
  n : Int
  ask : Int
  path : ByteArray
  dest : ByteArray
  an : Int
  off : Int
  len : Int
  data : List UInt8
  cut : Int
  keep : List (List UInt8)
deriving DecidableEq

def Stp.of (kind n : Int) : Stp := ⟨kind, n, 0, ⟨#[]⟩, ⟨#[]⟩, 0, 0, 0, [], 0, []⟩
/-- A whole number in n bytes, what is above cut off. -/
def ihigh (v : Int) (n : Nat) : List UInt8 := (List.range n).map fun j => UInt8.ofNat (v / 256 ^ (n - 1 - j) % 256).toNat
theorem ihigh_length (v : Int) (n : Nat) : (ihigh v n).length = n := by simp [ihigh]
theorem ihigh_nat (v n : Nat) : ihigh (v : Int) n = high v n := by
  unfold ihigh high
  refine List.map_congr_left fun j _ => ?_
  congr 1
def textW (l : List UInt8) : List UInt8 := ihigh l.length 1 ++ l
def bodyW (s : Stp) : List UInt8 :=
  if s.kind = 5 then ihigh (s.cut + 1) 1 ++ ihigh s.keep.length 1 ++ s.keep.flatMap textW
  else ihigh s.n 2 ++ if s.kind = 2 then ihigh s.ask 1 ++ textW s.path.data.toList ++ textW s.dest.data.toList ++ ihigh s.an 2 ++ ihigh s.off 2 ++ ihigh s.len 2 ++ textW s.data else []
def writeStp (s : Stp) : List UInt8 := ihigh s.kind 1 ++ bodyW s

abbrev Rd := List UInt8 × Bool
def rB (n : Nat) (r : Rd) : List UInt8 × Rd := if r.1.length < n then ([], ([], true)) else (r.1.take n, (r.1.drop n, r.2))
def rN (n : Nat) (r : Rd) : Nat × Rd := (num (rB n r).1, (rB n r).2)
def rT (r : Rd) : List UInt8 × Rd := rB (rN 1 r).1 (rN 1 r).2
def rTs : Nat → Rd → List (List UInt8) × Rd
  | 0, r => ([], r)
  | k + 1, r => ((rTs k r).1 ++ [(rT (rTs k r).2).1], (rT (rTs k r).2).2)
def bindR {α β : Type} (f : Rd → α × Rd) (g : α → Rd → β × Rd) : Rd → β × Rd := fun r => g (f r).1 (f r).2
def retR {α : Type} (a : α) : Rd → α × Rd := fun r => (a, r)
def rAsk (kind n : Nat) : Rd → Stp × Rd :=
  bindR (rN 1) fun a => bindR rT fun p => bindR rT fun t => bindR (rN 2) fun x => bindR (rN 2) fun o => bindR (rN 2) fun l => bindR rT fun d =>
  retR ⟨kind, n, a, ⟨p.toArray⟩, ⟨t.toArray⟩, x, o, l, d, 0, []⟩
def rCrash (kind : Nat) : Rd → Stp × Rd :=
  bindR (rN 1) fun c => bindR (rN 1) fun m => bindR (rTs (m % 9)) fun k => retR ⟨kind, 0, 0, ⟨#[]⟩, ⟨#[]⟩, 0, 0, 0, [], (c : Int) - 1, k⟩
def rStep (kind : Nat) : Rd → Stp × Rd :=
  if kind = 5 then rCrash kind
  else bindR (rN 2) fun n => if kind = 2 then rAsk kind n else retR (Stp.of kind n)
/-- Which steps bytes say. -/
def decF : Nat → List UInt8 → List Stp
  | 0, _ => []
  | _ + 1, [] => []
  | f + 1, c :: b =>
    if c.toNat % 7 = 0 then decF f b
    else if (rStep (c.toNat % 7) (b, false)).2.2 = true then []
    else (rStep (c.toNat % 7) (b, false)).1 :: decF f (rStep (c.toNat % 7) (b, false)).2.1
def decode (b : List UInt8) : List Stp := decF b.length b
def encOne (s : Stp) : List UInt8 := if decode (writeStp s) = [s] then writeStp s else []
def encode (l : List Stp) : List UInt8 := l.flatMap encOne

/-! What a reader does: less is left; it is the same with more behind, unless it is short. -/
theorem rB_short (n : Nat) (r : Rd) (h : (rB n r).2.2 = false) : r.2 = false ∧ n ≤ r.1.length := by
  unfold rB at h
  split at h
  · cases h
  · exact ⟨h, by omega⟩
theorem rB_more {n : Nat} {b q : List UInt8} (h : (rB n (b, false)).2.2 = false) : rB n (b ++ q, false) = ((rB n (b, false)).1, ((rB n (b, false)).2.1 ++ q, false)) := by
  have := (rB_short n _ h).2
  dsimp only at this
  unfold rB
  rw [if_neg (by dsimp only; rw [List.length_append]; omega), if_neg (by dsimp only; omega)]
  dsimp only
  rw [List.take_append_of_le_length this, List.drop_append_of_le_length this]
theorem rd_eta {r : Rd} (h : r.2 = false) : r = (r.1, false) := by rw [← h]
structure More {α : Type} (f : Rd → α × Rd) : Prop where
  le : ∀ r, (f r).2.1.length ≤ r.1.length
  first : ∀ r, (f r).2.2 = false → r.2 = false
  more : ∀ b q, (f (b, false)).2.2 = false → f (b ++ q, false) = ((f (b, false)).1, ((f (b, false)).2.1 ++ q, false))
theorem More.rB (n : Nat) : More (rB n) := ⟨fun r => by
  unfold Go.Proofs.YtanmihhlkelgeaaGreat.rB
  split
  · simp
  · simp, fun r h => (rB_short n r h).1, fun _ _ h => rB_more h⟩
theorem More.ret {α : Type} (a : α) : More (retR a) := ⟨fun _ => Nat.le_refl _, fun _ h => h, fun _ _ _ => rfl⟩
theorem More.bind {α β : Type} {f : Rd → α × Rd} {g : α → Rd → β × Rd} (h : More f) (hg : ∀ a, More (g a)) : More (bindR f g) :=
  ⟨fun r => Nat.le_trans ((hg _).le _) (h.le r), fun r hs => h.first r ((hg _).first _ hs), fun b q hs => by
    have h1 := (hg _).first _ hs
    unfold bindR at hs ⊢
    rw [h.more b q h1]
    have e := rd_eta h1
    rw [e] at hs
    dsimp only
    rw [(hg _).more _ q hs, ← e]⟩
theorem More.rN (n : Nat) : More (rN n) := (More.rB n).bind (g := fun l => retR (num l)) fun _ => More.ret _
theorem More.rT : More rT := (More.rN 1).bind (g := Go.Proofs.YtanmihhlkelgeaaGreat.rB) More.rB
theorem More.rTs : ∀ k, More (rTs k)
  | 0 => More.ret []
  | k + 1 => (More.rTs k).bind (g := fun l => bindR Go.Proofs.YtanmihhlkelgeaaGreat.rT fun x => retR (l ++ [x])) fun _ => More.rT.bind fun _ => More.ret _
theorem More.rAsk (kind n : Nat) : More (rAsk kind n) := (More.rN 1).bind fun _ => More.rT.bind fun _ => More.rT.bind fun _ => (More.rN 2).bind fun _ => (More.rN 2).bind fun _ => (More.rN 2).bind fun _ => More.rT.bind fun _ => More.ret _
theorem More.rCrash (kind : Nat) : More (rCrash kind) := (More.rN 1).bind fun _ => (More.rN 1).bind fun _ => (More.rTs _).bind fun _ => More.ret _
theorem More.rStep (kind : Nat) : More (rStep kind) := by
  unfold Go.Proofs.YtanmihhlkelgeaaGreat.rStep
  split
  · exact More.rCrash kind
  · refine (More.rN 2).bind fun n => ?_
    split
    · exact More.rAsk kind n
    · exact More.ret _
theorem rStep_le (kind : Nat) (b : List UInt8) (f : Bool) : (rStep kind (b, f)).2.1.length ≤ b.length := (More.rStep kind).le (b, f)
theorem decF_fuel : ∀ (f f' : Nat) (b : List UInt8), b.length ≤ f → b.length ≤ f' → decF f b = decF f' b
  | 0, 0, _, _, _ => rfl
  | 0, f' + 1, b, h, _ => by
    obtain rfl : b = [] := List.length_eq_zero_iff.1 (by omega)
    rfl
  | f + 1, 0, b, _, h => by
    obtain rfl : b = [] := List.length_eq_zero_iff.1 (by omega)
    rfl
  | f + 1, f' + 1, [], _, _ => rfl
  | f + 1, f' + 1, c :: b, h, h' => by
    simp only [List.length_cons] at h h'
    unfold decF
    split
    · exact decF_fuel f f' b (by omega) (by omega)
    · split
      · rfl
      · have := rStep_le (c.toNat % 7) b false
        rw [decF_fuel f f' _ (by omega) (by omega)]
theorem decode_nil : decode [] = [] := rfl
theorem decode_cons (c : UInt8) (b : List UInt8) : decode (c :: b) = if c.toNat % 7 = 0 then decode b
    else if (rStep (c.toNat % 7) (b, false)).2.2 = true then []
    else (rStep (c.toNat % 7) (b, false)).1 :: decode (rStep (c.toNat % 7) (b, false)).2.1 := by
  unfold decode
  rw [List.length_cons, decF]
  split
  · rfl
  · split
    · rfl
    · rw [decF_fuel _ _ _ (rStep_le _ _ _) (Nat.le_refl _)]
/-! Cut off: nothing is said. -/
theorem decode_cut {c : UInt8} {p q : List UInt8} (h0 : c.toNat % 7 ≠ 0) {s : Stp} (h : rStep (c.toNat % 7) (p ++ q, false) = (s, ([], false))) (hq : q ≠ []) : decode (c :: p) = [] := by
  rw [decode_cons, if_neg h0]
  split
  · rfl
  · rename_i hn
    have hf : (rStep (c.toNat % 7) (p, false)).2.2 = false := by simpa using hn
    have := (More.rStep (c.toNat % 7)).more p q hf
    rw [h] at this
    have := congrArg (fun x => x.2.1) this
    dsimp only at this
    exact absurd (List.append_eq_nil_iff.1 this.symm).2 hq
end Go.Proofs.YtanmihhlkelgeaaGreat
