/- DERIVED. Contracts and laws that the proofs of this seat share, part 26 of 36: FiA FiG LibCp Rf15G Rf15H Rf15I. -/
import Derived.Test.YtbbnejehglonjaaGreatMh00
import Derived.Test.YtbbnejehglonjaaGreatMh07
import Derived.Test.YtbbnejehglonjaaGreatMh14
import Derived.Test.YtbbnejehglonjaaGreatMh15
import Derived.Test.YtbbnejehglonjaaGreatMh16
import Derived.Test.YtbbnejehglonjaaGreatMh22
import Derived.Test.YtbbnejehglonjaaGreatMh25
namespace Go.Proofs.YtbbnejehglonjaaGreat
set_option maxHeartbeats 8000000
set_option maxRecDepth 100000
set_option linter.unusedSimpArgs false
set_option linter.unusedVariables false
section
open Go.RowKit

structure Fl where
 n : Nd
 li : List Int
def Fl.slot (f : Fl) (k : Nat) : Int := if k < 4 then f.n.direct.getD k 0 else f.li.getD (k - 4) 0
def Fl.put (f : Fl) (k : Nat) (x : Int) : Fl := if k < 4 then ⟨f.n.setDirect k x, f.li⟩ else ⟨f.n, f.li.set (k - 4) x⟩
def flOf (B : List Blk) (a : Int) : Option Fl :=
 if (getB B a).kind = 1 ∧ (takeNode (getB B a)).2 = true then some ⟨(takeNode (getB B a)).1, (takeIndex (getB B (takeNode (getB B a)).1.index)).getD holes⟩ else none
def usedT (B : List Blk) (T : ML) : List Bool := markAll (used B) (keysL T)
def pickT (B : List Blk) (T : ML) : Option Nat := firstFrom (usedT B T) 0
def leftT (B : List Blk) (T : ML) : Nat := (usedT B T).count false
def dataBlk : Blk := Blk.of 4 []
structure Ws where
 L : PL
 T : ML
 f : Fl
def takeIx (bs : List Blk) (s : Ws) (k : Nat) : Option Ws :=
 if 4 ≤ k ∧ s.f.n.index = -1 then (pickT (txV s.L bs) s.T).map fun (i : Nat) => ⟨s.L, up s.T (i : Int) (.bool true), ⟨{ s.f.n with index := (i : Int) }, s.f.li⟩⟩ else some s
def blkF (bs : List Blk) (s : Ws) (k : Nat) : Option Int × Ws :=
 if s.f.slot k ≠ -1 then (some (s.f.slot k), s) else
 match takeIx bs s k with
 | none => (none, s)
 | some s1 => match pickT (txV s1.L bs) s1.T with
   | none => (none, s1)
   | some i => (some (i : Int), ⟨putL s1.L bs (i : Int) dataBlk, up s1.T (i : Int) (.bool true), s1.f.put k (i : Int)⟩)
def Blk.cover (b : Blk) (a : Nat) (l : List UInt8) : Blk := ⟨b.kind, (List.range 56).map fun i => if a ≤ i ∧ i < a + l.length then l.getD (i - a) 0 else b.body.getD i 0, by simp⟩
def putP (bs : List Blk) (off : Nat) (data : List UInt8) (s : Ws) (p : Pc) (x : Int) : Ws :=
 ⟨putL s.L bs x ((getB (txV s.L bs) x).cover p.from_ ((data.drop (p.k * 56 + p.from_ - off)).take (p.to_ - p.from_))), s.T, s.f⟩
def wRun (bs : List Blk) (off : Nat) (data : List UInt8) : List Pc → Ws → Bool × Ws
 | [], s => (true, s)
 | p :: ps, s => match blkF bs s p.k with
   | (none, s1) => (false, s1)
   | (some x, s1) => wRun bs off data ps (putP bs off data s1 p x)
def keepF (bs : List Blk) (a : Int) (s : Ws) : PL := putL (if s.f.n.index = -1 then s.L else putL s.L bs s.f.n.index (putIndex s.f.li).1) bs a (putNode 1 s.f.n).1
def wEnd (l : List Pc) : Nat := match l.getLast? with | some p => p.k * 56 + p.to_ | none => 0
def wPcs (off : Nat) (data : List UInt8) : List Pc := (pieces off (off + min data.length (1120 - off))).take 4
def Fl.sized (f : Fl) (z : Int) : Fl := ⟨{ f.n with size := z }, f.li⟩
def writeF (bs : List Blk) (L : PL) (T : ML) (a off : Int) (data : List UInt8) : (Int × Int) × PL × ML :=
 match flOf (txV L bs) a with
 | none => ((0, 2), L, T)
 | some f =>
   if off < 0 then ((0, 1), L, T) else if data = [] then ((0, 0), L, T) else if 1120 ≤ off then ((0, 13), L, T) else
   match wRun bs off.toNat data (wPcs off.toNat data) ⟨L, T, f⟩ with
   | (false, s) => ((0, 9), s.L, s.T)
   | (true, s) => (((wEnd (wPcs off.toNat data) : Int) - off, 0), keepF bs a ⟨s.L, s.T, s.f.sized (max s.f.n.size (wEnd (wPcs off.toNat data)))⟩, s.T)
def readF (B : List Blk) (f : Fl) (a b : Nat) : List UInt8 := (pieces a b).flatMap fun p => ((getB B (f.slot p.k)).body.drop p.from_).take (p.to_ - p.from_)
def readR (B : List Blk) (a off n : Int) : List UInt8 × Int :=
 match flOf B a with
 | none => ([], 2)
 | some f => if off < 0 ∨ n < 0 then ([], 1) else (readF B f off.toNat (off.toNat + (min n (max (f.n.size - off) 0)).toNat), 0)
def cutB (bs : List Blk) (s : Ws) (k r : Nat) : Ws := ⟨putL s.L bs (s.f.slot k) ((getB (txV s.L bs) (s.f.slot k)).cover r (List.replicate (56 - r) 0)), s.T, s.f⟩
def cutF (bs : List Blk) (size : Nat) (s : Ws) (k : Nat) : Ws :=
 if size - k * 56 = 0 then ⟨s.L, s.T, s.f.put k (-1)⟩ else if size - k * 56 < 56 ∧ s.f.slot k ≠ -1 then cutB bs s k (size - k * 56) else s
def Fl.lean (f : Fl) : Fl := if f.li.all (· == -1) = true then ⟨{ f.n with index := -1 }, f.li⟩ else f
def cuts (bs : List Blk) (size k : Nat) (s : Ws) : Ws := (List.range k).foldl (cutF bs size) s
def truncF (bs : List Blk) (L : PL) (T : ML) (a size : Int) : Int × PL :=
 match flOf (txV L bs) a with
 | none => (2, L)
 | some f => if size < 0 then (1, L) else if 1120 < size then (13, L) else
   let s := cuts bs size.toNat 20 ⟨L, T, f.sized size⟩
   (0, keepF bs a ⟨s.L, s.T, s.f.lean⟩)

/-! Rows of truths. -/
theorem used_setsT (B : List Blk) (T : ML) (h0 : ∀ k ∈ keysL T, 0 ≤ k) : Sets (usedT B T) B.length (inUse B T) := by
 refine Sets.iff ((used_sets B).mark (keysL T) h0) fun j _ => ?_
 unfold inUse
 simp only [keysL, List.map_nil, List.not_mem_nil, false_or]
 constructor
 · rintro ((h | h) | h)
   · exact .inl h
   · exact .inr (.inr h)
   · exact .inr (.inl h)
 · rintro (h | h | h)
   · exact .inl (.inl h)
   · exact .inr h
   · exact .inl (.inr h)
theorem count_false_true (l : List Bool) : l.count false + l.count true = l.length := by
 induction l with
 | nil => rfl
 | cons b l ih => cases b <;> simp <;> omega
theorem count_sets {n : Nat} : ∀ (P : List Nat), P.Nodup → (∀ j ∈ P, j < n) → ∀ {U : List Bool}, Sets U n (fun x => ∃ j ∈ P, (j : Int) = x) → U.count true = P.length := by
 intro P
 induction P with
 | nil =>
   intro _ _ U h
   rw [List.count_eq_zero.2, List.length_nil]
   intro hm
   obtain ⟨j, hj⟩ := List.getElem?_of_mem hm
   have hlt : j < U.length := (List.getElem?_eq_some_iff.1 hj).1
   obtain ⟨_, hx, _⟩ := (h.at_ j (by rw [← h.len]; exact hlt)).1 hj
   simp at hx
 | cons p P ih =>
   intro hn hl U h
   rw [List.nodup_cons] at hn
   have hp := hl p List.mem_cons_self
   have hpU : p < U.length := by rw [h.len]; exact hp
   have h2 : Sets (U.set p false) n (fun x => ∃ j ∈ P, (j : Int) = x) := by
    refine ⟨by rw [List.length_set]; exact h.len, fun j hj => ?_⟩
    rw [List.getElem?_set]
    by_cases e : p = j
    · subst e
      rw [if_pos rfl, if_pos hpU]
      constructor
      · intro e; cases e
      · rintro ⟨q, hq, e⟩
        obtain rfl : q = p := by omega
        exact absurd hq hn.1
    · rw [if_neg e, h.at_ j hj]
      constructor
      · rintro ⟨q, hq, e'⟩
        rcases List.mem_cons.1 hq with rfl | hq
        · exact absurd (by omega) e
        · exact ⟨q, hq, e'⟩
      · rintro ⟨q, hq, e'⟩
        exact ⟨q, List.mem_cons_of_mem _ hq, e'⟩
   have h3 := ih hn.2 (fun j hj => hl j (List.mem_cons_of_mem _ hj)) h2
   have h4 : U[p] = true := by
    have := (h.at_ p hp).2 ⟨p, List.mem_cons_self, rfl⟩
    rw [List.getElem?_eq_getElem hpU] at this
    exact Option.some.inj this
   rw [List.count_set hpU, h4] at h3
   have h5 : 0 < U.count true := List.count_pos_iff.2 (h4 ▸ List.getElem_mem hpU)
   simp at h3
   rw [List.length_cons]; omega
theorem pick_none {B : List Blk} {T : ML} (h : pickT B T = none) : leftT B T = 0 := by
 rcases firstFrom_spec (l := usedT B T) _ 0 rfl with ⟨_, h2⟩ | ⟨j, h1, _⟩
 · unfold leftT
   rw [List.count_eq_zero]
   intro hm
   obtain ⟨j, hj⟩ := List.getElem?_of_mem hm
   rw [h2 j (Nat.zero_le _) (List.getElem?_eq_some_iff.1 hj).1] at hj
   cases hj
 · unfold pickT at h; rw [h] at h1; cases h1
theorem pick_some {B : List Blk} {T : ML} {k : Nat} (h : pickT B T = some k) (h0 : ∀ k ∈ keysL T, 0 ≤ k) : k < B.length ∧ ¬ inUse B T (k : Int) ∧ 0 < leftT B T := by
 rcases firstFrom_spec (l := usedT B T) _ 0 rfl with ⟨h1, _⟩ | ⟨j, h1, _, h2, _⟩
 · unfold pickT at h; rw [h] at h1; cases h1
 · unfold pickT at h
   rw [h] at h1
   obtain rfl := Option.some.inj h1
   have hl := (List.getElem?_eq_some_iff.1 h2).1
   have hs := used_setsT B T h0
   rw [hs.len] at hl
   refine ⟨hl, fun e => ?_, List.count_pos_iff.2 (List.mem_of_getElem? h2)⟩
   rw [(hs.at_ k hl).2 e] at h2
   cases h2
end
section
open Go.RowKit
attribute [local irreducible] Calls

def Fl.cells (f : Fl) (t : Nat) (a : Int) (v : Value) : Array Value := #[.pointer (some ⟨t, 0, none⟩), .int .i64 a, .int .u32 f.n.gen, .int .i64 f.n.links, .int .i64 f.n.size, .int .i64 f.n.d0, .int .i64 f.n.d1, .int .i64 f.n.d2, .int .i64 f.n.d3, .int .i64 f.n.index, .string f.n.target, v]
structure FlAt (w : World) (B F t : Nat) (a : Int) (f : Fl) (gi ci : Nat) : Prop where
 obj : objAt w F = some (.cells (f.cells t a (.slice (some ⟨gi, 0, none⟩) 16 ci)) 177 (0, 0))
 row : IRow w B (.slice (some ⟨gi, 0, none⟩) 16 ci) f.li
 l16 : f.li.length = 16
 ge : B ≤ F
def slotA (F gi k : Nat) : Addr := if k < 4 then ⟨F, 5 + k, none⟩ else ⟨gi, k - 4, none⟩
section
variable {w w' : World} {B F t gi ci : Nat} {a : Int} {f : Fl}
theorem FlAt.c (h : FlAt w B F t a f gi ci) (i : Nat) : w.cell? ⟨F, i, none⟩ = (f.cells t a (.slice (some ⟨gi, 0, none⟩) 16 ci))[i]? := cell_obj h.obj i
theorem FlAt.below (h : FlAt w B F t a f gi ci) (hb : Below w.heap.size w w') : FlAt w' B F t a f gi ci := { h with obj := grow_obj hb h.obj, row := h.row.below hb }
theorem FlAt.lt (h : FlAt w B F t a f gi ci) : F < w.heap.size := block_lt h.obj
theorem FlAt.gi_ge (h : FlAt w B F t a f gi ci) : B ≤ gi := (IRow.ownObj h.row rfl).1
theorem FlAt.gi_obj (h : FlAt w B F t a f gi ci) : ∃ c, objAt w gi = some (.cells c 3 (0, 0)) := (IRow.ownObj h.row rfl).2
theorem FlAt.ne (h : FlAt w B F t a f gi ci) : F ≠ gi := fun e => by
 obtain ⟨c, hc⟩ := h.gi_obj
 exact ne_of_obj h.obj hc (by decide) e
theorem FlAt.keeps {S : Nat → Prop} (h : FlAt w B F t a f gi ci) (hk : Keeps S w w') (h1 : ¬ S F) (h2 : ¬ S gi) : FlAt w' B F t a f gi ci :=
 { h with obj := hk.obj h.obj h1, row := owns_keeps h.row hk (fun g hg e => by cases hg; exact h2 e) }
theorem FlAt.slotC (h : FlAt w B F t a f gi ci) {k : Nat} (hk : k < 20) : w.cell? (slotA F gi k) = some (.int .i64 (f.slot k)) := by
 unfold slotA Fl.slot
 by_cases h4 : k < 4
 · rw [if_pos h4, if_pos h4, h.c]
   match k, h4 with
   | 0, _ => rfl
   | 1, _ => rfl
   | 2, _ => rfl
   | 3, _ => rfl
 · rw [if_neg h4, if_neg h4]
   exact IRow.get h.row (k - 4) (by rw [h.l16]; omega)
theorem FlAt.put (h : FlAt w B F t a f gi ci) {k : Nat} (hk : k < 20) (x : Int) : FlAt (w.setCell (slotA F gi k) (.int .i64 x)) B F t a (f.put k x) gi ci := by
 unfold slotA Fl.put
 by_cases h4 : k < 4
 · rw [if_pos h4, if_pos h4]
   refine ⟨?_, owns_keeps h.row (Keeps.setCell (S := fun q => q = F) w ⟨F, 5 + k, none⟩ _ rfl) (fun g hg e => by cases hg; exact h.ne e.symm), h.l16, h.ge⟩
   rw [objAt_setCell h.obj]
   match k, h4 with
   | 0, _ => rfl
   | 1, _ => rfl
   | 2, _ => rfl
   | 3, _ => rfl
 · rw [if_neg h4, if_neg h4]
   refine ⟨?_, h.row.set (k - 4) x, by show (f.li.set (k - 4) x).length = 16; rw [List.length_set]; exact h.l16, h.ge⟩
   exact (Keeps.setCell (S := fun q => q = gi) w ⟨gi, k - 4, none⟩ _ rfl).obj h.obj h.ne
theorem FlAt.putIdx (h : FlAt w B F t a f gi ci) (x : Int) : FlAt (w.setCell ⟨F, 9, none⟩ (.int .i64 x)) B F t a ⟨{ f.n with index := x }, f.li⟩ gi ci := by
 refine ⟨?_, owns_keeps h.row (Keeps.setCell (S := fun q => q = F) w ⟨F, 9, none⟩ _ rfl) (fun g hg e => by cases hg; exact h.ne e.symm), h.l16, h.ge⟩
 rw [objAt_setCell h.obj]; rfl
theorem FlAt.putSize (h : FlAt w B F t a f gi ci) (x : Int) : FlAt (w.setCell ⟨F, 4, none⟩ (.int .i64 x)) B F t a (f.sized x) gi ci := by
 refine ⟨?_, owns_keeps h.row (Keeps.setCell (S := fun q => q = F) w ⟨F, 4, none⟩ _ rfl) (fun g hg e => by cases hg; exact h.ne e.symm), h.l16, h.ge⟩
 rw [objAt_setCell h.obj]; rfl
theorem slotA_free (h : FlAt w B F t a f gi ci) (k : Nat) : w.frozen? (slotA F gi k) = false := by
 unfold slotA
 split
 · exact free_obj h.obj _
 · exact IRow.free h.row _
theorem slotA_block (F gi k : Nat) : (slotA F gi k).block = F ∨ (slotA F gi k).block = gi := by
 unfold slotA; split
 · exact .inl rfl
 · exact .inr rfl
theorem slot_any (h : FlAt w B F t a f gi ci) {k : Nat} (hk : k < 20) :
 Calls Tryz.prog 88 #[.pointer (some ⟨F, 0, none⟩), .int .i64 (k : Int)] w fun e w' => e = .returned (.pointer (some (slotA F gi k))) ∧ w' = w := by
 have HX := Lib.hid (xWhere_any (k : Int) w)
 unfold whereT at HX
 have c11 : w.cell? ⟨F, 11, none⟩ = some (.slice (some ⟨gi, 0, none⟩) 16 ci) := h.c 11
 unfold slotA
 by_cases h4 : k < 4
 · rw [if_pos h4]
   rw [if_neg (by omega), if_pos (by omega)] at HX
   have k0 : (0 : Int) ≤ (k : Int) := Int.natCast_nonneg _
   have k4 : (k : Int) < 4 := by omega
   clear h
   go_enter Tryz.func88, Tryz.ntmps88
   go_wp2_with (go_at_call 147; refine HX.out.mono ?_; rintro e w1 ⟨rfl, hw1⟩; obtain rfl := hw1.symm)
   go_ret
   exact ⟨by simp [], rfl⟩
 · rw [if_neg h4]
   rw [if_neg (by omega), if_neg (by omega)] at HX
   obtain ⟨q, hq⟩ : ∃ q, q = k - 4 := ⟨_, rfl⟩
   have e : (k : Int) - 4 = (q : Int) := by omega
   rw [e] at HX
   have q0 : (0 : Int) ≤ (q : Int) := Int.natCast_nonneg _
   have q16 : (q : Int) < 16 := by omega
   rw [← hq]
   clear h hq e
   go_enter Tryz.func88, Tryz.ntmps88
   go_wp2_with (go_at_call 147; refine HX.out.mono ?_; rintro e w1 ⟨rfl, hw1⟩; obtain rfl := hw1.symm)
   go_ret
   exact ⟨by simp [], rfl⟩
end
end
section
open Go.RowKit
attribute [local irreducible] Calls

theorem Blk.cover_cells (b : Blk) (a : Nat) (l : List UInt8) (h : a + l.length ≤ 56) : (b.cells.toList.take (1 + a) ++ l.map (fun c => Value.int .u8 (c.toNat : Int)) ++ b.cells.toList.drop (1 + a + l.length)).toArray = (b.cover a l).cells := by
 have hb := b.len
 have e : (b.cover a l).body = b.body.take a ++ l ++ b.body.drop (a + l.length) := by
  apply List.ext_getElem
  · simp [Blk.cover, hb]; omega
  · intro i h1 h2
    have hi : i < 56 := by rw [(b.cover a l).len] at h1; exact h1
    simp only [Blk.cover, List.getElem_map, List.getElem_range]
    by_cases c1 : i < a
    · rw [if_neg (by omega), List.getElem_append_left (by simp [hb]; omega), List.getElem_append_left (by simp [hb]; omega), List.getElem_take, List.getD_eq_getElem?_getD, List.getElem?_eq_getElem (by rw [hb]; exact hi)]; rfl
    · by_cases c2 : i < a + l.length
      · rw [if_pos (by omega), List.getElem_append_left (by simp [hb]; omega), List.getElem_append_right (by simp [hb]; omega), List.getD_eq_getElem?_getD, List.getElem?_eq_getElem (by omega)]
        simp only [Option.getD_some, List.length_take, hb]
        congr 1; omega
      · rw [if_neg (by omega), List.getElem_append_right (by simp [hb]; omega), List.getElem_drop, List.getD_eq_getElem?_getD, List.getElem?_eq_getElem (by rw [hb]; exact hi)]
        simp only [Option.getD_some, List.length_append, List.length_take, hb]
        congr 1; omega
 rw [Blk.cells_def, Blk.cells_def, e]
 simp only [List.map_append, List.map_take, List.map_drop]
 rw [Nat.add_comm 1 a, List.take_succ_cons, show a + 1 + l.length = (a + l.length) + 1 by omega, List.drop_succ_cons]
 rfl
theorem run_copyAt {w : World} {g : Nat} {b : Blk} (hb : BlkAt w g b) {f n dc : Nat} (hf : f + n ≤ 56) {ad : Addr} {l : List UInt8} (c : Nat) (hl : BytesAt w (some ad) l) (hn : n ≤ l.length) (ty : TypeId) :
 (Builtin.copy_ #[22, 22] ty #[.slice (some ⟨g, 1 + f, none⟩) n dc, .slice (some ad) l.length c]).run Tryz.prog w = .ok (goInt (n : Int)) (w.setRow g (b.cover f (l.take n)).cells) := by
 obtain ⟨b', off, h1, h2⟩ := hl
 have hlen : ((l.take n).map fun c => Value.int .u8 (c.toNat : Int)).length = n := by rw [List.length_map, List.length_take]; omega
 have := run_copy_row (P := Tryz.prog) w 22 22 ty 5 g (1 + f) n dc ad l.length c b.cells 37 ((l.take n).map fun c => Value.int .u8 (c.toNat : Int)) Tryz.underlying22 (by kernel_rfl) hb (by rw [hlen]; exact (Nat.min_eq_right hn).symm)
  (by
   intro j u hj
   rw [List.getElem?_map] at hj
   cases hy : (l.take n)[j]? with
   | none => rw [hy] at hj; cases hj
   | some x =>
     rw [hy] at hj
     obtain rfl := Option.some.inj hj
     obtain ⟨hlt, rfl⟩ := List.getElem?_eq_some_iff.1 hy
     have hjl : j < l.length := by rw [List.length_take] at hlt; omega
     obtain rfl := Option.some.inj (h1 (by omega))
     have := h2 j hjl
     rw [List.getElem_take]
     unfold Addr.add
     split
     · rename_i e; subst e; exact this
     · exact this) (by rw [b.size_cells, hlen]; omega) (by intro x hx; simp only [List.mem_map] at hx; obtain ⟨c, _, rfl⟩ := hx; rfl)
 rw [this, List.length_map, b.cover_cells f (l.take n) (by rw [List.length_take]; omega)]
 congr 2
 rw [List.length_take]; omega
section
variable {ops : Array Oper} {o : Oper} {a b0 : Act} {w : World} {K : Act → World → Prop} {Q : Exit → Act → World → Prop} {F : Prop} {rest : List Oper}
theorem wp_copyAt (d s : Operand) (ho : o.op = .call { callee := .builtin .copy, args := #[d, s], argTypes := #[22, 22] })
 {g f n dc : Nat} (hd : a.eval d = .slice (some ⟨g, 1 + f, none⟩) n dc) {ad : Addr} {l : List UInt8} {m c : Nat} (hs : a.eval s = .slice (some ad) m c) (hm : m = l.length) {b : Blk} (hb : BlkAt w g b) (hl : BytesAt w (some ad) l) (hf : f + n ≤ 56) (hn : n ≤ l.length)
 (h : K (a.put o.dst (goInt (n : Int))) (w.setRow g (b.cover f (l.take n)).cells)) : o.wp Tryz.prog a w K Q := by
 subst hm
 unfold Oper.wp execOp
 simp only [ho, resolve, invoke, builtin, Sem.run_bind, Sem.run_pure, Result.andThen_ok, List.map_toArray, List.map_cons, List.map_nil, hd, hs]
 rw [run_copyAt hb hf c hl hn]
 exact h
theorem step_copyAt (hgd : o.guard = none) (d s : Operand) (ho : o.op = .call { callee := .builtin .copy, args := #[d, s], argTypes := #[22, 22] })
 {g f n dc : Nat} (hd : a.eval d = .slice (some ⟨g, 1 + f, none⟩) n dc) {ad : Addr} {l : List UInt8} {m c : Nat} (hs : a.eval s = .slice (some ad) m c) (hm : m = l.length) {b : Blk} (hb : BlkAt w g b) (hl : BytesAt w (some ad) l) (hf : f + n ≤ 56) (hn : n ≤ l.length)
 (h : K (a.put o.dst (goInt (n : Int))) (w.setRow g (b.cover f (l.take n)).cells)) : if Region.wanted o (yielded ops b0.tmps) = true then Oper.wp Tryz.prog o a w K Q else F := by
 have hw : Region.wanted o (yielded ops b0.tmps) = true := by simp [Region.wanted, hgd]
 rw [if_pos hw]
 exact wp_copyAt d s ho hd hs hm hb hl hf hn h
theorem run_clearAt {w : World} {g : Nat} {b : Blk} (hb : BlkAt w g b) {f n c : Nat} (hn : 0 < n) (hf : f + n ≤ 56) (ty : TypeId) :
 (Builtin.clear_ #[22] ty #[.slice (some ⟨g, 1 + f, none⟩) n c]).run Tryz.prog w = .ok (.tuple #[]) (w.setRow g (b.cover f (List.replicate n 0)).cells) := by
 obtain ⟨i, z, hi, hz, hsz, hby, hzs⟩ := elemByte.info
 have hk : (Tryz.prog.info? 5).bind (fun i => i.zero) = some (.int .u8 0) := by kernel_rfl
 rw [hi, Option.bind_some, hz] at hk
 obtain rfl := Option.some.inj hk
 have hzc : (Builtin.zeroCells (Value.int .u8 0).cells n).toList = List.replicate n (.int .u8 0) := by
  simp [Builtin.zeroCells, Value.cells]
  apply List.ext_getElem
  · simp
  · intro i h1 h2
    simp [Nat.mod_one]
 have hst := run_storeCells_at Tryz.prog g (1 + f) 37 (List.replicate n (.int .u8 0)) 0 b.cells w hb (by rw [List.length_replicate, b.size_cells]; omega) (by intro v hv; rw [List.eq_of_mem_replicate hv]; rfl)
 rw [List.length_replicate, Nat.add_zero] at hst
 have hv : (zeroValue 5).run Tryz.prog w = .ok (.int .u8 0) w := by simp [zeroValue, typeInfo, hi, hz]
 obtain ⟨m, rfl⟩ : ∃ m, n = m + 1 := ⟨n - 1, by omega⟩
 have hcc := b.cover_cells f (List.replicate (m + 1) 0) (by rw [List.length_replicate]; exact hf)
 rw [List.length_replicate, List.map_replicate] at hcc
 rw [← hcc]
 simp [Builtin.clear_, run_underlying Tryz.underlying22, hv, hzc, hst]
theorem list_clearAt (hgd : o.guard = none) (x : Operand) (ho : o.op = .call { callee := .builtin .clear, args := #[x], argTypes := #[22] })
 {g f n c : Nat} (hx : a.eval x = .slice (some ⟨g, 1 + f, none⟩) n c) {b : Blk} (hb : BlkAt w g b) (hn : 0 < n) (hf : f + n ≤ 56)
 (h : ∀ w', w' = w.setRow g (b.cover f (List.replicate n 0)).cells → wpList Tryz.prog ops Q rest (a.put o.dst (.tuple #[])) w') : wpList Tryz.prog ops Q (o :: rest) a w :=
 wpList_plain hgd fun _ hK => by
  unfold Oper.wp execOp
  simp only [ho, resolve, invoke, builtin, Sem.run_bind, Sem.run_pure, Result.andThen_ok, List.map_toArray, List.map_cons, List.map_nil, hx]
  rw [run_clearAt hb hn hf]
  exact hK _ _ (h _ rfl)
def mArr (n : Nat) : Array Value := (List.replicate n (Value.int .i64 (-1)) ++ List.replicate (16 - n) (Value.int .i64 0)).toArray
theorem run_copyM {w : World} {g n m k c1 c2 : Nat} {ad : Addr} (hg : objAt w g = some (.cells (mArr n) 3 (0, 0))) (hs : ∀ j, j < m → w.cell? (ad.add j) = some (.int .i64 (-1))) (hm : m ≤ k) (hf : n + m ≤ 16) (ty : TypeId) :
 (Builtin.copy_ #[33, 33] ty #[.slice (some ⟨g, n, none⟩) k c1, .slice (some ad) m c2]).run Tryz.prog w = .ok (goInt (m : Int)) (w.setRow g (mArr (n + m))) := by
 have hz : (mArr n).size = 16 := by simp [mArr]; omega
 have := run_copy_row (P := Tryz.prog) w 33 33 ty 3 g n k c1 ad m c2 (mArr n) 3 (List.replicate m (.int .i64 (-1))) Tryz.underlying33 (by kernel_rfl) hg (by rw [List.length_replicate]; exact (Nat.min_eq_left hm).symm)
  (by
   intro j v hj
   rw [List.getElem?_replicate] at hj
   split at hj
   · rename_i hjm
     obtain rfl := Option.some.inj hj
     exact hs j hjm
   · cases hj) (by rw [List.length_replicate, hz]; exact hf) (by intro v hv; rw [List.eq_of_mem_replicate hv]; rfl)
 rw [this, List.length_replicate]
 congr 2
 unfold mArr
 rw [List.toList_toArray, List.take_append, List.length_replicate, Nat.sub_self, List.take_zero, List.append_nil, List.take_of_length_le (by rw [List.length_replicate]; exact Nat.le_refl _),
  List.drop_append, List.length_replicate, List.drop_of_length_le (by rw [List.length_replicate]; omega), List.nil_append, List.replicate_append_replicate, List.drop_replicate]
 congr 3; omega
theorem list_copyM (hgd : o.guard = none) (d s : Operand) (ho : o.op = .call { callee := .builtin .copy, args := #[d, s], argTypes := #[33, 33] })
 {g n m k c1 c2 : Nat} {ad : Addr} (hd : a.eval d = .slice (some ⟨g, n, none⟩) k c1) (hx : a.eval s = .slice (some ad) m c2) (hg : objAt w g = some (.cells (mArr n) 3 (0, 0))) (hs : ∀ j, j < m → w.cell? (ad.add j) = some (.int .i64 (-1))) (hm : m ≤ k) (hf : n + m ≤ 16)
 (h : ∀ w', w' = w.setRow g (mArr (n + m)) → wpList Tryz.prog ops Q rest (a.put o.dst (goInt (m : Int))) w') : wpList Tryz.prog ops Q (o :: rest) a w :=
 wpList_plain hgd fun _ hK => by
  unfold Oper.wp execOp
  simp only [ho, resolve, invoke, builtin, Sem.run_bind, Sem.run_pure, Result.andThen_ok, List.map_toArray, List.map_cons, List.map_nil, hd, hx]
  rw [run_copyM hg hs hm hf]
  exact hK _ _ (h _ rfl)
theorem step_copyM (hgd : o.guard = none) (d s : Operand) (ho : o.op = .call { callee := .builtin .copy, args := #[d, s], argTypes := #[33, 33] })
 {g n m k c1 c2 : Nat} {ad : Addr} (hd : a.eval d = .slice (some ⟨g, n, none⟩) k c1) (hx : a.eval s = .slice (some ad) m c2) (hg : objAt w g = some (.cells (mArr n) 3 (0, 0))) (hs : ∀ j, j < m → w.cell? (ad.add j) = some (.int .i64 (-1))) (hm : m ≤ k) (hf : n + m ≤ 16)
 (h : ∀ w', w' = w.setRow g (mArr (n + m)) → K (a.put o.dst (goInt (m : Int))) w') : if Region.wanted o (yielded ops b0.tmps) = true then Oper.wp Tryz.prog o a w K Q else F := by
 have hw : Region.wanted o (yielded ops b0.tmps) = true := by simp [Region.wanted, hgd]
 rw [if_pos hw]
 unfold Oper.wp execOp
 simp only [ho, resolve, invoke, builtin, Sem.run_bind, Sem.run_pure, Result.andThen_ok, List.map_toArray, List.map_cons, List.map_nil, hd, hx]
 rw [run_copyM hg hs hm hf]
 exact h _ rfl
end
end
section
open Go.RowKit
attribute [local irreducible] Calls
theorem KRow.bytes0 {w : World} {B g n cap : Nat} {bs : List Blk} (h : KRow w B (.slice (some ⟨g, 0, none⟩) n cap) bs) (h0 : 0 < bs.length) (m : Nat) (hm : m ≤ 56) : BytesAt w (some ⟨g, 1, none⟩) ((bs.getD 0 Blk.zero).body.take m) := by
 refine ⟨g, 1, fun _ => rfl, fun i hi => ?_⟩
 rw [List.length_take] at hi
 have := h.byte 0 i h0 (by omega)
 rw [Nat.zero_mul, Nat.zero_add] at this
 rw [this, List.getElem_take]
 rw [List.getD_eq_getElem?_getD, List.getElem?_eq_getElem (by omega), Option.getD_some]
def nextOf (bs : List Blk) : Nat := (bs.getD 0 Blk.zero).sub 0 4
theorem next_any (g cap : Nat) (bs : List Blk) (w : World) (h : KRow w 0 (.slice (some ⟨g, 0, none⟩) bs.length cap) bs) (h0 : 0 < bs.length) :
 Calls Tryz.prog 81 #[.slice (some ⟨g, 0, none⟩) bs.length cap] w fun e w' => e = .returned (.int .u32 (nextOf bs : Nat)) ∧ w = w' := by
 have hN := Num_any (some ⟨g, 1, none⟩) ((bs.getD 0 Blk.zero).body.take 4) 56 w (h.bytes0 h0 4 (by decide)) (by rw [List.length_take]; omega)
 have hl4 : ((bs.getD 0 Blk.zero).body.take 4).length = 4 := by rw [List.length_take, Blk.len]; rfl
 rw [hl4] at hN
 have Hn := Lib.hid (show nextOf bs = num ((bs.getD 0 Blk.zero).body.take 4) from rfl)
 have hlt : nextOf bs < 256 ^ 4 := (bs.getD 0 Blk.zero).sub_lt 0 4
 rw [← Hn.out] at hN
 have u1 : IntKind.u32.wrap (nextOf bs : Int) = nextOf bs := IntWalk.u32_in _ (by omega)
 have HN := Lib.hid hN
 have h0' : (0 : Int) < (bs.length : Int) := by omega
 clear hN hl4 hlt h
 go_enter Tryz.func81, Tryz.ntmps81
 go_wp2_with (go_at_call 139; refine HN.out.mono ?_; rintro e w1 ⟨rfl, rfl⟩)
 go_ret
 exact ⟨rfl, rfl⟩

def folderAt (bs : List Blk) (i : Id) : Bool := inB bs i.at_ && (blkD bs i.at_).kind == 2 && (takeNode (blkD bs i.at_)).2 && ((takeNode (blkD bs i.at_)).1.gen == i.gen)
end
section
open Go.RowKit
attribute [local irreducible] Calls
theorem mk_ints (n : Int) (w : World) (h0 : 0 ≤ n) (h1 : n ≤ 1000000) :
 (Instr.makeSlice 33 (.int .i64 n) (.int .i64 n)).run Tryz.prog w = .ok (.slice (some ⟨w.heap.size, 0, none⟩) n.toNat n.toNat) (w.alloc (.cells (List.replicate n.toNat (.int .i64 0)).toArray 3)) :=
 run_make1 _ _ _ (.int .i64 0) (by kernel_rfl) (Option.some_get (by kernel_rfl)).symm (by kernel_rfl) rfl (by kernel_rfl) (by decide +kernel) n w h0 h1
end
section
open Go.RowKit
attribute [local irreducible] Calls
theorem run_copyK {w : World} {base : Nat} {v : Value} (hown : w.ownsRow base 37 57 v 0 []) {B g cap : Nat} {bs : List Blk} (hK : KRow w B (.slice (some ⟨g, 0, none⟩) bs.length cap) bs) (h0 : 0 < bs.length) (hl : bs.length ≤ 1000)
 (hbase : base ≤ w.heap.size) (ty : TypeId) :
 ∃ g' cap' w', (Builtin.append_ #[23, 23] ty #[v, .slice (some ⟨g, 0, none⟩) bs.length cap]).run Tryz.prog w = .ok (.slice (some ⟨g', 0, none⟩) bs.length cap') w' ∧ KRow w' base (.slice (some ⟨g', 0, none⟩) bs.length cap') bs ∧ Below base w w' := by
 obtain ⟨i, z, hi, hz, hs, hby, hzs⟩ := elemBlk
 obtain ⟨g', cap', w', h1, h2, h3, _, _⟩ := run_append_lies (P := Tryz.prog) w 23 ty base 37 i z 57 64 Tryz.underlying23 hi hz hs hby (by rw [hzs, Blk.size_cells]) (by decide) v 0 [] hown ⟨g, 0, none⟩ bs.length cap (flat bs)
  (flat_length bs) (World.ownsRow.cells hK (g := g) rfl) (by
   intro u hu
   simp only [flat, List.mem_flatMap] at hu
   obtain ⟨b, _, hb⟩ := hu
   exact b.one_cells u hb) h0 (by unfold maxLen; omega) (by omega) hbase w.heap.size rfl
 rw [Nat.zero_add] at h1 h2
 exact ⟨g', cap', w', h1, h2, (Below.refl base w).grown h3 hbase (fun k hk => (World.ownsRow.lt hown k hk).1)⟩
theorem list_copyK {ops : Array Oper} {o : Oper} {a : Act} {w : World} {Q : Exit → Act → World → Prop} {rest : List Oper} (hgd : o.guard = none) (s x : Operand) (ho : o.op = .call { callee := .builtin .append, args := #[s, x], argTypes := #[23, 23] })
 {base : Nat} {v : Value} (hs : a.eval s = v) (hown : w.ownsRow base 37 57 v 0 []) {B g cap : Nat} {bs : List Blk} (hx : a.eval x = .slice (some ⟨g, 0, none⟩) bs.length cap) (hK : KRow w B (.slice (some ⟨g, 0, none⟩) bs.length cap) bs) (h0 : 0 < bs.length) (hl : bs.length ≤ 1000)
 (hbase : base ≤ w.heap.size)
 (h : ∀ g' cap' w', KRow w' base (.slice (some ⟨g', 0, none⟩) bs.length cap') bs → Below base w w' → wpList Tryz.prog ops Q rest (a.put o.dst (.slice (some ⟨g', 0, none⟩) bs.length cap')) w') :
 wpList Tryz.prog ops Q (o :: rest) a w :=
 wpList_plain hgd fun K hK' => by
  obtain ⟨g', cap', w', hr, h2, h4⟩ := run_copyK hown hK h0 hl hbase o.type
  unfold Oper.wp execOp
  simp only [ho, resolve, invoke, builtin, Sem.run_bind, Sem.run_pure, Result.andThen_ok, List.map_toArray, List.map_cons, List.map_nil, hs, hx, hr]
  exact hK' _ _ (h g' cap' w' h2 h4)
theorem owns_emptyK {w : World} {base g : Nat} (h : objAt w g = some (.cells #[] 37 (0, 0))) (hb : base ≤ g) : w.ownsRow base 37 57 (.slice (some ⟨g, 0, none⟩) 0 0) 0 [] :=
 ⟨rfl, .inr ⟨g, 0, #[], rfl, hb, h, Nat.le_refl _, by decide, rfl, rfl⟩⟩

theorem firstOf_lt {u : List Bool} : firstOf u < (u.length : Int) := by
 unfold firstOf
 split
 · rename_i j h
   rw [List.findIdx?_eq_some_iff_getElem] at h
   obtain ⟨h1, _⟩ := h
   omega
 · omega
theorem first_lt (bs : List Blk) (l : List Int) : first bs l < bs.length := by
 have := firstOf_lt (u := markAll (used bs) l)
 rw [markAll_length, used_length] at this; exact this
def addName (bs : List Blk) (n : Nm) : List Blk × Int :=
 if (putEntry n).2 = true then (if 0 ≤ (find bs n.dir n.name).2 then (bs, 4) else if first bs [] < 0 then (bs, 9) else (bs.set (first bs []).toNat (putEntry n).1, 0)) else (bs, 1)
structure Handed (w w' : World) (v : Value) (n : Nat) (bs : List Blk) (er : Int) : Prop where
 form : ∃ g cap, v = .slice (some ⟨g, 0, none⟩) n cap
 row : KRow w' 0 v bs
 own : er = 0 → KRow w' w.heap.size v bs
 len : n = bs.length

theorem nil_ints (w : World) : IntsAt w none [] := ⟨0, 0, fun h => by simp at h, fun i hi => by simp at hi⟩
theorem Add_of (g cap : Nat) (bs : List Blk) (n : Nm) (w : World) (h : KRow w 0 (.slice (some ⟨g, 0, none⟩) bs.length cap) bs) (hl : bs.length ≤ 1000) (hpos : 0 < bs.length) (hF : ∀ w', Below w.heap.size w w' → Calls Tryz.prog 49 #[.slice (some ⟨g, 0, none⟩) bs.length cap, .agg n.dir.cells, .string n.name] w' fun e w2 => e = .returned (.tuple #[.agg (find bs n.dir n.name).1.cells, .int .i64 (find bs n.dir n.name).2]) ∧ Below w'.heap.size w' w2) (hP : ∀ w, Calls Tryz.prog 106 #[.agg n.cells] w fun e w' => e = .returned (.tuple #[.agg (putEntry n).1.cells, .bool (putEntry n).2]) ∧ Below w.heap.size w w') :
 Calls Tryz.prog 51 #[.slice (some ⟨g, 0, none⟩) bs.length cap, .agg n.cells] w fun e w' => ∃ v, e = .returned (.tuple #[v, .int .i64 (addName bs n).2]) ∧ Handed w w' v bs.length (addName bs n).1 (addName bs n).2 ∧ Below w.heap.size w w' := by
 have hFi := fun w' hb => First_any g cap bs none 0 [] w' (KRow.below h hb) hl (nil_ints w') (by decide) (fun x hx => by simp at hx)
 have Ho := Lib.hid (show addName bs n = if (putEntry n).2 = true then (if 0 ≤ (find bs n.dir n.name).2 then (bs, 4) else if first bs [] < 0 then (bs, 9) else (bs.set (first bs []).toNat (putEntry n).1, 0)) else (bs, 1) from rfl)
 have hlt := first_lt bs []
 rw [show n.cells = #[.int .i64 n.dir.label, .int .i64 n.dir.at_, .int .u32 n.dir.gen, .string n.name, .int .i64 n.at_, .int .u32 n.gen] from rfl] at hP ⊢
 rw [show n.dir.cells = #[.int .i64 n.dir.label, .int .i64 n.dir.at_, .int .u32 n.dir.gen] from rfl] at hF
 generalize find bs n.dir n.name = f at *
 generalize putEntry n = pe at *
 obtain ⟨pb, pok⟩ := pe
 obtain ⟨N, p⟩ := f
 dsimp only at hF Ho hP
 rw [show N.cells = #[.int .i64 N.dir.label, .int .i64 N.dir.at_, .int .u32 N.dir.gen, .string N.name, .int .i64 N.at_, .int .u32 N.gen] from rfl] at hF
 obtain ⟨⟨dl, da, dg⟩, name, na, ng⟩ := n
 dsimp only at hF hP ⊢
 have HF := Lib.hid hF
 have HP := Lib.hid hP
 have HFi := Lib.hid hFi
 have Hrow := Lib.hid h
 have hA : objAt (w.alloc (.cells #[.int .i64 dl, .int .i64 da, .int .u32 dg, .string name, .int .i64 na, .int .u32 ng] 100)) w.heap.size = some (.cells #[.int .i64 dl, .int .i64 da, .int .u32 dg, .string name, .int .i64 na, .int .u32 ng] 100 (0, 0)) := by rw [objAt_alloc, if_pos rfl]
 have hB := (Below.refl w.heap.size w).alloc (Nat.le_refl _) (.cells #[.int .i64 dl, .int .i64 da, .int .u32 dg, .string name, .int .i64 na, .int .u32 ng] 100)
 obtain ⟨G, hG⟩ : ∃ G, G = w.heap.size := ⟨_, rfl⟩
 rw [← hG] at hA
 clear h hF hP hFi 
 go_enter Tryz.func51, Tryz.ntmps51
 go_upto_region 1 with (fail)
 rw [← hG]
 generalize w.alloc (.cells #[.int .i64 dl, .int .i64 da, .int .u32 dg, .string name, .int .i64 na, .int .u32 ng] 100) = w0 at *
 have e0 : w0.cell? ⟨G, 0, none⟩ = some (.int .i64 dl) := by rw [cell_of_row w0 G 0 _ _ _ hA]; rfl
 have e1 : w0.cell? ⟨G, 1, none⟩ = some (.int .i64 da) := by rw [cell_of_row w0 G 1 _ _ _ hA]; rfl
 have e2 : w0.cell? ⟨G, 2, none⟩ = some (.int .u32 dg) := by rw [cell_of_row w0 G 2 _ _ _ hA]; rfl
 have e3 : w0.cell? ⟨G, 3, none⟩ = some (.string name) := by rw [cell_of_row w0 G 3 _ _ _ hA]; rfl
 have e4 : w0.cell? ⟨G, 4, none⟩ = some (.int .i64 na) := by rw [cell_of_row w0 G 4 _ _ _ hA]; rfl
 have e5 : w0.cell? ⟨G, 5, none⟩ = some (.int .u32 ng) := by rw [cell_of_row w0 G 5 _ _ _ hA]; rfl
 have HB := Lib.hid (And.intro hB hA)
 clear hG hA hB
 cases pok
 · rw [if_neg (by decide)] at Ho
   go_wp2_with (go_at_call 106; refine (HP.out _).mono ?_; rintro e w1 ⟨rfl, b1⟩)
   refine bodyPost_ret (results_two rfl (resOne_tmp _ _ _) (resOne_tmp _ _ _)) rfl ?_
   have hb := grow_alloc (grow_trans HB.out.1 b1) (.cells pb.cells 37)
   rw [Ho.out]
   exact ⟨_, rfl, ⟨⟨_, _, rfl⟩, Hrow.out.below hb, fun h => absurd (show (1 : Int) = 0 from h) (by decide), rfl⟩, hb⟩
 · rw [if_pos rfl] at Ho
   go_upto_region 4 with (go_at_call 106; refine (HP.out _).mono ?_; rintro e w1 ⟨rfl, b1⟩)
   have hb1 := grow_alloc b1 (.cells pb.cells 37)
   have hO1 := grow_obj hb1 HB.out.2
   have hblk := BlkAt.alloc_new w1 pb
   clear e0 e1 e2 e3 e4 e5
   generalize hw2 : w1.alloc (.cells pb.cells 37) = w2 at *
   generalize w1.heap.size = X at *
   have e0 : w2.cell? ⟨G, 0, none⟩ = some (.int .i64 dl) := by rw [cell_of_row w2 G 0 _ _ _ hO1]; rfl
   have e1 : w2.cell? ⟨G, 1, none⟩ = some (.int .i64 da) := by rw [cell_of_row w2 G 1 _ _ _ hO1]; rfl
   have e2 : w2.cell? ⟨G, 2, none⟩ = some (.int .u32 dg) := by rw [cell_of_row w2 G 2 _ _ _ hO1]; rfl
   have e3 : w2.cell? ⟨G, 3, none⟩ = some (.string name) := by rw [cell_of_row w2 G 3 _ _ _ hO1]; rfl
   have HB2 := Lib.hid (And.intro (grow_trans HB.out.1 hb1) hblk)
   clear hw2 b1 hb1 hO1 hblk
   by_cases hp : 0 ≤ p
   · rw [if_pos hp] at Ho
     go_wp2_with (go_at_call 49; refine (HF.out _ HB2.out.1).mono ?_; rintro e w3 ⟨rfl, b3⟩)
     refine bodyPost_ret (results_two rfl (resOne_tmp _ _ _) (resOne_tmp _ _ _)) rfl ?_
     have hb := grow_alloc (grow_trans HB2.out.1 b3) (.cells #[.int .i64 N.dir.label, .int .i64 N.dir.at_, .int .u32 N.dir.gen, .string N.name, .int .i64 N.at_, .int .u32 N.gen] 100)
     rw [Ho.out]
     exact ⟨_, rfl, ⟨⟨_, _, rfl⟩, Hrow.out.below hb, fun h => absurd (show (4 : Int) = 0 from h) (by decide), rfl⟩, hb⟩
   · rw [if_neg hp] at Ho
     go_upto_region 7 with (go_at_call 49; refine (HF.out _ HB2.out.1).mono ?_; rintro e w3 ⟨rfl, b3⟩)
     have hb3 := grow_alloc b3 (.cells #[.int .i64 N.dir.label, .int .i64 N.dir.at_, .int .u32 N.dir.gen, .string N.name, .int .i64 N.at_, .int .u32 N.gen] 100)
     generalize w3.alloc (.cells #[.int .i64 N.dir.label, .int .i64 N.dir.at_, .int .u32 N.dir.gen, .string N.name, .int .i64 N.at_, .int .u32 N.gen] 100) = w4 at *
     have HB4 := Lib.hid (And.intro (grow_trans HB2.out.1 hb3) (BlkAt.below HB2.out.2 hb3 (block_lt HB2.out.2)))
     clear b3 hb3 e0 e1 e2 e3
     obtain ⟨q, hq⟩ : ∃ q, q = first bs [] := ⟨_, rfl⟩
     rw [← hq] at Ho hlt HFi
     clear hq
     by_cases hneg : q < 0
     · rw [if_pos hneg] at Ho
       go_wp2_with (go_at_call 20; refine (HFi.out _ HB4.out.1).mono ?_; rintro e w5 ⟨rfl, b5⟩)
       refine bodyPost_ret (results_two rfl (resOne_tmp _ _ _) (resOne_tmp _ _ _)) rfl ?_
       have hb := grow_trans HB4.out.1 b5
       rw [Ho.out]
       exact ⟨_, rfl, ⟨⟨_, _, rfl⟩, Hrow.out.below hb, fun h => absurd (show (9 : Int) = 0 from h) (by decide), rfl⟩, hb⟩
     · rw [if_neg hneg] at Ho
       obtain ⟨j, rfl⟩ := Int.eq_ofNat_of_zero_le (show 0 ≤ q by omega)
       have hj : j < bs.length := by omega
       have j0 : (0 : Int) ≤ (j : Int) := Int.natCast_nonneg _
       have j1 : (j : Int) < (bs.length : Int) := by omega
       clear hneg hlt
       go_wp2_with (first | (go_at_call 20; refine (HFi.out _ HB4.out.1).mono ?_; rintro e w5 ⟨rfl, b5⟩; have hb := grow_alloc (grow_trans HB4.out.1 b5) (.cells #[] 37)) | (at_builtin; refine list_copyK rfl _ _ rfl rfl (base := w5.heap.size) (owns_emptyK (by first | (simp [objAt_alloc]; done) | rfl) (Nat.le_refl _)) rfl (Hrow.out.below hb) hpos hl (by simp) ?_; intro g2 cap2 w6 hK6 b6; have hh6 := hK6.has j hj; have hl5 := block_lt (BlkAt.below HB4.out.2 b5 (block_lt HB4.out.2)); have hx6 := (BlkAt.below (BlkAt.alloc (BlkAt.below HB4.out.2 b5 (block_lt HB4.out.2)) (.cells #[] 37)) b6 hl5); have hX6 := hx6.has; have hR6 := hx6.row))
       have hfin := (hK6.mono (grow_trans HB4.out.1 b5).size).put j hj pb
       have hg2 : w.heap.size ≤ g2 := by obtain ⟨cur, _, _, _, _, _, h'⟩ := (hK6.mono (grow_trans HB4.out.1 b5).size).obj; exact h'
       have hbel := putOff_below (hb.trans (b6.mono (grow_trans HB4.out.1 b5).size)) hg2 (j * 57) pb.cells
       refine bodyPost_ret (results_two rfl (resOne_tmp _ _ _) (resOne_tmp _ _ _)) rfl ?_
       rw [Ho.out]
       exact ⟨_, rfl, ⟨⟨_, _, rfl⟩, KRow.mono hfin (Nat.zero_le _), fun _ => hfin, by rw [List.length_set]⟩, hbel⟩
end
end Go.Proofs.YtbbnejehglonjaaGreat
