/- DERIVED. Contracts and laws that the proofs of this seat share, part 20 of 32: PyB PyC PyG. -/
import Derived.Deep.Upon
import Derived.Test.YtanmihhlkelgeaaGreatMg03
import Derived.Test.YtanmihhlkelgeaaGreatMg05
import Derived.Test.YtanmihhlkelgeaaGreatMg18
import Derived.Test.YtanmihhlkelgeaaGreatMg19
/- DERIVED. Plain Lean: what is written is read again. No program in sight. -/
namespace Go.Proofs.YtanmihhlkelgeaaGreat
attribute [local go_sem] hasBlk

theorem rB_at (l rest : List UInt8) (f : Bool) {n : Nat} (hn : n = l.length) : rB n (l ++ rest, f) = (l, (rest, f)) := by
  subst hn
  unfold rB
  rw [if_neg (by dsimp only; rw [List.length_append]; omega)]
  dsimp only
  rw [List.take_left, List.drop_left]
theorem num_ihigh {v : Int} {n : Nat} (h0 : 0 ≤ v) (h1 : v < (256 ^ n : Nat)) : num (ihigh v n) = v.toNat := by
  obtain ⟨k, rfl⟩ := Int.eq_ofNat_of_zero_le h0
  rw [ihigh_nat, num_high n k (by exact_mod_cast h1)]; rfl
theorem rN_at {v : Int} {n : Nat} (h0 : 0 ≤ v) (h1 : v < (256 ^ n : Nat)) (rest : List UInt8) (f : Bool) : rN n (ihigh v n ++ rest, f) = (v.toNat, (rest, f)) := by
  unfold rN
  rw [rB_at _ _ _ (ihigh_length v n).symm, num_ihigh h0 h1]
theorem rT_at {l : List UInt8} (h : l.length < 256) (rest : List UInt8) (f : Bool) : rT (textW l ++ rest, f) = (l, (rest, f)) := by
  unfold rT textW
  rw [List.append_assoc, rN_at (by omega) (by have : (256 ^ 1 : Nat) = 256 := rfl; rw [this]; omega)]
  exact rB_at _ _ _ (by simp)
theorem rTs_at (rest : List UInt8) (f : Bool) {l : List (List UInt8)} (h : ∀ x ∈ l, x.length < 256) : ∀ k, k ≤ l.length → rTs k (l.flatMap textW ++ rest, f) = (l.take k, ((l.drop k).flatMap textW ++ rest, f))
  | 0, _ => by simp [rTs]
  | k + 1, hk => by
    have hk' : k < l.length := hk
    unfold rTs
    rw [rTs_at rest f h k (by omega)]
    dsimp only
    rw [List.drop_eq_getElem_cons hk', List.flatMap_cons, List.append_assoc, rT_at (h _ (List.getElem_mem _)), List.take_succ_eq_append_getElem hk']
/-- A step that may be said. -/
def Say (s : Stp) : Prop :=
  (1 ≤ s.kind ∧ s.kind ≤ 6) ∧ if s.kind = 5 then (0 ≤ s.cut + 1 ∧ s.cut + 1 < 256) ∧ s.keep.length ≤ 8 ∧ (∀ l ∈ s.keep, l.length < 256) ∧ s = ⟨5, 0, 0, ⟨#[]⟩, ⟨#[]⟩, 0, 0, 0, [], s.cut, s.keep⟩
    else (0 ≤ s.n ∧ s.n < 65536) ∧ if s.kind = 2 then (0 ≤ s.ask ∧ s.ask < 256) ∧ s.path.data.toList.length < 256 ∧ s.dest.data.toList.length < 256 ∧ (0 ≤ s.an ∧ s.an < 65536) ∧ (0 ≤ s.off ∧ s.off < 65536) ∧ (0 ≤ s.len ∧ s.len < 65536) ∧ s.data.length < 256 ∧ s.cut = 0 ∧ s.keep = []
      else s = Stp.of s.kind s.n
theorem write_cons {s : Stp} (h : 1 ≤ s.kind ∧ s.kind ≤ 6) : ∃ c : UInt8, c.toNat % 7 = s.kind.toNat ∧ s.kind.toNat ≠ 0 ∧ writeStp s = c :: bodyW s := by
  refine ⟨UInt8.ofNat s.kind.toNat, ?_, by omega, ?_⟩
  · rw [UInt8.toNat_ofNat']
    omega
  · unfold writeStp ihigh
    have : (s.kind / 256 ^ (1 - 1 - 0) % 256).toNat = s.kind.toNat := by simp; omega
    simp only [List.range_succ, List.range_zero, List.nil_append, List.map_cons, List.map_nil, this]
    rfl
theorem read_write {s : Stp} (h : Say s) (rest : List UInt8) (f : Bool) : rStep s.kind.toNat (bodyW s ++ rest, f) = (s, (rest, f)) := by
  obtain ⟨hk, h⟩ := h
  unfold bodyW rStep
  by_cases h5 : s.kind = 5
  · rw [if_pos h5] at h
    obtain ⟨h1, h2, h3, h4⟩ := h
    rw [if_pos h5, if_pos (by omega)]
    simp only [rCrash, bindR, retR, List.append_assoc]
    rw [rN_at h1.1 (by simpa using h1.2)]
    dsimp only
    rw [rN_at (by omega) (by simp; omega)]
    dsimp only
    rw [Int.toNat_natCast, Nat.mod_eq_of_lt (by omega), rTs_at rest f h3 _ (Nat.le_refl _), List.take_length, List.drop_length]
    rw [h5]
    conv => rhs; rw [h4]
    have : (((s.cut + 1).toNat : Nat) : Int) - 1 = s.cut := by omega
    rw [this]
    rfl
  · rw [if_neg h5] at h
    obtain ⟨h1, h⟩ := h
    rw [if_neg h5, if_neg (by omega)]
    simp only [bindR, List.append_assoc]
    rw [rN_at h1.1 (by simpa using h1.2)]
    dsimp only
    by_cases h2 : s.kind = 2
    · rw [if_pos h2] at h
      obtain ⟨a1, a2, a3, a4, a5, a6, a7, a8, a9⟩ := h
      rw [if_pos h2, if_pos (by omega)]
      simp only [rAsk, bindR, retR, List.append_assoc]
      rw [rN_at a1.1 (by simpa using a1.2)]
      dsimp only
      rw [rT_at a2]
      dsimp only
      rw [rT_at a3]
      dsimp only
      rw [rN_at a4.1 (by simpa using a4.2)]
      dsimp only
      rw [rN_at a5.1 (by simpa using a5.2)]
      dsimp only
      rw [rN_at a6.1 (by simpa using a6.2)]
      dsimp only
      rw [rT_at a7]
      obtain ⟨k, n, a, p, d, x, o, l, da, c, ke⟩ := s
      dsimp only at *
      subst a8 a9
      rw [show ((k.toNat : Nat) : Int) = k by omega, show ((n.toNat : Nat) : Int) = n by omega, show ((a.toNat : Nat) : Int) = a by omega, show ((x.toNat : Nat) : Int) = x by omega, show ((o.toNat : Nat) : Int) = o by omega, show ((l.toNat : Nat) : Int) = l by omega]
    · rw [if_neg h2] at h
      rw [if_neg h2, if_neg (by omega)]
      unfold retR
      conv => rhs; rw [h]
      rw [show ((s.kind.toNat : Nat) : Int) = s.kind by omega, show ((s.n.toNat : Nat) : Int) = s.n by omega]
      rfl
theorem decode_write {s : Stp} (h : Say s) (rest : List UInt8) : decode (writeStp s ++ rest) = s :: decode rest := by
  obtain ⟨c, h1, h2, h3⟩ := write_cons h.1
  rw [h3, List.cons_append, decode_cons, h1, if_neg h2, read_write h rest false]
  rfl
theorem decode_one {s : Stp} (h : Say s) : decode (writeStp s) = [s] := by
  have := decode_write h []
  rwa [List.append_nil] at this
theorem encOne_say {s : Stp} (h : Say s) : encOne s = writeStp s := by unfold encOne; rw [if_pos (decode_one h)]
theorem encode_say {l : List Stp} (h : ∀ s ∈ l, Say s) : encode l = l.flatMap writeStp := by
  unfold encode
  induction l with
  | nil => rfl
  | cons s l ih => rw [List.flatMap_cons, List.flatMap_cons, encOne_say (h s (by simp)), ih (fun x hx => h x (by simp [hx]))]
theorem decode_all {l : List Stp} (h : ∀ s ∈ l, Say s) : decode (l.flatMap writeStp) = l := by
  induction l with
  | nil => rfl
  | cons s l ih => rw [List.flatMap_cons, decode_write (h s (by simp)), ih (fun x hx => h x (by simp [hx]))]
/-! What is read may be said. -/
theorem rB_len (n : Nat) (r : Rd) : (rB n r).1.length ≤ n := by
  unfold rB
  split
  · simp
  · simp; omega
theorem rN_lt (n : Nat) (r : Rd) : (rN n r).1 < 256 ^ n := num_le _ _ (rB_len n r)
theorem rT_lt (r : Rd) : (rT r).1.length < 256 := Nat.lt_of_le_of_lt (rB_len _ _) (by simpa using rN_lt 1 r)
theorem rTs_len (r : Rd) : ∀ k, (rTs k r).1.length = k ∧ ∀ l ∈ (rTs k r).1, l.length < 256
  | 0 => by simp [rTs]
  | k + 1 => by
    obtain ⟨h1, h2⟩ := rTs_len r k
    unfold rTs
    refine ⟨by simp [h1], fun l hl => ?_⟩
    rw [List.mem_append, List.mem_singleton] at hl
    rcases hl with hl | rfl
    · exact h2 l hl
    · exact rT_lt _
theorem say_read {kind : Nat} (h1 : kind ≠ 0) (h2 : kind < 7) (r : Rd) : Say (rStep kind r).1 := by
  unfold rStep
  by_cases h5 : kind = 5
  · subst h5
    rw [if_pos rfl]
    refine ⟨by simp [rCrash, bindR, retR], ?_⟩
    rw [if_pos (by simp [rCrash, bindR, retR])]
    simp only [rCrash, bindR, retR]
    have hc := rN_lt 1 r
    have hk := rTs_len (rN 1 (rN 1 r).2).2 ((rN 1 (rN 1 r).2).1 % 9)
    refine ⟨by omega, by omega, hk.2, rfl⟩
  · rw [if_neg h5]
    have hn := rN_lt 2 r
    by_cases hk2 : kind = 2
    · subst hk2
      simp only [bindR, if_pos]
      refine ⟨by simp [rAsk, bindR, retR], ?_⟩
      rw [if_neg (by simp [rAsk, bindR, retR])]
      refine ⟨by simp only [rAsk, bindR, retR]; omega, ?_⟩
      rw [if_pos (by simp [rAsk, bindR, retR])]
      simp only [rAsk, bindR, retR]
      have e1 := rN_lt 1 (rN 2 r).2
      refine ⟨by omega, rT_lt _, rT_lt _, ?_, ?_, ?_, rT_lt _, by simp, by simp⟩
      all_goals (refine ⟨Int.natCast_nonneg _, ?_⟩; exact Int.ofNat_lt.2 (rN_lt 2 _))
    · simp only [bindR, if_neg hk2, retR, Stp.of]
      refine ⟨by dsimp only; omega, ?_⟩
      dsimp only
      rw [if_neg (by omega)]
      refine ⟨by omega, ?_⟩
      rw [if_neg (by omega)]
      rfl
theorem say_decF : ∀ (f : Nat) (b : List UInt8), ∀ s ∈ decF f b, Say s
  | 0, _, s, h => by simp [decF] at h
  | f + 1, [], s, h => by simp [decF] at h
  | f + 1, c :: b, s, h => by
    unfold decF at h
    split at h
    · exact say_decF f b s h
    · split at h
      · simp at h
      · rename_i h0 _
        rcases List.mem_cons.1 h with rfl | h
        · exact say_read h0 (Nat.mod_lt _ (by decide)) _
        · exact say_decF f _ s h
theorem say_decode (b : List UInt8) : ∀ s ∈ decode b, Say s := say_decF _ b
/-! The laws. -/
theorem back (b : List UInt8) : decode (encode (decode b)) = decode b := by
  rw [encode_say (say_decode b), decode_all (say_decode b)]
theorem joins (l m : List Stp) : encode (l ++ m) = encode l ++ encode m := by unfold encode; rw [List.flatMap_append]
theorem joins_back (a b : List UInt8) : decode (encode (decode a) ++ encode (decode b)) = decode a ++ decode b := by
  rw [← joins, encode_say (fun s hs => ?_), decode_all (fun s hs => ?_)]
  all_goals
    rcases List.mem_append.1 hs with h | h
    · exact say_decode a s h
    · exact say_decode b s h
theorem cut_off : ∀ {l : List Stp}, (∀ s ∈ l, Say s) → ∀ k, k < (l.flatMap writeStp).length → ∃ n, n < l.length ∧ decode ((l.flatMap writeStp).take k) = l.take n
  | [], _, k, h => by simp at h
  | s :: l, hs, k, h => by
    rw [List.flatMap_cons] at h ⊢
    have hS := hs s (by simp)
    by_cases hk : k < (writeStp s).length
    · refine ⟨0, by simp, ?_⟩
      rw [List.take_append_of_le_length (by omega), List.take_zero]
      obtain ⟨c, h1, h2, h3⟩ := write_cons hS.1
      rw [h3] at hk ⊢
      cases k with
      | zero => rfl
      | succ k =>
        simp only [List.length_cons] at hk
        rw [List.take_succ_cons]
        have hr := read_write hS [] false
        rw [List.append_nil, ← List.take_append_drop k (bodyW s), ← h1] at hr
        exact decode_cut (by omega) hr (fun e => by rw [List.drop_eq_nil_iff] at e; omega)
    · obtain ⟨n, hn, e⟩ := cut_off (l := l) (fun x hx => hs x (by simp [hx])) (k - (writeStp s).length) (by rw [List.length_append] at h; omega)
      refine ⟨n + 1, by simpa using hn, ?_⟩
      rw [List.take_append, List.take_of_length_le (by omega), decode_write hS, e]
      rfl
end Go.Proofs.YtanmihhlkelgeaaGreat

/- DERIVED. play's reader as it lies; contracts of its bytes, num, text. -/
namespace Go.Proofs.YtanmihhlkelgeaaGreat
open Go.RowKit
attribute [local go_sem] hasBlk
attribute [local irreducible] Calls
set_option maxRecDepth 100000

/-- slices.Clone of bytes. -/
theorem cloneB_any (a : Option Addr) (l : List UInt8) (cap : Nat) (w : World) (h : BytesAt w a l) (h0 : a = none → l = [] ∧ cap = 0) (hl : l.length ≤ 1000000) :
    Calls Tryz.prog 33 #[.slice a l.length cap] w fun e w' => ∃ v, e = .returned v ∧ BRow w' w.heap.size v l ∧ Below w.heap.size w w' := by
  cases a with
  | none =>
    obtain ⟨rfl, rfl⟩ := h0 rfl
    have hn : (binOp .eql 22 (.slice none 0 0) (.slice none 0 0)).run Tryz.prog w = .ok (.bool true) w := by simp [binOp, run_equal_slice_nil w _ _ none 0 0 Tryz.underlying22]
    clear h h0
    rw [List.length_nil]
    go_enter Tryz.func33, Tryz.ntmps33
    go_wp2_with fail
    go_ret
    exact ⟨_, rfl, World.ownsRow_nil _ _ _ _, Below.refl _ _⟩
  | some ad =>
    have hn : (binOp .eql 22 (.slice (some ad) l.length cap) (.slice none 0 0)).run Tryz.prog w = .ok (.bool false) w := eqNil_some w _ _ Tryz.underlying22 _ _ _
    go_enter Tryz.func33, Tryz.ntmps33
    go_wp2_with (at_builtin; refine list_appAt rfl _ _ rfl rfl (owns_emptyB (g := w.heap.size) (base := w.heap.size) (by simp [objAt_alloc]) (Nat.le_refl _)) rfl (h.below (grow_alloc (Below.refl _ _) _)) (by simp; omega) (by simp) ?_; intro v2 w2 hB2 b2)
    go_ret
    rw [List.nil_append] at hB2
    exact ⟨v2, rfl, hB2, (grow_alloc (Below.refl _ _) _).trans b2⟩
/-- A reader. -/
structure RdAt (w : World) (R : Nat) (r : Rd) (a : Option Addr) (cap : Nat) : Prop where
  obj : objAt w R = some (.cells #[.slice a r.1.length cap, .bool r.2] 61 (0, 0))
  bytes : BytesAt w a r.1
  nil : a = none → r.1 = [] ∧ cap = 0
  le : r.1.length ≤ cap
  long : r.1.length ≤ 1000000
  lt : ∀ ad, a = some ad → (∃ b off, ad = ⟨b, off, none⟩) ∧ ad.block < R
section
variable {w w' : World} {R : Nat} {r : Rd} {a : Option Addr} {cap : Nat}
theorem RdAt.c0 (h : RdAt w R r a cap) : w.cell? ⟨R, 0, none⟩ = some (.slice a r.1.length cap) := cell_obj h.obj 0
theorem RdAt.c1 (h : RdAt w R r a cap) : w.cell? ⟨R, 1, none⟩ = some (.bool r.2) := cell_obj h.obj 1
theorem RdAt.free (h : RdAt w R r a cap) (i : Nat) : w.frozen? ⟨R, i, none⟩ = false := free_obj h.obj i
theorem RdAt.keeps (h : RdAt w R r a cap) {T : Nat → Prop} (hk : Keeps T w w') (h1 : ¬ T R) (h2 : ∀ ad, a = some ad → ¬ T ad.block) : RdAt w' R r a cap :=
  ⟨hk.obj h.obj h1, by
    cases a with
    | none => obtain ⟨e, _⟩ := h.nil rfl; rw [e]; exact ⟨0, 0, fun h => absurd h (by simp), fun i hi => absurd hi (by simp)⟩
    | some ad => exact h.bytes.congr (hk.block ad.block (Nat.lt_trans (h.lt ad rfl).2 (block_lt h.obj)) (h2 ad rfl)), h.nil, h.le, h.long, h.lt⟩
theorem RdAt.below (h : RdAt w R r a cap) (hb : Below w.heap.size w w') : RdAt w' R r a cap :=
  h.keeps (Keeps.of_below_size hb) (fun e => by have := block_lt h.obj; omega) (fun ad e e' => by have := (h.lt ad e).2; have := block_lt h.obj; omega)
end
/-- Bytes are passed over. -/
theorem RdAt.adv {w : World} {R : Nat} {r : Rd} {b off cap : Nat} (h : RdAt w R r (some ⟨b, off, none⟩) cap) {n d cap' : Nat} (hn : n ≤ r.1.length) (hd : n < r.1.length → d = n) (hc : r.1.length - n ≤ cap') :
    RdAt (w.setCell ⟨R, 0, none⟩ (.slice (some ⟨b, off + d, none⟩) (r.1.length - n) cap')) R (r.1.drop n, r.2) (some ⟨b, off + d, none⟩) cap' := by
  have hk : Keeps (fun q => q = R) w (w.setCell ⟨R, 0, none⟩ (.slice (some ⟨b, off + d, none⟩) (r.1.length - n) cap')) := Keeps.setCell _ _ _ rfl
  have h2 := h.lt _ rfl
  have hlo := h.long
  refine ⟨by rw [objAt_setCell h.obj, List.length_drop]; rfl, BytesAt.congr (?_ : BytesAt w _ _) (hk.block b (Nat.lt_trans h2.2 (block_lt h.obj)) (Nat.ne_of_lt h2.2)), fun e => (by cases e), by rw [List.length_drop]; omega, by rw [List.length_drop]; omega, fun ad e => ?_⟩
  · obtain ⟨b', off', e1, e2⟩ := h.bytes
    by_cases h0 : r.1.length = n
    · exact ⟨b, off + d, fun _ => rfl, fun i hi => absurd hi (by simp; omega)⟩
    · have := Option.some.inj (e1 (by omega))
      simp only [Addr.mk.injEq, and_true] at this
      obtain ⟨rfl, rfl⟩ := this
      rw [hd (by omega)]
      exact ⟨b, off + n, fun _ => rfl, fun i hi => by
        dsimp only at hi ⊢
        rw [List.length_drop] at hi
        rw [List.getElem_drop, Nat.add_assoc]; exact e2 (n + i) (by omega)⟩
  · obtain rfl := Option.some.inj e
    exact ⟨⟨b, off + d, rfl⟩, h2.2⟩
theorem BRow.setR {w : World} {B R : Nat} {v x : Value} {l : List UInt8} (h : BRow w B v l) (hR : R < B) (i : Nat) : BRow (w.setCell ⟨R, i, none⟩ x) B v l :=
  owns_keeps h (T := fun q => q = R) (Keeps.setCell _ _ _ rfl) (fun g hg e => by
    rcases h.2 with ⟨h', _⟩ | ⟨g', cap', cur, h', hb, _⟩
    · rw [h'] at hg; cases hg
    · rw [h'] at hg; obtain rfl := Option.some.inj hg; have e' : g' = R := e; omega)
/-- What a call of the reader comes to. -/
structure RdStep (w w' : World) (R : Nat) (r : Rd) : Prop where
  keeps : Keeps (fun q => q = R) w w'
  at_ : ∃ a cap, RdAt w' R r a cap
theorem RdStep.trans {w w1 w2 : World} {R : Nat} {r r2 : Rd} (h : RdStep w w1 R r) (h2 : RdStep w1 w2 R r2) : RdStep w w2 R r2 := ⟨h.keeps.trans h2.keeps, h2.at_⟩
set_option maxHeartbeats 2000000 in
theorem rbytes_any {w : World} {R : Nat} {r : Rd} {a : Option Addr} {cap : Nat} (h : RdAt w R r a cap) (n : Nat) (hn : n ≤ 1000000) :
    Calls Tryz.prog 19 #[.pointer (some ⟨R, 0, none⟩), .int .i64 n] w fun e w' => ∃ v, e = .returned v ∧ BRow w' w.heap.size v (rB n r).1 ∧ RdStep w w' R (rB n r).2 := by
  have c0 := h.c0
  have c1 := h.c1
  have f0 := h.free 0
  have f1 := h.free 1
  have H := Lib.hid h
  clear h
  unfold rB
  by_cases hs : r.1.length < n
  · rw [if_pos hs]
    have hs' : (r.1.length : Int) < (n : Int) := by omega
    obtain ⟨L, hL⟩ : ∃ L, L = r.1.length := ⟨_, rfl⟩
    rw [← hL] at c0 hs'
    have HL := Lib.hid hL
    clear hL hs
    go_enter Tryz.func19, Tryz.ntmps19
    go_wp2_with fail
    go_ret
    have hK : ∀ (x : World) (i : Nat) (v : Value), Keeps (fun q => q = R) x (x.setCell ⟨R, i, none⟩ v) := fun x i v => Keeps.setCell _ _ _ rfl
    refine ⟨_, rfl, World.ownsRow_nil _ _ _ _, (hK _ _ _).trans (hK _ _ _), none, 0, ⟨?_, ⟨0, 0, fun h => absurd h (by simp), fun i hi => absurd hi (by simp)⟩, fun _ => ⟨rfl, rfl⟩, Nat.le_refl _, Nat.zero_le _, fun ad e => by cases e⟩⟩
    have h1 := objAt_setCell H.out.obj 0 (.slice none 0 0)
    rw [objAt_setCell h1]; rfl
  · rw [if_neg hs]
    have hs' : ¬ ((r.1.length : Int) < (n : Int)) := by omega
    have hn' : n ≤ r.1.length := by omega
    cases a with
    | none =>
      obtain ⟨e1, e2⟩ := H.out.nil rfl
      have hn0 : n = 0 := by rw [e1] at hn'; simpa using hn'
      subst hn0 e2
      rw [e1, List.length_nil] at c0
      have HC := Lib.hid (cloneB_any none [] 0 w (by have := H.out.bytes; rwa [e1] at this) (fun _ => ⟨rfl, rfl⟩) (by decide))
      have HE := Lib.hid e1
      clear hs' hn' hs e1
      go_enter Tryz.func19, Tryz.ntmps19
      go_wp2_with (go_at_call 33; refine HC.out.mono ?_; rintro e w2 ⟨v2, rfl, hr2, b2⟩; have h2 := H.out.below b2; have c2 := h2.c0; rw [HE.out, List.length_nil] at c2; have f2 := h2.free 0; have H2 := Lib.hid h2; clear h2 c0 c1 f0 f1)
      go_ret
      have h2 := H2.out
      have hk : Keeps (fun q => q = R) w2 (w2.setCell ⟨R, 0, none⟩ (.slice none 0 0)) := Keeps.setCell _ _ _ rfl
      have ho : objAt (w2.setCell ⟨R, 0, none⟩ (.slice none 0 0)) R = some (.cells #[.slice none 0 0, .bool r.2] 61 (0, 0)) := by rw [objAt_setCell h2.obj]; rfl
      refine ⟨v2, rfl, BRow.setR (by rw [List.take_zero]; exact hr2) (block_lt H.out.obj) 0, (Keeps.of_below b2).trans hk, none, 0, ⟨by rw [List.drop_zero, HE.out]; exact ho, ⟨0, 0, fun h => absurd h (by simp [HE.out]), fun i hi => absurd hi (by simp [HE.out])⟩, fun _ => ⟨by rw [List.drop_zero, HE.out], rfl⟩, by simp [HE.out], by simp [HE.out], fun ad e => by cases e⟩⟩
    | some ad =>
      obtain ⟨⟨b, off, rfl⟩, hlt⟩ := H.out.lt ad rfl
      have hcap := H.out.le
      have hlong := H.out.long
      have htake : BytesAt w (some ⟨b, off, none⟩) (r.1.take n) := by
        obtain ⟨b', off', e1, e2⟩ := H.out.bytes
        exact ⟨b', off', fun h => e1 (by rw [List.length_take] at h; omega), fun i hi => by
          rw [List.length_take] at hi
          rw [List.getElem_take]; exact e2 i (by omega)⟩
      have hC := cloneB_any (some ⟨b, off, none⟩) (r.1.take n) cap w htake (fun e => by cases e) (by rw [List.length_take]; omega)
      rw [List.length_take, Nat.min_eq_left hn'] at hC
      have HC := Lib.hid hC
      obtain ⟨L, hL⟩ : ∃ L, L = r.1.length := ⟨_, rfl⟩
      rw [← hL] at c0 hs' hn' hcap hlong
      have z1 : (n : Int) ≤ (L : Int) := by omega
      have z2 : (n : Int) ≤ (cap : Int) := by omega
      have z3 : (0 : Int) ≤ (n : Int) := by omega
      have z4 : (L : Int) ≤ (cap : Int) := by omega
      have HL := Lib.hid (And.intro hL (And.intro hn' hs))
      clear hC htake hL hs hlt hn'
      go_enter Tryz.func19, Tryz.ntmps19
      go_wp2_with (go_at_call 33; refine HC.out.mono ?_; rintro e w2 ⟨v2, rfl, hr2, b2⟩; have h2 := H.out.below b2; have c2 := h2.c0; rw [← HL.out.1] at c2; have f2 := h2.free 0; have H2 := Lib.hid h2; clear h2 c0 c1 f0 f1)
      · go_ret
        have hn' := HL.out.2.1
        have := H2.out.adv (n := n) (d := 0) (cap' := 0) (by rw [← HL.out.1]; exact hn') (by rw [← HL.out.1]; omega) (by rw [← HL.out.1]; omega)
        rw [← HL.out.1] at this
        exact ⟨v2, rfl, hr2.setR (block_lt H.out.obj) 0, (Keeps.of_below b2).trans (Keeps.setCell (S := fun q => q = R) _ _ _ rfl), _, _, this⟩
      · go_ret
        have hn' := HL.out.2.1
        have := H2.out.adv (n := n) (d := n) (cap' := cap - n) (by rw [← HL.out.1]; exact hn') (fun _ => rfl) (by rw [← HL.out.1]; omega)
        rw [← HL.out.1] at this
        exact ⟨v2, rfl, hr2.setR (block_lt H.out.obj) 0, (Keeps.of_below b2).trans (Keeps.setCell (S := fun q => q = R) _ _ _ rfl), _, _, this⟩
theorem BRow.val {w : World} {B : Nat} {v : Value} {l : List UInt8} (h : BRow w B v l) : ∃ a cap, v = .slice a l.length cap ∧ BytesAt w a l := by
  rcases h.2 with ⟨h', h0⟩ | ⟨g, cap, cur, h', hb, hg, h1, h2, h3, h4⟩
  · obtain rfl := List.length_eq_zero_iff.1 h0
    exact ⟨none, 0, h', 0, 0, fun h => absurd h (by simp), fun i hi => absurd hi (by simp)⟩
  · subst h'
    exact ⟨some ⟨g, 0, none⟩, cap, rfl, (BRow.bytesAt h).1⟩
theorem bits_or_i64_nat (a b : Nat) (ha : a < 65536) (hb : b < 65536) : bits .or .i64 (a : Int) (b : Int) = ((a ||| b : Nat) : Int) := by
  have hx : a ||| b < 2 ^ 16 := Nat.or_lt_two_pow (by omega) (by omega)
  have h1 : (BitVec.ofInt 64 (a : Int)).toNat = a := by
    rw [BitVec.ofInt_natCast, BitVec.toNat_ofNat]; exact Nat.mod_eq_of_lt (by omega)
  have h2 : (BitVec.ofInt 64 (b : Int)).toNat = b := by
    rw [BitVec.ofInt_natCast, BitVec.toNat_ofNat]; exact Nat.mod_eq_of_lt (by omega)
  show IntKind.i64.wrap ((BitVec.ofInt 64 (a : Int) ||| BitVec.ofInt 64 (b : Int)).toNat : Int) = _
  rw [BitVec.toNat_or, h1, h2, IntWalk.i64_in _ (by omega)]
theorem or_byte64 (u c : Nat) (hu : u < 256) (hc : c < 2 ^ 8) : bits .or .i64 ((u : Int) * 256) (c : Int) = ((u * 256 + c : Nat) : Int) := by
  have := bits_or_i64_nat (u * 256) c (by omega) (by omega)
  rw [Int.natCast_mul] at this
  rw [show ((u : Int) * 256) = (u : Int) * ((256 : Nat) : Int) from rfl, this]
  have h := Nat.two_pow_add_eq_or_of_lt hc u
  rw [show (2 : Nat) ^ 8 = 256 from rfl, Nat.mul_comm] at h
  rw [h]
set_option maxHeartbeats 2000000 in
theorem rnum_any {w : World} {R : Nat} {r : Rd} {a : Option Addr} {cap : Nat} (h : RdAt w R r a cap) (n : Nat) (hn : n ≤ 2) :
    Calls Tryz.prog 13 #[.pointer (some ⟨R, 0, none⟩), .int .i64 n] w fun e w' => e = .returned (.int .i64 ((rN n r).1 : Nat)) ∧ RdStep w w' R (rN n r).2 := by
  have HB := Lib.hid (rbytes_any h n (by omega))
  have hlen := rB_len n r
  unfold rN
  obtain ⟨⟨l, r2⟩, hlr⟩ : ∃ x, x = rB n r := ⟨_, rfl⟩
  rw [← hlr] at HB hlen ⊢
  dsimp only at HB hlen ⊢
  clear h hlr
  go_enter Tryz.func13, Tryz.ntmps13
  go_wp2_with (go_at_call 19; refine HB.out.mono ?_; rintro e w2 ⟨v2, rfl, hr2, hs2⟩; obtain ⟨a2, cap2, rfl, hb2⟩ := hr2.val; clear hr2)
  obtain ⟨b, off, h1, h2⟩ := hb2
  have HS := Lib.hid hs2
  clear hs2
  go_loop [4, 11] (fun v i => ∃ k : Nat, k ≤ l.length ∧ i = .int .i64 k ∧ v = .int .i64 (num (l.take k) : Nat)) (fun _ i => l.length - (Go.RowKit.intOf i).toNat)
  case atStart => exact ⟨0, Nat.zero_le _, rfl, rfl⟩
  case round =>
    obtain ⟨k, hk, rfl, rfl⟩ := hrel
    by_cases hlt : k < l.length
    · have hc := h2 k hlt
      obtain rfl := h1 (by omega)
      have hlt' : (k : Int) < (l.length : Int) := by omega
      have Hs := Lib.hid (num_take_succ l k hlt)
      have hb1 : num (l.take k) < 256 ^ 1 := num_le _ 1 (by rw [List.length_take]; omega)
      have hb2 := (l[k]).toNat_lt
      generalize (l[k]).toNat = c at *
      generalize num (l.take k) = u at *
      clear h1 h2
      have hb3 : u < 256 := hb1
      clear hb1
      go_wp2_with fail
      go_round
      case rel => exact ⟨k + 1, by omega, by go_num, by rw [Hs.out, or_byte64 u c hb3 hb2]⟩
      case measure => simp [Go.RowKit.intOf]; omega
    · go_wp2_with fail
      go_ret
      exact ⟨by rw [List.take_of_length_le (by omega : l.length ≤ k)]; rfl, HS.out⟩
theorem rtext_any {w : World} {R : Nat} {r : Rd} {a : Option Addr} {cap : Nat} (h : RdAt w R r a cap) :
    Calls Tryz.prog 21 #[.pointer (some ⟨R, 0, none⟩)] w fun e w' => ∃ v, e = .returned v ∧ BRow w' w.heap.size v (rT r).1 ∧ RdStep w w' R (rT r).2 := by
  have HN := Lib.hid (rnum_any h 1 (by decide))
  have hlt : (rN 1 r).1 < 256 := by simpa using rN_lt 1 r
  have HB := fun w2 (hs : RdStep w w2 R (rN 1 r).2) => (by
    obtain ⟨a2, cap2, h2⟩ := hs.at_
    exact rbytes_any h2 (rN 1 r).1 (by omega) : Calls Tryz.prog 19 #[.pointer (some ⟨R, 0, none⟩), .int .i64 ((rN 1 r).1 : Nat)] w2 fun e w' => ∃ v, e = .returned v ∧ BRow w' w2.heap.size v (rB (rN 1 r).1 (rN 1 r).2).1 ∧ RdStep w2 w' R (rB (rN 1 r).1 (rN 1 r).2).2)
  have HB' := Lib.hid HB
  clear HB h
  unfold rT
  obtain ⟨⟨n, r2⟩, hn⟩ : ∃ x, x = rN 1 r := ⟨_, rfl⟩
  rw [← hn] at HN HB' hlt ⊢
  dsimp only at HN HB' hlt ⊢
  clear hn
  go_enter Tryz.func21, Tryz.ntmps21
  go_wp2_with (first | (go_at_call 13; refine HN.out.mono ?_; rintro e w2 ⟨rfl, hs2⟩) | (go_at_call 19; refine (HB'.out _ hs2).mono ?_; rintro e w3 ⟨v3, rfl, hr3, hs3⟩))
  go_ret
  exact ⟨v3, rfl, World.ownsRow.mono hr3 hs2.keeps.size, hs2.trans hs3⟩
end Go.Proofs.YtanmihhlkelgeaaGreat

/- DERIVED. Contracts of play's writer.num, writer.text. -/
namespace Go.Proofs.YtanmihhlkelgeaaGreat
open Go.RowKit
attribute [local irreducible] Calls
set_option maxRecDepth 100000

theorem ihigh_take_succ (v : Int) (n k : Nat) (h : k < n) : (ihigh v n).take (k + 1) = (ihigh v n).take k ++ [UInt8.ofNat (v / 256 ^ (n - 1 - k) % 256).toNat] := by
  rw [List.take_succ_eq_append_getElem (by rw [ihigh_length]; exact h)]
  congr 2
  simp [ihigh]
set_option maxHeartbeats 4000000 in
theorem pnum_any (W : Nat) (v : Value) (xs : List UInt8) (x : Int) (n : Nat) (w : World) (h : WtrAt w 66 W v xs) (hn : n ≤ 2) (hl : xs.length ≤ 1000000) :
    Calls Tryz.prog 22 #[.pointer (some ⟨W, 0, none⟩), .int .i64 x, .int .i64 n] w fun e w' => e = .returned (.tuple #[]) ∧ ∃ v', WtrStep w w' 66 W v v' (xs ++ ihigh x n) := by
  go_enter Tryz.func22, Tryz.ntmps22
  go_wp2_with fail
  go_loopw [6] (fun i wr => ∃ (k : Nat) (V : Value), k ≤ n ∧ i = .int .i64 ((n : Int) - 1 - k) ∧ WtrStep w wr 66 W v V (xs ++ (ihigh x n).take k)) (fun i _ => (Go.RowKit.intOf i + 1).toNat)
  case atStart => exact ⟨0, v, Nat.zero_le _, by simp, by rw [List.take_zero, List.append_nil]; exact WtrStep.same h⟩
  case round =>
    obtain ⟨k, V, hk, rfl, hV⟩ := hrel
    have HV := Lib.hid (And.intro hV h)
    clear hV h
    by_cases hlt : k < n
    · have Hs := Lib.hid (ihigh_take_succ x n k hlt)
      have hlen : (xs ++ (ihigh x n).take k).length ≤ 1000002 := by rw [List.length_append, List.length_take, ihigh_length]; omega
      have h4 : n - 1 - k < 2 := by omega
      obtain ⟨j, hj⟩ : ∃ j, j = n - 1 - k := ⟨_, rfl⟩
      have hji : (n : Int) - 1 - k = (j : Int) := by omega
      rw [hji]
      rw [← hj] at Hs h4
      have Hj := Lib.hid (And.intro hj hji)
      generalize hy : xs ++ (ihigh x n).take k = ys at *
      have HY := Lib.hid hy
      clear hj hji hy
      obtain ⟨c, hc⟩ : ∃ c, c = UInt8.ofNat (x / 256 ^ j % 256).toNat := ⟨_, rfl⟩
      rw [← hc] at Hs
      have c0 := HV.out.1.at_.c0
      have hB2 : Below wr.heap.size wr (wr.alloc (.cells #[.int .u8 (c.toNat : Int)] 5)).drew := (grow_alloc (Below.refl _ _) _).drew
      have f0 := (HV.out.1.at_.below hB2).c0
      have hr1 := (HV.out.1.at_.below hB2).row
      have hlit : BRow (wr.alloc (.cells #[.int .u8 (c.toNat : Int)] 5)).drew 0 (.slice (some ⟨wr.heap.size, 0, none⟩) 1 1) [c] := BRow.lit (B := 0) c rfl (by show objAt (wr.alloc _) _ = _; rw [objAt_alloc, if_pos rfl]) (Nat.zero_le _)
      have HR := Lib.hid (And.intro hr1 (And.intro hlit hB2))
      clear hr1 hlit hB2
      have hcase : j = 0 ∨ j = 1 := by omega
      rcases hcase with rfl | rfl
      · have hv : IntKind.u8.wrap x = (c.toNat : Int) := by rw [IntKind.wrap_u8, hc, UInt8.toNat_ofNat']; omega
        have hw : IntKind.i64.wrap 0 = 0 := by decide
        clear hc
        go_upto_region 3 with fail
        refine wp_region_F [11, 14] (S := fun w' => w'.cell? ⟨W, 0, none⟩ = some V ∧ True) (by kernel_rfl) (⟨c0, trivial⟩) (fun hHeld => ?_)
        show wpAnyF _ _ _ _ _ _ 15 #[false, false, false, false, false, false, false, false, false, false, false, false, false, false, false] _ _
        refine wpAnyF_pure (i := 0) (v := ?kv1) rfl (by kernel_rfl) (by kernel_rfl) (by kernel_rfl) (by kernel_rfl) (fun _ _ _ h => h) (Or.inl ⟨by rfl, ?ky1⟩) (by first | (intro _; assumption) | (intro h; exact absurd h (by decide))) ?kr1
        case ky1 => (intro w hSw; clear hSw; (try simp only [List.getElem_toArray, List.getElem_cons_zero]); go_simp; (try with_reducible rfl))
        try simp only [Act.put, List.getElem_toArray, List.getElem_cons_zero, List.setIfInBounds_toArray, List.set_cons_zero, List.set_cons_succ]
        refine wpAnyF_take [1, 2, 3, 4, 11, 12, 13, 14] (i := 1) (v := ?kv2) rfl (by kernel_rfl) (by kernel_rfl) (by kernel_rfl) (by kernel_rfl) (fun _ _ _ h => h) (Or.inl ⟨by rfl, ?ky2⟩) (by assumption) ?kr2
        case ky2 => (intro w hSw; (try dsimp only at hSw); go_split_ands; (try simp only [List.getElem_toArray, List.getElem_cons_zero, List.getElem_cons_succ]); go_simp; (try with_reducible rfl))
        try simp only [Act.put, List.getElem_toArray, List.getElem_cons_zero, List.getElem_cons_succ, List.setIfInBounds_toArray, List.set_cons_zero, List.set_cons_succ]
        refine wpAnyF_take [2, 3, 4, 11, 12, 13, 14] (i := 2) (v := ?kv3) rfl (by kernel_rfl) (by kernel_rfl) (by kernel_rfl) (by kernel_rfl) (fun _ _ _ h => h) (Or.inl ⟨by rfl, ?ky3⟩) (by assumption) ?kr3
        case ky3 => (intro w hSw; (try dsimp only at hSw); go_split_ands; (try simp only [List.getElem_toArray, List.getElem_cons_zero, List.getElem_cons_succ]); go_simp; (try with_reducible rfl))
        try simp only [Act.put, List.getElem_toArray, List.getElem_cons_zero, List.getElem_cons_succ, List.setIfInBounds_toArray, List.set_cons_zero, List.set_cons_succ]
        refine wpAnyF_take [3, 4, 11, 12, 13, 14] (i := 3) (v := ?kv4) rfl (by kernel_rfl) (by kernel_rfl) (by kernel_rfl) (by kernel_rfl) (fun _ _ _ h => h) (Or.inl ⟨by rfl, ?ky4⟩) (by assumption) ?kr4
        case ky4 => (intro w hSw; (try dsimp only at hSw); go_split_ands; (try simp only [List.getElem_toArray, List.getElem_cons_zero, List.getElem_cons_succ]); go_simp; (try with_reducible rfl))
        try simp only [Act.put, List.getElem_toArray, List.getElem_cons_zero, List.getElem_cons_succ, List.setIfInBounds_toArray, List.set_cons_zero, List.set_cons_succ]
        refine wpAnyF_take [4, 11, 12, 13, 14] (i := 4) (v := ?kv5) rfl (by kernel_rfl) (by kernel_rfl) (by kernel_rfl) (by kernel_rfl) (fun _ _ _ h => h) (Or.inl ⟨by rfl, ?ky5⟩) (by assumption) ?kr5
        case ky5 => (intro w hSw; (try dsimp only at hSw); go_split_ands; (try simp only [List.getElem_toArray, List.getElem_cons_zero, List.getElem_cons_succ]); go_simp; (try with_reducible rfl))
        try simp only [Act.put, List.getElem_toArray, List.getElem_cons_zero, List.getElem_cons_succ, List.setIfInBounds_toArray, List.set_cons_zero, List.set_cons_succ]
        refine wpAnyF_take [5, 8, 9, 10, 11, 12, 13, 14] (i := 5) (v := ?kv6) rfl (by kernel_rfl) (by kernel_rfl) (by kernel_rfl) (by kernel_rfl) (fun _ _ _ h => h) (Or.inl ⟨by rfl, ?ky6⟩) (by assumption) ?kr6
        case ky6 => (intro w hSw; (try dsimp only at hSw); go_split_ands; (try simp only [List.getElem_toArray, List.getElem_cons_zero, List.getElem_cons_succ]); go_simp; (try with_reducible rfl))
        try simp only [Act.put, List.getElem_toArray, List.getElem_cons_zero, List.getElem_cons_succ, List.setIfInBounds_toArray, List.set_cons_zero, List.set_cons_succ]
        refine wpAnyF_take [6, 7, 8, 9, 10, 11, 12, 13, 14] (i := 6) (v := ?kv7) rfl (by kernel_rfl) (by kernel_rfl) (by kernel_rfl) (by kernel_rfl) (fun _ _ _ h => h) (Or.inl ⟨by rfl, ?ky7⟩) (by assumption) ?kr7
        case ky7 => (intro w hSw; (try dsimp only at hSw); go_split_ands; (try simp only [List.getElem_toArray, List.getElem_cons_zero, List.getElem_cons_succ]); go_simp; (try with_reducible rfl))
        try simp only [Act.put, List.getElem_toArray, List.getElem_cons_zero, List.getElem_cons_succ, List.setIfInBounds_toArray, List.set_cons_zero, List.set_cons_succ]
        refine wpAnyF_take [7, 8, 9, 10, 11, 12, 13, 14] (i := 7) (v := ?kv8) rfl (by kernel_rfl) (by kernel_rfl) (by kernel_rfl) (by kernel_rfl) (fun _ _ _ h => h) (Or.inl ⟨by rfl, ?ky8⟩) (by assumption) ?kr8
        case ky8 => (intro w hSw; (try dsimp only at hSw); go_split_ands; (try simp only [List.getElem_toArray, List.getElem_cons_zero, List.getElem_cons_succ]); go_simp; (try with_reducible rfl))
        try simp only [Act.put, List.getElem_toArray, List.getElem_cons_zero, List.getElem_cons_succ, List.setIfInBounds_toArray, List.set_cons_zero, List.set_cons_succ]
        refine wpAnyF_take [8, 9, 10, 11, 12, 13, 14] (i := 8) (v := ?kv9) rfl (by kernel_rfl) (by kernel_rfl) (by kernel_rfl) (by kernel_rfl) (fun _ _ _ h => h) (Or.inl ⟨by rfl, ?ky9⟩) (by assumption) ?kr9
        case ky9 => (intro w hSw; (try dsimp only at hSw); go_split_ands; (try simp only [List.getElem_toArray, List.getElem_cons_zero, List.getElem_cons_succ]); go_simp; (try with_reducible rfl))
        try simp only [Act.put, List.getElem_toArray, List.getElem_cons_zero, List.getElem_cons_succ, List.setIfInBounds_toArray, List.set_cons_zero, List.set_cons_succ]
        refine wpAnyF_take [9, 10, 11, 12, 13, 14] (i := 9) (v := ?kv10) rfl (by kernel_rfl) (by kernel_rfl) (by kernel_rfl) (by kernel_rfl) (fun _ _ _ h => h) (Or.inl ⟨by rfl, ?ky10⟩) (by assumption) ?kr10
        case ky10 => (intro w hSw; (try dsimp only at hSw); go_split_ands; (try simp only [List.getElem_toArray, List.getElem_cons_zero, List.getElem_cons_succ]); go_simp; (try with_reducible rfl))
        try simp only [Act.put, List.getElem_toArray, List.getElem_cons_zero, List.getElem_cons_succ, List.setIfInBounds_toArray, List.set_cons_zero, List.set_cons_succ]
        refine wpAnyF_ready (rs := [10]) (by kernel_rfl) (by simp) ?_
        refine (AllReadyF.cons rfl (fun K hK => ?_) AllReadyF.nil)
        try simp only [List.getElem_toArray, List.getElem_cons_zero, List.getElem_cons_succ]
        go_simp
        refine hK.out _ _ (by exact ⟨f0, trivial⟩) (fun hHeldn => ?_)
        clear hHeld hK K
        have hHeld := hHeldn
        clear hHeldn
        try simp only [List.setIfInBounds_toArray, List.set_cons_zero, List.set_cons_succ]
        refine wpAnyF_ready (rs := [11]) (by kernel_rfl) (by simp) ?_
        refine (AllReadyF.last rfl (by kernel_rfl) (fun K hK => ?_) AllReadyF.nil)
        refine step_appOwn rfl _ _ rfl rfl HR.out.1 rfl HR.out.2.1 (by simp) (by show ys.length + 1 < 2000000000; omega) (Nat.zero_le _) ?_; intro g2 cap2 w2 hr2 _ k2 o2; have hst := WtrStep.app HV.out.1.at_ (by decide) HR.out.2.2 hr2 k2 o2; have hmid := HV.out.1.at_.mid (by decide) HR.out.2.2 k2; have q0 := cell_obj hmid 0; have fz := free_obj hmid 0; clear hmid; have hW := HV.out.1.trans hst; have HW := Lib.hid hW; clear hW hst
        refine hK.out _ _ (trivial) (fun hHeldn => ?_)
        clear hHeld hK K
        have hHeld := hHeldn
        clear hHeldn
        try simp only [Act.put, List.getElem_toArray, List.getElem_cons_zero, List.getElem_cons_succ, List.setIfInBounds_toArray, List.set_cons_zero, List.set_cons_succ]
        refine wpAnyF_pure (i := 12) (v := ?kv13) rfl (by kernel_rfl) (by kernel_rfl) (by kernel_rfl) (by kernel_rfl) (fun _ _ _ h => h) (Or.inl ⟨by rfl, ?ky13⟩) (by first | (intro _; assumption) | (intro h; exact absurd h (by decide))) ?kr13
        case ky13 => (intro w hSw; clear hSw; (try simp only [List.getElem_toArray, List.getElem_cons_zero, List.getElem_cons_succ]); go_simp; (try with_reducible rfl))
        try simp only [Act.put, List.getElem_toArray, List.getElem_cons_zero, List.getElem_cons_succ, List.setIfInBounds_toArray, List.set_cons_zero, List.set_cons_succ]
        refine wpAnyF_pure (i := 13) (v := ?kv14) rfl (by kernel_rfl) (by kernel_rfl) (by kernel_rfl) (by kernel_rfl) (fun _ _ _ h => h) (Or.inl ⟨by rfl, ?ky14⟩) (by first | (intro _; assumption) | (intro h; exact absurd h (by decide))) ?kr14
        case ky14 => (intro w hSw; clear hSw; (try simp only [List.getElem_toArray, List.getElem_cons_zero, List.getElem_cons_succ]); go_simp; (try with_reducible rfl))
        try simp only [Act.put, List.getElem_toArray, List.getElem_cons_zero, List.getElem_cons_succ, List.setIfInBounds_toArray, List.set_cons_zero, List.set_cons_succ]
        refine wpAnyF_ready (rs := [14]) (by kernel_rfl) (by simp) ?_
        refine (AllReadyF.last rfl (by kernel_rfl) (fun K hK => ?_) AllReadyF.nil)
        try simp only [List.getElem_toArray, List.getElem_cons_zero, List.getElem_cons_succ]
        go_simp
        refine hK.out _ _ (trivial) (fun hHeldn => ?_)
        clear hHeld hK K
        have hHeld := hHeldn
        clear hHeldn
        try simp only [List.setIfInBounds_toArray, List.set_cons_zero, List.set_cons_succ]
        refine wpAnyF_done (by kernel_rfl) ?_ _
        have e9 : ys ++ [c] = xs ++ (ihigh x n).take (k + 1) := by rw [← HY.out, List.append_assoc, ← Hs.out]
        rw [e9] at HW
        go_wp2_with fail
        have hjj := Hj.out
        go_roundw
        case rel => exact ⟨k + 1, _, by omega, by congr 1; omega, HW.out⟩
        case measure => simp [Go.RowKit.intOf]
      · have hv : IntKind.u8.wrap (x / 256) = (c.toNat : Int) := by rw [IntKind.wrap_u8, hc, UInt8.toNat_ofNat']; omega
        have hw : IntKind.i64.wrap 8 = 8 := by decide
        clear hc
        go_upto_region 3 with fail
        refine wp_region_F [11, 14] (S := fun w' => w'.cell? ⟨W, 0, none⟩ = some V ∧ True) (by kernel_rfl) (⟨c0, trivial⟩) (fun hHeld => ?_)
        show wpAnyF _ _ _ _ _ _ 15 #[false, false, false, false, false, false, false, false, false, false, false, false, false, false, false] _ _
        refine wpAnyF_pure (i := 0) (v := ?kv16) rfl (by kernel_rfl) (by kernel_rfl) (by kernel_rfl) (by kernel_rfl) (fun _ _ _ h => h) (Or.inl ⟨by rfl, ?ky16⟩) (by first | (intro _; assumption) | (intro h; exact absurd h (by decide))) ?kr16
        case ky16 => (intro w hSw; clear hSw; (try simp only [List.getElem_toArray, List.getElem_cons_zero]); go_simp; (try with_reducible rfl))
        try simp only [Act.put, List.getElem_toArray, List.getElem_cons_zero, List.setIfInBounds_toArray, List.set_cons_zero, List.set_cons_succ]
        refine wpAnyF_take [1, 2, 3, 4, 11, 12, 13, 14] (i := 1) (v := ?kv17) rfl (by kernel_rfl) (by kernel_rfl) (by kernel_rfl) (by kernel_rfl) (fun _ _ _ h => h) (Or.inl ⟨by rfl, ?ky17⟩) (by assumption) ?kr17
        case ky17 => (intro w hSw; (try dsimp only at hSw); go_split_ands; (try simp only [List.getElem_toArray, List.getElem_cons_zero, List.getElem_cons_succ]); go_simp; (try with_reducible rfl))
        try simp only [Act.put, List.getElem_toArray, List.getElem_cons_zero, List.getElem_cons_succ, List.setIfInBounds_toArray, List.set_cons_zero, List.set_cons_succ]
        refine wpAnyF_take [2, 3, 4, 11, 12, 13, 14] (i := 2) (v := ?kv18) rfl (by kernel_rfl) (by kernel_rfl) (by kernel_rfl) (by kernel_rfl) (fun _ _ _ h => h) (Or.inl ⟨by rfl, ?ky18⟩) (by assumption) ?kr18
        case ky18 => (intro w hSw; (try dsimp only at hSw); go_split_ands; (try simp only [List.getElem_toArray, List.getElem_cons_zero, List.getElem_cons_succ]); go_simp; (try with_reducible rfl))
        try simp only [Act.put, List.getElem_toArray, List.getElem_cons_zero, List.getElem_cons_succ, List.setIfInBounds_toArray, List.set_cons_zero, List.set_cons_succ]
        refine wpAnyF_take [3, 4, 11, 12, 13, 14] (i := 3) (v := ?kv19) rfl (by kernel_rfl) (by kernel_rfl) (by kernel_rfl) (by kernel_rfl) (fun _ _ _ h => h) (Or.inl ⟨by rfl, ?ky19⟩) (by assumption) ?kr19
        case ky19 => (intro w hSw; (try dsimp only at hSw); go_split_ands; (try simp only [List.getElem_toArray, List.getElem_cons_zero, List.getElem_cons_succ]); go_simp; (try with_reducible rfl))
        try simp only [Act.put, List.getElem_toArray, List.getElem_cons_zero, List.getElem_cons_succ, List.setIfInBounds_toArray, List.set_cons_zero, List.set_cons_succ]
        refine wpAnyF_take [4, 11, 12, 13, 14] (i := 4) (v := ?kv20) rfl (by kernel_rfl) (by kernel_rfl) (by kernel_rfl) (by kernel_rfl) (fun _ _ _ h => h) (Or.inl ⟨by rfl, ?ky20⟩) (by assumption) ?kr20
        case ky20 => (intro w hSw; (try dsimp only at hSw); go_split_ands; (try simp only [List.getElem_toArray, List.getElem_cons_zero, List.getElem_cons_succ]); go_simp; (try with_reducible rfl))
        try simp only [Act.put, List.getElem_toArray, List.getElem_cons_zero, List.getElem_cons_succ, List.setIfInBounds_toArray, List.set_cons_zero, List.set_cons_succ]
        refine wpAnyF_take [5, 8, 9, 10, 11, 12, 13, 14] (i := 5) (v := ?kv21) rfl (by kernel_rfl) (by kernel_rfl) (by kernel_rfl) (by kernel_rfl) (fun _ _ _ h => h) (Or.inl ⟨by rfl, ?ky21⟩) (by assumption) ?kr21
        case ky21 => (intro w hSw; (try dsimp only at hSw); go_split_ands; (try simp only [List.getElem_toArray, List.getElem_cons_zero, List.getElem_cons_succ]); go_simp; (try with_reducible rfl))
        try simp only [Act.put, List.getElem_toArray, List.getElem_cons_zero, List.getElem_cons_succ, List.setIfInBounds_toArray, List.set_cons_zero, List.set_cons_succ]
        refine wpAnyF_take [6, 7, 8, 9, 10, 11, 12, 13, 14] (i := 6) (v := ?kv22) rfl (by kernel_rfl) (by kernel_rfl) (by kernel_rfl) (by kernel_rfl) (fun _ _ _ h => h) (Or.inl ⟨by rfl, ?ky22⟩) (by assumption) ?kr22
        case ky22 => (intro w hSw; (try dsimp only at hSw); go_split_ands; (try simp only [List.getElem_toArray, List.getElem_cons_zero, List.getElem_cons_succ]); go_simp; (try with_reducible rfl))
        try simp only [Act.put, List.getElem_toArray, List.getElem_cons_zero, List.getElem_cons_succ, List.setIfInBounds_toArray, List.set_cons_zero, List.set_cons_succ]
        refine wpAnyF_take [7, 8, 9, 10, 11, 12, 13, 14] (i := 7) (v := ?kv23) rfl (by kernel_rfl) (by kernel_rfl) (by kernel_rfl) (by kernel_rfl) (fun _ _ _ h => h) (Or.inl ⟨by rfl, ?ky23⟩) (by assumption) ?kr23
        case ky23 => (intro w hSw; (try dsimp only at hSw); go_split_ands; (try simp only [List.getElem_toArray, List.getElem_cons_zero, List.getElem_cons_succ]); go_simp; (try with_reducible rfl))
        try simp only [Act.put, List.getElem_toArray, List.getElem_cons_zero, List.getElem_cons_succ, List.setIfInBounds_toArray, List.set_cons_zero, List.set_cons_succ]
        refine wpAnyF_take [8, 9, 10, 11, 12, 13, 14] (i := 8) (v := ?kv24) rfl (by kernel_rfl) (by kernel_rfl) (by kernel_rfl) (by kernel_rfl) (fun _ _ _ h => h) (Or.inl ⟨by rfl, ?ky24⟩) (by assumption) ?kr24
        case ky24 => (intro w hSw; (try dsimp only at hSw); go_split_ands; (try simp only [List.getElem_toArray, List.getElem_cons_zero, List.getElem_cons_succ]); go_simp; (try with_reducible rfl))
        try simp only [Act.put, List.getElem_toArray, List.getElem_cons_zero, List.getElem_cons_succ, List.setIfInBounds_toArray, List.set_cons_zero, List.set_cons_succ]
        refine wpAnyF_take [9, 10, 11, 12, 13, 14] (i := 9) (v := ?kv25) rfl (by kernel_rfl) (by kernel_rfl) (by kernel_rfl) (by kernel_rfl) (fun _ _ _ h => h) (Or.inl ⟨by rfl, ?ky25⟩) (by assumption) ?kr25
        case ky25 => (intro w hSw; (try dsimp only at hSw); go_split_ands; (try simp only [List.getElem_toArray, List.getElem_cons_zero, List.getElem_cons_succ]); go_simp; (try with_reducible rfl))
        try simp only [Act.put, List.getElem_toArray, List.getElem_cons_zero, List.getElem_cons_succ, List.setIfInBounds_toArray, List.set_cons_zero, List.set_cons_succ]
        refine wpAnyF_ready (rs := [10]) (by kernel_rfl) (by simp) ?_
        refine (AllReadyF.cons rfl (fun K hK => ?_) AllReadyF.nil)
        try simp only [List.getElem_toArray, List.getElem_cons_zero, List.getElem_cons_succ]
        go_simp
        refine hK.out _ _ (by exact ⟨f0, trivial⟩) (fun hHeldn => ?_)
        clear hHeld hK K
        have hHeld := hHeldn
        clear hHeldn
        try simp only [List.setIfInBounds_toArray, List.set_cons_zero, List.set_cons_succ]
        refine wpAnyF_ready (rs := [11]) (by kernel_rfl) (by simp) ?_
        refine (AllReadyF.last rfl (by kernel_rfl) (fun K hK => ?_) AllReadyF.nil)
        refine step_appOwn rfl _ _ rfl rfl HR.out.1 rfl HR.out.2.1 (by simp) (by show ys.length + 1 < 2000000000; omega) (Nat.zero_le _) ?_; intro g2 cap2 w2 hr2 _ k2 o2; have hst := WtrStep.app HV.out.1.at_ (by decide) HR.out.2.2 hr2 k2 o2; have hmid := HV.out.1.at_.mid (by decide) HR.out.2.2 k2; have q0 := cell_obj hmid 0; have fz := free_obj hmid 0; clear hmid; have hW := HV.out.1.trans hst; have HW := Lib.hid hW; clear hW hst
        refine hK.out _ _ (trivial) (fun hHeldn => ?_)
        clear hHeld hK K
        have hHeld := hHeldn
        clear hHeldn
        try simp only [Act.put, List.getElem_toArray, List.getElem_cons_zero, List.getElem_cons_succ, List.setIfInBounds_toArray, List.set_cons_zero, List.set_cons_succ]
        refine wpAnyF_pure (i := 12) (v := ?kv28) rfl (by kernel_rfl) (by kernel_rfl) (by kernel_rfl) (by kernel_rfl) (fun _ _ _ h => h) (Or.inl ⟨by rfl, ?ky28⟩) (by first | (intro _; assumption) | (intro h; exact absurd h (by decide))) ?kr28
        case ky28 => (intro w hSw; clear hSw; (try simp only [List.getElem_toArray, List.getElem_cons_zero, List.getElem_cons_succ]); go_simp; (try with_reducible rfl))
        try simp only [Act.put, List.getElem_toArray, List.getElem_cons_zero, List.getElem_cons_succ, List.setIfInBounds_toArray, List.set_cons_zero, List.set_cons_succ]
        refine wpAnyF_pure (i := 13) (v := ?kv29) rfl (by kernel_rfl) (by kernel_rfl) (by kernel_rfl) (by kernel_rfl) (fun _ _ _ h => h) (Or.inl ⟨by rfl, ?ky29⟩) (by first | (intro _; assumption) | (intro h; exact absurd h (by decide))) ?kr29
        case ky29 => (intro w hSw; clear hSw; (try simp only [List.getElem_toArray, List.getElem_cons_zero, List.getElem_cons_succ]); go_simp; (try with_reducible rfl))
        try simp only [Act.put, List.getElem_toArray, List.getElem_cons_zero, List.getElem_cons_succ, List.setIfInBounds_toArray, List.set_cons_zero, List.set_cons_succ]
        refine wpAnyF_ready (rs := [14]) (by kernel_rfl) (by simp) ?_
        refine (AllReadyF.last rfl (by kernel_rfl) (fun K hK => ?_) AllReadyF.nil)
        try simp only [List.getElem_toArray, List.getElem_cons_zero, List.getElem_cons_succ]
        go_simp
        refine hK.out _ _ (trivial) (fun hHeldn => ?_)
        clear hHeld hK K
        have hHeld := hHeldn
        clear hHeldn
        try simp only [List.setIfInBounds_toArray, List.set_cons_zero, List.set_cons_succ]
        refine wpAnyF_done (by kernel_rfl) ?_ _
        have e9 : ys ++ [c] = xs ++ (ihigh x n).take (k + 1) := by rw [← HY.out, List.append_assoc, ← Hs.out]
        rw [e9] at HW
        go_wp2_with fail
        have hjj := Hj.out
        go_roundw
        case rel => exact ⟨k + 1, _, by omega, by congr 1; omega, HW.out⟩
        case measure => simp [Go.RowKit.intOf]
    · have hkn : k = n := by omega
      subst hkn
      have hneg : ¬ ((0 : Int) ≤ (k : Int) - 1 - (k : Int)) := by omega
      go_wp2_with fail
      go_end0
      have := HV.out.1
      rw [List.take_of_length_le (by rw [ihigh_length]; exact Nat.le_refl _)] at this
      exact ⟨rfl, V, this⟩
/-- Bytes that lie anywhere, appended: what is not the row's own is as it was. -/
theorem wp_appAtK {o : Oper} {a : Act} {w : World} {K : Act → World → Prop} {Q : Exit → Act → World → Prop} (s x : Operand) (ho : o.op = .call { callee := .builtin .append, args := #[s, x], argTypes := #[22, 22] })
    {v : Value} {xs : List UInt8} (hs : a.eval s = v) (hown : BRow w 0 v xs) {ad : Option Addr} {cap : Nat} {ys : List UInt8} (hx : a.eval x = .slice ad ys.length cap) (hu : BytesAt w ad ys) (hsz : xs.length + ys.length < 2000000000)
    (h : ∀ v' w', BRow w' 0 v' (xs ++ ys) → Keeps (fun q => v.ownBlock = some q) w w' → (∀ g, v'.ownBlock = some g → v.ownBlock = some g ∨ w.heap.size ≤ g) → K (a.put o.dst v') w') :
    o.wp Tryz.prog a w K Q := by
  obtain ⟨i, z, hi, hz, hsi, hby, hzs⟩ := infoByte
  by_cases h0 : ys = []
  · subst h0
    obtain ⟨va, vc, hv, _⟩ : ∃ va vc, v = .slice va xs.length vc ∧ xs.length ≤ vc := by
      rcases hown.2 with ⟨h', h0⟩ | ⟨g, cap', cur, h', _, _, hc, _⟩
      · exact ⟨none, 0, by rw [h', List.length_eq_zero_iff.1 h0]; rfl, by rw [h0]; exact Nat.le_refl _⟩
      · exact ⟨_, cap', h', hc⟩
    have hle : xs.length ≤ vc := by assumption
    have hr : (Builtin.append_ #[22, 22] o.type #[v, .slice ad 0 cap]).run Tryz.prog w = .ok v w := by
      rw [hv]
      cases ad with
      | none => exact run_append_nothing w 22 22 o.type 5 i Tryz.underlying22 hi va _ _ hle _ (Src.ofNil w Tryz.underlying22 cap)
      | some ad => exact run_append_nothing w 22 22 o.type 5 i Tryz.underlying22 hi va _ _ hle _ (Src.ofSlice w Tryz.underlying22 ad 0 cap [] (by simp) (by simp) (by simp))
    unfold Oper.wp execOp
    simp only [ho, resolve, invoke, builtin, Sem.run_bind, Sem.run_pure, Result.andThen_ok, List.map_toArray, List.map_cons, List.map_nil, hs, hx, List.length_nil]
    rw [hr]
    exact h v w (by rw [List.append_nil]; exact hown) (Keeps.refl _ _) (fun g hg => .inl hg)
  · have hpos : 0 < ys.length := List.length_pos_iff.2 h0
    obtain ⟨b, off, h1, h2⟩ := hu
    obtain rfl := h1 hpos
    refine wp_append_lies (P := Tryz.prog) w s x 22 ho 0 5 i z 1 1 Tryz.underlying22 hi hz hsi hby hzs (by decide) v xs.length _ hs hown ⟨b, off, none⟩ ys.length cap (ys.map fun c => Value.int .u8 c.toNat) hx
      (by simp) (fun j u hj => by
        rw [List.getElem?_map, Option.map_eq_some_iff] at hj
        obtain ⟨c, hc, rfl⟩ := hj
        obtain ⟨hlt, rfl⟩ := List.getElem?_eq_some_iff.1 hc
        rw [show (⟨b, off, none⟩ : Addr).add j = ⟨b, off + j, none⟩ by unfold Addr.add; split <;> simp_all]
        exact h2 j hlt) (by intro x hx; simp only [List.mem_map] at hx; obtain ⟨c, _, rfl⟩ := hx; rfl) hpos (by unfold maxLen; omega) (by omega) (Nat.zero_le _) w.heap.size rfl ?_
    intro g cap' w' h3 h4 h5 _
    refine h _ w' ?_ ⟨h4.os, h4.tape, h4.output, h4.size, fun k' hk' hn' => h4.block k' hk' (fun e => hn' e.symm)⟩ (fun g' hg' => ?_)
    · unfold BRow
      rw [List.length_append, List.map_append]; exact h3
    · obtain rfl := Option.some.inj hg'
      exact h5.imp id (fun e => by show w.heap.size ≤ g; omega)
theorem list_appAtK {ops : Array Oper} {o : Oper} {a : Act} {w : World} {Q : Exit → Act → World → Prop} {rest : List Oper} (hgd : o.guard = none) (s x : Operand) (ho : o.op = .call { callee := .builtin .append, args := #[s, x], argTypes := #[22, 22] })
    {v : Value} {xs : List UInt8} (hs : a.eval s = v) (hown : BRow w 0 v xs) {ad : Option Addr} {cap : Nat} {ys : List UInt8} (hx : a.eval x = .slice ad ys.length cap) (hu : BytesAt w ad ys) (hsz : xs.length + ys.length < 2000000000)
    (h : ∀ v' w', BRow w' 0 v' (xs ++ ys) → Keeps (fun q => v.ownBlock = some q) w w' → (∀ g, v'.ownBlock = some g → v.ownBlock = some g ∨ w.heap.size ≤ g) → wpList Tryz.prog ops Q rest (a.put o.dst v') w') :
    wpList Tryz.prog ops Q (o :: rest) a w :=
  wpList_plain hgd fun _ hK => wp_appAtK s x ho hs hown hx hu hsz fun v' w' h1 h2 h3 => hK _ _ (h v' w' h1 h2 h3)
theorem WtrStep.app2 {w : World} {t : TypeId} {W : Nat} {v v' : Value} {xs ys : List UInt8} (h0 : WtrAt w t W v xs) (ht : t ≠ 5) {x : World} (hb : Below w.heap.size w x) {y : World} (hr : BRow y 0 v' ys) (hk : Keeps (fun q => v.ownBlock = some q) x y) (ho : ∀ g, v'.ownBlock = some g → v.ownBlock = some g ∨ x.heap.size ≤ g) : WtrStep w (y.setCell ⟨W, 0, none⟩ v') t W v v' ys := by
  have h1 := h0.below hb
  have hy : objAt y W = some (.cells #[v] t (0, 0)) := hk.obj h1.obj (fun e => h0.ne ht e)
  have hks : Keeps (fun q => q = W) y (y.setCell ⟨W, 0, none⟩ v') := Keeps.setCell _ _ _ rfl
  refine ⟨⟨by rw [objAt_setCell hy]; rfl, owns_keeps hr hks (fun q hq e => by
    obtain ⟨_, c, hc⟩ := BRow.ownObj hr hq
    exact ne_of_obj hc hy (fun e => ht e.symm) e)⟩, ?_, fun q hq => (ho q hq).imp id (Nat.le_trans hb.size)⟩
  exact ((Keeps.of_below hb).trans (hk.mono fun q _ e => .inr e)).trans (hks.mono fun q _ e => .inl e)
theorem BytesAt.none0 {w : World} {ad : Option Addr} : BytesAt w ad [] := ⟨0, 0, fun h => absurd h (by simp), fun i hi => absurd hi (by simp)⟩
theorem BytesAt.wtr {w w' : World} {t : TypeId} {W : Nat} {v v' : Value} {xs ys : List UInt8} (_ : WtrAt w t W v xs) (hs : WtrStep w w' t W v v' ys) {ad : Option Addr} {l : List UInt8} (hb : BytesAt w ad l) (hlt : 0 < l.length → ∀ p, ad = some p → p.block < w.heap.size) (hne : 0 < l.length → ∀ p, ad = some p → p.block ≠ W ∧ v.ownBlock ≠ some p.block) : BytesAt w' ad l := by
  cases l with
  | nil => exact BytesAt.none0
  | cons c l =>
    cases ad with
    | none =>
      obtain ⟨b, off, h1, h2⟩ := hb
      simp at h1
    | some p => exact hb.congr (hs.keeps.block p.block (hlt (by simp) p rfl) (fun e => e.elim (hne (by simp) p rfl).1 (hne (by simp) p rfl).2))
set_option maxHeartbeats 2000000 in
theorem ptext_any (W : Nat) (v : Value) (xs : List UInt8) (w : World) (h : WtrAt w 66 W v xs) {ad : Option Addr} {cap : Nat} {l : List UInt8} (hb : BytesAt w ad l) (hlt : 0 < l.length → ∀ p, ad = some p → p.block < w.heap.size) (hne : 0 < l.length → ∀ p, ad = some p → p.block ≠ W ∧ v.ownBlock ≠ some p.block) (hl : xs.length + l.length ≤ 900000) :
    Calls Tryz.prog 23 #[.pointer (some ⟨W, 0, none⟩), .slice ad l.length cap] w fun e w' => e = .returned (.tuple #[]) ∧ ∃ v', WtrStep w w' 66 W v v' (xs ++ textW l) := by
  have HN := Lib.hid (pnum_any W v xs (l.length : Int) 1 w h (by decide) (by omega))
  have H := Lib.hid (And.intro h (And.intro hb (And.intro hlt (And.intro hne hl))))
  clear h hb hlt hne hl
  go_enter Tryz.func23, Tryz.ntmps23
  go_upto_region 1 with (go_at_call 22; refine HN.out.mono ?_; rintro e w2 ⟨rfl, v2, hs2⟩)
  have hb2 := BytesAt.wtr H.out.1 hs2 H.out.2.1 H.out.2.2.1 H.out.2.2.2.1
  have c0 := hs2.at_.c0
  have hd : Below w2.heap.size w2 w2.drew := (Below.refl _ _).drew
  have H2 := Lib.hid (And.intro hs2 (And.intro (hs2.at_.below hd) (And.intro hb2 hd)))
  clear hs2 hb2 hd
  clear c0
  have c0 := H2.out.1.at_.c0
  go_wp2_with (at_builtin; refine list_appAtK rfl _ _ rfl rfl H2.out.1.at_.row rfl H2.out.2.2.1 (by rw [List.length_append, ihigh_length]; have := H.out.2.2.2.2; omega) ?_; intro v4 w4 hr4 hk4 ho4; obtain ⟨a4, n4, c4, rfl⟩ : ∃ a n c, v4 = .slice a n c := (by obtain ⟨a, c, e, _⟩ := hr4.val; exact ⟨a, _, c, e⟩); have hst := WtrStep.app2 H2.out.1.at_ (by decide) (Below.refl _ _) hr4 hk4 ho4; have hmid := H2.out.1.at_.mid (by decide) (Below.refl _ _) hk4; have q0 := cell_obj hmid 0; have fz := free_obj hmid 0; have H4 := Lib.hid hst; clear hmid hst)
  go_end0
  exact ⟨rfl, _, by have := H2.out.1.trans H4.out; rw [List.append_assoc] at this; exact this⟩
end Go.Proofs.YtanmihhlkelgeaaGreat
