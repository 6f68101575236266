/- DERIVED. Contracts and laws that the proofs of this seat share, part 4 of 36: LibF PaA PaB Spec14 Spec15 LibK. -/
import Derived.WalkLawsBesides
import Derived.Test.YtbbnejehglonjaaGreatMh00
import Derived.Test.YtbbnejehglonjaaGreatMh03
namespace Go.Proofs.YtbbnejehglonjaaGreat
set_option maxHeartbeats 8000000
set_option maxRecDepth 100000
set_option linter.unusedSimpArgs false
set_option linter.unusedVariables false
section
open Go.RowKit

theorem log2_lt53 {n : Nat} (h0 : n ≠ 0) (h : n < 9007199254740992) : n.log2 ≤ 52 := by
 have : n.log2 < 53 := (Nat.log2_lt h0).2 (by simpa using h)
 omega
theorem shift_bounds {n : Nat} (h0 : n ≠ 0) (h : n < 9007199254740992) : 4503599627370496 ≤ n * 2 ^ (52 - n.log2) ∧ n * 2 ^ (52 - n.log2) < 9007199254740992 := by
 have hl := log2_lt53 h0 h
 have h1 : 2 ^ n.log2 ≤ n := Nat.log2_self_le h0
 have h2 : n < 2 ^ (n.log2 + 1) := Nat.lt_log2_self
 have e : (2 : Nat) ^ n.log2 * 2 ^ (52 - n.log2) = 4503599627370496 := by
  rw [← Nat.pow_add, show n.log2 + (52 - n.log2) = 52 by omega]
 have hp : 0 < (2 : Nat) ^ (52 - n.log2) := Nat.two_pow_pos _
 refine ⟨?_, ?_⟩
 · rw [← e]; exact Nat.mul_le_mul_right _ h1
 · have : n * 2 ^ (52 - n.log2) < 2 ^ (n.log2 + 1) * 2 ^ (52 - n.log2) := Nat.mul_lt_mul_of_pos_right h2 hp
   rw [Nat.pow_succ, Nat.mul_comm (2 ^ n.log2) 2, Nat.mul_assoc, e] at this
   exact this

theorem cut_zero (way : Ieee.Toward) (neg : Bool) (n : Nat) : way.cut neg n 0 = n := by
 unfold Ieee.Toward.cut
 simp only [Nat.zero_min, Nat.shiftLeft_zero, Nat.div_one, Nat.mod_one]
 cases way <;> simp
theorem read_fz (n : Int) (h0 : n ≠ 0) (h : n.natAbs < 9007199254740992) :
 Ieee.double.read (floatOfInt .f64 n) = .number (decide (n < 0)) (n.natAbs * 2 ^ (52 - n.natAbs.log2)) ((n.natAbs.log2 : Int) - 52) := by
 have hm : n.natAbs ≠ 0 := by omega
 obtain ⟨m, hmm⟩ : ∃ m, m = n.natAbs := ⟨_, rfl⟩
 rw [← hmm] at h hm ⊢
 have hl := log2_lt53 hm h
 obtain ⟨hb1, hb2⟩ := shift_bounds hm h
 have hw : floatOfInt .f64 n = Ieee.double.word (decide (n < 0)) ((1022 + m.log2) * 4503599627370496 + m * 2 ^ (52 - m.log2)) := by
  show Ieee.double.nearest (decide (n < 0)) n.natAbs 0 = _
  rw [← hmm]
  unfold Ieee.Format.nearest
  rw [if_neg hm]
  have hlast : max ((0 : Int) + (m.log2 : Int) - (Ieee.double.fractionBits : Int)) Ieee.double.leastPlace = (m.log2 : Int) - 52 := by
   have e1 : (Ieee.double.fractionBits : Int) = 52 := rfl
   have e2 : Ieee.double.leastPlace = -1074 := by decide
   rw [e1, e2]; omega
  dsimp only
  rw [hlast]
  have e3 : ((m.log2 : Int) - 52 - 0).toNat = 0 := by omega
  have e4 : ((0 : Int) - ((m.log2 : Int) - 52)).toNat = 52 - m.log2 := by omega
  have e5 : ((m.log2 : Int) - 52 - Ieee.double.leastPlace).toNat = 1022 + m.log2 := by
   have e2 : Ieee.double.leastPlace = -1074 := by decide
   rw [e2]; omega
  rw [e3, e4, e5, cut_zero, Nat.shiftLeft_eq]
  have e6 : Ieee.double.binade = 4503599627370496 := by decide
  have e7 : Ieee.double.infRung = 9218868437227405312 := by decide
  rw [e6, e7]
  have h9 : (1022 + m.log2) * 4503599627370496 + m * 2 ^ (52 - m.log2) ≤ 9218868437227405312 := by omega
  rw [Nat.min_eq_left h9]
 rw [hw]
 obtain ⟨k, hk⟩ : ∃ k, k = m * 2 ^ (52 - m.log2) := ⟨_, rfl⟩
 rw [← hk] at hb1 hb2 ⊢
 have hr : (1022 + m.log2) * 4503599627370496 + k = (1023 + m.log2) * 4503599627370496 + (k - 4503599627370496) := by
  omega
 rw [hr]
 obtain ⟨f, hf⟩ : ∃ f, f = k - 4503599627370496 := ⟨_, rfl⟩
 rw [← hf]
 have hf2 : f < 4503599627370496 := by omega
 obtain ⟨L, hL⟩ : ∃ L, L = m.log2 := ⟨_, rfl⟩
 rw [← hL] at hl ⊢
 have hrb : (1023 + L) * 4503599627370496 + f < 9223372036854775808 := by
  omega
 have hsw : Ieee.double.signWeight = 9223372036854775808 := by decide
 have e6 : Ieee.double.binade = 4503599627370496 := by decide
 have e7 : Ieee.double.infRung = 9218868437227405312 := by decide
 have e2 : Ieee.double.leastPlace = -1074 := by decide
 have hword : Ieee.double.word (decide (n < 0)) ((1023 + L) * 4503599627370496 + f) / 9223372036854775808 % 2 = (if n < 0 then 1 else 0) ∧ Ieee.double.word (decide (n < 0)) ((1023 + L) * 4503599627370496 + f) % 9223372036854775808 = (1023 + L) * 4503599627370496 + f := by
  unfold Ieee.Format.word
  rw [hsw]
  by_cases hn : n < 0
  · simp only [hn, decide_true, if_true]
    constructor <;> omega
  · simp only [hn, decide_false, if_false]
    constructor
    · simp; omega
    · simp; omega
 unfold Ieee.Format.read
 rw [hsw, hword.2, hword.1, e6, e7, e2]
 have hlow : ¬ ((1023 + L) * 4503599627370496 + f < 4503599627370496) := by
  omega
 have hhigh : (1023 + L) * 4503599627370496 + f < 9218868437227405312 := by
  omega
 dsimp only
 rw [if_neg hlow, if_pos hhigh]
 have hmod : ((1023 + L) * 4503599627370496 + f) % 4503599627370496 = f := by
  rw [Nat.add_comm, Nat.add_mul_mod_self_right, Nat.mod_eq_of_lt hf2]
 have hdiv : ((1023 + L) * 4503599627370496 + f) / 4503599627370496 = 1023 + L := by
  rw [Nat.add_comm, Nat.add_mul_div_right _ _ (by decide), Nat.div_eq_of_lt hf2, Nat.zero_add]
 rw [hmod, hdiv]
 congr 1
 · by_cases hn : n < 0 <;> simp [hn]
 · omega
 · omega
theorem read_fz0 : Ieee.double.read (floatOfInt .f64 0) = .number false 0 (-1074) := by decide +kernel

def smallZ (n : Int) : Bool := decide (n.natAbs < 9007199254740992)
theorem smallZ_of {n : Int} (h1 : -9007199254740992 < n) (h2 : n < 9007199254740992) : smallZ n = true := by
 unfold smallZ; simp; omega
theorem toInt_fz (n : Int) (h : n.natAbs < 9007199254740992) : (FloatKind.decode .f64 (floatOfInt .f64 n)).toInt .zero = some n := by
 show (Ieee.double.read _).toInt .zero = some n
 by_cases h0 : n = 0
 · subst h0; rw [read_fz0]; rfl
 rw [read_fz n h0 h]
 have hm : n.natAbs ≠ 0 := by omega
 obtain ⟨m, hmm⟩ : ∃ m, m = n.natAbs := ⟨_, rfl⟩
 have hl := log2_lt53 hm h
 rw [← hmm] at h hm hl ⊢
 obtain ⟨hb1, hb2⟩ := shift_bounds hm h
 unfold Ieee.Datum.toInt Ieee.Datum.integral
 dsimp only
 have e1 : ((m.log2 : Int) - 52).toNat = 0 := by omega
 have e2 : (-((m.log2 : Int) - 52)).toNat = 52 - m.log2 := by omega
 rw [e1, e2, Nat.shiftLeft_zero]
 have hlog : (m * 2 ^ (52 - m.log2)).log2 = 52 := by
  have hne : m * 2 ^ (52 - m.log2) ≠ 0 := by omega
  have h1 : (m * 2 ^ (52 - m.log2)).log2 < 53 := (Nat.log2_lt hne).2 (by simpa using hb2)
  have h2 : 52 ≤ (m * 2 ^ (52 - m.log2)).log2 := (Nat.le_log2 hne).2 (by simpa using hb1)
  omega
 unfold Ieee.Toward.cut
 rw [hlog, Nat.min_eq_left (by omega), Nat.shiftLeft_eq, Nat.one_mul]
 dsimp only
 rw [Nat.mul_div_cancel _ (Nat.two_pow_pos _)]
 simp only [Bool.toNat_false, Nat.add_zero, Ieee.signed, Nat.shiftLeft_zero]
 congr 1
 by_cases hn : n < 0 <;> simp [hn] <;> omega
theorem back_fz {n : Int} {k : IntKind} (h : smallZ n = true) (h1 : k.min ≤ n) (h2 : n ≤ k.max) : floatToIntVal .f64 (floatOfInt .f64 n) k = some n := by
 unfold floatToIntVal
 rw [toInt_fz n (by simpa [smallZ] using h)]
 simp [h1, h2]
theorem min_i64 : IntKind.min .i64 = -9223372036854775808 := by decide
theorem max_i64 : IntKind.max .i64 = 9223372036854775807 := by decide
theorem fz_i64 {P : Program} (w : World) (src dst : TypeId) (n : Int) (hs : (P.underlying src).isSome = true) (hd : P.underlying dst = some (.int .i64)) (h : smallZ n = true) :
 (convert src dst (.float .f64 (floatOfInt .f64 n))).run P w = .ok (.int .i64 n) w := by
 refine run_convert_float_int w src dst .f64 .i64 _ n hs hd (back_fz h ?_ ?_)
 · simp only [smallZ, decide_eq_true_eq] at h; rw [min_i64]; omega
 · simp only [smallZ, decide_eq_true_eq] at h; rw [max_i64]; omega
theorem min_u32 : IntKind.min .u32 = 0 := by decide
theorem max_u32 : IntKind.max .u32 = 4294967295 := by decide
theorem fz_u32 {P : Program} (w : World) (src dst : TypeId) (n : Int) (hs : (P.underlying src).isSome = true) (hd : P.underlying dst = some (.int .u32)) (h0 : 0 ≤ n) (h1 : n ≤ 4294967295) :
 (convert src dst (.float .f64 (floatOfInt .f64 n))).run P w = .ok (.int .u32 n) w := by
 refine run_convert_float_int w src dst .f64 .u32 _ n hs hd (back_fz (smallZ_of (by omega) (by omega)) ?_ ?_)
 · rw [min_u32]; omega
 · rw [max_u32]; omega
end
section
open Go.RowKit
attribute [local irreducible] Calls
def cz (a b : Int) : Value := .complex .f64 (floatOfInt .f64 a) (floatOfInt .f64 b)

def sumOn (p : Nat × Nat) (c : UInt8) : Nat × Nat := ((p.1 + c.toNat) % 65521, (p.2 + (p.1 + c.toNat) % 65521) % 65521)
def sumOf (l : List UInt8) : Nat × Nat := l.foldl sumOn (1, 0)
def sum32 (l : List UInt8) : Nat := (sumOf l).2 * 65536 + (sumOf l).1

theorem on_any (a b : Nat) (ha : a < 65521) (hb : b < 65521) (c : UInt8) (w : World) :
 Calls Tryz.prog 227 #[cz a b, .int .u8 (c.toNat : Int)] w fun e w' => e = .returned (cz (sumOn (a, b) c).1 (sumOn (a, b) c).2) ∧ w' = w := by
 have hA : ∀ w, (convert 240 3 (.float .f64 (floatOfInt .f64 (a : Int)))).run Tryz.prog w = .ok (.int .i64 (a : Int)) w := fun w => fz_i64 w _ _ _ (by rw [Tryz.underlying240]; rfl) Tryz.underlying3 (smallZ_of (by omega) (by omega))
 have hB : ∀ w, (convert 240 3 (.float .f64 (floatOfInt .f64 (b : Int)))).run Tryz.prog w = .ok (.int .i64 (b : Int)) w := fun w => fz_i64 w _ _ _ (by rw [Tryz.underlying240]; rfl) Tryz.underlying3 (smallZ_of (by omega) (by omega))
 have hc := c.toNat_lt
 unfold cz
 go_enter Tryz.func227, Tryz.ntmps227
 go_wp2_with fail
 go_ret
 have e1 : ((a : Int) + (c.toNat : Int)) % 65521 = ((sumOn (a, b) c).1 : Int) := by simp [sumOn]
 have e2 : ((b : Int) + ((a : Int) + (c.toNat : Int))) % 65521 = ((sumOn (a, b) c).2 : Int) := by
  simp only [sumOn]; omega
 rw [e1, e2]
 exact ⟨rfl, rfl⟩

theorem sumOn_lt (p : Nat × Nat) (c : UInt8) : (sumOn p c).1 < 65521 ∧ (sumOn p c).2 < 65521 := ⟨Nat.mod_lt _ (by decide), Nat.mod_lt _ (by decide)⟩
theorem foldl_lt (l : List UInt8) : ∀ p : Nat × Nat, p.1 < 65521 ∧ p.2 < 65521 → (l.foldl sumOn p).1 < 65521 ∧ (l.foldl sumOn p).2 < 65521 := by
 induction l with
 | nil => intro p h; exact h
 | cons c l ih => intro p _; exact ih _ (sumOn_lt p c)
theorem sumOf_lt (l : List UInt8) : (sumOf l).1 < 65521 ∧ (sumOf l).2 < 65521 := foldl_lt l _ ⟨by decide, by decide⟩
theorem sum32_lt (l : List UInt8) : sum32 l < 4294967296 := by have := sumOf_lt l; unfold sum32; omega
theorem sumOf_take {l : List UInt8} {k : Nat} (h : k < l.length) : sumOf (l.take (k + 1)) = sumOn (sumOf (l.take k)) l[k] := by
 unfold sumOf; rw [List.take_succ_eq_append_getElem h, List.foldl_append]; rfl

theorem Sum_any (a : Option Addr) (l : List UInt8) (cap : Nat) (w : World) (h : BytesAt w a l) (hl : l.length ≤ 100000) :
 Calls Tryz.prog 199 #[.slice a l.length cap] w fun e w' => e = .returned (.int .u32 (sum32 l)) ∧ w' = w := by
 have hone : (Value.complex .f64 4607182418800017408 0) = cz ((sumOf []).1 : Int) ((sumOf []).2 : Int) := by
  show _ = Value.complex .f64 (floatOfInt .f64 1) (floatOfInt .f64 0)
  rw [show floatOfInt .f64 1 = 4607182418800017408 by decide +kernel, show floatOfInt .f64 0 = 0 by decide +kernel]
 obtain ⟨b, off, h1, h2⟩ := h
 go_enter Tryz.func199, Tryz.ntmps199
 go_wp2_with fail
 go_loop [3, 8] (fun z i => ∃ k : Nat, k ≤ l.length ∧ i = .int .i64 k ∧ z = cz ((sumOf (l.take k)).1 : Int) ((sumOf (l.take k)).2 : Int)) (fun _ i => l.length - (intOf i).toNat)
 case atStart => exact ⟨0, Nat.zero_le _, rfl, hone⟩
 case round =>
  obtain ⟨k, hk, rfl, rfl⟩ := hrel
  obtain ⟨p, hp⟩ : ∃ p, p = sumOf (l.take k) := ⟨_, rfl⟩
  have hlp := sumOf_lt (l.take k)
  rw [← hp] at hlp ⊢
  have Hp := Lib.hid hp
  clear hp
  by_cases hlt : k < l.length
  · have hc := h2 k hlt
    obtain rfl := h1 (by omega)
    have Hs := Lib.hid (sumOf_take hlt)
    have hon := Lib.hid (on_any p.1 p.2 hlp.1 hlp.2 (l[k]))
    generalize l[k] = c at *
    clear h1 h2 hone
    go_wp2_with (go_at_call 227; refine (hon.out _).mono ?_; rintro e w1 ⟨rfl, rfl⟩)
    go_round
    case rel => exact ⟨k + 1, by omega, by go_num, by rw [Hs.out, ← Hp.out]⟩
    case measure => simp [intOf]; omega
  · have hpe : p = sumOf l := by rw [Hp.out, List.take_of_length_le (by omega : l.length ≤ k)]
    have hA : ∀ w, (convert 240 64 (.float .f64 (floatOfInt .f64 (p.1 : Int)))).run Tryz.prog w = .ok (.int .u32 (p.1 : Int)) w := fun w => fz_u32 w _ _ _ (by rw [Tryz.underlying240]; rfl) Tryz.underlying64 (by omega) (by omega)
    have hB : ∀ w, (convert 240 64 (.float .f64 (floatOfInt .f64 (p.2 : Int)))).run Tryz.prog w = .ok (.int .u32 (p.2 : Int)) w := fun w => fz_u32 w _ _ _ (by rw [Tryz.underlying240]; rfl) Tryz.underlying64 (by omega) (by omega)
    unfold cz
    have HE := Lib.hid hpe
    clear h1 h2 hone hpe Hp
    go_wp2_with fail
    go_ret
    refine ⟨?_, rfl⟩
    have e1 : sum32 l = p.2 * 65536 + p.1 := by rw [HE.out]; rfl
    rw [e1]
    go_num
end
section
open Go.RowKit
attribute [local irreducible] Calls
structure Sh where
 level : Int
 cats : Int
 blocks : Nat
 log : Nat
 frames : Int
def Sh.cells (s : Sh) : Array Value := #[.int .i64 s.level, .int .i64 s.cats, .int .i64 s.blocks, .int .i64 s.log, .int .i64 s.frames]
structure Sh.Ok (s : Sh) : Prop where
 level : 0 ≤ s.level ∧ s.level ≤ 3
 cats : 0 ≤ s.cats ∧ s.cats ≤ 15
 blocks : s.blocks ≤ 200
 log : s.log ≤ 100
 pos : 0 < s.blocks
def Sh.size (s : Sh) : Nat := 2 + s.log + s.blocks
def Sh.lb (s : Sh) : UInt8 := UInt8.ofNat (16 * s.level + s.cats).toNat

theorem Size_any (s : Sh) (h : s.Ok) (w : World) :
 Calls Tryz.prog 54 #[.agg s.cells] w fun e w' => e = .returned (.int .i64 (s.size : Nat)) ∧ Below w.heap.size w w' := by
 obtain ⟨lv, ca, bl, lo, fr⟩ := s
 have h1 := h.blocks
 have h2 := h.log
 dsimp only at h1 h2
 unfold Sh.cells Sh.size
 go_enter Tryz.func54, Tryz.ntmps54
 go_wp2_with fail
 go_ret
 exact ⟨by go_num, grow_alloc (Below.refl _ _) _⟩
theorem Anchor_any (e : Nat) (w : World) :
 Calls Tryz.prog 169 #[.int .u32 e] w fun x w' => x = .returned (.int .i64 (e % 2 : Nat)) ∧ w' = w := by
 go_enter Tryz.func169, Tryz.ntmps169
 go_wp2_with fail
 go_ret
 exact ⟨by go_num, rfl⟩
theorem row_any (a b : Int) (w : World) :
 Calls Tryz.prog 180 #[.int .i64 a, .int .i64 b] w fun x w' => x = .returned (cz a b) ∧ w' = w := by
 unfold cz
 go_enter Tryz.func180, Tryz.ntmps180
 go_wp2_with fail
 go_ret
 exact ⟨rfl, rfl⟩
theorem of_any (a b i : Nat) (ha : a ≤ 1000) (hb : b ≤ 1000) (hi : i < b) (w : World) :
 Calls Tryz.prog 181 #[cz a b, .int .i64 i] w fun x w' => x = .returned (.int .i64 (a + i : Nat)) ∧ w' = w := by
 have hA : ∀ w, (convert 240 3 (.float .f64 (floatOfInt .f64 (a : Int)))).run Tryz.prog w = .ok (.int .i64 (a : Int)) w := fun w => fz_i64 w _ _ _ (by rw [Tryz.underlying240]; rfl) Tryz.underlying3 (smallZ_of (by omega) (by omega))
 have hB : ∀ w, (convert 240 3 (.float .f64 (floatOfInt .f64 (b : Int)))).run Tryz.prog w = .ok (.int .i64 (b : Int)) w := fun w => fz_i64 w _ _ _ (by rw [Tryz.underlying240]; rfl) Tryz.underlying3 (smallZ_of (by omega) (by omega))
 have h0 : ¬ ((i : Int) < 0) := by omega
 have h1 : ¬ ((b : Int) ≤ (i : Int)) := by omega
 unfold cz
 go_enter Tryz.func181, Tryz.ntmps181
 go_wp2_with fail
 go_ret
 exact ⟨by go_num, rfl⟩
theorem Log_any (s : Sh) (h : s.Ok) (i : Nat) (hi : i < s.log) (w : World) :
 Calls Tryz.prog 123 #[.agg s.cells, .int .i64 i] w fun e w' => e = .returned (.int .i64 (2 + i : Nat)) ∧ Below w.heap.size w w' := by
 obtain ⟨lv, ca, bl, lo, fr⟩ := s
 have h2 := h.log
 dsimp only at h2 hi
 have hof := Lib.hid (of_any 2 lo i (by omega) (by omega) hi)
 unfold Sh.cells
 go_enter Tryz.func123, Tryz.ntmps123
 go_wp2_with (first | (go_at_call 180; refine (row_any _ _ _).mono ?_; rintro e w1 ⟨rfl, rfl⟩) | (go_at_call 181; refine (hof.out _).mono ?_; rintro e w1 ⟨rfl, rfl⟩))
 go_ret
 exact ⟨rfl, grow_alloc (Below.refl _ _) _⟩
theorem Home_any (s : Sh) (h : s.Ok) (i : Nat) (hi : i < s.blocks) (w : World) :
 Calls Tryz.prog 167 #[.agg s.cells, .int .i64 i] w fun e w' => e = .returned (.int .i64 (2 + s.log + i : Nat)) ∧ Below w.heap.size w w' := by
 obtain ⟨lv, ca, bl, lo, fr⟩ := s
 have h1 := h.blocks
 have h2 := h.log
 dsimp only at h1 h2 hi
 have hof := Lib.hid (of_any (2 + lo) bl i (by omega) (by omega) hi)
 have e1 : (((2 + lo : Nat)) : Int) = 2 + (lo : Int) := by omega
 rw [e1] at hof
 unfold Sh.cells
 go_enter Tryz.func167, Tryz.ntmps167
 go_wp2_with (first | (go_at_call 180; refine (row_any _ _ _).mono ?_; rintro e w1 ⟨rfl, rfl⟩) | (go_at_call 181; refine (hof.out _).mono ?_; rintro e w1 ⟨rfl, rfl⟩))
 go_ret
 exact ⟨by go_num, grow_alloc (Below.refl _ _) _⟩
theorem wrap_byte (n : Nat) : IntKind.u8.wrap (n : Int) = ((UInt8.ofNat n).toNat : Int) := by
 rw [IntKind.wrap_u8]; simp
theorem LabelMay_ok (lv ca : Int) (h1 : 0 ≤ lv ∧ lv ≤ 3) (h2 : 0 ≤ ca ∧ ca ≤ 15) (w : World) :
 Calls Tryz.prog 197 #[.agg #[.int .i64 lv, .int .i64 ca]] w fun e w' => e = .returned (.bool true) ∧ Below w.heap.size w w' := by
 obtain ⟨a1, a2⟩ := h1
 obtain ⟨a3, a4⟩ := h2
 go_enter Tryz.func197, Tryz.ntmps197
 go_wp2_with fail
 go_ret
 exact ⟨rfl, grow_alloc (Below.refl _ _) _⟩
theorem LabelPut_ok (lv ca : Int) (h1 : 0 ≤ lv ∧ lv ≤ 3) (h2 : 0 ≤ ca ∧ ca ≤ 15) (w : World) :
 Calls Tryz.prog 165 #[.agg #[.int .i64 lv, .int .i64 ca]] w fun e w' => e = .returned (.tuple #[.int .u8 ((UInt8.ofNat (16 * lv + ca).toNat).toNat : Int), .bool true]) ∧ Below w.heap.size w w' := by
 have hb : IntKind.u8.wrap (16 * lv + ca) = ((UInt8.ofNat (16 * lv + ca).toNat).toNat : Int) := by
  have := wrap_byte (16 * lv + ca).toNat
  rw [← this]; congr 1; omega
 have Hb := Lib.hid hb
 go_enter Tryz.func165, Tryz.ntmps165
 go_wp2_with (go_at_call 197; refine (LabelMay_ok lv ca h1 h2 _).mono ?_; rintro e w1 ⟨rfl, b1⟩; have c0 : w1.cell? ⟨w.heap.size, 0, none⟩ = some (.int .i64 lv) := grow_cell b1 (by simp); have c1 : w1.cell? ⟨w.heap.size, 1, none⟩ = some (.int .i64 ca) := grow_cell b1 (by simp))
 go_ret2
 refine ⟨?_, grow_trans (grow_alloc (Below.refl _ _) _) b1⟩
 rw [← Hb.out]
 simp only [IntKind.wrap_u8]
 go_num
end
section
open Go.RowKit
attribute [local go_sem] hasBlk
structure Id where
 label : Int
 at_ : Int
 gen : Int
 deriving DecidableEq
def Id.root : Id := ⟨-1, 0, 0⟩
def Id.zero : Id := ⟨0, 0, 0⟩
def mayID (i : Id) : Bool := decide (i = Id.root) || (decide (0 ≤ i.label) && decide (i.label < 8) && decide (1 ≤ i.at_) && decide (i.at_ < 200) && decide (1 ≤ i.gen))
def idBytes (i : Id) : List UInt8 := [UInt8.ofNat (i.label % 256).toNat] ++ high i.at_.toNat 2 ++ high i.gen.toNat 4
def putID (i : Id) : List UInt8 := if mayID i = true then idBytes i else []
def idOf (b : Blk) : Id := ⟨if b.body.getD 0 0 = 255 then -1 else ((b.body.getD 0 0).toNat : Int), b.sub 1 2, b.sub 3 4⟩
def takeID (b : Blk) : Option Id := if putID (idOf b) = b.body.take 7 then some (idOf b) else none

def badName (r : Nat) : Bool := decide (r < 33) || decide (126 < r) || decide (r = 47)
def mayName (l : List UInt8) : Bool := decide (1 ≤ l.length) && decide (l.length ≤ 14) && !(l.any fun c => badName c.toNat) && !(l == [46]) && !(l == [46, 46])

structure Nm where
 dir : Id
 name : ByteArray
 at_ : Int
 gen : Int
 deriving DecidableEq
def Nm.zero : Nm := ⟨Id.zero, ⟨#[]⟩, 0, 0⟩
def mayEntry (n : Nm) : Bool := mayID n.dir && mayName n.name.data.toList && okAt n.at_ && decide (1 ≤ n.gen)
def entryBytes (n : Nm) : List UInt8 := idBytes n.dir ++ high n.at_.toNat 2 ++ high n.gen.toNat 4 ++ [UInt8.ofNat n.name.size] ++ n.name.data.toList
def putEntry (n : Nm) : Blk × Bool := if mayEntry n = true then (Blk.of 6 (entryBytes n), true) else (Blk.zero, false)
def nameOf (b : Blk) (i : Id) : Nm := ⟨i, ⟨((b.body.drop 14).take (b.body.getD 13 0).toNat).toArray⟩, b.sub 7 2, b.sub 9 4⟩
def takeEntry (b : Blk) : Option Nm :=
 match takeID b with
 | none => none
 | some i => if 14 < (b.body.getD 13 0).toNat then none else if putEntry (nameOf b i) = (b, true) then some (nameOf b i) else none
end
section
open Go.RowKit
attribute [local go_sem] hasBlk
def isNode (k : Int) : Bool := k == 1 || k == 2 || k == 3
def real (l : List Int) : List Int := l.filter (· != -1)
def blkD (bs : List Blk) (i : Int) : Blk := bs.getD i.toNat Blk.zero
def inB (bs : List Blk) (i : Int) : Bool := decide (0 ≤ i) && decide (i < bs.length)
def namesOf (bs : List Blk) (n : Nd) : List Int :=
 (if n.index == -1 then [] else n.index :: (if inB bs n.index then real ((takeIndex (blkD bs n.index)).getD []) else [])) ++ real n.direct
def named (bs : List Blk) (i : Nat) : List Int :=
 if (bs.getD i Blk.zero).kind = 1 then (match takeNode (bs.getD i Blk.zero) with | (n, true) => namesOf bs n | (_, false) => []) else []
def usedUpto (bs : List Blk) (k j : Nat) : Bool :=
 (decide (j < k) && (j == 0 || isNode (bs.getD j Blk.zero).kind || (bs.getD j Blk.zero).kind == 6)) || (List.range k).any fun i => (named bs i).contains (j : Int)
def used (bs : List Blk) : List Bool := (List.range bs.length).map (usedUpto bs bs.length)
def firstOf (u : List Bool) : Int := match u.findIdx? (! ·) with | some j => j | none => -1
def markAll (u : List Bool) (l : List Int) : List Bool := l.foldl (fun u a => u.set a.toNat true) u
def first (bs : List Blk) (but : List Int) : Int := firstOf (markAll (used bs) but)
def left (bs : List Blk) : Nat := (used bs).countP (! ·)
def fileAt (bs : List Blk) (a : Int) : Nd × Bool := if inB bs a && (blkD bs a).kind == 1 then takeNode (blkD bs a) else (Nd.zero, false)
def Nd.setDirect (n : Nd) (k : Nat) (x : Int) : Nd :=
 match k with | 0 => { n with d0 := x } | 1 => { n with d1 := x } | 2 => { n with d2 := x } | _ => { n with d3 := x }
def holes : List Int := List.replicate 16 (-1)
end
section
open Go.RowKit
attribute [local go_sem] hasBlk
theorem elemBlk : ∃ i z, Tryz.prog.info? 37 = some i ∧ i.zero = some z ∧ i.size = 57 ∧ i.bytes = 64 ∧ z.cells = Blk.zero.cells := by
 have h : (Tryz.prog.info? 37).map (fun i => (i.size, i.bytes)) = some (57, 64) := by kernel_rfl
 have hz : (Tryz.prog.info? 37).map (fun i => i.zero.map (·.cells)) = some (some Blk.zero.cells) := by kernel_rfl
 cases hi : Tryz.prog.info? 37 with
 | none => rw [hi] at h; cases h
 | some i =>
   rw [hi] at h hz
   simp only [Option.map_some, Option.some.injEq, Prod.mk.injEq] at h hz
   cases hzz : i.zero with
   | none => rw [hzz] at hz; cases hz
   | some z => rw [hzz] at hz; exact ⟨i, z, rfl, hzz, h.1, h.2, by simpa using hz⟩

def flat (bs : List Blk) : List Value := bs.flatMap fun b => b.cells.toList
theorem Blk.len_cells (b : Blk) : b.cells.toList.length = 57 := by rw [Array.length_toList, b.size_cells]
theorem flat_length (bs : List Blk) : (flat bs).length = bs.length * 57 := by
 induction bs with
 | nil => rfl
 | cons b bs ih => simp only [flat, List.flatMap_cons, List.length_append, List.length_cons] at ih ⊢; rw [ih, b.len_cells]; omega
theorem flat_append (xs bs : List Blk) : flat (xs ++ bs) = flat xs ++ flat bs := by simp [flat]
theorem flat_drop (bs : List Blk) : ∀ i, (flat bs).drop (i * 57) = flat (bs.drop i) := by
 induction bs with
 | nil => intro i; simp [flat]
 | cons b bs ih =>
   intro i
   cases i with
   | zero => simp
   | succ i =>
     rw [List.drop_succ_cons, ← ih i]
     show (b.cells.toList ++ flat bs).drop ((i + 1) * 57) = _
     rw [List.drop_append, List.drop_of_length_le (by rw [b.len_cells]; omega), b.len_cells, List.nil_append]
     congr 1; omega
theorem flat_take (bs : List Blk) : ∀ i, (flat bs).take (i * 57) = flat (bs.take i) := by
 induction bs with
 | nil => intro i; simp [flat]
 | cons b bs ih =>
   intro i
   cases i with
   | zero => simp [flat]
   | succ i =>
     rw [List.take_succ_cons]
     show (b.cells.toList ++ flat bs).take ((i + 1) * 57) = b.cells.toList ++ flat (bs.take i)
     rw [List.take_append, List.take_of_length_le (by rw [b.len_cells]; omega), b.len_cells, ← ih i]
     congr 2; omega
theorem flat_at (bs : List Blk) (i : Nat) (h : i < bs.length) : ((flat bs).drop (i * 57)).take 57 = bs[i].cells.toList := by
 rw [flat_drop, List.drop_eq_getElem_cons h]
 show (bs[i].cells.toList ++ flat _).take 57 = _
 rw [List.take_append_of_le_length (by rw [Blk.len_cells]; exact Nat.le_refl _), List.take_of_length_le (by rw [Blk.len_cells]; exact Nat.le_refl _)]
theorem flat_get (bs : List Blk) (i j : Nat) (h : i < bs.length) (hj : j < 57) : (flat bs)[i * 57 + j]? = bs[i].cells[j]? := by
 have := congrArg (fun l => l[j]?) (flat_at bs i h)
 simp only [List.getElem?_take, if_pos hj, List.getElem?_drop] at this
 rw [this]; simp
theorem flat_set (bs : List Blk) (i : Nat) (h : i < bs.length) (b : Blk) : flat (bs.set i b) = (flat bs).take (i * 57) ++ b.cells.toList ++ (flat bs).drop (i * 57 + 57) := by
 rw [List.set_eq_take_append_cons_drop, if_pos h, flat_append, flat_take]
 show _ ++ (b.cells.toList ++ flat _) = _
 rw [← flat_drop, List.append_assoc]
 congr 4; omega
theorem flat_setByte (bs : List Blk) (i j : Nat) (h : i < bs.length) (hj : j < 56) (c : UInt8) : (flat bs).set (i * 57 + (j + 1)) (.int .u8 (c.toNat : Int)) = flat (bs.set i (bs[i].setB j c)) := by
 rw [flat_set bs i h, ← Blk.set_cells]
 apply List.ext_getElem?
 intro k
 have hl := flat_length bs
 rw [List.getElem?_set]
 by_cases hk1 : k < i * 57
 · rw [if_neg (by omega), List.append_assoc, List.getElem?_append_left (by rw [List.length_take]; omega), List.getElem?_take, if_pos hk1]
 · by_cases hk2 : k < i * 57 + 57
   · obtain ⟨m, rfl⟩ : ∃ m, k = i * 57 + m := ⟨k - i * 57, by omega⟩
     have e : List.length ((flat bs).take (i * 57)) = i * 57 := by rw [List.length_take]; omega
     rw [List.append_assoc, List.getElem?_append_right (by omega), e, List.getElem?_append_left (by simp [Blk.size_cells]; omega)]
     have hm : i * 57 + m - i * 57 = m := by omega
     rw [hm, Array.toList_setIfInBounds, List.getElem?_set, flat_get bs i m h (by omega)]
     by_cases hjm : j + 1 = m
     · subst hjm
       rw [if_pos rfl, if_pos rfl, if_pos (by omega), if_pos (by rw [Blk.len_cells]; omega)]
     · rw [if_neg (by omega), if_neg hjm]; simp
   · have ht : ((flat bs).take (i * 57)).length = i * 57 := by rw [List.length_take]; omega
     have hc : (bs[i].cells.setIfInBounds (j + 1) (.int .u8 (c.toNat : Int))).toList.length = 57 := by simp [Blk.size_cells]
     rw [if_neg (by omega), List.getElem?_append_right (by rw [List.length_append, ht, hc]; omega), List.length_append, ht, hc, List.getElem?_drop]
     congr 1
     omega

def KRow (w : World) (B : Nat) (v : Value) (bs : List Blk) : Prop := w.ownsRow B 37 57 v bs.length (flat bs)

def rowOff (w : World) (g off : Nat) : Option (Array Value) := (rowAt w g).bind fun c => if off + 57 ≤ c.size then some (c.extract off (off + 57)) else none
def hasOff (w : World) (g off : Nat) : Bool := (rowOff w g off).isSome
theorem rowOff_some {w : World} {g off : Nat} {r : Array Value} (h : rowOff w g off = some r) : ∃ c t, w.heap[g]? = some (.cells c t (0, 0)) ∧ off + 57 ≤ c.size ∧ r = c.extract off (off + 57) := by
 unfold rowOff at h
 cases hr : rowAt w g with
 | none => rw [hr] at h; cases h
 | some c =>
   rw [hr] at h
   obtain ⟨t, ht⟩ := heap_rowAt hr
   simp only [Option.bind_some] at h
   split at h
   · rename_i hle
     exact ⟨c, t, ht, hle, by simpa using h.symm⟩
   · cases h
theorem load_off' (w : World) (g off : Nat) {r : Array Value} (h : rowOff w g off = some r) : (Instr.loadAt 37 (.pointer (some ⟨g, off, none⟩))).run Tryz.prog w = .ok (.agg r) w := by
 obtain ⟨c, t, hg, hle, rfl⟩ := rowOff_some h
 obtain ⟨d, hd, hd2⟩ := aggBlk.desc
 have hs : (sizeOf 37).run Tryz.prog w = .ok 57 w := by
  obtain ⟨i, z, hi, _, hs, _⟩ := elemBlk
  simp [sizeOf, typeInfo, hi, hs]
 have hag : (isAgg 37).run Tryz.prog w = .ok true w := by
  simp only [isAgg, Sem.run_bind, run_underlying hd, Result.andThen_ok]
  cases d <;> simp_all
 have hl := run_loadCells_list (P := Tryz.prog) w ⟨g, off, none⟩ (c.extract off (off + 57)).toList (fun j v hv => by
  have hadd : (⟨g, off, none⟩ : Addr).add j = ⟨g, off + j, none⟩ := by unfold Addr.add; split <;> simp_all
  rw [hadd, cell_of_row w g (off + j) c t (0, 0) hg]
  simp only [Array.toList_extract, List.extract_eq_take_drop, List.getElem?_take, List.getElem?_drop] at hv
  split at hv
  · simpa using hv
  · cases hv)
 have hlen : (c.extract off (off + 57)).toList.length = 57 := by simp; omega
 rw [hlen] at hl
 simp only [Instr.loadAt, Instr.sureAddr, Sem.run_bind, Sem.run_pure, Result.andThen_ok, loadVar, hag, if_true, hs, hl]
@[go_sem] theorem load_off (w : World) (g off : Nat) (h : hasOff w g off = true) : blkLoad (.pointer (some ⟨g, off, none⟩)) w = .ok (.agg ((rowOff w g off).getD #[])) w := by
 unfold hasOff at h
 cases hr : rowOff w g off with
 | none => rw [hr] at h; cases h
 | some r =>
   unfold blkLoad
   exact load_off' w g off hr
def putOff (w : World) (g off : Nat) (c : Array Value) : World := w.setRow g (((rowAt w g).getD #[]).toList.take off ++ c.toList ++ ((rowAt w g).getD #[]).toList.drop (off + 57)).toArray
@[go_sem] theorem store_off (w : World) (g off : Nat) (b : Blk) (h : hasOff w g off = true) : blkStore (.pointer (some ⟨g, off, none⟩)) (.agg b.cells) w = .ok () (putOff w g off b.cells) := by
 unfold hasOff at h
 cases hr : rowOff w g off with
 | none => rw [hr] at h; cases h
 | some r =>
   obtain ⟨c, t, hg, hle, rfl⟩ := rowOff_some hr
   have hs : (sizeOf 37).run Tryz.prog w = .ok 57 w := by
    obtain ⟨i, z, hi, _, hs, _⟩ := elemBlk
    simp [sizeOf, typeInfo, hi, hs]
   have hst := run_storeCells_at Tryz.prog g off t b.cells.toList 0 c w hg (by rw [b.len_cells]; omega) b.one_cells
   unfold blkStore
   show (Instr.storeAt 37 _ _).run Tryz.prog w = _
   simp only [Instr.storeAt, Instr.sureAddr, Sem.run_bind, Sem.run_pure, Result.andThen_ok, storeVar, hs, Value.cells, b.size_cells, ne_eq, not_true_eq_false, if_false]
   rw [hst]
   unfold putOff
   rw [rowAt_heap hg, b.len_cells]
   simp

section
variable {w : World} {B g n cap : Nat} {v : Value} {bs : List Blk}
theorem KRow.form (h : KRow w B v bs) (hn : 0 < bs.length) : ∃ g cap, v = .slice (some ⟨g, 0, none⟩) bs.length cap ∧ B ≤ g ∧ g < w.heap.size := World.ownsRow.form h hn
theorem KRow.len (h : KRow w B (.slice (some ⟨g, 0, none⟩) n cap) bs) : n = bs.length := by
 rcases h.2 with ⟨h', _⟩ | ⟨g', cap', cur, h', _⟩
 · simp at h'
 · simp only [Value.slice.injEq] at h'; exact h'.2.1
theorem KRow.obj (h : KRow w B (.slice (some ⟨g, 0, none⟩) n cap) bs) : ∃ cur, w.heap[g]? = some (.cells cur 37 (0, 0)) ∧ bs.length ≤ cap ∧ cap ≤ maxLen ∧ cur.size = cap * 57 ∧ cur.toList.take (bs.length * 57) = flat bs ∧ B ≤ g := by
 rcases h.2 with ⟨h', _⟩ | ⟨g', cap', cur, h', hb, hg, hnc, hcm, hcs, htake⟩
 · simp at h'
 · simp only [Value.slice.injEq, Option.some.injEq, Addr.mk.injEq, and_true] at h'
   obtain ⟨rfl, rfl, rfl⟩ := h'
   exact ⟨cur, hg, hnc, hcm, hcs, htake, hb⟩
theorem KRow.below {w' : World} (h : KRow w B v bs) (hb : Below w.heap.size w w') : KRow w' B v bs := by
 refine World.ownsRow.kept h ⟨hb.os, hb.tape, hb.output, hb.size, fun k hk _ => hb.block k hk⟩ (row := none) ?_
 cases v.ownBlock <;> simp
theorem KRow.keeps {S : Nat → Prop} {w' : World} (h : KRow w B v bs) (hk : Keeps S w w') (hn : ∀ g, v.ownBlock = some g → ¬ S g) : KRow w' B v bs := by
 rcases h.2 with ⟨h', h0⟩ | ⟨g', cap', cur, h', hb, hg, hnc, hcm, hcs, htake⟩
 · exact ⟨h.1, .inl ⟨h', h0⟩⟩
 · exact ⟨h.1, .inr ⟨g', cap', cur, h', hb, by rw [hk.block g' (block_lt hg) (hn g' (by rw [h']; rfl))]; exact hg, hnc, hcm, hcs, htake⟩⟩
theorem KRow.mono {B' : Nat} (h : KRow w B v bs) (hb : B' ≤ B) : KRow w B' v bs := by
 refine ⟨h.1, ?_⟩
 rcases h.2 with h' | ⟨g, cap, cur, h1, h2, h3⟩
 · exact .inl h'
 · exact .inr ⟨g, cap, cur, h1, Nat.le_trans hb h2, h3⟩
theorem KRow.cellAt (h : KRow w B (.slice (some ⟨g, 0, none⟩) n cap) bs) (i j : Nat) (hi : i < bs.length) (hj : j < 57) : w.cell? ⟨g, i * 57 + j, none⟩ = bs[i].cells[j]? := by
 obtain rfl := h.len
 rw [World.ownsRow.cellAt h _ (by omega), flat_get bs i j hi hj]
theorem KRow.kind (h : KRow w B (.slice (some ⟨g, 0, none⟩) n cap) bs) (i : Nat) (hi : i < bs.length) : w.cell? ⟨g, i * 57, none⟩ = some (.int .i64 (bs.getD i Blk.zero).kind) := by
 have := h.cellAt i 0 hi (by decide)
 rw [Nat.add_zero, Blk.cell0] at this
 rw [this, List.getD_eq_getElem?_getD, List.getElem?_eq_getElem hi]; rfl
theorem KRow.byte (h : KRow w B (.slice (some ⟨g, 0, none⟩) n cap) bs) (i j : Nat) (hi : i < bs.length) (hj : j < 56) : w.cell? ⟨g, i * 57 + 1 + j, none⟩ = some (.int .u8 (((bs.getD i Blk.zero).body.getD j 0).toNat : Int)) := by
 have := h.cellAt i (j + 1) hi (by omega)
 rw [Blk.cellS _ j hj] at this
 rw [show i * 57 + 1 + j = i * 57 + (j + 1) by omega, this]
 simp only [List.getD_eq_getElem?_getD, List.getElem?_eq_getElem hi, Option.getD_some]
 rw [List.getElem?_eq_getElem (by rw [Blk.len]; exact hj)]; rfl
theorem KRow.free (h : KRow w B (.slice (some ⟨g, 0, none⟩) n cap) bs) (i : Nat) : w.frozen? ⟨g, i, none⟩ = false := by
 obtain rfl := h.len
 exact World.ownsRow.frozenAt h i
theorem KRow.row (h : KRow w B (.slice (some ⟨g, 0, none⟩) n cap) bs) (i : Nat) (hi : i < bs.length) : rowOff w g (i * 57) = some (bs.getD i Blk.zero).cells := by
 obtain ⟨cur, hg, hnc, hcm, hcs, htake, hb⟩ := h.obj
 have hle : i * 57 + 57 ≤ cur.size := by rw [hcs]; omega
 unfold rowOff
 rw [rowAt_heap hg]
 simp only [Option.bind_some, if_pos hle, Option.some.injEq]
 apply Array.ext'
 rw [List.getD_eq_getElem?_getD, List.getElem?_eq_getElem hi, Option.getD_some, ← flat_at bs i hi, ← htake]
 simp only [Array.toList_extract, List.extract_eq_take_drop]
 rw [List.drop_take, List.take_take]
 congr 1; omega
theorem KRow.has (h : KRow w B (.slice (some ⟨g, 0, none⟩) n cap) bs) (i : Nat) (hi : i < bs.length) : hasOff w g (i * 57) = true := by
 unfold hasOff; rw [h.row i hi]; rfl
theorem KRow.put (h : KRow w B (.slice (some ⟨g, 0, none⟩) n cap) bs) (i : Nat) (hi : i < bs.length) (b : Blk) : KRow (putOff w g (i * 57) b.cells) B (.slice (some ⟨g, 0, none⟩) n cap) (bs.set i b) := by
 obtain rfl := h.len
 obtain ⟨cur, hg, hnc, hcm, hcs, htake, hb⟩ := h.obj
 unfold putOff
 rw [rowAt_heap hg, Option.getD_some]
 refine ⟨by rw [flat_length], .inr ⟨g, cap, _, by rw [List.length_set], hb, setRow_heap w g cur _ _ _ hg, by rw [List.length_set]; exact hnc, hcm, ?_, ?_⟩⟩
 · simp only [List.size_toArray, List.length_append, List.length_take, List.length_drop, Array.length_toList, b.size_cells]; omega
 · simp only [List.length_set]
   rw [flat_set bs i hi, ← htake]
   apply List.ext_getElem?
   intro k
   have hcl : cur.toList.length = cap * 57 := by rw [Array.length_toList, hcs]
   simp only [List.getElem?_take, List.append_assoc]
   by_cases hk : k < bs.length * 57
   · rw [if_pos hk]
     by_cases hk1 : k < i * 57
     · rw [List.getElem?_append_left (by rw [List.length_take]; omega), List.getElem?_append_left (by rw [List.length_take, List.length_take]; omega)]
       simp only [List.getElem?_take, if_pos hk1, if_pos hk]
     · have t1 : (cur.toList.take (i * 57)).length = i * 57 := by rw [List.length_take, hcl]; omega
       have t2 : ((cur.toList.take (bs.length * 57)).take (i * 57)).length = i * 57 := by rw [List.length_take, List.length_take, hcl]; omega
       rw [List.getElem?_append_right (l₁ := cur.toList.take (i * 57)) (by rw [t1]; omega), List.getElem?_append_right (l₁ := (cur.toList.take (bs.length * 57)).take (i * 57)) (by rw [t2]; omega), t1, t2]
       by_cases hk2 : k < i * 57 + 57
       · rw [List.getElem?_append_left (by rw [b.len_cells]; omega), List.getElem?_append_left (by rw [b.len_cells]; omega)]
       · rw [List.getElem?_append_right (by rw [b.len_cells]; omega), List.getElem?_append_right (by rw [b.len_cells]; omega)]
         simp only [List.getElem?_drop, List.getElem?_take, b.len_cells]
         rw [if_pos (by omega)]
   · rw [if_neg hk]
     symm
     rw [List.getElem?_eq_none]
     simp only [List.length_append, List.length_take, List.length_drop, hcl, b.len_cells]
     omega
theorem putOff_keeps (w : World) (g off : Nat) (c : Array Value) : Keeps (· = g) w (putOff w g off c) :=
 ⟨rfl, rfl, rfl, by simp [putOff, World.setRow], fun k _ hk => by
  unfold putOff; simp only [World.setRow, Array.getElem?_modify]; rw [if_neg (fun e => hk e.symm)]⟩
theorem putOff_below {B' : Nat} {x : World} (h : Below B' x w) (hg : B' ≤ g) (off : Nat) (c : Array Value) : Below B' x (putOff w g off c) := by
 unfold putOff; exact h.setRow hg _
theorem KRow.setByte (h : KRow w B (.slice (some ⟨g, 0, none⟩) n cap) bs) (i j : Nat) (hi : i < bs.length) (hj : j < 56) (c : UInt8) :
 KRow (w.setCell ⟨g, i * 57 + 1 + j, none⟩ (.int .u8 (c.toNat : Int))) B (.slice (some ⟨g, 0, none⟩) n cap) (bs.set i ((bs.getD i Blk.zero).setB j c)) := by
 obtain rfl := h.len
 have := (World.ownsRow.stored h (i * 57 + (j + 1)) (.int .u8 (c.toNat : Int))).1
 rw [flat_setByte bs i j hi hj c] at this
 rw [show i * 57 + 1 + j = i * 57 + (j + 1) by omega]
 unfold KRow
 rw [List.length_set, List.getD_eq_getElem?_getD, List.getElem?_eq_getElem hi]; exact this
end
theorem KRow.alloc {w : World} {B : Nat} {v : Value} {bs : List Blk} (h : KRow w B v bs) (o : Obj) : KRow (w.alloc o) B v bs := World.ownsRow.alloc h o
theorem KRow.drew {w : World} {B : Nat} {v : Value} {bs : List Blk} (h : KRow w B v bs) : KRow w.drew B v bs := h
end
end Go.Proofs.YtbbnejehglonjaaGreat
