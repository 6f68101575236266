/- DERIVED. Contracts of strings.Cut at a slash, of path.Split and clathriref1.Split. -/
import Derived.Test.YtbadpgbichnemaaPath
import Derived.Outline
import Derived.Deep.QuietTactic
import Derived.BigQuiet
namespace Go.Proofs.Ytbadpgbichnemaa
open Go.RowKit

theorem cut_none' (s : ByteArray) (w : World) (h : (47 : UInt8) ∉ s.data.toList) :
    Calls Try.prog 25 #[.string s, .string ⟨#[47]⟩] w fun e w' => e = .returned (.tuple #[.string s, .string ⟨#[]⟩, .bool false]) ∧ w = w' := by
  have Hi := Lib.hid (indexByte_none h)
  clear h
  go_enter Try.func25, Try.ntmps25
  go_wp2_with fail
  refine (Try.stringslite_Index_one s 47 _).mono ?_
  rintro e w' ⟨rfl, rfl⟩
  rw [Hi.out]
  go_wp2_with fail
  go_ret3
  exact ⟨rfl, rfl⟩

theorem cut_none (s : ByteArray) (w : World) (h : (47 : UInt8) ∉ s.data.toList) :
    Calls Try.prog 21 #[.string s, .string ⟨#[47]⟩] w fun e w' => e = .returned (.tuple #[.string s, .string ⟨#[]⟩, .bool false]) ∧ w = w' := by
  go_enter Try.func21, Try.ntmps21
  go_wp2_with fail
  refine (cut_none' s _ h).mono ?_
  rintro e w' ⟨rfl, rfl⟩
  go_wp2_with fail
  go_ret3
  exact ⟨rfl, rfl⟩

theorem bytes_ext {a b : ByteArray} (h : a.data.toList = b.data.toList) : a = b := Go.WideShapes.bytes_inj h

theorem cut_some' (s : ByteArray) (a b : List UInt8) (w : World) (hs : s.size ≤ 9223372036854775807) (e : s.data.toList = a ++ 47 :: b) (h : (47 : UInt8) ∉ a) :
    Calls Try.prog 25 #[.string s, .string ⟨#[47]⟩] w fun e w' => e = .returned (.tuple #[.string ⟨a.toArray⟩, .string ⟨b.toArray⟩, .bool true]) ∧ Below w.heap.size w w' := by
  have Hi := Lib.hid (show Lib.indexByte s.data.toList 47 = a.length by rw [e]; exact indexByte_cut h)
  have hlen : s.size = a.length + 1 + b.length := by
    have : s.data.toList.length = s.size := by simp
    rw [← this, e]; simp; omega
  have hle : a.length + 1 ≤ s.size := by omega
  have Ha := Lib.hid (show s.extract 0 a.length = ⟨a.toArray⟩ from by apply bytes_ext; rw [Lib.extract_data, e]; simp)
  have Hb := Lib.hid (show s.extract (a.length + 1) s.size = ⟨b.toArray⟩ from by apply bytes_ext; rw [Lib.extract_to_end, e]; simp)
  clear hlen h e
  go_enter Try.func25, Try.ntmps25
  go_wp2_with fail
  refine (Try.stringslite_Index_one s 47 _).mono ?_
  rintro e w' ⟨rfl, rfl⟩
  rw [Hi.out]
  go_wp2_with fail
  have f1 : IntKind.i64.wrap ((a.length : Int) + 1) = (a.length : Int) + 1 := IntWalk.i64_in _ (by omega)
  have f2 : (0 : Int) ≤ (a.length : Int) + 1 := by omega
  have f3 : ((a.length : Int) + 1).toNat = a.length + 1 := by omega
  have f4 : (a.length : Int) + 1 ≤ (s.size : Int) := by omega
  have f5 : (a.length : Int) ≤ (s.size : Int) := by omega
  go_quiet (fail)
  go_wp2_with fail
  go_ret3
  exact ⟨by rw [← Ha.out, ← Hb.out]; rfl, below_drewN _ _⟩

theorem cut_some (s : ByteArray) (a b : List UInt8) (w : World) (hs : s.size ≤ 9223372036854775807) (e : s.data.toList = a ++ 47 :: b) (h : (47 : UInt8) ∉ a) :
    Calls Try.prog 21 #[.string s, .string ⟨#[47]⟩] w fun e w' => e = .returned (.tuple #[.string ⟨a.toArray⟩, .string ⟨b.toArray⟩, .bool true]) ∧ Below w.heap.size w w' := by
  have Hk := Lib.hid (fun w => cut_some' s a b w hs e h)
  clear e
  go_enter Try.func21, Try.ntmps21
  go_wp2_with fail
  refine (Hk.out _).mono ?_
  rintro e w1 ⟨rfl, b1⟩
  go_wp2_with fail
  go_ret3
  exact ⟨rfl, b1⟩

theorem elemStr : Elem1 Try.prog 35 9 16 := .mk' Try.underlying35 (z := .string ⟨#[]⟩) (by kernel_rfl) rfl (by decide)

/-- A []string in memory of the call's own. -/
def StrRow (w : World) (B : Nat) (v : Value) (l : List (List UInt8)) : Prop := w.ownsRow B 9 1 v l.length (l.map fun s => Value.string ⟨s.toArray⟩)

theorem StrRow.below {w w' : World} {B : Nat} {v : Value} {l : List (List UInt8)} (h : StrRow w B v l) (hb : Below w.heap.size w w') : StrRow w' B v l := by
  refine World.ownsRow.kept h ⟨hb.os, hb.tape, hb.output, hb.size, fun k hk _ => hb.block k hk⟩ (row := none) ?_
  cases v.ownBlock <;> simp
theorem StrRow.alloc {w : World} {B : Nat} {v : Value} {l : List (List UInt8)} (h : StrRow w B v l) (o : Obj) : (w.alloc o).ownsRow B 9 1 v l.length (l.map fun s => Value.string ⟨s.toArray⟩) :=
  World.ownsRow.alloc h o

def strOf : Value → ByteArray | .string s => s | _ => ⟨#[]⟩
def boolOf : Value → Bool | .bool b => b | _ => false

/-- What is left to be read: more, rest. -/
def leftOf (more : Bool) (rest : List UInt8) : Option (List (List UInt8)) := if more then scan [] rest else some []

def SplitJ (w : World) (p : ByteArray) (l : Nat) (a' : Act) (w' : World) : Prop :=
  Below w.heap.size w w' ∧
  ((l = 0 ∧ splitOf p.data.toList = none ∧ ∃ u0 u1 u2 u3 u4 u5 u6 u7 u8 u9 u10 u11 u12 u13 u14 u15 u16 u17 u18 u19 u20 u21 u22 u23 u24 u25 u26 u27 u28 u29 u30 u31 u32 u33 u34 u35 u36 u37 u38 u39 u40 : Value, a' = { tmps := #[u0, u1, u2, u3, u4, u5, u6, u7, u8, u9, u10, u11, u12, u13, u14, u15, u16, u17, u18, u19, u20, u21, u22, u23, u24, u25, u26, u27, u28, u29, u30, u31, u32, u33, u34, u35, u36, u37, u38, u39, u40], defers := [] }) ∨
   (l = 1 ∧ ∃ (more : Bool) (rest : ByteArray) (acc : List (List UInt8)) (lv : Value),
      StrRow w' w.heap.size lv acc ∧ splitOf p.data.toList = (leftOf more rest.data.toList).map (acc ++ ·) ∧ acc.length + rest.size + more.toNat ≤ 200 ∧
      ∃ u1 u4 u7 u8 u9 u10 u11 u12 u13 u14 u15 u16 u17 u18 u19 u20 u21 u22 u23 u24 u25 u26 u27 u28 u29 u30 u31 u32 u33 u34 u35 u36 u37 u38 u39 u40 : Value, a' = { tmps := #[.string p, u1, lv, .int .i64 0, u4, .string rest, .bool more, u7, u8, u9, u10, u11, u12, u13, u14, u15, u16, u17, u18, u19, u20, u21, u22, u23, u24, u25, u26, u27, u28, u29, u30, u31, u32, u33, u34, u35, u36, u37, u38, u39, u40], defers := [] }))

def SplitM (a : Act) : Nat := 2 * (strOf (a.tmps.getD 5 undef)).size + (boolOf (a.tmps.getD 6 undef)).toNat

/-- What a path's names come to, in memory. -/
def SplitEnd (B : Nat) (p : List UInt8) (e : Ending) (w' : World) : Prop :=
  ∃ v, match splitOf p with
    | some l => e = .returned (.tuple #[v, .int .i64 0]) ∧ StrRow w' B v l
    | none => e = .returned (.tuple #[v, .int .i64 1]) ∧ v = .slice none 0 0

theorem bsize (s : ByteArray) : s.data.toList.length = s.size := by simp

theorem cut_any (s : ByteArray) (hs : s.size ≤ 9223372036854775807) : ∃ (PB RB : ByteArray) (m2 : Bool) (part : List UInt8),
    (∀ w, Calls Try.prog 21 #[.string s, .string ⟨#[47]⟩] w fun e w' => e = .returned (.tuple #[.string PB, .string RB, .bool m2]) ∧ Below w.heap.size w w') ∧
    PB.data.toList = part ∧ PB = ⟨part.toArray⟩ ∧ scan [] s.data.toList = partOn part (leftOf m2 RB.data.toList) ∧ RB.size + m2.toNat ≤ s.size := by
  rcases cut_cases s.data.toList 47 with hc | ⟨x, y, hxy, hc⟩
  · refine ⟨s, ⟨#[]⟩, false, s.data.toList, fun w => (cut_none s w hc).mono ?_, rfl, rfl, ?_, Nat.zero_le _⟩
    · rintro e w1 ⟨rfl, rfl⟩; exact ⟨rfl, Below.refl _ _⟩
    · rw [scan_take _ _ hc]; rfl
  · refine ⟨⟨x.toArray⟩, ⟨y.toArray⟩, true, x, fun w => cut_some s x y w hs hxy hc, rfl, rfl, ?_, ?_⟩
    · rw [hxy, scan_cut _ _ _ hc]; rfl
    · have hlen := bsize s
      rw [hxy] at hlen
      rw [← bsize]
      simp at hlen ⊢
      omega

theorem splitOf_no {p : List UInt8} (h : Lib.hasPrefix p [47] = false) : splitOf p = none := by
  cases p with
  | nil => rfl
  | cons c r =>
    have hc : c ≠ 47 := by
      rintro rfl
      simp [Lib.hasPrefix] at h
    simp [splitOf, hc]
theorem splitOf_long {p : List UInt8} (h : 120 < p.length) : splitOf p = none := by
  cases p with
  | nil => exact absurd h (Nat.not_lt_zero _)
  | cons c r =>
    unfold splitOf
    dsimp only
    rw [if_neg (by rintro ⟨_, h2⟩; omega)]
theorem splitOf_yes {p : List UInt8} (h : Lib.hasPrefix p [47] = true) (h2 : p.length ≤ 120) : splitOf p = if Lib.trimPrefix p [47] = [] then some [] else scan [] (Lib.trimPrefix p [47]) := by
  have ht : Lib.trimPrefix p [47] = p.drop 1 := by unfold Lib.trimPrefix; rw [h]; rfl
  cases p with
  | nil => exact absurd h (by decide)
  | cons c r =>
    have hc : c = 47 := by
      simp only [Lib.hasPrefix, List.isPrefixOf, Bool.and_eq_true, beq_iff_eq] at h
      exact h.1.symm
    rw [ht]
    unfold splitOf
    dsimp only
    rw [if_pos ⟨hc, h2⟩]
    rfl
theorem trim_len (p : List UInt8) : (Lib.trimPrefix p [47]).length ≤ p.length := by
  unfold Lib.trimPrefix; split
  · simp
  · exact Nat.le_refl _

set_option maxHeartbeats 1000000 in
theorem Split_any (p : ByteArray) (w : World) (hp : p.size ≤ 9223372036854775807) :
    Calls Try.prog 17 #[.string p] w fun e w' => SplitEnd w.heap.size p.data.toList e w' ∧ Below w.heap.size w w' := by
  go_enter Try.func17, Try.ntmps17
  go_wp2_with fail
  refine wp_scope_labels (SplitJ w p) (fun l a _ => if l = 1 then SplitM a else 0) ?_ ?_ ?_
  · rintro l a w' ⟨_, ⟨rfl, _⟩ | ⟨rfl, _⟩⟩ <;> exact ⟨_, rfl⟩
  · rintro l rest a w' ⟨hb, ⟨rfl, hs, u0, u1, u2, u3, u4, u5, u6, u7, u8, u9, u10, u11, u12, u13, u14, u15, u16, u17, u18, u19, u20, u21, u22, u23, u24, u25, u26, u27, u28, u29, u30, u31, u32, u33, u34, u35, u36, u37, u38, u39, u40, rfl⟩ | ⟨rfl, more, rst, acc, lv, hrow, hs, hle, u1, u4, u7, u8, u9, u10, u11, u12, u13, u14, u15, u16, u17, u18, u19, u20, u21, u22, u23, u24, u25, u26, u27, u28, u29, u30, u31, u32, u33, u34, u35, u36, u37, u38, u39, u40, rfl⟩⟩ hrest
    · obtain rfl := (Code.seq.inj (Option.some.inj hrest)).2
      have Hs := Lib.hid hs
      clear hs
      go_wp2_with fail
      go_ret2
      exact ⟨⟨.slice none 0 0, by rw [Hs.out]; exact ⟨rfl, rfl⟩⟩, hb⟩
    · obtain rfl := (Code.seq.inj (Option.some.inj hrest)).2
      have Hs := Lib.hid hs
      clear hs
      cases more with
      | false =>
        go_wp2_with fail
        go_ret2
        refine ⟨⟨lv, ?_⟩, hb⟩
        rw [Hs.out, leftOf, if_neg (by simp)]
        refine ⟨rfl, ?_⟩
        simpa using hrow
      | true =>
        obtain ⟨PB, RB, m2, part, hcut, hpd, hps, hspec, hsz⟩ := cut_any rst (by omega)
        have Hcut := Lib.hid hcut
        have Hpd := Lib.hid hpd
        have Hps := Lib.hid hps
        have Hspec := Lib.hid hspec
        have hle' : acc.length + rst.size + 1 ≤ 200 := hle
        clear hcut hpd hps hspec hle
        go_wp2_with fail
        refine (Hcut.out _).mono ?_
        rintro e w1 ⟨rfl, BB⟩
        have bb := hb.trans (BB.mono hb.size)
        have hrow1 := hrow.below BB
        by_cases hdot : part = [46]
        · have d1 : (PB.toList == [46]) = true := by rw [eqs, Hpd.out, hdot]; rfl
          have Hdot := Lib.hid hdot
          clear hdot
          go_wp2_with fail
          go_step3
          refine ⟨⟨bb, .inr ⟨rfl, m2, RB, acc, lv, hrow1, ?_, by omega, _, _, _, _, _, _, _, _, _, _, _, _, _, _, _, _, _, _, _, _, _, _, _, _, _, _, _, _, _, _, _, _, _, _, _, _, rfl⟩⟩, ?_⟩
          · rw [Hs.out, leftOf, if_pos rfl, Hspec.out, partOn, if_pos Hdot.out]
          · simp [SplitM, strOf, boolOf]; omega
        · have d1 : (PB.toList == [46]) = false := by rw [eqs, Hpd.out]; simpa using hdot
          have Hdot := Lib.hid hdot
          clear hdot
          cases hm : mayName part
          · have Hm := Lib.hid (show mayName PB.data.toList = false by rw [Hpd.out]; exact hm)
            have Hm2 := Lib.hid hm
            clear hm
            go_wp2_with fail
            refine (entryMayName PB _).mono ?_
            rintro e w2 ⟨rfl, b2⟩
            rw [Hm.out]
            go_wp2_with fail
            go_step3
            refine ⟨⟨bb.trans (b2.mono bb.size), .inl ⟨rfl, ?_, _, _, _, _, _, _, _, _, _, _, _, _, _, _, _, _, _, _, _, _, _, _, _, _, _, _, _, _, _, _, _, _, _, _, _, _, _, _, _, _, _, rfl⟩⟩, ?_⟩
            · rw [Hs.out, leftOf, if_pos rfl, Hspec.out, partOn, if_neg Hdot.out, if_neg (by rw [Hm2.out]; simp)]; rfl
            · simp [SplitM, strOf, boolOf]
          · have Hm := Lib.hid (show mayName PB.data.toList = true by rw [Hpd.out]; exact hm)
            have Hm2 := Lib.hid hm
            clear hm
            go_wp2_with fail
            refine (entryMayName PB _).mono ?_
            rintro e w2 ⟨rfl, b2⟩
            rw [Hm.out]
            have bb2 := bb.trans (b2.mono bb.size)
            have hrow2 := hrow1.below b2
            have hz := bb2.size
            go_wp2_with (at_builtin; go_loud (refine wpList_app1 elemStr rfl _ _ rfl (hrow2.alloc _) rfl _ (.string PB) rfl (by simp) rfl (by omega) (by simp; omega) ?_); intro lv3 w3 hrow3 hg3 b3)
            go_step3
            have bb3 := (bb2.alloc bb2.size _).trans b3
            refine ⟨⟨bb3, .inr ⟨rfl, m2, RB, acc ++ [part], lv3, ?_, ?_, by rw [List.length_append, List.length_singleton]; omega, _, _, _, _, _, _, _, _, _, _, _, _, _, _, _, _, _, _, _, _, _, _, _, _, _, _, _, _, _, _, _, _, _, _, _, _, rfl⟩⟩, ?_⟩
            · unfold StrRow
              rw [List.length_append, List.length_singleton, List.map_append, List.map_singleton, ← Hps.out]
              exact hrow3
            · rw [Hs.out, leftOf, if_pos rfl, Hspec.out, partOn, if_neg Hdot.out, if_pos Hm2.out]
              cases leftOf m2 RB.data.toList <;> simp
            · simp [SplitM, strOf, boolOf]; omega
  · intro hpass
    have Hpass := Lib.hid hpass
    clear hpass
    cases hpre : Lib.hasPrefix p.data.toList [47]
    · have Hs := Lib.hid (splitOf_no hpre)
      have Hpre := Lib.hid hpre
      clear hpre
      go_wp2_with fail
      refine (Try.strings_CutPrefix p ⟨#[47]⟩ _).mono ?_
      rintro e w' ⟨rfl, rfl⟩
      rw [show Lib.hasPrefix p.data.toList (ByteArray.mk #[47]).data.toList = false from Hpre.out]
      go_wp2_with fail
      go_step3
      exact ⟨Below.refl _ _, .inl ⟨rfl, Hs.out, _, _, _, _, _, _, _, _, _, _, _, _, _, _, _, _, _, _, _, _, _, _, _, _, _, _, _, _, _, _, _, _, _, _, _, _, _, _, _, _, _, rfl⟩⟩
    · by_cases hsz : p.size ≤ 120
      · have hs := splitOf_yes hpre (by rw [bsize]; exact hsz)
        have htl := trim_len p.data.toList
        rw [bsize] at htl
        have Hpre := Lib.hid hpre
        clear hpre
        obtain ⟨T, hT⟩ : ∃ T, Lib.trimPrefix p.data.toList [47] = T := ⟨_, rfl⟩
        rw [hT] at hs htl
        have Hs := Lib.hid hs
        have Htr := Lib.hid (show Lib.trimPrefix p.data.toList (ByteArray.mk #[47]).data.toList = T from hT)
        clear hT hs
        go_wp2_with fail
        refine (Try.strings_CutPrefix p ⟨#[47]⟩ _).mono ?_
        rintro e w' ⟨rfl, rfl⟩
        rw [show Lib.hasPrefix p.data.toList (ByteArray.mk #[47]).data.toList = true from Hpre.out, Htr.out]
        cases T with
        | nil =>
          have d1 : ((⟨([] : List UInt8).toArray⟩ : ByteArray).toList == []) = true := by rw [eqs]; rfl
          go_wp2_with fail
          simp only [jumps_ret]
          go_ret2
          refine ⟨⟨.slice none 0 0, ?_⟩, Below.refl _ _⟩
          rw [Hs.out]
          exact ⟨rfl, World.ownsRow_nil _ _ _ _⟩
        | cons c r =>
          have d1 : ((⟨(c :: r).toArray⟩ : ByteArray).toList == []) = false := by rw [eqs]; rfl
          have Hsz := Lib.hid (show (⟨(c :: r).toArray⟩ : ByteArray).size = (c :: r).length from by rw [← bsize])
          have Hdt := Lib.hid (show (⟨(c :: r).toArray⟩ : ByteArray).data.toList = c :: r from rfl)
          generalize (⟨(c :: r).toArray⟩ : ByteArray) = R at *
          go_wp2_with fail
          go_step3
          simp only [Exit.then]
          go_step
          refine Hpass.out 1 _ _ _ ⟨Below.refl _ _, .inr ⟨rfl, true, R, [], .slice none 0 0, World.ownsRow_nil _ _ _ _, ?_, ?_, _, _, _, _, _, _, _, _, _, _, _, _, _, _, _, _, _, _, _, _, _, _, _, _, _, _, _, _, _, _, _, _, _, _, _, _, rfl⟩⟩ rfl
          · rw [Hs.out, if_neg (by simp), leftOf, if_pos rfl, Hdt.out]
            cases scan [] (c :: r) <;> simp
          · rw [Hsz.out]; simp only [List.length_nil, Bool.toNat_true]; omega
      · have Hs := Lib.hid (splitOf_long (p := p.data.toList) (by rw [bsize]; omega))
        have Hpre := Lib.hid hpre
        clear hpre
        go_wp2_with fail
        refine (Try.strings_CutPrefix p ⟨#[47]⟩ _).mono ?_
        rintro e w' ⟨rfl, rfl⟩
        rw [show Lib.hasPrefix p.data.toList (ByteArray.mk #[47]).data.toList = true from Hpre.out]
        go_wp2_with fail
        go_step3
        exact ⟨Below.refl _ _, .inl ⟨rfl, Hs.out, _, _, _, _, _, _, _, _, _, _, _, _, _, _, _, _, _, _, _, _, _, _, _, _, _, _, _, _, _, _, _, _, _, _, _, _, _, _, _, _, _, rfl⟩⟩

end Go.Proofs.Ytbadpgbichnemaa
