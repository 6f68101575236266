/- DERIVED. clathrilaw20.PathBack returns true. -/
import Derived.Test.YtbadpgbichnemaaPathForms
import Derived.RegionTactic
import Derived.BigRegion
import Derived.Deep.RegionWith
import Derived.Laws.IdiomStrings
import Derived.Deep.DeepCutAuto
namespace Go.Proofs.Ytbadpgbichnemaa
open Go.RowKit

theorem partOn_none (q : List UInt8) : partOn q none = none := by
  unfold partOn
  split
  · rfl
  · split <;> rfl
theorem partOn_nil (r : Option (List (List UInt8))) : partOn [] r = none := rfl

theorem scan_pieces (p : List UInt8) (ps : List (List UInt8)) (h0 : (47 : UInt8) ∉ p) (h : ∀ q ∈ ps, (47 : UInt8) ∉ q) :
    scan [] (p ++ ps.flatMap (47 :: ·)) = (p :: ps).foldr partOn (some []) := by
  induction ps generalizing p with
  | nil => rw [List.flatMap_nil, List.append_nil, scan_take _ _ h0]; rfl
  | cons q ps ih =>
    rw [List.flatMap_cons, List.cons_append, scan_cut _ _ _ h0, ih q (h q (by simp)) (fun x hx => h x (by simp [hx]))]
    rfl

theorem fold_none (ps : List (List UInt8)) (h : [] ∈ ps) : ps.foldr partOn (some []) = none := by
  induction ps with
  | nil => cases h
  | cons q ps ih =>
    rcases List.mem_cons.1 h with rfl | h
    · exact partOn_nil _
    · rw [List.foldr_cons, ih h, partOn_none]

theorem splitOf_pieces (p : List UInt8) (ps : List (List UInt8)) (h : ∀ q ∈ p :: ps, (47 : UInt8) ∉ q) (hlen : ((p :: ps).flatMap (47 :: ·)).length ≤ 120) (hne : p ≠ [] ∨ ps ≠ []) :
    splitOf ((p :: ps).flatMap (47 :: ·)) = (p :: ps).foldr partOn (some []) := by
  rw [List.flatMap_cons, List.cons_append] at hlen ⊢
  unfold splitOf
  dsimp only
  rw [if_pos ⟨rfl, hlen⟩, if_neg, scan_pieces p ps (h p (by simp)) (fun q hq => h q (by simp [hq]))]
  intro e
  rcases List.append_eq_nil_iff.1 e with ⟨e1, e2⟩
  rcases hne with h1 | h1
  · exact h1 e1
  · cases ps with
    | nil => exact h1 rfl
    | cons a b => simp at e2

/-- The piece of a number: a point, or a name of three bytes. -/
def pieceOf (n : Int) : List UInt8 := if n % 4 = 3 then [46] else [UInt8.ofNat (97 + n % 26).toNat, UInt8.ofNat (33 + n % 10).toNat, 120]
def piecesOf (f : Nat → Int) (k : Nat) : List (List UInt8) := (List.range k).map fun i => pieceOf (f i)
def wantOf (f : Nat → Int) (k : Nat) : List (List UInt8) := (piecesOf f k).filter fun q => q ≠ [46]

theorem u8_lt (n : Nat) (h : n < 256) : (UInt8.ofNat n).toNat = n := by simp; omega

theorem piece_ok (n : Int) : (47 : UInt8) ∉ pieceOf n ∧ (pieceOf n ≠ [46] → mayName (pieceOf n) = true) ∧ (pieceOf n).length ≤ 3 ∧ pieceOf n ≠ [] := by
  unfold pieceOf
  split
  · exact ⟨by decide, fun h => absurd rfl h, by decide, by decide⟩
  · have h1 : 0 ≤ n % 26 ∧ n % 26 < 26 := by omega
    have h2 : 0 ≤ n % 10 ∧ n % 10 < 10 := by omega
    have e1 : (UInt8.ofNat (97 + n % 26).toNat).toNat = (97 + n % 26).toNat := u8_lt _ (by omega)
    have e2 : (UInt8.ofNat (33 + n % 10).toNat).toNat = (33 + n % 10).toNat := u8_lt _ (by omega)
    refine ⟨?_, fun _ => ?_, by simp, by simp⟩
    · intro hm
      simp only [List.mem_cons, List.not_mem_nil, or_false] at hm
      rcases hm with h | h | h
      · have := congrArg UInt8.toNat h; rw [e1] at this; have h47 : (47 : UInt8).toNat = 47 := rfl; omega
      · have := congrArg UInt8.toNat h; rw [e2] at this; have h47 : (47 : UInt8).toNat = 47 := rfl; omega
      · cases h
    · unfold mayName
      have b1 : badName (UInt8.ofNat (97 + n % 26).toNat).toNat = false := by rw [e1]; simp [badName]; omega
      have b2 : badName (UInt8.ofNat (33 + n % 10).toNat).toNat = false := by rw [e2]; simp [badName]; omega
      have b3 : badName (120 : UInt8).toNat = false := by decide
      simp only [List.any_cons, List.any_nil, b1, b2, b3]
      simp

theorem fold_want (ps : List (List UInt8)) (h : ∀ q ∈ ps, q ≠ [46] → mayName q = true) : ps.foldr partOn (some []) = some (ps.filter fun q => q ≠ [46]) := by
  induction ps with
  | nil => rfl
  | cons q ps ih =>
    rw [List.foldr_cons, ih (fun x hx => h x (by simp [hx])), partOn]
    by_cases hq : q = [46]
    · rw [if_pos hq, List.filter_cons_of_neg (by simp [hq])]
    · rw [if_neg hq, if_pos (h q (by simp) hq), List.filter_cons_of_pos (by simp [hq])]; rfl

theorem conv_piece (n : Int) (h4 : ¬ n % 4 = 3) (w : World) :
    (convert 33 9 (.slice (some ⟨w.heap.size, 0, none⟩) 3 3)).run Try.prog (w.alloc (.cells #[.int .u8 (97 + n % 26), .int .u8 (33 + n % 10), .int .u8 120] 5)).drew =
      .ok (.string ⟨(pieceOf n).toArray⟩) (w.alloc (.cells #[.int .u8 (97 + n % 26), .int .u8 (33 + n % 10), .int .u8 120] 5)).drew := by
  have h1 : 0 ≤ n % 26 ∧ n % 26 < 26 := by omega
  have h2 : 0 ≤ n % 10 ∧ n % 10 < 10 := by omega
  have e1 : (UInt8.ofNat (97 + n % 26).toNat).toNat = (97 + n % 26).toNat := u8_lt _ (by omega)
  have e2 : (UInt8.ofNat (33 + n % 10).toNat).toNat = (33 + n % 10).toNat := u8_lt _ (by omega)
  have hp : pieceOf n = [UInt8.ofNat (97 + n % 26).toNat, UInt8.ofNat (33 + n % 10).toNat, 120] := by unfold pieceOf; rw [if_neg h4]
  have hb : (w.alloc (.cells #[.int .u8 (97 + n % 26), .int .u8 (33 + n % 10), .int .u8 120] 5)).drew.heap[w.heap.size]? = some (.cells #[.int .u8 (97 + n % 26), .int .u8 (33 + n % 10), .int .u8 120] 5 (0, 0)) := by
    show (w.alloc _).heap[_]? = _
    rw [heap_alloc_if, if_pos rfl]
  have := run_convert_bytes_back (P := Try.prog) (w.alloc (.cells #[.int .u8 (97 + n % 26), .int .u8 (33 + n % 10), .int .u8 120] 5)).drew 33 9 5 ⟨w.heap.size, 0, none⟩ 3 (pieceOf n) Try.underlying33 Try.underlying5 Try.underlying9 ?_
  · rw [hp] at this ⊢; exact this
  · intro j hj
    rw [add_off, Nat.zero_add, row_of_block hb]
    rw [hp] at hj
    simp only [hp]
    match j, hj with
    | 0, _ => simp only [List.getElem_cons_zero, e1]; simp; omega
    | 1, _ => simp only [List.getElem_cons_succ, List.getElem_cons_zero, e2]; simp; omega
    | 2, _ => rfl

theorem pieces_succ (f : Nat → Int) (k : Nat) : piecesOf f (k + 1) = piecesOf f k ++ [pieceOf (f k)] := by
  unfold piecesOf; rw [List.range_succ, List.map_append]; rfl
theorem want_dot (f : Nat → Int) (k : Nat) (h : f k % 4 = 3) : wantOf f (k + 1) = wantOf f k := by
  unfold wantOf; rw [pieces_succ, List.filter_append]; simp [pieceOf, h]
theorem want_name (f : Nat → Int) (k : Nat) (h : ¬ f k % 4 = 3) : wantOf f (k + 1) = wantOf f k ++ [pieceOf (f k)] := by
  unfold wantOf; rw [pieces_succ, List.filter_append]; simp [pieceOf, h]
theorem flat_succ (f : Nat → Int) (k : Nat) : (piecesOf f (k + 1)).flatMap (47 :: ·) = (piecesOf f k).flatMap (47 :: ·) ++ 47 :: pieceOf (f k) := by
  rw [pieces_succ, List.flatMap_append]; simp
theorem flat_len (f : Nat → Int) (k : Nat) : ((piecesOf f k).flatMap (47 :: ·)).length ≤ 4 * k := by
  induction k with
  | zero => simp [piecesOf]
  | succ k ih => rw [flat_succ, List.length_append]; have := (piece_ok (f k)).2.2.1; rw [List.length_cons]; omega

/-- What is asked of the path that the law made. -/
structure PathFacts (s : ByteArray) (l : List (List UInt8)) : Prop where
  names : splitOf s.data.toList = some l
  more : splitOf (s ++ ⟨#[47, 47, 97]⟩ : ByteArray).data.toList = none
  ahead : splitOf ((⟨#[120]⟩ : ByteArray) ++ s).data.toList = none
  size : s.size ≤ 30

theorem facts_nil : PathFacts ⟨#[47]⟩ [] := ⟨by decide, by decide, by decide, by decide⟩

theorem facts_some (f : Nat → Int) (k : Nat) (h0 : 0 < k) (h7 : k ≤ 7) (s : ByteArray) (hs : s.data.toList = (piecesOf f k).flatMap (47 :: ·)) : PathFacts s (wantOf f k) := by
  have hno : ∀ q ∈ piecesOf f k, (47 : UInt8) ∉ q := by
    intro q hq
    obtain ⟨i, _, rfl⟩ := List.mem_map.1 hq
    exact (piece_ok _).1
  have hmay : ∀ q ∈ piecesOf f k, q ≠ [46] → mayName q = true := by
    intro q hq
    obtain ⟨i, _, rfl⟩ := List.mem_map.1 hq
    exact (piece_ok _).2.1
  have hle := flat_len f k
  obtain ⟨p, ps, hp⟩ : ∃ p ps, piecesOf f k = p :: ps := by
    cases h : piecesOf f k with
    | nil => have := congrArg List.length h; simp [piecesOf] at this; omega
    | cons p ps => exact ⟨p, ps, rfl⟩
  have hpne : p ≠ [] := by
    have : p ∈ piecesOf f k := by rw [hp]; simp
    obtain ⟨i, _, rfl⟩ := List.mem_map.1 this
    exact (piece_ok _).2.2.2
  refine ⟨?_, ?_, ?_, ?_⟩
  · rw [hs, hp, splitOf_pieces p ps (by rw [← hp]; exact hno) (by rw [← hp]; omega) (.inl hpne), ← hp, fold_want _ hmay]
    rfl
  · have e : (s ++ (⟨#[47, 47, 97]⟩ : ByteArray)).data.toList = (p :: (ps ++ [[], [97]])).flatMap (47 :: ·) := by
      rw [ByteArray.data_append, Array.toList_append, hs, hp]
      simp
    rw [e, splitOf_pieces p _ ?_ ?_ (.inl hpne)]
    · exact fold_none _ (by simp)
    · intro q hq
      rcases List.mem_cons.1 hq with rfl | hq
      · exact hno _ (by rw [hp]; simp)
      · rcases List.mem_append.1 hq with hq | hq
        · exact hno q (by rw [hp]; simp [hq])
        · simp at hq; rcases hq with rfl | rfl <;> decide
    · rw [← e, ByteArray.data_append, Array.toList_append, hs, List.length_append]
      have : (⟨#[47, 47, 97]⟩ : ByteArray).data.toList.length = 3 := rfl
      omega
  · rw [ByteArray.data_append, Array.toList_append]
    exact splitOf_head (fun r h => by cases h)
  · rw [← bsize, hs]; omega

set_option maxRecDepth 100000 in
set_option maxHeartbeats 2000000 in
theorem walk_PathBack {H : Type} {enc : TypeId × Value → H} {d : DataW H} {p : List MemPlace} (a : Option Addr) (len cap : Nat) (w : World)
    (h : DataW.Trod enc Try.prog w 0 (fun _ => true) true 33 (.slice a len cap) d p) :
    Calls Try.prog 7 #[.slice a len cap] w fun e w' => e = .returned (.bool true) ∧ Below w.heap.size w w' := by
  obtain ⟨hmax, f, hf⟩ := flat_ints Try.underlying33 Try.underlying5 (by kernel_rfl) h
  clear h
  unfold maxLen at hmax
  by_cases hlen : (len : Int) ≤ 7
  · go_enter Try.func7, Try.ntmps7
    go_wp2_with fail
    refine (begun20 _).mono ?_
    rintro e w0 ⟨rfl, b0⟩
    go_wp2_with fail
    go_loopw [3, 4, 5] (fun pv wv i wr => ∃ (k : Nat) (S : ByteArray), k ≤ len ∧ i = .int .i64 k ∧ pv = .string S ∧ S.data.toList = (piecesOf f k).flatMap (47 :: ·) ∧ StrRow wr w.heap.size wv (wantOf f k) ∧ Below w.heap.size w wr) (fun _ _ i _ => len - (intOf i).toNat)
    case atStart => exact ⟨0, ⟨#[]⟩, Nat.zero_le _, rfl, rfl, rfl, World.ownsRow_nil _ _ _ _, b0⟩
    case round =>
      obtain ⟨k, S, hk, rfl, rfl, hS, hrow, hb⟩ := hrel
      have hsz : S.size ≤ 28 := by rw [← bsize, hS]; have := flat_len f k; omega
      have HS := Lib.hid hS
      have hwl : (wantOf f k).length ≤ 7 := by
        have : (wantOf f k).length ≤ (piecesOf f k).length := List.length_filter_le _ _
        simp [piecesOf] at this
        omega
      clear hS
      by_cases hlt : k < len
      · obtain ⟨fb, fo, fa, fc⟩ := hf.below hb
        obtain ⟨rfl, fbl⟩ := fa (by omega)
        obtain ⟨hc, hw⟩ := fc k hlt
        have hfb := bounds_u8 hw
        have Hf := Lib.hid hf
        clear fa fc hw hf
        by_cases h4 : f k % 4 = 3
        · have d1 : (f k % 4 == 3) = true := by rw [h4]; rfl
          have H4 := Lib.hid h4
          clear h4
          go_wp2_with fail
          go_roundw
          case rel => exact ⟨k + 1, _, by omega, by go_num, rfl, by rw [flat_succ, ← HS.out, pieceOf, if_pos H4.out]; simp, by rw [want_dot f k H4.out]; exact hrow, hb⟩
          case measure => simp [intOf]; omega
        · have d1 : (f k % 4 == 3) = false := by simpa using h4
          have H4 := Lib.hid h4
          obtain ⟨PS, hPS⟩ : ∃ PS : ByteArray, PS = ⟨(pieceOf (f k)).toArray⟩ := ⟨_, rfl⟩
          have hconv := conv_piece (f k) h4 wr
          rw [← hPS] at hconv
          have hpsz : PS.size ≤ 3 := by rw [← bsize, hPS]; exact (piece_ok (f k)).2.2.1
          have HPS := Lib.hid hPS
          clear h4 hPS
          go_wp2_with fail
          go_region
          clear hconv
          have hz := hb.size
          have hrow2 := (World.ownsRow.alloc hrow (.cells #[.int .u8 (97 + f k % 26), .int .u8 (33 + f k % 10), .int .u8 120] 5))
          have hb2 := hb.alloc hz (.cells #[.int .u8 (97 + f k % 26), .int .u8 (33 + f k % 10), .int .u8 120] 5)
          have hrow3 : (wr.alloc (.cells #[.int .u8 (97 + f k % 26), .int .u8 (33 + f k % 10), .int .u8 120] 5)).drew.ownsRow w.heap.size 9 1 u4 (wantOf f k).length ((wantOf f k).map fun s => Value.string ⟨s.toArray⟩) := hrow2
          have hb3 := hb2.drew
          have hz3 := hb3.size
          generalize (wr.alloc (.cells #[.int .u8 (97 + f k % 26), .int .u8 (33 + f k % 10), .int .u8 120] 5)).drew = wx at *
          go_wp2_with (at_builtin; go_loud (refine wpList_app1 elemStr rfl _ _ rfl (World.ownsRow.alloc hrow3 _) rfl _ (.string PS) rfl (by simp) rfl (by omega) (by simp; omega) ?_); intro lv3 w3 hrow4 hg3 b3)
          go_roundw
          case rel =>
            refine ⟨k + 1, _, by omega, by go_num, rfl, ?_, ?_, (hb3.alloc hz3 _).trans b3⟩
            · rw [flat_succ, ← HS.out]
              simp only [ByteArray.data_append, Array.toList_append, HPS.out]
              simp
            · unfold StrRow
              rw [want_name f k H4.out, List.length_append, List.length_singleton, List.map_append, List.map_singleton, ← HPS.out]
              exact hrow4
          case measure => simp [intOf]; omega
      · obtain rfl : k = len := by omega
        clear hf
        have hb0 : S.toList = [] ↔ k = 0 := by
          rw [ByteArray.toList_eq, HS.out]
          constructor
          · intro h
            rcases Nat.eq_zero_or_pos k with h1 | h1
            · exact h1
            · obtain ⟨j, rfl⟩ : ∃ j, k = j + 1 := ⟨k - 1, by omega⟩
              rw [flat_succ] at h
              simp at h
          · rintro rfl; rfl
        go_upto_if 56 with (fail)
        go_cut [3] (fun s3 wx => ∃ PP, s3 = .string PP ∧ PathFacts PP (wantOf f k) ∧ wx = wr)
        case first =>
          have Hb0 := Lib.hid hb0
          clear hb0
          go_wp2_with fail
          · have hk0 : k = 0 := Hb0.out.1 (List.isEmpty_iff.1 (by assumption))
            go_meet
            case rel => exact ⟨_, rfl, by rw [hk0]; exact facts_nil, rfl⟩
          · have hk0 : k ≠ 0 := fun e => by
              have h1 : S.toList.isEmpty = false := by assumption
              rw [Hb0.out.2 e] at h1
              cases h1
            go_meet
            case rel => exact ⟨S, rfl, facts_some f k (by omega) (by omega) S HS.out, rfl⟩
        case rest =>
          obtain ⟨PP, rfl, hfacts, rfl⟩ := hcut
          clear hb0 HS
          obtain ⟨l, hl⟩ : ∃ l, wantOf f k = l := ⟨_, rfl⟩
          rw [hl] at hrow hfacts hwl
          have H1 := Lib.hid hfacts.names
          obtain ⟨S2, hS2⟩ : ∃ S2 : ByteArray, PP ++ (⟨#[47, 47, 97]⟩ : ByteArray) = S2 := ⟨_, rfl⟩
          obtain ⟨S3, hS3⟩ : ∃ S3 : ByteArray, (⟨#[120]⟩ : ByteArray) ++ PP = S3 := ⟨_, rfl⟩
          have hz := hfacts.size
          have h2 := hfacts.more
          have h3 := hfacts.ahead
          have hz2 : S2.size ≤ 40 := by rw [← hS2, ByteArray.size_append]; have : (⟨#[47, 47, 97]⟩ : ByteArray).size = 3 := rfl; omega
          have hz3 : S3.size ≤ 40 := by rw [← hS3, ByteArray.size_append]; have : (⟨#[120]⟩ : ByteArray).size = 1 := rfl; omega
          rw [hS2] at h2
          rw [hS3] at h3
          have H2 := Lib.hid h2
          have H3 := Lib.hid h3
          have HS2 := Lib.hid hS2
          have HS3 := Lib.hid hS3
          clear h2 h3 hS2 hS3 hfacts hl
          go_wp2_with fail
          refine (Split_ok PP l H1.out _ (by omega)).mono ?_
          rintro e w2 ⟨⟨v, rfl, hv⟩, b2⟩
          go_wp2_with fail
          rw [HS2.out]
          refine (Split_no S2 H2.out _ (by omega)).mono ?_
          rintro e w3 ⟨rfl, b3⟩
          go_wp2_with fail
          rw [HS3.out]
          refine (Split_no S3 H3.out _ (by omega)).mono ?_
          rintro e w4 ⟨rfl, b4⟩
          have hv4 := (hv.below b3).below b4
          have hu4 := ((hrow.below b2).below b3).below b4
          obtain ⟨av, cv, rfl⟩ := hv.any
          obtain ⟨au, cu, rfl⟩ := hrow.any
          have bb : Below w.heap.size w w4 := by
            have z1 := hb.size
            have z2 := b2.size
            have z3 := b3.size
            exact ((hb.trans (b2.mono z1)).trans (b3.mono (by omega))).trans (b4.mono (by omega))
          go_wp2_with fail
          go_loopw [13] (fun i wr => ∃ j : Nat, j ≤ l.length ∧ i = .int .i64 j ∧ Below w4.heap.size w4 wr) (fun i _ => l.length - (intOf i).toNat)
          case atStart => exact ⟨0, Nat.zero_le _, rfl, Below.refl _ _⟩
          case round =>
            obtain ⟨j, hj, rfl, hb'⟩ := hrel
            by_cases hlt2 : j < l.length
            · obtain ⟨gv, _, ev, hcv⟩ := (hv4.below hb').some (by omega)
              obtain ⟨gu, _, eu, hcu⟩ := (StrRow.below hu4 hb').some (by omega)
              have hcv := hcv j hlt2
              have hcu := hcu j hlt2
              simp only [Value.slice.injEq, true_and] at ev eu
              obtain ⟨rfl, _⟩ := ev
              obtain ⟨rfl, _⟩ := eu
              generalize l[j] = x at *
              have f1 : (j : Int) < (l.length : Int) := by omega
              have f2 : (0 : Int) ≤ (j : Int) := by omega
              go_wp2_with fail
              go_quiet (fail)
              go_wp2_with fail
              go_roundw
              case rel => exact ⟨j + 1, by omega, by go_num, hb'.trans ((below_drewN _ _).mono hb'.size)⟩
              case measure => simp [intOf]; omega
            · go_wp2_with fail
              go_ret
              exact ⟨rfl, bb.trans (hb'.mono bb.size)⟩
  · go_enter Try.func7, Try.ntmps7
    go_wp2_with fail
    refine (begun20 _).mono ?_
    rintro e w1 ⟨rfl, b1⟩
    go_wp2_with fail
    go_ret
    exact ⟨rfl, b1⟩
end Go.Proofs.Ytbadpgbichnemaa
