/- DERIVED. Contracts and laws that the proofs of this seat share, part 36 of 40: ShE. -/
import Derived.Test.YtbbnejehglonjaaGreatMg00
import Derived.Test.YtbbnejehglonjaaGreatMg31
import Derived.Test.YtbbnejehglonjaaGreatMg35
/- DERIVED. Contract of slices.insertionSortCmpFunc over names. -/
namespace Go.Proofs.YtbbnejehglonjaaGreat
open Go.RowKit
attribute [local irreducible] Calls
set_option maxRecDepth 100000

theorem aggNmE : AggOf Tryz.prog 100 6 := aggNm
/-- A row of names, put in another order. -/
structure SoAt (w w' : World) (S : Nat → Prop) (V : Value) (l l' : List Nm) : Prop where
  row : NmRow w' S V l'
  perm : l'.Perm l
  keeps : Keeps (fun q => V.ownBlock = some q) w w'
theorem SoAt.grow {w w' w2 : World} {S : Nat → Prop} {V : Value} {l l' : List Nm} (h : SoAt w w' S V l l') (hb : Below w'.heap.size w' w2) : SoAt w w2 S V l l' :=
  ⟨h.row.grow hb (fun _ _ h => h), h.perm, h.keeps.trans (Keeps.of_below hb)⟩
theorem sortedTo_one (l : List Nm) : sortedTo l 1 := fun p q h1 h2 => by omega
set_option maxHeartbeats 8000000 in
theorem insSort_any {w : World} {S : Nat → Prop} {l : List Nm} {a : Option Addr} {cap : Nat} (h : NmRow w S (.slice a l.length cap) l) (hl : l.length ≤ 1000) :
    Calls Tryz.prog 195 #[.slice a l.length cap, .int .i64 0, .int .i64 l.length, .func (.func 103) #[] #[]] w fun e w' => e = .returned (.tuple #[]) ∧ ∃ l', inOrder l' ∧ SoAt w w' S (.slice a l.length cap) l l' := by
  have H := Lib.hid h
  clear h
  go_enter Tryz.func195, Tryz.ntmps195
  go_wp2_with fail
  go_loopw [8] (fun i wr => ∃ (k : Nat) (l' : List Nm), 1 ≤ k ∧ (k ≤ l.length ∨ k = 1) ∧ i = .int .i64 k ∧ sortedTo l' k ∧ SoAt w wr S (.slice a l.length cap) l l') (fun i _ => l.length - (Go.RowKit.intOf i).toNat)
  case atStart => exact ⟨1, l, Nat.le_refl _, .inr rfl, rfl, sortedTo_one l, ⟨H.out, List.Perm.refl _, Keeps.refl _ _⟩⟩
  case round =>
    obtain ⟨k, l', hk1, hk, rfl, hs, hso⟩ := hrel
    by_cases hlt : k < l.length
    · have hlti : (k : Int) < (l.length : Int) := by omega
      have hk1000 : (k : Int) ≤ 1000 := by omega
      have HS := Lib.hid (And.intro hs hso)
      clear hs hso
      go_upto_region 3 with fail
      go_wp2_with fail
      go_loopw [9] (fun j wr => ∃ (m : Nat) (l2 : List Nm), m ≤ k ∧ j = .int .i64 m ∧ sinking l2 k m ∧ SoAt w wr S (.slice a l.length cap) l l2) (fun j _ => (Go.RowKit.intOf j).toNat)
      case atStart => exact ⟨k, l', Nat.le_refl _, rfl, sinking_start HS.out.1, HS.out.2⟩
      case round =>
        obtain ⟨m, l2, hm, rfl, hsi, hso⟩ := hrel
        cases m with
        | zero =>
          have HS2 := Lib.hid (And.intro hsi hso)
          clear hsi hso
          simp only [Int.natCast_zero]
          go_upto_region 4 with fail
          refine wp_region_held_drew (S := fun w' => Below wr.heap.size wr w' ∧ True) (by kernel_rfl) (And.intro (Below.refl _ _).drew trivial) (fun hHeld => ?_)
          show wpAnyH _ _ _ _ _ 17 #[false, false, false, false, false, false, false, false, false, false, false, false, false, false, false, false, false] _ _
          refine wpAnyH_take (i := 0) (v := ?kv1) rfl (by kernel_rfl) (by kernel_rfl) (by kernel_rfl) (fun _ _ _ h => h) (Or.inl ⟨by rfl, ?ky1⟩) (by assumption) ?kr1
          case ky1 => (intro w hSw; (try dsimp only at hSw); go_split_ands; (try simp only [qA, qB]); go_simp; (try with_reducible rfl))
          try simp only [Act.put, qA, qB, qD, qE, qF]
          refine wpAnyH_take (i := 1) (v := ?kv2) rfl (by kernel_rfl) (by kernel_rfl) (by kernel_rfl) (fun _ _ _ h => h) (Or.inl ⟨by rfl, ?ky2⟩) (by assumption) ?kr2
          case ky2 => (intro w hSw; (try dsimp only at hSw); go_split_ands; (try simp only [qA, qB, qC]); go_simp; (try with_reducible rfl))
          try simp only [Act.put, qA, qB, qC, qD, qE, qF]
          refine wpAnyH_take (i := 2) (v := ?kv3) rfl (by kernel_rfl) (by kernel_rfl) (by kernel_rfl) (fun _ _ _ h => h) (Or.inl ⟨by rfl, ?ky3⟩) (by assumption) ?kr3
          case ky3 => (intro w hSw; (try dsimp only at hSw); go_split_ands; (try simp only [qA, qB, qC]); go_simp; (try with_reducible rfl))
          try simp only [Act.put, qA, qB, qC, qD, qE, qF]
          refine wpAnyH_take (i := 3) (v := ?kv4) rfl (by kernel_rfl) (by kernel_rfl) (by kernel_rfl) (fun _ _ _ h => h) (Or.inl ⟨by rfl, ?ky4⟩) (by assumption) ?kr4
          case ky4 => (intro w hSw; (try dsimp only at hSw); go_split_ands; (try simp only [qA, qB, qC]); go_simp; (try with_reducible rfl))
          try simp only [Act.put, qA, qB, qC, qD, qE, qF]
          refine wpAnyH_take (i := 4) (v := undef) rfl (by kernel_rfl) (by kernel_rfl) (by kernel_rfl) (fun _ _ _ h => h) (Or.inr ⟨?kz5, rfl⟩) (by assumption) ?kr5
          case kz5 => rfl
          try simp only [Act.put, qA, qB, qC, qD, qE, qF]
          refine wpAnyH_take (i := 5) (v := undef) rfl (by kernel_rfl) (by kernel_rfl) (by kernel_rfl) (fun _ _ _ h => h) (Or.inr ⟨?kz6, rfl⟩) (by assumption) ?kr6
          case kz6 => rfl
          try simp only [Act.put, qA, qB, qC, qD, qE, qF]
          refine wpAnyH_take (i := 6) (v := undef) rfl (by kernel_rfl) (by kernel_rfl) (by kernel_rfl) (fun _ _ _ h => h) (Or.inr ⟨?kz7, rfl⟩) (by assumption) ?kr7
          case kz7 => rfl
          try simp only [Act.put, qA, qB, qC, qD, qE, qF]
          refine wpAnyH_take (i := 7) (v := undef) rfl (by kernel_rfl) (by kernel_rfl) (by kernel_rfl) (fun _ _ _ h => h) (Or.inr ⟨?kz8, rfl⟩) (by assumption) ?kr8
          case kz8 => rfl
          try simp only [Act.put, qA, qB, qC, qD, qE, qF]
          refine wpAnyH_take (i := 8) (v := undef) rfl (by kernel_rfl) (by kernel_rfl) (by kernel_rfl) (fun _ _ _ h => h) (Or.inr ⟨?kz9, rfl⟩) (by assumption) ?kr9
          case kz9 => rfl
          try simp only [Act.put, qA, qB, qC, qD, qE, qF]
          refine wpAnyH_take (i := 9) (v := undef) rfl (by kernel_rfl) (by kernel_rfl) (by kernel_rfl) (fun _ _ _ h => h) (Or.inr ⟨?kz10, rfl⟩) (by assumption) ?kr10
          case kz10 => rfl
          try simp only [Act.put, qA, qB, qC, qD, qE, qF]
          refine wpAnyH_take (i := 10) (v := undef) rfl (by kernel_rfl) (by kernel_rfl) (by kernel_rfl) (fun _ _ _ h => h) (Or.inr ⟨?kz11, rfl⟩) (by assumption) ?kr11
          case kz11 => rfl
          try simp only [Act.put, qA, qB, qC, qD, qE, qF]
          refine wpAnyH_take (i := 11) (v := undef) rfl (by kernel_rfl) (by kernel_rfl) (by kernel_rfl) (fun _ _ _ h => h) (Or.inr ⟨?kz12, rfl⟩) (by assumption) ?kr12
          case kz12 => rfl
          try simp only [Act.put, qA, qB, qC, qD, qE, qF]
          refine wpAnyH_take (i := 12) (v := undef) rfl (by kernel_rfl) (by kernel_rfl) (by kernel_rfl) (fun _ _ _ h => h) (Or.inr ⟨?kz13, rfl⟩) (by assumption) ?kr13
          case kz13 => rfl
          try simp only [Act.put, qA, qB, qC, qD, qE, qF]
          refine wpAnyH_take (i := 13) (v := undef) rfl (by kernel_rfl) (by kernel_rfl) (by kernel_rfl) (fun _ _ _ h => h) (Or.inr ⟨?kz14, rfl⟩) (by assumption) ?kr14
          case kz14 => rfl
          try simp only [Act.put, qA, qB, qC, qD, qE, qF]
          refine wpAnyH_take (i := 14) (v := undef) rfl (by kernel_rfl) (by kernel_rfl) (by kernel_rfl) (fun _ _ _ h => h) (Or.inr ⟨?kz15, rfl⟩) (by assumption) ?kr15
          case kz15 => rfl
          try simp only [Act.put, qA, qB, qC, qD, qE, qF]
          refine wpAnyH_take (i := 15) (v := undef) rfl (by kernel_rfl) (by kernel_rfl) (by kernel_rfl) (fun _ _ _ h => h) (Or.inr ⟨?kz16, rfl⟩) (by assumption) ?kr16
          case kz16 => rfl
          try simp only [Act.put, qA, qB, qC, qD, qE, qF]
          refine wpAnyH_take (i := 16) (v := ?kv17) rfl (by kernel_rfl) (by kernel_rfl) (by kernel_rfl) (fun _ _ _ h => h) (Or.inl ⟨by rfl, ?ky17⟩) (by assumption) ?kr17
          case ky17 => (intro w hSw; (try dsimp only at hSw); go_split_ands; (try simp only [qA, qB, qC]); go_simp; (try with_reducible rfl))
          try simp only [Act.put, qA, qB, qC, qD, qE, qF]
          refine wpAnyH_done (by kernel_rfl) ?_ _
          go_wp2_with fail
          exact ⟨⟨k + 1, l2, by omega, .inl (by omega), rfl, sinking_zero HS2.out.1, HS2.out.2.grow hHeld.1⟩, by simp [Go.RowKit.intOf]; omega⟩
        | succ m =>
          have hl2 : l2.length = l.length := hso.perm.length_eq
          obtain ⟨g, cap', hf⟩ := hso.row.form (by omega)
          simp only [Value.slice.injEq] at hf
          obtain ⟨rfl, hleq, rfl⟩ := hf
          clear hleq
          obtain ⟨x, hx⟩ : ∃ x, l2[m + 1]? = some x := ⟨_, List.getElem?_eq_getElem (by omega)⟩
          obtain ⟨y, hy⟩ : ∃ y, l2[m]? = some y := ⟨_, List.getElem?_eq_getElem (by omega)⟩
          obtain ⟨x0, x1, x2, x3, x4, x5⟩ := NmRow.at_ hso.row hx
          obtain ⟨y0, y1, y2, y3, y4, y5⟩ := NmRow.at_ hso.row hy
          have hgx : l2.getD (m + 1) Nm.zero = x := by rw [List.getD_eq_getElem?_getD, hx]; rfl
          have hgy : l2.getD m Nm.zero = y := by rw [List.getD_eq_getElem?_getD, hy]; rfl
          have HS2 := Lib.hid (And.intro hsi (And.intro hso (And.intro hl2 (And.intro hgx hgy))))
          have hml : (m : Int) + 1 < (l.length : Int) := by omega
          have hml' : (m : Int) < (l.length : Int) := by omega
          have hm0 : (0 : Int) ≤ (m : Int) + 1 := by omega
          have hm1 : (m : Int) ≤ 1000 := by omega
          have hmw : IntKind.i64.wrap (m : Int) = m := IntWalk.i64_in _ (by omega)
          have hmw1 : IntKind.i64.wrap ((m : Int) + 1) = (m : Int) + 1 := IntWalk.i64_in _ (by omega)
          have hm2 : (0 : Int) < (m : Int) + 1 := by omega
          have hS : ∀ w', Below wr.heap.size wr w' → w'.cell? ⟨g, (m + 1) * 6, none⟩ = some (.int .i64 x.dir.label) ∧ w'.cell? ⟨g, (m + 1) * 6 + 1, none⟩ = some (.int .i64 x.dir.at_) ∧ w'.cell? ⟨g, (m + 1) * 6 + 2, none⟩ = some (.int .u32 x.dir.gen) ∧ w'.cell? ⟨g, (m + 1) * 6 + 3, none⟩ = some (.string x.name) ∧ w'.cell? ⟨g, (m + 1) * 6 + 4, none⟩ = some (.int .i64 x.at_) ∧ w'.cell? ⟨g, (m + 1) * 6 + 5, none⟩ = some (.int .u32 x.gen) ∧ w'.cell? ⟨g, m * 6, none⟩ = some (.int .i64 y.dir.label) ∧ w'.cell? ⟨g, m * 6 + 1, none⟩ = some (.int .i64 y.dir.at_) ∧ w'.cell? ⟨g, m * 6 + 2, none⟩ = some (.int .u32 y.dir.gen) ∧ w'.cell? ⟨g, m * 6 + 3, none⟩ = some (.string y.name) ∧ w'.cell? ⟨g, m * 6 + 4, none⟩ = some (.int .i64 y.at_) ∧ w'.cell? ⟨g, m * 6 + 5, none⟩ = some (.int .u32 y.gen) ∧ Below wr.heap.size wr w' := fun w' hb => ⟨grow_cell hb x0, grow_cell hb x1, grow_cell hb x2, grow_cell hb x3, grow_cell hb x4, grow_cell hb x5, grow_cell hb y0, grow_cell hb y1, grow_cell hb y2, grow_cell hb y3, grow_cell hb y4, grow_cell hb y5, hb⟩
          clear hsi hso hl2 hgx hgy hx hy
          cases hn : nlt x y with
          | false =>
            have Hn := Lib.hid hn
            clear hn
            go_upto_region 4 with fail
            refine wp_region_held_drew (S := fun w' => w'.cell? ⟨g, (m + 1) * 6, none⟩ = some (.int .i64 x.dir.label) ∧ w'.cell? ⟨g, (m + 1) * 6 + 1, none⟩ = some (.int .i64 x.dir.at_) ∧ w'.cell? ⟨g, (m + 1) * 6 + 2, none⟩ = some (.int .u32 x.dir.gen) ∧ w'.cell? ⟨g, (m + 1) * 6 + 3, none⟩ = some (.string x.name) ∧ w'.cell? ⟨g, (m + 1) * 6 + 4, none⟩ = some (.int .i64 x.at_) ∧ w'.cell? ⟨g, (m + 1) * 6 + 5, none⟩ = some (.int .u32 x.gen) ∧ w'.cell? ⟨g, m * 6, none⟩ = some (.int .i64 y.dir.label) ∧ w'.cell? ⟨g, m * 6 + 1, none⟩ = some (.int .i64 y.dir.at_) ∧ w'.cell? ⟨g, m * 6 + 2, none⟩ = some (.int .u32 y.dir.gen) ∧ w'.cell? ⟨g, m * 6 + 3, none⟩ = some (.string y.name) ∧ w'.cell? ⟨g, m * 6 + 4, none⟩ = some (.int .i64 y.at_) ∧ w'.cell? ⟨g, m * 6 + 5, none⟩ = some (.int .u32 y.gen) ∧ Below wr.heap.size wr w') (by kernel_rfl) (hS _ (Below.refl _ _).drew) (fun hHeld => ?_)
            show wpAnyH _ _ _ _ _ 17 #[false, false, false, false, false, false, false, false, false, false, false, false, false, false, false, false, false] _ _
            refine wpAnyH_take (i := 0) (v := ?kv18) rfl (by kernel_rfl) (by kernel_rfl) (by kernel_rfl) (fun _ _ _ h => h) (Or.inl ⟨by rfl, ?ky18⟩) (by assumption) ?kr18
            case ky18 => (intro w hSw; (try dsimp only at hSw); go_split_ands; (try simp only [qA, qB]); go_simp; (try with_reducible rfl))
            try simp only [Act.put, qA, qB, qD, qE, qF]
            refine wpAnyH_take (i := 1) (v := ?kv19) rfl (by kernel_rfl) (by kernel_rfl) (by kernel_rfl) (fun _ _ _ h => h) (Or.inl ⟨by rfl, ?ky19⟩) (by assumption) ?kr19
            case ky19 => (intro w hSw; (try dsimp only at hSw); go_split_ands; (try simp only [qA, qB, qC]); go_simp; (try with_reducible rfl))
            try simp only [Act.put, qA, qB, qC, qD, qE, qF]
            refine wpAnyH_take (i := 2) (v := ?kv20) rfl (by kernel_rfl) (by kernel_rfl) (by kernel_rfl) (fun _ _ _ h => h) (Or.inl ⟨by rfl, ?ky20⟩) (by assumption) ?kr20
            case ky20 => (intro w hSw; (try dsimp only at hSw); go_split_ands; (try simp only [qA, qB, qC]); go_simp; (try with_reducible rfl))
            try simp only [Act.put, qA, qB, qC, qD, qE, qF]
            refine wpAnyH_take (i := 3) (v := ?kv21) rfl (by kernel_rfl) (by kernel_rfl) (by kernel_rfl) (fun _ _ _ h => h) (Or.inl ⟨by rfl, ?ky21⟩) (by assumption) ?kr21
            case ky21 => (intro w hSw; (try dsimp only at hSw); go_split_ands; (try simp only [qA, qB, qC]); go_simp; (try with_reducible rfl))
            try simp only [Act.put, qA, qB, qC, qD, qE, qF]
            refine wpAnyH_take (i := 4) (v := ?kv22) rfl (by kernel_rfl) (by kernel_rfl) (by kernel_rfl) (fun _ _ _ h => h) (Or.inl ⟨by rfl, ?ky22⟩) (by assumption) ?kr22
            case ky22 => (intro w hSw; (try dsimp only at hSw); go_split_ands; (try simp only [qA, qB, qC]); go_simp; (try with_reducible rfl))
            try simp only [Act.put, qA, qB, qC, qD, qE, qF]
            refine wpAnyH_take (i := 5) (v := ?kv23) rfl (by kernel_rfl) (by kernel_rfl) (by kernel_rfl) (fun _ _ _ h => h) (Or.inl ⟨by rfl, ?ky23⟩) (by assumption) ?kr23
            case ky23 => (intro w hSw; (try dsimp only at hSw); go_split_ands; (try simp only [qA, qB, qC]); go_simp; (try with_reducible rfl))
            try simp only [Act.put, qA, qB, qC, qD, qE, qF]
            refine wpAnyH_take (i := 6) (v := ?kv24) rfl (by kernel_rfl) (by kernel_rfl) (by kernel_rfl) (fun _ _ _ h => h) (Or.inl ⟨by rfl, ?ky24⟩) (by assumption) ?kr24
            case ky24 => (intro w hSw; (try dsimp only at hSw); go_split_ands; (try simp only [qA, qB, qC]); go_simp; (try with_reducible rfl))
            try simp only [Act.put, qA, qB, qC, qD, qE, qF]
            refine wpAnyH_take (i := 7) (v := ?kv25) rfl (by kernel_rfl) (by kernel_rfl) (by kernel_rfl) (fun _ _ _ h => h) (Or.inl ⟨by rfl, ?ky25⟩) (by assumption) ?kr25
            case ky25 => (intro w hSw; (try dsimp only at hSw); go_split_ands; (try simp only [qA, qB, qC]); go_simp; (try with_reducible rfl))
            try simp only [Act.put, qA, qB, qC, qD, qE, qF]
            refine wpAnyH_take (i := 8) (v := ?kv26) rfl (by kernel_rfl) (by kernel_rfl) (by kernel_rfl) (fun _ _ _ h => h) (Or.inl ⟨by rfl, ?ky26⟩) (by assumption) ?kr26
            case ky26 => (intro w hSw; (try dsimp only at hSw); go_split_ands; (try simp only [qA, qB, qC]); go_simp; (try with_reducible rfl))
            try simp only [Act.put, qA, qB, qC, qD, qE, qF]
            refine wpAnyH_take (i := 9) (v := ?kv27) rfl (by kernel_rfl) (by kernel_rfl) (by kernel_rfl) (fun _ _ _ h => h) (Or.inl ⟨by rfl, ?ky27⟩) (by assumption) ?kr27
            case ky27 => (intro w hSw; (try dsimp only at hSw); go_split_ands; (try simp only [qA, qB, qC]); go_simp; (try with_reducible rfl))
            try simp only [Act.put, qA, qB, qC, qD, qE, qF]
            refine wpAnyH_take (i := 10) (v := ?kv28) rfl (by kernel_rfl) (by kernel_rfl) (by kernel_rfl) (fun _ _ _ h => h) (Or.inl ⟨by rfl, ?ky28⟩) (by assumption) ?kr28
            case ky28 => (intro w hSw; (try dsimp only at hSw); go_split_ands; (try simp only [qA, qB, qC]); go_simp; (try with_reducible rfl))
            try simp only [Act.put, qA, qB, qC, qD, qE, qF]
            refine wpAnyH_take (i := 11) (v := ?kv29) rfl (by kernel_rfl) (by kernel_rfl) (by kernel_rfl) (fun _ _ _ h => h) (Or.inl ⟨by rfl, ?ky29⟩) (by assumption) ?kr29
            case ky29 => (intro w hSw; (try dsimp only at hSw); go_split_ands; (try simp only [qA, qB, qC]); go_simp; (try with_reducible rfl))
            try simp only [Act.put, qA, qB, qC, qD, qE, qF]
            refine wpAnyH_take (i := 12) (v := ?kv30) rfl (by kernel_rfl) (by kernel_rfl) (by kernel_rfl) (fun _ _ _ h => h) (Or.inl ⟨by rfl, ?ky30⟩) (by assumption) ?kr30
            case ky30 => (intro w hSw; (try dsimp only at hSw); go_split_ands; (try simp only [qA, qB, qC]); go_simp; (try with_reducible rfl))
            try simp only [Act.put, qA, qB, qC, qD, qE, qF]
            refine wpAnyH_take (i := 13) (v := ?kv31) rfl (by kernel_rfl) (by kernel_rfl) (by kernel_rfl) (fun _ _ _ h => h) (Or.inl ⟨by rfl, ?ky31⟩) (by assumption) ?kr31
            case ky31 => (intro w hSw; (try dsimp only at hSw); go_split_ands; (try simp only [qA, qB, qC]); go_simp; (try with_reducible rfl))
            try simp only [Act.put, qA, qB, qC, qD, qE, qF]
            refine wpAnyH_ready (rs := [14]) (by kernel_rfl) (by simp) ?_
            refine (AllReadyH.cons rfl (fun K hK => ?_) AllReadyH.nil)
            try simp only [qA, qB, qC]
            go_simp
            go_at_call 103; refine (list2_any x y _).mono ?_; rintro e z1 ⟨r, rfl, hr, b1⟩; have hr' : (0 : Int) ≤ r := Int.not_lt.1 (fun e => by have h2 := hr.1 e; rw [Hn.out] at h2; cases h2); have hd : decide (r < 0) = false := decide_eq_false (Int.not_lt.2 hr')
            refine hK.out _ _ (by exact hS _ (grow_trans hHeld.2.2.2.2.2.2.2.2.2.2.2.2 b1)) (fun hHeldn => ?_)
            clear hHeld hK K
            have hHeld := hHeldn
            clear hHeldn
            try simp only [qD, qE, qF]
            refine wpAnyH_take (i := 15) (v := ?kv33) rfl (by kernel_rfl) (by kernel_rfl) (by kernel_rfl) (fun _ _ _ h => h) (Or.inl ⟨by rfl, ?ky33⟩) (by assumption) ?kr33
            case ky33 => (intro w hSw; (try dsimp only at hSw); go_split_ands; (try simp only [qA, qB, qC]); go_simp; (try with_reducible rfl))
            try simp only [Act.put, qA, qB, qC, qD, qE, qF]
            refine wpAnyH_take (i := 16) (v := ?kv34) rfl (by kernel_rfl) (by kernel_rfl) (by kernel_rfl) (fun _ _ _ h => h) (Or.inl ⟨by rfl, ?ky34⟩) (by assumption) ?kr34
            case ky34 => (intro w hSw; (try dsimp only at hSw); go_split_ands; (try simp only [qA, qB, qC]); go_simp; (try with_reducible rfl))
            try simp only [Act.put, qA, qB, qC, qD, qE, qF]
            refine wpAnyH_done (by kernel_rfl) ?_ _
            rw [Hn.out]
            go_wp2_with fail
            exact ⟨⟨k + 1, l2, by omega, .inl (by omega), rfl, sinking_stop (l := l2) (i := k) (j := m + 1) (Nat.succ_pos m) HS2.out.1 (by rw [HS2.out.2.2.2.1, Nat.add_sub_cancel, HS2.out.2.2.2.2]; exact Hn.out) hm, HS2.out.2.1.grow hHeld.2.2.2.2.2.2.2.2.2.2.2.2⟩, by simp [Go.RowKit.intOf]; omega⟩
          | true =>
            have Hn := Lib.hid hn
            clear hn
            go_upto_region 4 with fail
            refine wp_region_held_drew (S := fun w' => w'.cell? ⟨g, (m + 1) * 6, none⟩ = some (.int .i64 x.dir.label) ∧ w'.cell? ⟨g, (m + 1) * 6 + 1, none⟩ = some (.int .i64 x.dir.at_) ∧ w'.cell? ⟨g, (m + 1) * 6 + 2, none⟩ = some (.int .u32 x.dir.gen) ∧ w'.cell? ⟨g, (m + 1) * 6 + 3, none⟩ = some (.string x.name) ∧ w'.cell? ⟨g, (m + 1) * 6 + 4, none⟩ = some (.int .i64 x.at_) ∧ w'.cell? ⟨g, (m + 1) * 6 + 5, none⟩ = some (.int .u32 x.gen) ∧ w'.cell? ⟨g, m * 6, none⟩ = some (.int .i64 y.dir.label) ∧ w'.cell? ⟨g, m * 6 + 1, none⟩ = some (.int .i64 y.dir.at_) ∧ w'.cell? ⟨g, m * 6 + 2, none⟩ = some (.int .u32 y.dir.gen) ∧ w'.cell? ⟨g, m * 6 + 3, none⟩ = some (.string y.name) ∧ w'.cell? ⟨g, m * 6 + 4, none⟩ = some (.int .i64 y.at_) ∧ w'.cell? ⟨g, m * 6 + 5, none⟩ = some (.int .u32 y.gen) ∧ Below wr.heap.size wr w') (by kernel_rfl) (hS _ (Below.refl _ _).drew) (fun hHeld => ?_)
            show wpAnyH _ _ _ _ _ 17 #[false, false, false, false, false, false, false, false, false, false, false, false, false, false, false, false, false] _ _
            refine wpAnyH_take (i := 0) (v := ?kv35) rfl (by kernel_rfl) (by kernel_rfl) (by kernel_rfl) (fun _ _ _ h => h) (Or.inl ⟨by rfl, ?ky35⟩) (by assumption) ?kr35
            case ky35 => (intro w hSw; (try dsimp only at hSw); go_split_ands; (try simp only [qA, qB]); go_simp; (try with_reducible rfl))
            try simp only [Act.put, qA, qB, qD, qE, qF]
            refine wpAnyH_take (i := 1) (v := ?kv36) rfl (by kernel_rfl) (by kernel_rfl) (by kernel_rfl) (fun _ _ _ h => h) (Or.inl ⟨by rfl, ?ky36⟩) (by assumption) ?kr36
            case ky36 => (intro w hSw; (try dsimp only at hSw); go_split_ands; (try simp only [qA, qB, qC]); go_simp; (try with_reducible rfl))
            try simp only [Act.put, qA, qB, qC, qD, qE, qF]
            refine wpAnyH_take (i := 2) (v := ?kv37) rfl (by kernel_rfl) (by kernel_rfl) (by kernel_rfl) (fun _ _ _ h => h) (Or.inl ⟨by rfl, ?ky37⟩) (by assumption) ?kr37
            case ky37 => (intro w hSw; (try dsimp only at hSw); go_split_ands; (try simp only [qA, qB, qC]); go_simp; (try with_reducible rfl))
            try simp only [Act.put, qA, qB, qC, qD, qE, qF]
            refine wpAnyH_take (i := 3) (v := ?kv38) rfl (by kernel_rfl) (by kernel_rfl) (by kernel_rfl) (fun _ _ _ h => h) (Or.inl ⟨by rfl, ?ky38⟩) (by assumption) ?kr38
            case ky38 => (intro w hSw; (try dsimp only at hSw); go_split_ands; (try simp only [qA, qB, qC]); go_simp; (try with_reducible rfl))
            try simp only [Act.put, qA, qB, qC, qD, qE, qF]
            refine wpAnyH_take (i := 4) (v := ?kv39) rfl (by kernel_rfl) (by kernel_rfl) (by kernel_rfl) (fun _ _ _ h => h) (Or.inl ⟨by rfl, ?ky39⟩) (by assumption) ?kr39
            case ky39 => (intro w hSw; (try dsimp only at hSw); go_split_ands; (try simp only [qA, qB, qC]); go_simp; (try with_reducible rfl))
            try simp only [Act.put, qA, qB, qC, qD, qE, qF]
            refine wpAnyH_take (i := 5) (v := ?kv40) rfl (by kernel_rfl) (by kernel_rfl) (by kernel_rfl) (fun _ _ _ h => h) (Or.inl ⟨by rfl, ?ky40⟩) (by assumption) ?kr40
            case ky40 => (intro w hSw; (try dsimp only at hSw); go_split_ands; (try simp only [qA, qB, qC]); go_simp; (try with_reducible rfl))
            try simp only [Act.put, qA, qB, qC, qD, qE, qF]
            refine wpAnyH_take (i := 6) (v := ?kv41) rfl (by kernel_rfl) (by kernel_rfl) (by kernel_rfl) (fun _ _ _ h => h) (Or.inl ⟨by rfl, ?ky41⟩) (by assumption) ?kr41
            case ky41 => (intro w hSw; (try dsimp only at hSw); go_split_ands; (try simp only [qA, qB, qC]); go_simp; (try with_reducible rfl))
            try simp only [Act.put, qA, qB, qC, qD, qE, qF]
            refine wpAnyH_take (i := 7) (v := ?kv42) rfl (by kernel_rfl) (by kernel_rfl) (by kernel_rfl) (fun _ _ _ h => h) (Or.inl ⟨by rfl, ?ky42⟩) (by assumption) ?kr42
            case ky42 => (intro w hSw; (try dsimp only at hSw); go_split_ands; (try simp only [qA, qB, qC]); go_simp; (try with_reducible rfl))
            try simp only [Act.put, qA, qB, qC, qD, qE, qF]
            refine wpAnyH_take (i := 8) (v := ?kv43) rfl (by kernel_rfl) (by kernel_rfl) (by kernel_rfl) (fun _ _ _ h => h) (Or.inl ⟨by rfl, ?ky43⟩) (by assumption) ?kr43
            case ky43 => (intro w hSw; (try dsimp only at hSw); go_split_ands; (try simp only [qA, qB, qC]); go_simp; (try with_reducible rfl))
            try simp only [Act.put, qA, qB, qC, qD, qE, qF]
            refine wpAnyH_take (i := 9) (v := ?kv44) rfl (by kernel_rfl) (by kernel_rfl) (by kernel_rfl) (fun _ _ _ h => h) (Or.inl ⟨by rfl, ?ky44⟩) (by assumption) ?kr44
            case ky44 => (intro w hSw; (try dsimp only at hSw); go_split_ands; (try simp only [qA, qB, qC]); go_simp; (try with_reducible rfl))
            try simp only [Act.put, qA, qB, qC, qD, qE, qF]
            refine wpAnyH_take (i := 10) (v := ?kv45) rfl (by kernel_rfl) (by kernel_rfl) (by kernel_rfl) (fun _ _ _ h => h) (Or.inl ⟨by rfl, ?ky45⟩) (by assumption) ?kr45
            case ky45 => (intro w hSw; (try dsimp only at hSw); go_split_ands; (try simp only [qA, qB, qC]); go_simp; (try with_reducible rfl))
            try simp only [Act.put, qA, qB, qC, qD, qE, qF]
            refine wpAnyH_take (i := 11) (v := ?kv46) rfl (by kernel_rfl) (by kernel_rfl) (by kernel_rfl) (fun _ _ _ h => h) (Or.inl ⟨by rfl, ?ky46⟩) (by assumption) ?kr46
            case ky46 => (intro w hSw; (try dsimp only at hSw); go_split_ands; (try simp only [qA, qB, qC]); go_simp; (try with_reducible rfl))
            try simp only [Act.put, qA, qB, qC, qD, qE, qF]
            refine wpAnyH_take (i := 12) (v := ?kv47) rfl (by kernel_rfl) (by kernel_rfl) (by kernel_rfl) (fun _ _ _ h => h) (Or.inl ⟨by rfl, ?ky47⟩) (by assumption) ?kr47
            case ky47 => (intro w hSw; (try dsimp only at hSw); go_split_ands; (try simp only [qA, qB, qC]); go_simp; (try with_reducible rfl))
            try simp only [Act.put, qA, qB, qC, qD, qE, qF]
            refine wpAnyH_take (i := 13) (v := ?kv48) rfl (by kernel_rfl) (by kernel_rfl) (by kernel_rfl) (fun _ _ _ h => h) (Or.inl ⟨by rfl, ?ky48⟩) (by assumption) ?kr48
            case ky48 => (intro w hSw; (try dsimp only at hSw); go_split_ands; (try simp only [qA, qB, qC]); go_simp; (try with_reducible rfl))
            try simp only [Act.put, qA, qB, qC, qD, qE, qF]
            refine wpAnyH_ready (rs := [14]) (by kernel_rfl) (by simp) ?_
            refine (AllReadyH.cons rfl (fun K hK => ?_) AllReadyH.nil)
            try simp only [qA, qB, qC]
            go_simp
            go_at_call 103; refine (list2_any x y _).mono ?_; rintro e z1 ⟨r, rfl, hr, b1⟩; have hr' : r < 0 := hr.2 Hn.out; have hd : decide (r < 0) = true := decide_eq_true hr'
            refine hK.out _ _ (by exact hS _ (grow_trans hHeld.2.2.2.2.2.2.2.2.2.2.2.2 b1)) (fun hHeldn => ?_)
            clear hHeld hK K
            have hHeld := hHeldn
            clear hHeldn
            try simp only [qD, qE, qF]
            refine wpAnyH_take (i := 15) (v := ?kv50) rfl (by kernel_rfl) (by kernel_rfl) (by kernel_rfl) (fun _ _ _ h => h) (Or.inl ⟨by rfl, ?ky50⟩) (by assumption) ?kr50
            case ky50 => (intro w hSw; (try dsimp only at hSw); go_split_ands; (try simp only [qA, qB, qC]); go_simp; (try with_reducible rfl))
            try simp only [Act.put, qA, qB, qC, qD, qE, qF]
            refine wpAnyH_take (i := 16) (v := ?kv51) rfl (by kernel_rfl) (by kernel_rfl) (by kernel_rfl) (fun _ _ _ h => h) (Or.inl ⟨by rfl, ?ky51⟩) (by assumption) ?kr51
            case ky51 => (intro w hSw; (try dsimp only at hSw); go_split_ands; (try simp only [qA, qB, qC]); go_simp; (try with_reducible rfl))
            try simp only [Act.put, qA, qB, qC, qD, qE, qF]
            refine wpAnyH_done (by kernel_rfl) ?_ _
            rw [Hn.out]
            go_upto_region 6 with fail
            have hzz := hHeld.2.2.2.2.2.2.2.2.2.2.2.2
            have hzz' := hzz
            have hso6 := HS2.out.2.1.grow hzz
            obtain ⟨cur, hcur, hcs⟩ := hso6.row.objF
            have hq : ∀ j u, z1.cell? ⟨g, j, none⟩ = some u → z1.cell? ⟨g, j, none⟩ = some u := fun _ _ h => h
            have hH12 : z1.cell? ⟨g, (m + 1) * 6, none⟩ = some (.int .i64 x.dir.label) ∧ z1.cell? ⟨g, (m + 1) * 6 + 1, none⟩ = some (.int .i64 x.dir.at_) ∧ z1.cell? ⟨g, (m + 1) * 6 + 2, none⟩ = some (.int .u32 x.dir.gen) ∧ z1.cell? ⟨g, (m + 1) * 6 + 3, none⟩ = some (.string x.name) ∧ z1.cell? ⟨g, (m + 1) * 6 + 4, none⟩ = some (.int .i64 x.at_) ∧ z1.cell? ⟨g, (m + 1) * 6 + 5, none⟩ = some (.int .u32 x.gen) ∧ z1.cell? ⟨g, m * 6, none⟩ = some (.int .i64 y.dir.label) ∧ z1.cell? ⟨g, m * 6 + 1, none⟩ = some (.int .i64 y.dir.at_) ∧ z1.cell? ⟨g, m * 6 + 2, none⟩ = some (.int .u32 y.dir.gen) ∧ z1.cell? ⟨g, m * 6 + 3, none⟩ = some (.string y.name) ∧ z1.cell? ⟨g, m * 6 + 4, none⟩ = some (.int .i64 y.at_) ∧ z1.cell? ⟨g, m * 6 + 5, none⟩ = some (.int .u32 y.gen) := by
              obtain ⟨a0, a1, a2, a3, a4, a5, a6, a7, a8, a9, a10, a11, _⟩ := hHeld
              exact ⟨a0, a1, a2, a3, a4, a5, a6, a7, a8, a9, a10, a11⟩
            have H6 := Lib.hid (And.intro hso6 (And.intro hcur hcs))
            obtain ⟨q0, q1, q2, q3, q4, q5, q6, q7, q8, q9, q10, q11⟩ := hH12
            clear hzz hso6 hcur hcs hHeld hq hS x0 x1 x2 x3 x4 x5 y0 y1 y2 y3 y4 y5
            have hl2l := HS2.out.2.2.1
            have bnd : l2.length * 6 ≤ cur.size := H6.out.2.2
            refine wp_region_F [15, 17] (S := fun w' => w'.cell? ⟨g, (m + 1) * 6, none⟩ = some (.int .i64 x.dir.label) ∧ w'.cell? ⟨g, (m + 1) * 6 + 1, none⟩ = some (.int .i64 x.dir.at_) ∧ w'.cell? ⟨g, (m + 1) * 6 + 2, none⟩ = some (.int .u32 x.dir.gen) ∧ w'.cell? ⟨g, (m + 1) * 6 + 3, none⟩ = some (.string x.name) ∧ w'.cell? ⟨g, (m + 1) * 6 + 4, none⟩ = some (.int .i64 x.at_) ∧ w'.cell? ⟨g, (m + 1) * 6 + 5, none⟩ = some (.int .u32 x.gen) ∧ w'.cell? ⟨g, m * 6, none⟩ = some (.int .i64 y.dir.label) ∧ w'.cell? ⟨g, m * 6 + 1, none⟩ = some (.int .i64 y.dir.at_) ∧ w'.cell? ⟨g, m * 6 + 2, none⟩ = some (.int .u32 y.dir.gen) ∧ w'.cell? ⟨g, m * 6 + 3, none⟩ = some (.string y.name) ∧ w'.cell? ⟨g, m * 6 + 4, none⟩ = some (.int .i64 y.at_) ∧ w'.cell? ⟨g, m * 6 + 5, none⟩ = some (.int .u32 y.gen) ∧ True) (by kernel_rfl) (⟨q0, q1, q2, q3, q4, q5, q6, q7, q8, q9, q10, q11, trivial⟩) (fun hHeld => ?_)
            show wpAnyF _ _ _ _ _ _ 18 #[false, false, false, false, false, false, false, false, false, false, false, false, false, false, false, false, false, false] _ _
            refine wpAnyF_take [0, 14, 15, 16, 17] (i := 0) (v := ?kv52) rfl (by kernel_rfl) (by kernel_rfl) (by kernel_rfl) (by kernel_rfl) (fun _ _ _ h => h) (Or.inl ⟨by rfl, ?ky52⟩) (by assumption) ?kr52
            case ky52 => (intro w hSw; (try dsimp only at hSw); go_split_ands; (try simp only [qA, qB]); go_simp; (try with_reducible rfl))
            try simp only [Act.put, qA, qB, qD, qE, qF]
            refine wpAnyF_take [1, 14, 15, 16, 17] (i := 1) (v := ?kv53) rfl (by kernel_rfl) (by kernel_rfl) (by kernel_rfl) (by kernel_rfl) (fun _ _ _ h => h) (Or.inl ⟨by rfl, ?ky53⟩) (by assumption) ?kr53
            case ky53 => (intro w hSw; (try dsimp only at hSw); go_split_ands; (try simp only [qA, qB, qC]); go_simp; (try with_reducible rfl))
            try simp only [Act.put, qA, qB, qC, qD, qE, qF]
            refine wpAnyF_pure (i := 2) (v := ?kv54) rfl (by kernel_rfl) (by kernel_rfl) (by kernel_rfl) (by kernel_rfl) (fun _ _ _ h => h) (Or.inl ⟨by rfl, ?ky54⟩) (by first | (intro _; assumption) | (intro h; exact absurd h (by decide))) ?kr54
            case ky54 => (intro w hSw; clear hSw; (try simp only [qA, qB, qC]); go_simp; (try with_reducible rfl))
            try simp only [Act.put, qA, qB, qC, qD, qE, qF]
            refine wpAnyF_pure (i := 3) (v := ?kv55) rfl (by kernel_rfl) (by kernel_rfl) (by kernel_rfl) (by kernel_rfl) (fun _ _ _ h => h) (Or.inl ⟨by rfl, ?ky55⟩) (by first | (intro _; assumption) | (intro h; exact absurd h (by decide))) ?kr55
            case ky55 => (intro w hSw; clear hSw; (try simp only [qA, qB, qC]); go_simp; (try with_reducible rfl))
            try simp only [Act.put, qA, qB, qC, qD, qE, qF]
            refine wpAnyF_pure (i := 4) (v := ?kv56) rfl (by kernel_rfl) (by kernel_rfl) (by kernel_rfl) (by kernel_rfl) (fun _ _ _ h => h) (Or.inl ⟨by rfl, ?ky56⟩) (by first | (intro _; assumption) | (intro h; exact absurd h (by decide))) ?kr56
            case ky56 => (intro w hSw; clear hSw; (try simp only [qA, qB, qC]); go_simp; (try with_reducible rfl))
            try simp only [Act.put, qA, qB, qC, qD, qE, qF]
            refine wpAnyF_take [5, 8, 9, 14, 15, 16, 17] (i := 5) (v := ?kv57) rfl (by kernel_rfl) (by kernel_rfl) (by kernel_rfl) (by kernel_rfl) (fun _ _ _ h => h) (Or.inl ⟨by rfl, ?ky57⟩) (by assumption) ?kr57
            case ky57 => (intro w hSw; (try dsimp only at hSw); go_split_ands; (try simp only [qA, qB, qC]); go_simp; (try with_reducible rfl))
            try simp only [Act.put, qA, qB, qC, qD, qE, qF]
            refine wpAnyF_take [6, 7, 8, 9, 14, 15, 16, 17] (i := 6) (v := ?kv58) rfl (by kernel_rfl) (by kernel_rfl) (by kernel_rfl) (by kernel_rfl) (fun _ _ _ h => h) (Or.inl ⟨by rfl, ?ky58⟩) (by assumption) ?kr58
            case ky58 => (intro w hSw; (try dsimp only at hSw); go_split_ands; (try simp only [qA, qB, qC]); go_simp; (try with_reducible rfl))
            try simp only [Act.put, qA, qB, qC, qD, qE, qF]
            refine wpAnyF_take [7, 8, 9, 14, 15, 16, 17] (i := 7) (v := ?kv59) rfl (by kernel_rfl) (by kernel_rfl) (by kernel_rfl) (by kernel_rfl) (fun _ _ _ h => h) (Or.inl ⟨by rfl, ?ky59⟩) (by assumption) ?kr59
            case ky59 => (intro w hSw; (try dsimp only at hSw); go_split_ands; (try simp only [qA, qB, qC]); go_simp; (try with_reducible rfl))
            try simp only [Act.put, qA, qB, qC, qD, qE, qF]
            refine wpAnyF_take [8, 9, 14, 15, 16, 17] (i := 8) (v := ?kv60) rfl (by kernel_rfl) (by kernel_rfl) (by kernel_rfl) (by kernel_rfl) (fun _ _ _ h => h) (Or.inl ⟨by rfl, ?ky60⟩) (by assumption) ?kr60
            case ky60 => (intro w hSw; (try dsimp only at hSw); go_split_ands; (try simp only [qA, qB, qC]); go_simp; (try with_reducible rfl))
            try simp only [Act.put, qA, qB, qC, qD, qE, qF]
            refine wpAnyF_take [9, 14, 15, 16, 17] (i := 9) (v := ?kv61) rfl (by kernel_rfl) (by kernel_rfl) (by kernel_rfl) (by kernel_rfl) (fun _ _ _ h => h) (Or.inl ⟨by rfl, ?ky61⟩) (by assumption) ?kr61
            case ky61 => (intro w hSw; (try dsimp only at hSw); go_split_ands; (try simp only [qA, qB, qC]); go_simp; (try with_reducible rfl))
            try simp only [Act.put, qA, qB, qC, qD, qE, qF]
            refine wpAnyF_take [10, 12, 13, 14, 15, 16, 17] (i := 10) (v := ?kv62) rfl (by kernel_rfl) (by kernel_rfl) (by kernel_rfl) (by kernel_rfl) (fun _ _ _ h => h) (Or.inl ⟨by rfl, ?ky62⟩) (by assumption) ?kr62
            case ky62 => (intro w hSw; (try dsimp only at hSw); go_split_ands; (try simp only [qA, qB, qC]); go_simp; (try with_reducible rfl))
            try simp only [Act.put, qA, qB, qC, qD, qE, qF]
            refine wpAnyF_take [11, 12, 13, 14, 15, 16, 17] (i := 11) (v := ?kv63) rfl (by kernel_rfl) (by kernel_rfl) (by kernel_rfl) (by kernel_rfl) (fun _ _ _ h => h) (Or.inl ⟨by rfl, ?ky63⟩) (by assumption) ?kr63
            case ky63 => (intro w hSw; (try dsimp only at hSw); go_split_ands; (try simp only [qA, qB, qC]); go_simp; (try with_reducible rfl))
            try simp only [Act.put, qA, qB, qC, qD, qE, qF]
            refine wpAnyF_take [12, 13, 14, 15, 16, 17] (i := 12) (v := ?kv64) rfl (by kernel_rfl) (by kernel_rfl) (by kernel_rfl) (by kernel_rfl) (fun _ _ _ h => h) (Or.inl ⟨by rfl, ?ky64⟩) (by assumption) ?kr64
            case ky64 => (intro w hSw; (try dsimp only at hSw); go_split_ands; (try simp only [qA, qB, qC]); go_simp; (try with_reducible rfl))
            try simp only [Act.put, qA, qB, qC, qD, qE, qF]
            refine wpAnyF_take [13, 14, 15, 16, 17] (i := 13) (v := ?kv65) rfl (by kernel_rfl) (by kernel_rfl) (by kernel_rfl) (by kernel_rfl) (fun _ _ _ h => h) (Or.inl ⟨by rfl, ?ky65⟩) (by assumption) ?kr65
            case ky65 => (intro w hSw; (try dsimp only at hSw); go_split_ands; (try simp only [qA, qB, qC]); go_simp; (try with_reducible rfl))
            try simp only [Act.put, qA, qB, qC, qD, qE, qF]
            refine wpAnyF_take [14, 15, 16, 17] (i := 14) (v := ?kv66) rfl (by kernel_rfl) (by kernel_rfl) (by kernel_rfl) (by kernel_rfl) (fun _ _ _ h => h) (Or.inl ⟨by rfl, ?ky66⟩) (by assumption) ?kr66
            case ky66 => (intro w hSw; (try dsimp only at hSw); go_split_ands; (try simp only [qA, qB, qC]); go_simp; (try with_reducible rfl))
            try simp only [Act.put, qA, qB, qC, qD, qE, qF]
            refine wpAnyF_ready (rs := [15]) (by kernel_rfl) (by simp) ?_
            refine (AllReadyF.last rfl (by kernel_rfl) (fun K hK => ?_) AllReadyF.nil)
            refine step_storeOff aggNmE (by rfl) _ _ (by rfl) (by rfl) (by rfl) (show objAt z1.drew g = _ from H6.out.2.1) (by rfl) (by omega) (Nm.one_cells y) ?_; intro w5 hw5
            refine hK.out _ _ (trivial) (fun hHeldn => ?_)
            clear hHeld hK K
            have hHeld := hHeldn
            clear hHeldn
            try simp only [Act.put, qA, qB, qC, qD, qE, qF]
            refine wpAnyF_pure (i := 16) (v := ?kv68) rfl (by kernel_rfl) (by kernel_rfl) (by kernel_rfl) (by kernel_rfl) (fun _ _ _ h => h) (Or.inl ⟨by rfl, ?ky68⟩) (by first | (intro _; assumption) | (intro h; exact absurd h (by decide))) ?kr68
            case ky68 => (intro w hSw; clear hSw; (try simp only [qA, qB, qC]); go_simp; (try with_reducible rfl))
            try simp only [Act.put, qA, qB, qC, qD, qE, qF]
            refine wpAnyF_ready (rs := [17]) (by kernel_rfl) (by simp) ?_
            refine (AllReadyF.last rfl (by kernel_rfl) (fun K hK => ?_) AllReadyF.nil)
            refine step_storeOff aggNmE (by rfl) _ _ (by rfl) (by rfl) (by rfl) (by rw [hw5]; exact objAt_setRow (w := z1.drew) H6.out.2.1 _) (by rfl) (by simp only [List.size_toArray, List.length_append, List.length_take, List.length_drop, Array.length_toList]; omega) (Nm.one_cells x) ?_; intro w6 hw6
            refine hK.out _ _ (trivial) (fun hHeldn => ?_)
            clear hHeld hK K
            have hHeld := hHeldn
            clear hHeldn
            try simp only [Act.put, qA, qB, qC, qD, qE, qF]
            refine wpAnyF_done (by kernel_rfl) ?_ _
            have r5 : NmRow w5 S (.slice (some ⟨g, 0, none⟩) l.length cap) (l2.set (m + 1) y) := RowG.putK (H6.out.1.row.grow (Below.refl _ _).drew (fun _ _ h => h)) (by omega) (show objAt z1.drew g = _ from H6.out.2.1) rfl (c := y.cells) hw5 rfl (fun _ _ h => h)
            have o5 := objAt_setRow (w := z1.drew) H6.out.2.1 (cur.toList.take ((m + 1) * 6) ++ y.cells.toList ++ cur.toList.drop ((m + 1) * 6 + 6)).toArray
            rw [← hw5] at o5
            have r6 : NmRow w6 S (.slice (some ⟨g, 0, none⟩) l.length cap) ((l2.set (m + 1) y).set m x) := RowG.putK r5 (by rw [List.length_set]; omega) o5 (c := x.cells) rfl hw6 rfl (fun _ _ h => h)
            have hsw : (l2.set (m + 1) y).set m x = swapD l2 (m + 1) := by
              unfold swapD
              rw [Nat.add_sub_cancel, HS2.out.2.2.2.1, HS2.out.2.2.2.2]
            rw [hsw] at r6
            have k5 : Keeps (fun q => q = g) z1.drew w5 := by rw [hw5]; exact setRow_keeps' _ _ _
            have k6 : Keeps (fun q => q = g) w5 w6 := by rw [hw6]; exact setRow_keeps' _ _ _
            have hfin : SoAt w w6 S (.slice (some ⟨g, 0, none⟩) l.length cap) l (swapD l2 (m + 1)) := ⟨r6, (swapD_perm l2 (Nat.succ_pos m) (by omega)).trans HS2.out.2.1.perm, ((HS2.out.2.1.keeps.trans (Keeps.of_below hzz')).trans (Keeps.of_below (Below.refl _ _).drew)).trans ((k5.trans k6).mono fun _ _ e => by rw [e]; rfl)⟩
            have hsk := sinking_step (l := l2) (i := k) (j := m + 1) (Nat.succ_pos m) hm (by omega) HS2.out.1 (by rw [HS2.out.2.2.2.1, Nat.add_sub_cancel, HS2.out.2.2.2.2]; exact Hn.out)
            rw [Nat.add_sub_cancel] at hsk
            have H9 := Lib.hid (And.intro hfin hsk)
            clear hw5 hw6 r5 o5 r6 hsw k5 k6 hfin hsk q0 q1 q2 q3 q4 q5 q6 q7 q8 q9 q10 q11
            go_wp2_with fail
            go_roundw
            case rel => exact ⟨m, swapD l2 (m + 1), by omega, by go_num, H9.out.2, H9.out.1⟩
            case measure => simp [Go.RowKit.intOf]
    · have hk' : k = l.length ∨ l.length ≤ 1 := by omega
      have HS := Lib.hid (And.intro hs hso)
      clear hs hso
      have hlti : ¬ ((k : Int) < (l.length : Int)) := by omega
      go_wp2_with fail
      first | go_end0 | refine bodyPost_end (results_none rfl _ _ _) rfl ?_
      refine ⟨rfl, l', inOrder_of ?_, HS.out.2⟩
      have hle := HS.out.2.perm.length_eq
      intro p q h1 h2
      exact HS.out.1 p q h1 (by omega)
end Go.Proofs.YtbbnejehglonjaaGreat
