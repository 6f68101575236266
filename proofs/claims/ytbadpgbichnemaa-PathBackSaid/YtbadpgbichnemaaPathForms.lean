/- DERIVED. clathrilaw20.PathForms returns true. -/
import Derived.Test.YtbadpgbichnemaaPathAll
namespace Go.Proofs.Ytbadpgbichnemaa
open Go.RowKit

def sOf (l : List UInt8) : ByteArray := ⟨l.toArray⟩
def goods : List (List UInt8) := [[47], [47, 46], [47, 46, 47, 46], [47, 97], [47, 97, 47, 46], [47, 46, 46, 46, 47, 98], [47, 102, 111, 117, 114, 116, 101, 101, 110, 45, 98, 121, 116, 101, 115]]
def manys : List Nat := [0, 0, 0, 1, 1, 2, 1]
def bads : List (List UInt8) := [[], [97], [47, 47], [47, 97, 47], [47, 97, 47, 47, 98], [47, 46, 46], [47, 97, 32, 98], [47, 102, 105, 102, 116, 101, 101, 110, 45, 98, 121, 116, 101, 115, 45, 120], [46, 47, 97]]
theorem goods_ok : ∀ k : Fin 7, (splitOf goods[k]).map List.length = some manys[k] := by decide +kernel
theorem goods_len : ∀ k : Fin 7, goods[k].length ≤ 20 := by decide
theorem bads_ok : ∀ k : Fin 9, splitOf bads[k] = none := by decide +kernel
theorem bads_len : ∀ k : Fin 9, bads[k].length ≤ 20 := by decide
def longOf (k : Nat) : List UInt8 := (List.replicate k [47, 97]).flatten
theorem long_ok : (splitOf (longOf 60)).map List.length = some 60 := by decide +kernel
theorem longer_no : splitOf (longOf 60 ++ [97]) = none := by decide +kernel
theorem longOf_succ (k : Nat) : longOf (k + 1) = longOf k ++ [47, 97] := by
  unfold longOf
  rw [List.replicate_succ', List.flatten_append]; rfl
theorem longOf_len (k : Nat) : (longOf k).length = 2 * k := by
  induction k with
  | zero => rfl
  | succ k ih => rw [longOf_succ, List.length_append, ih]; rfl

theorem row_of_block {w : World} {g : Nat} {c : Array Value} {t : TypeId} {f : Nat × Nat} (h : w.heap[g]? = some (.cells c t f)) (i : Nat) : w.cell? ⟨g, i, none⟩ = c[i]? := by
  simp [World.cell?, h]

set_option maxRecDepth 100000 in
set_option maxHeartbeats 2000000 in
theorem walk_PathForms (w : World) : Calls Try.prog 8 #[] w fun e w' => e = .returned (.bool true) ∧ Below w.heap.size w w' := by
  go_enter Try.func8, Try.ntmps8
  go_wp2_with fail
  refine (begun20 _).mono ?_
  rintro e w1 ⟨rfl, b1⟩
  go_wp2_with fail
  obtain ⟨wa, hwa⟩ : ∃ wa, wa = (w1.alloc (.cells (goods.map fun l => Value.string (sOf l)).toArray 9)).alloc (.cells (manys.map fun n : Nat => Value.int .i64 n).toArray 3) := ⟨_, rfl⟩
  have ba : Below w.heap.size w wa := by rw [hwa]; exact (b1.alloc b1.size _).alloc (by have := b1.size; simp; omega) _
  have hga : wa.heap[w1.heap.size]? = some (.cells (goods.map fun l => Value.string (sOf l)).toArray 9) := by
    rw [hwa, heap_alloc_if, if_neg (by simp), heap_alloc_if, if_pos rfl]
  have hma : wa.heap[w1.heap.size + 1]? = some (.cells (manys.map fun n : Nat => Value.int .i64 n).toArray 3) := by
    rw [hwa, heap_alloc_if, if_pos (by simp)]
  have ha := block_lt hma
  change Code.wp _ _ _ _ ((w1.alloc (.cells (goods.map fun l => Value.string (sOf l)).toArray 9)).alloc (.cells (manys.map fun n : Nat => Value.int .i64 n).toArray 3))
  rw [← hwa]
  clear hwa b1
  generalize w1.heap.size = g at *
  go_loopw [3] (fun i wr => ∃ k : Nat, k ≤ 7 ∧ i = .int .i64 k ∧ Below wa.heap.size wa wr) (fun i _ => 7 - (intOf i).toNat)
  case atStart => exact ⟨0, by omega, rfl, Below.refl _ _⟩
  case round =>
    obtain ⟨k, hk, rfl, hb⟩ := hrel
    by_cases hlt : k < 7
    · have hS := row_of_block ((hb.block g (by omega)).trans hga) k
      have hM := row_of_block ((hb.block (g + 1) (by omega)).trans hma) k
      obtain ⟨l, hl, hlen⟩ := Option.map_eq_some_iff.1 (goods_ok ⟨k, hlt⟩)
      have hsz := goods_len ⟨k, hlt⟩
      simp only [List.getElem?_toArray, List.getElem?_map, List.getElem?_eq_getElem (show k < goods.length from hlt), List.getElem?_eq_getElem (show k < manys.length from hlt), Option.map_some] at hS hM
      have Hl := Lib.hid (show splitOf (sOf goods[k]).data.toList = some l from hl)
      have Hm := Lib.hid (show l.length = manys[k] from hlen)
      have hsz2 : (sOf goods[k]).size ≤ 20 := by rw [← bsize]; exact hsz
      generalize manys[k] = m at *
      generalize goods[k] = s at *
      clear hl hlen hsz hga hma
      go_wp2_with fail
      refine (Split_ok (sOf s) l Hl.out _ (by omega)).mono ?_
      rintro e w2 ⟨⟨v, rfl, hv⟩, b2⟩
      have hM2 := (b2.cell (p := ⟨g + 1, k, none⟩) (World.block_lt_of_cell? _ _ hM)).trans hM
      obtain ⟨av, cv, rfl⟩ := hv.any
      rw [Hm.out]
      go_wp2_with fail
      go_roundw
      case rel => exact ⟨k + 1, by omega, by go_num, hb.trans (b2.mono hb.size)⟩
      case measure => simp [intOf]; omega
    · go_wp2_with fail
      clear hga hma
      have bb := ba.trans (hb.mono ba.size)
      clear ba hb ha
      obtain ⟨wb, hwb⟩ : ∃ wb, wb = wr.alloc (.cells (bads.map fun l => Value.string (sOf l)).toArray 9) := ⟨_, rfl⟩
      have ba : Below w.heap.size w wb := by rw [hwb]; exact bb.alloc bb.size _
      have hga : wb.heap[wr.heap.size]? = some (.cells (bads.map fun l => Value.string (sOf l)).toArray 9) := by
        rw [hwb, heap_alloc_if, if_pos rfl]
      have ha := block_lt hga
      change Code.wp _ _ _ _ (wr.alloc (.cells (bads.map fun l => Value.string (sOf l)).toArray 9))
      rw [← hwb]
      clear hwb bb
      generalize wr.heap.size = g2 at *
      go_loopw [7] (fun i wr => ∃ k : Nat, k ≤ 9 ∧ i = .int .i64 k ∧ Below wb.heap.size wb wr) (fun i _ => 9 - (intOf i).toNat)
      case atStart => exact ⟨0, by omega, rfl, Below.refl _ _⟩
      case round =>
        obtain ⟨k2, hk2, rfl, hb⟩ := hrel
        by_cases hlt : k2 < 9
        · have hS := row_of_block ((hb.block g2 (by omega)).trans hga) k2
          have hl := bads_ok ⟨k2, hlt⟩
          have hsz := bads_len ⟨k2, hlt⟩
          simp only [List.getElem?_toArray, List.getElem?_map, List.getElem?_eq_getElem (show k2 < bads.length from hlt), Option.map_some] at hS
          have Hl := Lib.hid (show splitOf (sOf bads[k2]).data.toList = none from hl)
          have hsz2 : (sOf bads[k2]).size ≤ 20 := by rw [← bsize]; exact hsz
          generalize bads[k2] = s at *
          clear hl hsz hga
          go_wp2_with fail
          refine (Split_no (sOf s) Hl.out _ (by omega)).mono ?_
          rintro e w2 ⟨rfl, b2⟩
          go_wp2_with fail
          go_roundw
          case rel => exact ⟨k2 + 1, by omega, by go_num, hb.trans (b2.mono hb.size)⟩
          case measure => simp [intOf]; omega
        · go_wp2_with fail
          clear hga
          have bb := ba.trans (hb.mono ba.size)
          clear ba hb ha
          go_loopw [10, 11] (fun s i wr => ∃ (k : Nat) (S : ByteArray), k ≤ 60 ∧ i = .int .i64 k ∧ s = .string S ∧ S.data.toList = longOf k ∧ Below w.heap.size w wr) (fun _ i _ => 60 - (intOf i).toNat)
          case atStart => exact ⟨0, ⟨#[]⟩, by omega, rfl, rfl, rfl, bb⟩
          case round =>
            obtain ⟨k3, S, hk3, rfl, rfl, hS, hb⟩ := hrel
            have hsz : S.size = 2 * k3 := by rw [← bsize, hS, longOf_len]
            have hsz2 : S.size ≤ 120 := by omega
            have HS := Lib.hid hS
            clear hS hsz
            by_cases hlt : k3 < 60
            · go_wp2_with fail
              go_roundw
              case rel => exact ⟨k3 + 1, _, by omega, by go_num, rfl, by rw [longOf_succ, ← HS.out]; simp, hb⟩
              case measure => simp [intOf]; omega
            · have hk60 : k3 = 60 := by omega
              subst hk60
              obtain ⟨l, hl, hlen⟩ := Option.map_eq_some_iff.1 long_ok
              have Hl := Lib.hid (show splitOf S.data.toList = some l from by rw [HS.out]; exact hl)
              have Hlen := Lib.hid hlen
              obtain ⟨S2, hS2⟩ : ∃ S2 : ByteArray, S ++ (⟨#[97]⟩ : ByteArray) = S2 := ⟨_, rfl⟩
              have h2 : S2.data.toList = longOf 60 ++ [97] := by rw [← hS2, ← HS.out]; simp
              have hz2 : S2.size ≤ 200 := by rw [← bsize, h2, List.length_append, longOf_len]; decide
              have H2 := Lib.hid (show splitOf S2.data.toList = none from by rw [h2]; exact longer_no)
              have HS2 := Lib.hid hS2
              clear hS2 h2
              clear hl hlen
              go_wp2_with fail
              refine (Split_ok S l Hl.out _ (by omega)).mono ?_
              rintro e w2 ⟨⟨v, rfl, hv⟩, b2⟩
              obtain ⟨av, cv, rfl⟩ := hv.any
              rw [Hlen.out]
              go_wp2_with fail
              rw [HS2.out]
              refine (Split_no S2 H2.out _ (by omega)).mono ?_
              rintro e w3 ⟨rfl, b3⟩
              go_wp2_with fail
              go_ret
              have z1 := hb.size
              have z2 := b2.size
              exact ⟨rfl, (hb.trans (b2.mono z1)).trans (b3.mono (by omega))⟩
end Go.Proofs.Ytbadpgbichnemaa
