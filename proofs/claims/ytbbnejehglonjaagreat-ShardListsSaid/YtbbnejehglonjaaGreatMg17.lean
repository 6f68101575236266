/- DERIVED. Contracts and laws that the proofs of this seat share, part 17 of 40: IxA InC EnA. -/
import Derived.Test.YtbbnejehglonjaaGreatMg00
import Derived.Test.YtbbnejehglonjaaGreatMg02
import Derived.Test.YtbbnejehglonjaaGreatMg03
import Derived.Test.YtbbnejehglonjaaGreatMg04
import Derived.Test.YtbbnejehglonjaaGreatMg05
import Derived.Test.YtbbnejehglonjaaGreatMg10
import Derived.Test.YtbbnejehglonjaaGreatMg16
/- DERIVED. Contract of index.Put. -/
namespace Go.Proofs.YtbbnejehglonjaaGreat
open Go.RowKit
attribute [local irreducible] Calls
set_option maxRecDepth 100000

theorem high_two (x : Nat) : high x 2 = [UInt8.ofNat (x / 256 % 256), UInt8.ofNat (x % 256)] := by
  show [UInt8.ofNat (x / 256 ^ 1 % 256), UInt8.ofNat (x / 256 ^ 0 % 256)] = _
  rw [Nat.pow_zero, Nat.div_one, Nat.pow_one]
theorem Blk.of_app (kind : Int) (l : List UInt8) (c : UInt8) (h : l.length < 56) : (Blk.of kind l).setB l.length c = Blk.of kind (l ++ [c]) := by
  have := Blk.of_step kind (l ++ [c]) l.length (by simp) h
  simp only [List.take_left', List.getElem_concat_length] at this
  rw [this, List.take_of_length_le (by simp)]
theorem high_byte (m : Nat) (c : UInt8) (h : m = c.toNat) : high m 2 = [0] ++ [c] := by
  subst h
  have := c.toNat_lt
  have e1 : UInt8.ofNat (c.toNat / 256 % 256) = 0 := UInt8.toNat_inj.1 (by rw [UInt8.toNat_ofNat', show c.toNat / 256 % 256 = 0 by omega]; rfl)
  have e2 : UInt8.ofNat (c.toNat % 256) = c := UInt8.toNat_inj.1 (by rw [UInt8.toNat_ofNat']; omega)
  rw [high_two, e1, e2]; rfl
theorem of_app' (A : List UInt8) (c : UInt8) (p : Nat) (h : A.length = p) (hp : p < 56) : (Blk.of 5 A).setB p c = Blk.of 5 (A ++ [c]) := by
  subst h; exact Blk.of_app 5 A c hp
theorem putIndex_bad {l : List Int} (k : Nat) (hk : k < l.length) (h : okNew (l.take k) (l.getD k 0) = false) : putIndex l = (Blk.zero, false) := by
  unfold putIndex
  rw [if_neg (fun e => by rw [placesOk_not k hk h] at e; exact absurd e.2 (by decide))]
theorem frame56 (A : Array Value) (h : A.size = 56) : A = #[A.getD 0 undef, A.getD 1 undef, A.getD 2 undef, A.getD 3 undef, A.getD 4 undef, A.getD 5 undef, A.getD 6 undef, A.getD 7 undef, A.getD 8 undef, A.getD 9 undef, A.getD 10 undef, A.getD 11 undef, A.getD 12 undef, A.getD 13 undef, A.getD 14 undef, A.getD 15 undef, A.getD 16 undef, A.getD 17 undef, A.getD 18 undef, A.getD 19 undef, A.getD 20 undef, A.getD 21 undef, A.getD 22 undef, A.getD 23 undef, A.getD 24 undef, A.getD 25 undef, A.getD 26 undef, A.getD 27 undef, A.getD 28 undef, A.getD 29 undef, A.getD 30 undef, A.getD 31 undef, A.getD 32 undef, A.getD 33 undef, A.getD 34 undef, A.getD 35 undef, A.getD 36 undef, A.getD 37 undef, A.getD 38 undef, A.getD 39 undef, A.getD 40 undef, A.getD 41 undef, A.getD 42 undef, A.getD 43 undef, A.getD 44 undef, A.getD 45 undef, A.getD 46 undef, A.getD 47 undef, A.getD 48 undef, A.getD 49 undef, A.getD 50 undef, A.getD 51 undef, A.getD 52 undef, A.getD 53 undef, A.getD 54 undef, A.getD 55 undef] := frame_list A 56 h
def IxJ (w : World) (G : Nat) (li : List Int) (l : Nat) (a' : Act) (w' : World) : Prop :=
  Below w.heap.size w w' ∧ BlkAt w' G Blk.zero ∧ putIndex li = (Blk.zero, false) ∧ l = 0 ∧ ∃ A : Array Value, A.size = 56 ∧ (A.getD 2 undef = .pointer (some ⟨G, 0, none⟩) ∧ True) ∧ a' = { tmps := A, defers := [] }
set_option maxHeartbeats 400000 in
theorem xPut_any (a : Option Addr) (li : List Int) (cap : Nat) (w : World) (h : IntsAt w a li) (_ : li.length ≤ 1000) :
    Calls Tryz.prog 148 #[.slice a li.length cap] w fun e w' => e = .returned (.tuple #[.agg (putIndex li).1.cells, .bool (putIndex li).2]) ∧ Below w.heap.size w w' := by
  have hmm : ∀ w, (Instr.makeMap 34 none).run Tryz.prog w = .ok (.map (some w.heap.size)) (w.alloc (.map #[] 0)) := fun w => run_makeMap _ w
  have hG1 := (BlkAt.alloc_new w Blk.zero).alloc (.cells (Blk.of 5 []).cells 37)
  have hH1 := BlkAt.alloc_new (w.alloc (.cells Blk.zero.cells 37)) (Blk.of 5 [])
  have hB1 : Below w.heap.size w ((w.alloc (.cells Blk.zero.cells 37)).alloc (.cells (Blk.of 5 []).cells 37)) := grow_alloc (grow_alloc (Below.refl _ _) _) _
  obtain ⟨G, hG⟩ : ∃ G, G = w.heap.size := ⟨_, rfl⟩
  rw [size_alloc] at hH1
  rw [← hG] at hG1 hH1
  obtain ⟨w1, hw1⟩ : ∃ w1, w1 = (w.alloc (.cells Blk.zero.cells 37)).alloc (.cells (Blk.of 5 []).cells 37) := ⟨_, rfl⟩
  rw [← hw1] at hG1 hH1 hB1
  have hM0 := MapZ.made w1
  have hB2 : Below w1.heap.size w1 (w1.alloc (.map #[] 0)) := grow_alloc (Below.refl _ _) _
  have hs1 : w1.heap.size = G + 2 := by rw [hw1, size_alloc, size_alloc, hG]
  obtain ⟨w2, hw2⟩ : ∃ w2, w2 = w1.alloc (.map #[] 0) := ⟨_, rfl⟩
  rw [← hw2, hs1] at hM0
  rw [← hw2] at hB2
  have hI2 := h.below (hB1.trans (hB2.mono hB1.size))
  have HW := Lib.hid (And.intro hG (And.intro hw1 (And.intro hw2 hs1)))
  have H2 := Lib.hid (And.intro (hG1.below hB2 (block_lt hG1)) (And.intro (hH1.below hB2 (block_lt hH1)) (And.intro hM0 (And.intro (hB1.trans (hB2.mono hB1.size)) hI2))))
  have HI := Lib.hid h
  clear hG1 hH1 hB1 hM0 hB2 hI2 hG hw1 hw2 hs1 h
  go_enter Tryz.func148, Tryz.ntmps148
  go_wp2_with fail
  refine wp_scope_labels (IxJ w G li) (fun l _ _ => l) ?_ ?_ ?_
  · rintro l a w' ⟨_, _, _, rfl, _⟩; exact ⟨_, rfl⟩
  · rintro l rest a w' ⟨hb, hz, hp, rfl, ⟨A, hA, ⟨hA2, _⟩, rfl⟩⟩ hrest
    obtain rfl := (Code.seq.inj (Option.some.inj hrest)).2
    rw [frame56 A hA, hA2]
    clear hrest hmm
    have hh := hz.has
    have HZ := Lib.hid (And.intro hb (And.intro hz hp))
    clear hb hz hp
    go_wp2_with fail
    rw [jumps_ret]
    refine bodyPost_ret (results_two rfl (resOne_blk rfl (BlkAt.setRow HZ.out.2.1 Blk.zero).row) (resOne_tmp _ _ _)) rfl ?_
    exact ⟨by rw [HZ.out.2.2]; rfl, HZ.out.1.setRow (by rw [HW.out.1]; exact Nat.le_refl _) _⟩
  · intro _
    go_upto_region 2 with fail
    rw [← HW.out.2.1, ← HW.out.1]
    go_upto_region 3 with fail
    clear hmm
    rw [← HW.out.2.2.1, HW.out.2.2.2]
    by_cases h16 : li.length = 16
    · obtain ⟨b0, off, ha, hcells⟩ := HI.out
      obtain rfl := ha (by omega)
      have H16 := Lib.hid h16
      have HC := Lib.hid (And.intro hcells ha)
      clear hcells ha
      rw [h16]
      go_wp2_with fail
      go_loopw [15] (fun i wr => ∃ (k : Nat) (L : ML), k ≤ 16 ∧ i = .int .i64 k ∧ MapZ wr (G + 2) L ∧ (∀ y, y ∈ keysL L ↔ y ∈ li.take k) ∧ allTrue L ∧ L.length ≤ k ∧ okPre li k ∧ BlkAt wr (G + 1) (Blk.of 5 (ats (li.take k))) ∧ Keeps (fun q => q = G + 1 ∨ q = G + 2) w2 wr) (fun i _ => 16 - (Go.RowKit.intOf i).toNat)
      case atStart => exact ⟨0, [], by decide, rfl, H2.out.2.2.1, fun y => by simp [keysL], fun p hp => by simp at hp, Nat.le_refl _, fun j hj => by omega, H2.out.2.1, Keeps.refl _ _⟩
      case round =>
        obtain ⟨k, L, hk, rfl, hM, hL, hT, hLl, hok, hO, hK⟩ := hrel
        have hbw : Below w.heap.size w wr := H2.out.2.2.2.1.trans (hK.below H2.out.2.2.2.1.size (fun q hq => by have := HW.out.1; omega))
        have hz : BlkAt wr G Blk.zero := hK.obj H2.out.1 (by omega)
        by_cases hlt : k < 16
        · have hlti : (k : Int) < 16 := by omega
          have hkl : k < li.length := by omega
          have hcx := grow_cell hbw (HC.out.1 k hkl)
          obtain ⟨x, hx⟩ : ∃ x, x = li.getD k 0 := ⟨_, rfl⟩
          rw [← hx] at hcx
          have hlk := run_lookupZ (P := Tryz.prog) hM Tryz.underlying34 Tryz.underlying3 (zero_bool wr) x false
          simp only [Bool.false_eq_true, if_false] at hlk
          rw [allTrue_lk hT] at hlk
          have hbad : okNew (li.take k) x = false → putIndex li = (Blk.zero, false) := fun e => putIndex_bad k hkl (by rw [← hx]; exact e)
          have HX := Lib.hid (And.intro hM (And.intro hL (And.intro hT (And.intro hLl (And.intro hok (And.intro hK (And.intro hx (And.intro hkl (And.intro hbad (And.intro hbw hz))))))))))
          have HO := Lib.hid hO
          clear hM hL hT hLl hok hK hx hkl hbad hbw hz hO
          by_cases hm1 : x = -1
          · have Ho := Lib.hid (show okNew (li.take k) x = true by rw [hm1]; exact okNew_none _)
            have hm1' : (x != -1) = false := by rw [hm1]; rfl
            clear hm1
            -- STORE
            have hb := okNew_bounds Ho.out
            obtain ⟨hb0, hb1⟩ := hb
            obtain ⟨c2, hc2⟩ : ∃ c : UInt8, x + 1 = (c.toNat : Int) := ⟨UInt8.ofNat (x + 1).toNat, by rw [UInt8.toNat_ofNat']; omega⟩
            obtain ⟨m, hm⟩ : ∃ m, m = c2.toNat := ⟨_, rfl⟩
            have hmx : x + 1 = (m : Int) := by rw [hm]; exact hc2
            have hm2 : (m : Int) < 256 := by have := c2.toNat_lt; omega
            have hm0 : (0 : Int) ≤ (m : Int) := Int.natCast_nonneg _
            have v0 : wrap64 (m : Int) = (m : Int) := IntWalk.wrap64_in _ (by omega)
            have v1 : (m : Int) / 256 = 0 := by omega
            have v2 : (m : Int) % 256 = (m : Int) := by omega
            have hats : ats (li.take (k + 1)) = ats (li.take k) ++ [0] ++ [c2] := by
              rw [ats_succ HX.out.2.2.2.2.2.2.2.1, ← HX.out.2.2.2.2.2.2.1, hmx, Int.toNat_natCast, high_byte m c2 hm, List.append_assoc]
            have hal : (ats (li.take k)).length = 2 * k := by rw [ats_length, List.length_take]; have := HX.out.2.2.2.2.2.2.2.1; omega
            obtain ⟨p, hp⟩ : ∃ p, p = 2 * k := ⟨_, rfl⟩
            obtain ⟨A, hA⟩ : ∃ A, A = ats (li.take k) := ⟨_, rfl⟩
            rw [← hA] at hats hal HO
            rw [← hp] at hal
            have hpk : 2 * (k : Int) = (p : Int) := by omega
            have hp54 : p < 55 := by omega
            have hp0 : (0 : Int) ≤ (p : Int) := Int.natCast_nonneg _
            have HZ := Lib.hid (And.intro hats (And.intro hal (And.intro hb0 (And.intro hb1 hm))))
            clear hats hal hc2 hm hA hp hb0 hb1
            have hOnce : True := trivial
            go_upto_region 8 with fail
            go_wp2_with (clear hOnce; refine list_updateZ rfl 34 3 4 _ _ _ rfl HX.out.1 Tryz.underlying34 Tryz.underlying3 rfl rfl rfl (Nat.lt_of_le_of_lt HX.out.2.2.2.1 (Nat.lt_of_le_of_lt hk (by decide))) ?_; intro w4 hM4 hk4; replace hM4 : MapZ w4 (G + 2) (up L x (.bool true)) := hM4; have hO4 := HO.out.keeps hk4 (by omega); have q1 := hO4.cell p (by omega); have f1 := hO4.free (1 + p); have hO5 := hO4.setCell p 0; rw [of_app' A 0 p HZ.out.2.1 (by omega)] at hO5; have q2 := hO5.cell (p + 1) (by omega); have f2 := hO4.free (1 + (p + 1)); have q3 := hO4.cell (p + 1) (by omega); have hO6 := hO5.setCell (p + 1) c2; rw [← HZ.out.2.2.2.2] at hO6; rw [of_app' (A ++ [0]) c2 (p + 1) (by rw [List.length_append, HZ.out.2.1]; rfl) (by omega), ← HZ.out.1] at hO6; have hk6 : Keeps (fun q => q = G + 1 ∨ q = G + 2) wr ((w4.setCell ⟨G + 1, 1 + p, none⟩ (.int .u8 0)).setCell ⟨G + 1, 1 + (p + 1), none⟩ (.int .u8 m)) := ((hk4.mono fun q _ e => .inr e).trans (Keeps.setCell _ _ _ (.inl rfl))).trans (Keeps.setCell _ _ _ (.inl rfl)); have hM6 := (hM4.keeps (Keeps.setCell (S := fun q => q = G + 1) w4 ⟨G + 1, 1 + p, none⟩ (.int .u8 0) rfl) (by omega)).keeps (Keeps.setCell (S := fun q => q = G + 1) _ ⟨G + 1, 1 + (p + 1), none⟩ (.int .u8 m) rfl) (by omega); have H6 := Lib.hid (And.intro hO6 (And.intro hk6 hM6)); clear hO4 hO5 hO6 hk6 hM6 hM4 hk4; generalize ((Blk.of 5 A).body[p]'_).toNat = o1 at q1; generalize ((Blk.of 5 (A ++ [0])).body[p + 1]'_).toNat = o2 at q2; generalize ((Blk.of 5 A).body[p + 1]'_).toNat = o3 at q3)
            go_roundw
            case rel =>
              refine ⟨k + 1, _, by omega, by go_num, H6.out.2.2, fun y => ?_, allTrue_up HX.out.2.2.1 _, by have := (up_length (L := L) (k := x) (.bool true)).1; have := HX.out.2.2.2.1; omega, okPre_succ HX.out.2.2.2.2.1 (by rw [← HX.out.2.2.2.2.2.2.1]; exact Ho.out), H6.out.1, HX.out.2.2.2.2.2.1.trans H6.out.2.1⟩
              rw [keys_up, HX.out.2.1]
              have hkl := HX.out.2.2.2.2.2.2.2.1
              have he : li[k]'hkl = x := by rw [HX.out.2.2.2.2.2.2.1, List.getD_eq_getElem?_getD, List.getElem?_eq_getElem hkl]; rfl
              rw [List.take_succ_eq_append_getElem hkl, List.mem_append, List.mem_singleton, he, or_comm]
            case measure => simp [Go.RowKit.intOf]; omega
            -- ENDSTORE
          · have hm1' : (x != -1) = true := by simpa using hm1
            have hm1'' : (x == -1) = false := by simpa using hm1
            by_cases c1 : x < 1
            · have Hf := Lib.hid (HX.out.2.2.2.2.2.2.2.2.1 (by unfold okNew okAt; rw [hm1'']; simp; omega))
              clear hlk
              go_wp2_with fail
              go_step3
              exact ⟨HX.out.2.2.2.2.2.2.2.2.2.1, HX.out.2.2.2.2.2.2.2.2.2.2, Hf.out, rfl, ⟨_, rfl, ⟨rfl, trivial⟩, rfl⟩⟩
            · by_cases c2 : 200 ≤ x
              · have Hf := Lib.hid (HX.out.2.2.2.2.2.2.2.2.1 (by unfold okNew okAt; rw [hm1'']; simp; omega))
                clear hlk
                go_wp2_with fail
                go_step3
                exact ⟨HX.out.2.2.2.2.2.2.2.2.2.1, HX.out.2.2.2.2.2.2.2.2.2.2, Hf.out, rfl, ⟨_, rfl, ⟨rfl, trivial⟩, rfl⟩⟩
              · have hcon : (lk L x).isSome = (li.take k).contains x := by
                  rw [keys_lk]
                  have h1 := HX.out.2.1 x
                  cases h : (li.take k).contains x with
                  | true => simpa using h1.2 (by simpa using h)
                  | false => simpa using fun h' => absurd (h1.1 h') (by simpa using h)
                have hokx : okNew (li.take k) x = !((li.take k).contains x) := by
                  unfold okNew okAt; rw [hm1'']; simp; omega
                rw [hcon] at hlk
                obtain ⟨cb, hcb⟩ : ∃ cb, cb = (li.take k).contains x := ⟨_, rfl⟩
                rw [← hcb] at hlk hokx
                have Ho := Lib.hid hokx
                clear hcon hokx hcb
                cases cb with
                | true =>
                  have Hf := Lib.hid (HX.out.2.2.2.2.2.2.2.2.1 Ho.out)
                  go_wp2_with fail
                  go_step3
                  exact ⟨HX.out.2.2.2.2.2.2.2.2.2.1, HX.out.2.2.2.2.2.2.2.2.2.2, Hf.out, rfl, ⟨_, rfl, ⟨rfl, trivial⟩, rfl⟩⟩
                | false =>
                  -- STORE
                  have hb := okNew_bounds Ho.out
                  obtain ⟨hb0, hb1⟩ := hb
                  obtain ⟨c2, hc2⟩ : ∃ c : UInt8, x + 1 = (c.toNat : Int) := ⟨UInt8.ofNat (x + 1).toNat, by rw [UInt8.toNat_ofNat']; omega⟩
                  obtain ⟨m, hm⟩ : ∃ m, m = c2.toNat := ⟨_, rfl⟩
                  have hmx : x + 1 = (m : Int) := by rw [hm]; exact hc2
                  have hm2 : (m : Int) < 256 := by have := c2.toNat_lt; omega
                  have hm0 : (0 : Int) ≤ (m : Int) := Int.natCast_nonneg _
                  have v0 : wrap64 (m : Int) = (m : Int) := IntWalk.wrap64_in _ (by omega)
                  have v1 : (m : Int) / 256 = 0 := by omega
                  have v2 : (m : Int) % 256 = (m : Int) := by omega
                  have hats : ats (li.take (k + 1)) = ats (li.take k) ++ [0] ++ [c2] := by
                    rw [ats_succ HX.out.2.2.2.2.2.2.2.1, ← HX.out.2.2.2.2.2.2.1, hmx, Int.toNat_natCast, high_byte m c2 hm, List.append_assoc]
                  have hal : (ats (li.take k)).length = 2 * k := by rw [ats_length, List.length_take]; have := HX.out.2.2.2.2.2.2.2.1; omega
                  obtain ⟨p, hp⟩ : ∃ p, p = 2 * k := ⟨_, rfl⟩
                  obtain ⟨A, hA⟩ : ∃ A, A = ats (li.take k) := ⟨_, rfl⟩
                  rw [← hA] at hats hal HO
                  rw [← hp] at hal
                  have hpk : 2 * (k : Int) = (p : Int) := by omega
                  have hp54 : p < 55 := by omega
                  have hp0 : (0 : Int) ≤ (p : Int) := Int.natCast_nonneg _
                  have HZ := Lib.hid (And.intro hats (And.intro hal (And.intro hb0 (And.intro hb1 hm))))
                  clear hats hal hc2 hm hA hp hb0 hb1
                  have hOnce : True := trivial
                  go_upto_region 8 with fail
                  go_wp2_with (clear hOnce; refine list_updateZ rfl 34 3 4 _ _ _ rfl HX.out.1 Tryz.underlying34 Tryz.underlying3 rfl rfl rfl (Nat.lt_of_le_of_lt HX.out.2.2.2.1 (Nat.lt_of_le_of_lt hk (by decide))) ?_; intro w4 hM4 hk4; replace hM4 : MapZ w4 (G + 2) (up L x (.bool true)) := hM4; have hO4 := HO.out.keeps hk4 (by omega); have q1 := hO4.cell p (by omega); have f1 := hO4.free (1 + p); have hO5 := hO4.setCell p 0; rw [of_app' A 0 p HZ.out.2.1 (by omega)] at hO5; have q2 := hO5.cell (p + 1) (by omega); have f2 := hO4.free (1 + (p + 1)); have q3 := hO4.cell (p + 1) (by omega); have hO6 := hO5.setCell (p + 1) c2; rw [← HZ.out.2.2.2.2] at hO6; rw [of_app' (A ++ [0]) c2 (p + 1) (by rw [List.length_append, HZ.out.2.1]; rfl) (by omega), ← HZ.out.1] at hO6; have hk6 : Keeps (fun q => q = G + 1 ∨ q = G + 2) wr ((w4.setCell ⟨G + 1, 1 + p, none⟩ (.int .u8 0)).setCell ⟨G + 1, 1 + (p + 1), none⟩ (.int .u8 m)) := ((hk4.mono fun q _ e => .inr e).trans (Keeps.setCell _ _ _ (.inl rfl))).trans (Keeps.setCell _ _ _ (.inl rfl)); have hM6 := (hM4.keeps (Keeps.setCell (S := fun q => q = G + 1) w4 ⟨G + 1, 1 + p, none⟩ (.int .u8 0) rfl) (by omega)).keeps (Keeps.setCell (S := fun q => q = G + 1) _ ⟨G + 1, 1 + (p + 1), none⟩ (.int .u8 m) rfl) (by omega); have H6 := Lib.hid (And.intro hO6 (And.intro hk6 hM6)); clear hO4 hO5 hO6 hk6 hM6 hM4 hk4; generalize ((Blk.of 5 A).body[p]'_).toNat = o1 at q1; generalize ((Blk.of 5 (A ++ [0])).body[p + 1]'_).toNat = o2 at q2; generalize ((Blk.of 5 A).body[p + 1]'_).toNat = o3 at q3)
                  go_roundw
                  case rel =>
                    refine ⟨k + 1, _, by omega, by go_num, H6.out.2.2, fun y => ?_, allTrue_up HX.out.2.2.1 _, by have := (up_length (L := L) (k := x) (.bool true)).1; have := HX.out.2.2.2.1; omega, okPre_succ HX.out.2.2.2.2.1 (by rw [← HX.out.2.2.2.2.2.2.1]; exact Ho.out), H6.out.1, HX.out.2.2.2.2.2.1.trans H6.out.2.1⟩
                    rw [keys_up, HX.out.2.1]
                    have hkl := HX.out.2.2.2.2.2.2.2.1
                    have he : li[k]'hkl = x := by rw [HX.out.2.2.2.2.2.2.1, List.getD_eq_getElem?_getD, List.getElem?_eq_getElem hkl]; rfl
                    rw [List.take_succ_eq_append_getElem hkl, List.mem_append, List.mem_singleton, he, or_comm]
                  case measure => simp [Go.RowKit.intOf]; omega
                  -- ENDSTORE
        · obtain rfl : k = 16 := by omega
          have hpl : placesOk li = true := placesOk_all (fun j hj => hok j (by omega))
          rw [List.take_of_length_le (by omega)] at hO
          have Hp := Lib.hid (show putIndex li = (Blk.of 5 (ats li), true) by unfold putIndex; rw [if_pos ⟨H16.out, hpl⟩])
          have hg := hz.has
          have hh := hO.has
          have hr := hO.row
          have HZ := Lib.hid (And.intro hz hbw)
          clear hM hL hT hLl hok hK hz hbw hO hpl
          go_wp2_with fail
          try rw [jumps_ret]
          refine bodyPost_ret (results_two rfl (resOne_blk rfl (BlkAt.setRow HZ.out.1 _).row) (resOne_tmp _ _ _)) rfl ?_
          exact ⟨by rw [Hp.out]; rfl, HZ.out.2.setRow (by rw [HW.out.1]; exact Nat.le_refl _) _⟩
    · have hp : putIndex li = (Blk.zero, false) := by unfold putIndex; rw [if_neg (fun e => h16 e.1)]
      have e16 : ((li.length : Int) != 16) = true := by
        have : ((li.length : Int) == 16) = false := by simpa using (fun e : (li.length : Int) = 16 => h16 (by omega))
        rw [bne, this]; rfl
      have Hp := Lib.hid hp
      clear hp h16
      go_wp2_with fail
      go_step3
      exact ⟨H2.out.2.2.2.1, H2.out.1, Hp.out, rfl, ⟨_, rfl, ⟨rfl, trivial⟩, rfl⟩⟩
end Go.Proofs.YtbbnejehglonjaaGreat

/- DERIVED. Contract of ino.Put. -/
namespace Go.Proofs.YtbbnejehglonjaaGreat
open Go.RowKit
attribute [local irreducible] Calls
set_option maxRecDepth 100000

theorem lit7 {w : World} {g : Nat} {x0 x1 x2 x3 x4 x5 x6 : Int} (c0 c1 c2 c3 c4 c5 c6 : UInt8) (h : objAt w g = some (.cells #[.int .u8 x0, .int .u8 x1, .int .u8 x2, .int .u8 x3, .int .u8 x4, .int .u8 x5, .int .u8 x6] 5 (0, 0))) (e0 : x0 = c0.toNat) (e1 : x1 = c1.toNat) (e2 : x2 = c2.toNat) (e3 : x3 = c3.toNat) (e4 : x4 = c4.toNat) (e5 : x5 = c5.toNat) (e6 : x6 = c6.toNat) {B : Nat} (hb : B ≤ g) :
    BRow w B (.slice (some ⟨g, 0, none⟩) 7 7) [c0, c1, c2, c3, c4, c5, c6] := by
  subst e0 e1 e2 e3 e4 e5 e6
  exact ⟨rfl, .inr ⟨g, 7, _, rfl, hb, h, Nat.le_refl _, by decide, rfl, rfl⟩⟩
theorem idBytes_seven (l a g : Int) (_ : 0 ≤ a) (_ : 0 ≤ g) : idBytes ⟨l, a, g⟩ = [UInt8.ofNat (l % 256).toNat, UInt8.ofNat (a.toNat / 256 % 256), UInt8.ofNat (a.toNat % 256), UInt8.ofNat (g.toNat / 16777216 % 256), UInt8.ofNat (g.toNat / 65536 % 256), UInt8.ofNat (g.toNat / 256 % 256), UInt8.ofNat (g.toNat % 256)] := by
  unfold idBytes
  rw [high_two, high4]
  rfl
set_option maxHeartbeats 4000000 in
theorem inoPut_any (i : Id) (h0 : -1 ≤ i.label) (h1 : i.label < 9007199254740992) (h2 : -1 ≤ i.at_) (h3 : i.at_ < 9007199254740992) (hi : i.wf) (w : World) : Calls Tryz.prog 155 #[.agg i.cells] w fun e w' => ∃ v, e = .returned v ∧ BRow w' w.heap.size v (putID i) ∧ (mayID i = false → v = .slice none 0 0) ∧ (mayID i = true → ∃ g, v = .slice (some ⟨g, 0, none⟩) 7 7) ∧ Below w.heap.size w w' := by
  have HM := Lib.hid (fun w => inoMay_any i h0 h1 h2 h3 w)
  obtain ⟨l, at_, gen⟩ := i
  obtain ⟨g0, g1⟩ := hi
  dsimp only at g0 g1 HM
  rw [show (⟨l, at_, gen⟩ : Id).cells = #[.int .i64 l, .int .i64 at_, .int .u32 gen] from rfl] at HM ⊢
  have hc : objAt (w.alloc (.cells #[.int .i64 l, .int .i64 at_, .int .u32 gen] 66)) w.heap.size = some (.cells #[.int .i64 l, .int .i64 at_, .int .u32 gen] 66 (0, 0)) := by rw [objAt_alloc, if_pos rfl]
  have hw : Below w.heap.size w (w.alloc (.cells #[.int .i64 l, .int .i64 at_, .int .u32 gen] 66)) := grow_alloc (Below.refl _ _) _
  obtain ⟨G, hG⟩ : ∃ G, G = w.heap.size := ⟨_, rfl⟩
  obtain ⟨w0, hw0⟩ : ∃ w0, w0 = w.alloc (.cells #[.int .i64 l, .int .i64 at_, .int .u32 gen] 66) := ⟨_, rfl⟩
  rw [← hG, ← hw0] at hc
  rw [← hw0] at hw
  have HG := Lib.hid (And.intro hG (And.intro hw0 (And.intro hc hw)))
  cases hm : mayID ⟨l, at_, gen⟩ with
  | false =>
    rw [hm] at HM
    have Hp := Lib.hid (show putID ⟨l, at_, gen⟩ = [] by unfold putID; rw [hm]; rfl)
    clear hm h0 h1 h2 h3 hw hc
    go_enter Tryz.func155, Tryz.ntmps155
    go_upto_region 1 with fail
    rw [← hw0, ← hG]
    clear hw0 hG
    have c0 := cell_obj HG.out.2.2.1 0
    have c1 := cell_obj HG.out.2.2.1 1
    have c2 := cell_obj HG.out.2.2.1 2
    go_wp2_with (go_at_call 191; refine (HM.out _).mono ?_; rintro e w1 ⟨rfl, b1⟩)
    go_ret
    exact ⟨_, rfl, by rw [Hp.out]; exact BRow.nil _ _, fun _ => rfl, fun h => by simp at h, grow_trans HG.out.2.2.2 b1⟩
  | true =>
    obtain ⟨s0, s1, s2, s3, s4⟩ := mayID_small hm
    dsimp only at s0 s1 s2 s3 s4
    rw [hm] at HM
    have Hp := Lib.hid (show putID ⟨l, at_, gen⟩ = [UInt8.ofNat (l % 256).toNat, UInt8.ofNat (at_.toNat / 256 % 256), UInt8.ofNat (at_.toNat % 256), UInt8.ofNat (gen.toNat / 16777216 % 256), UInt8.ofNat (gen.toNat / 65536 % 256), UInt8.ofNat (gen.toNat / 256 % 256), UInt8.ofNat (gen.toNat % 256)] by unfold putID; rw [hm, if_pos rfl, idBytes_seven l at_ gen s2 g0])
    have Hs := Lib.hid (And.intro s0 (And.intro s1 (And.intro s2 (And.intro s3 (And.intro g0 g1)))))
    clear hm h0 h1 h2 h3 hw hc
    by_cases hl : 0 ≤ l
    · clear s0 s1 s2 s3 s4 g0 g1
      go_enter Tryz.func155, Tryz.ntmps155
      go_upto_region 1 with fail
      rw [← hw0, ← hG]
      clear hw0 hG
      have c0 := cell_obj HG.out.2.2.1 0
      have c1 := cell_obj HG.out.2.2.1 1
      have c2 := cell_obj HG.out.2.2.1 2
      go_upto_region 3 with (go_at_call 191; refine (HM.out _).mono ?_; rintro e w1 ⟨rfl, b1⟩)
      have d0 := grow_cell b1 c0
      have d1 := grow_cell b1 c1
      have d2 := grow_cell b1 c2
      clear c0 c1 c2
      go_wp2_with fail
      go_ret
      have hs := Hs.out
      refine ⟨_, rfl, ?_, fun h => by simp at h, fun _ => ⟨_, rfl⟩, grow_alloc (grow_trans HG.out.2.2.2 b1) _⟩
      rw [Hp.out]
      refine lit7 _ _ _ _ _ _ _ (by rw [objAt_alloc, if_pos rfl]) ?_ ?_ ?_ ?_ ?_ ?_ ?_ (grow_trans HG.out.2.2.2 b1).size
      · simp; omega
      all_goals (rw [ofNat_mod]; try omega)
    · obtain rfl : l = -1 := by omega
      clear s0 s1 s2 s3 s4 g0 g1
      go_enter Tryz.func155, Tryz.ntmps155
      go_upto_region 1 with fail
      rw [← hw0, ← hG]
      clear hw0 hG
      have c0 := cell_obj HG.out.2.2.1 0
      have c1 := cell_obj HG.out.2.2.1 1
      have c2 := cell_obj HG.out.2.2.1 2
      go_upto_region 3 with (go_at_call 191; refine (HM.out _).mono ?_; rintro e w1 ⟨rfl, b1⟩)
      have d0 := grow_cell b1 c0
      have d1 := grow_cell b1 c1
      have d2 := grow_cell b1 c2
      clear c0 c1 c2
      go_wp2_with fail
      go_ret
      have hs := Hs.out
      refine ⟨_, rfl, ?_, fun h => by simp at h, fun _ => ⟨_, rfl⟩, grow_alloc (grow_trans HG.out.2.2.2 b1) _⟩
      rw [Hp.out]
      refine lit7 _ _ _ _ _ _ _ (by rw [objAt_alloc, if_pos rfl]) ?_ ?_ ?_ ?_ ?_ ?_ ?_ (grow_trans HG.out.2.2.2 b1).size
      · decide
      all_goals (rw [ofNat_mod]; try omega)
end Go.Proofs.YtbbnejehglonjaaGreat

/- DERIVED. Contracts of entry's MayName, May. -/
namespace Go.Proofs.YtbbnejehglonjaaGreat
open Go.RowKit
attribute [local irreducible] Calls
set_option maxRecDepth 100000

theorem badName_high : ∀ r, 128 ≤ r → badName r = true := fun r h => by simp [badName]; omega
theorem mayName_pred (w : World) : PredAt Tryz.prog 225 #[] encR badName w := fun W r _ => by
  unfold FnGives
  by_cases h1 : r < 33
  · have z1 : (r : Int) < 33 := by omega
    go_enter Tryz.func225, Tryz.ntmps225
    go_wp2
    go_ret
    exact ⟨by simp [badName, h1], 0, rfl⟩
  · have z1 : ¬ (r : Int) < 33 := by omega
    by_cases h2 : 126 < r
    · have z2 : (126 : Int) < (r : Int) := by omega
      go_enter Tryz.func225, Tryz.ntmps225
      go_wp2
      go_ret
      exact ⟨by simp [badName, h1, h2], 0, rfl⟩
    · have z2 : ¬ (126 : Int) < (r : Int) := by omega
      by_cases h3 : r = 47
      · subst h3
        go_enter Tryz.func225, Tryz.ntmps225
        go_wp2
        go_ret
        exact ⟨by simp [badName], 0, rfl⟩
      · have z3 : ((r : Int) == 47) = false := by simp; omega
        go_enter Tryz.func225, Tryz.ntmps225
        go_wp2
        go_ret
        exact ⟨by simp [badName, h1, h2, h3], 0, rfl⟩

theorem entryMayName (s : ByteArray) (w : World) :
    Calls Tryz.prog 192 #[.string s] w fun e w' => e = .returned (.bool (mayName s.data.toList)) ∧ Below w.heap.size w w' := by
  have hlen : s.data.toList.length = s.size := by simp
  by_cases h1 : s.data.toList = [46]
  · have d1 : (s.toList == [46]) = true := by rw [eqs, h1]; rfl
    have Hr := Lib.hid (show mayName s.data.toList = false by rw [h1]; rfl)
    clear h1 hlen
    go_enter Tryz.func192, Tryz.ntmps192
    go_wp2_with fail
    go_ret
    exact ⟨by rw [Hr.out]; rfl, Below.refl _ _⟩
  · have d1 : (s.toList == [46]) = false := by rw [eqs]; simpa using h1
    by_cases h2 : s.data.toList = [46, 46]
    · have d2 : (s.toList == [46, 46]) = true := by rw [eqs, h2]; rfl
      have Hr := Lib.hid (show mayName s.data.toList = false by rw [h2]; rfl)
      clear h1 h2 hlen
      go_enter Tryz.func192, Tryz.ntmps192
      go_wp2_with fail
      go_ret
      exact ⟨by rw [Hr.out]; rfl, Below.refl _ _⟩
    · have d2 : (s.toList == [46, 46]) = false := by rw [eqs]; simpa using h2
      by_cases h3 : 1 ≤ s.size
      · by_cases h4 : s.size ≤ 14
        · have Hr := Lib.hid (mayName_parts s.data.toList (by rw [← eqs]; exact d1) (by rw [← eqs]; exact d2) (by omega) (by omega))
          clear h1 h2 hlen
          go_enter Tryz.func192, Tryz.ntmps192
          go_wp2_with fail
          refine (Tryz.strings_ContainsFunc 225 #[] (fun _ _ => by kernel_rfl) badName s _ (mayName_pred _)).mono ?_
          rintro e w1 ⟨rfl, b1⟩
          rw [idxFunc_bytes badName badName_high s]
          generalize (s.data.toList.any fun c => badName c.toNat) = bb at *
          go_wp2_with fail
          go_ret
          exact ⟨by rw [Hr.out]; rfl, b1⟩
        · have Hr := Lib.hid (mayName_long (l := s.data.toList) (by omega))
          clear h1 h2 hlen
          go_enter Tryz.func192, Tryz.ntmps192
          go_wp2_with fail
          go_ret
          exact ⟨by rw [Hr.out]; rfl, Below.refl _ _⟩
      · have Hr := Lib.hid (mayName_nil (l := s.data.toList) (by omega))
        clear h1 h2 hlen
        go_enter Tryz.func192, Tryz.ntmps192
        go_wp2_with fail
        go_ret
        exact ⟨by rw [Hr.out]; rfl, Below.refl _ _⟩

/-- A folder that floats hold. -/
structure Id.fl (i : Id) : Prop where
  l0 : -1 ≤ i.label
  l1 : i.label < 9007199254740992
  a0 : -1 ≤ i.at_
  a1 : i.at_ < 9007199254740992
set_option maxHeartbeats 4000000 in
theorem entryMay_any (n : Nm) (hf : n.dir.fl) (w : World) : Calls Tryz.prog 153 #[.agg n.cells] w fun e w' => e = .returned (.bool (mayEntry n)) ∧ Below w.heap.size w w' := by
  rw [mayEntry_parts]
  have h1 := fun w' => inoMay_any n.dir hf.l0 hf.l1 hf.a0 hf.a1 w'
  have h2 := fun w' => entryMayName n.name w'
  obtain ⟨⟨l, a, g⟩, t, at_, gen⟩ := n
  rw [show (⟨l, a, g⟩ : Id).cells = #[.int .i64 l, .int .i64 a, .int .u32 g] from rfl] at h1
  rw [show (⟨⟨l, a, g⟩, t, at_, gen⟩ : Nm).cells = #[.int .i64 l, .int .i64 a, .int .u32 g, .string t, .int .i64 at_, .int .u32 gen] from rfl]
  dsimp only at h2 ⊢
  generalize mayID ⟨l, a, g⟩ = m1 at *
  generalize mayName t.data.toList = m2 at *
  unfold okAt
  have H1 := Lib.hid h1
  have H2 := Lib.hid h2
  have hb : Below w.heap.size w (w.alloc (.cells #[.int .i64 l, .int .i64 a, .int .u32 g, .string t, .int .i64 at_, .int .u32 gen] 100)) := (Below.refl _ _).alloc (Nat.le_refl _) _
  have hO : objAt (w.alloc (.cells #[.int .i64 l, .int .i64 a, .int .u32 g, .string t, .int .i64 at_, .int .u32 gen] 100)) w.heap.size = some (.cells #[.int .i64 l, .int .i64 a, .int .u32 g, .string t, .int .i64 at_, .int .u32 gen] 100 (0, 0)) := by rw [objAt_alloc, if_pos rfl]
  obtain ⟨G, hG⟩ : ∃ G, G = w.heap.size := ⟨_, rfl⟩
  rw [← hG] at hO
  clear h1 h2 hf
  go_enter Tryz.func153, Tryz.ntmps153
  go_upto_region 1 with (fail)
  rw [← hG]
  have HG := Lib.hid hG
  clear hG
  generalize w.alloc (.cells #[.int .i64 l, .int .i64 a, .int .u32 g, .string t, .int .i64 at_, .int .u32 gen] 100) = w0 at *
  have d0 : w0.cell? ⟨G, 0, none⟩ = some (.int .i64 l) := cell_obj hO 0
  have d1 : w0.cell? ⟨G, 1, none⟩ = some (.int .i64 a) := cell_obj hO 1
  have d2 : w0.cell? ⟨G, 2, none⟩ = some (.int .u32 g) := cell_obj hO 2
  have HC : ∀ w1, Below w0.heap.size w0 w1 → w1.cell? ⟨G, 3, none⟩ = some (.string t) ∧ w1.cell? ⟨G, 4, none⟩ = some (.int .i64 at_) ∧ w1.cell? ⟨G, 5, none⟩ = some (.int .u32 gen) := fun w1 b => ⟨cell_obj (grow_obj b hO) 3, cell_obj (grow_obj b hO) 4, cell_obj (grow_obj b hO) 5⟩
  clear hO
  have HC' := Lib.hid HC
  clear HC
  cases m1
  · go_wp2_with (first | (go_at_call 191; refine (H1.out _).mono ?_; rintro e w1 ⟨rfl, be1⟩))
    go_ret
    exact ⟨rfl, hb.trans (be1.mono hb.size)⟩
  · cases m2
    · go_wp2_with (first | (go_at_call 191; refine (H1.out _).mono ?_; rintro e w1 ⟨rfl, be1⟩; obtain ⟨c3, c4, c5⟩ := HC'.out _ be1; clear c4 c5) | (go_at_call 192; refine (H2.out _).mono ?_; rintro e w2 ⟨rfl, be2⟩))
      go_ret
      exact ⟨rfl, hb.trans ((grow_trans be1 be2).mono hb.size)⟩
    · go_wp2_with (first | (go_at_call 191; refine (H1.out _).mono ?_; rintro e w1 ⟨rfl, be1⟩; obtain ⟨c3, c4, c5⟩ := HC'.out _ be1; clear c4 c5) | (go_at_call 192; refine (H2.out _).mono ?_; rintro e w2 ⟨rfl, be2⟩; obtain ⟨f3, f4, f5⟩ := HC'.out _ (grow_trans be1 be2); clear f3))
      all_goals go_ret
      all_goals exact ⟨by first | (simp [*]; done) | (simp [*]; omega), hb.trans ((grow_trans be1 be2).mono hb.size)⟩
end Go.Proofs.YtbbnejehglonjaaGreat
