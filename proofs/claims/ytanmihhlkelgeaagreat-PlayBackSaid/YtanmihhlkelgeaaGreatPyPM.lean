/- DERIVED. clathrilaw28.PlayBack returns true. -/
import Derived.Test.YtanmihhlkelgeaaGreatMg31
namespace Go.Proofs.YtanmihhlkelgeaaGreat
open Go.RowKit Go.ChangeShapes Go.WideShapes
attribute [local irreducible] Calls
set_option maxRecDepth 100000

theorem bounds_u16 {n : Int} (h : (Lit.int .u16 n).wf = true) : 0 ≤ n ∧ n < 65536 := by
  simp [Lit.wf, IntKind.min, IntKind.max] at h
  have : 0 ≤ n ∧ n ≤ 65535 := by simpa [IntKind.bits, IntKind.signed] using h
  omega
set_option maxHeartbeats 8000000 in
theorem walk_PlayBack {H : Type} {enc : TypeId × Value → H} {d : DataW H} {p : List MemPlace} {base : Nat} (a : Option Addr) (len cap : Nat) (cut : Int) (w : World)
    (h : DataW.Trod enc Tryz.prog w 0 (fun _ => true) true 22 (.slice a len cap) d p) (hok : Value.okWide Tryz.prog w .any base 22 (.slice a len cap)) (hcut : (Lit.int .u16 cut).wf = true) :
    Calls Tryz.prog 3 #[.slice a len cap, .int .u16 cut] w fun e w' => e = .returned (.bool true) ∧ Below w.heap.size w w' := by
  obtain ⟨b, rfl, hb⟩ := barg_of h hok
  obtain ⟨cn, rfl⟩ := Int.eq_ofNat_of_zero_le (bounds_u16 hcut).1
  have hcn : cn < 65536 := by have := (bounds_u16 hcut).2; omega
  have Hcn := Lib.hid hcn
  clear h hok hcut hcn
  by_cases hlen : 200 < b.length
  · have hl1 : (200 : Int) < (b.length : Int) := by omega
    clear hb hlen
    go_enter Tryz.func3, Tryz.ntmps3
    go_wp2_with (go_at_call 7; refine (begun_ok _).mono ?_; rintro e w1 ⟨rfl, b1⟩)
    go_ret
    exact ⟨rfl, b1⟩
  · have hl1 : ¬ (200 : Int) < (b.length : Int) := by omega
    have hlen' : b.length ≤ 200 := by omega
    obtain ⟨L, hL⟩ : ∃ L, L = decode b := ⟨_, rfl⟩
    have hLlen : L.length ≤ 200 := by rw [hL]; exact Nat.le_trans (decode_len b) hlen'
    have hSay : ∀ s ∈ L, Say s := by rw [hL]; exact say_decode b
    have hfit : ∀ s ∈ L, s.fits := fun s hs => fits_say (hSay s hs)
    have hback : decode (encode L) = L := by rw [hL]; exact back b
    have hClen : (encode L).length ≤ 420000 := Nat.le_trans (encode_len2 hSay) (by omega)
    have HL := Lib.hid (And.intro hL (And.intro hLlen (And.intro hSay (And.intro hfit (And.intro hback hb)))))
    clear hL hSay hfit hback hb hlen hlen' hLlen
    go_enter Tryz.func3, Tryz.ntmps3
    go_upto_region 6 with (first
      | (go_at_call 7; refine (begun_ok _).mono ?_; rintro e w1 ⟨rfl, b1⟩; have HB1 := Lib.hid b1; clear b1)
      | (go_at_call 8; refine (BArg.decode (HL.out.2.2.2.2.2.below HB1.out) (by have := hl1; omega)).mono ?_; rintro e w2 ⟨v2, rfl, hr2, b2⟩; rw [← HL.out.1] at hr2; obtain ⟨a2, c2, rfl, hat2, hc2, hn2⟩ := hr2.arg; have H2 := Lib.hid (And.intro hat2 (And.intro b2 (And.intro hc2 hn2))); clear hr2 hat2 b2 hc2 hn2))
    have HE := Lib.hid (encode_any (cap := c2) H2.out.1 HL.out.2.2.2.1 (by have := HL.out.2.1; omega))
    go_upto_region 7 with (go_at_call 9; refine HE.out.mono ?_; rintro e w3 ⟨v3, rfl, hr3, b3⟩; obtain ⟨a3, c3, rfl, hA3⟩ := hr3.arg; have H3 := Lib.hid (And.intro hA3 b3); clear hr3 hA3 b3)
    have HD := Lib.hid (H3.out.1.decode (by omega))
    rw [HL.out.2.2.2.2.1] at HD
    go_upto_if 21 with (first
      | (go_at_call 8; refine HD.out.mono ?_; rintro e w4 ⟨v4, rfl, hr4, b4⟩; obtain ⟨a4, c4, rfl, hat4, _, _⟩ := hr4.arg; have HS := Lib.hid (sameSteps_any (ca := c4) (cb := c2) hat4 ((H2.out.1.grow H3.out.2).grow b4) (fun s hs => say_keep (HL.out.2.2.1 s hs)) (by have := HL.out.2.1; omega)); have HB4 := Lib.hid b4; clear hr4 hat4 b4)
      | (go_at_call 10; refine HS.out.mono ?_; rintro e w5 ⟨rfl, b5⟩; have HB5 := Lib.hid b5; clear b5))
    have HB := Lib.hid (grow_trans (grow_trans (grow_trans (grow_trans HB1.out H2.out.2.1) H3.out.2) HB4.out) HB5.out)
    by_cases h0 : (encode L).length = 0
    · have hL0 : L.length = 0 := by rw [encode_nil HL.out.2.2.1 (List.length_eq_zero_iff.1 h0)]; rfl
      have z1 : (((encode L).length : Int) == 0) = true := by rw [h0]; rfl
      have z2 : ((L.length : Int) == 0) = true := by rw [hL0]; rfl
      clear h0 hL0
      go_wp2_with fail
      go_ret
      exact ⟨rfl, HB.out⟩
    · have z1 : (((encode L).length : Int) == 0) = false := by simpa using h0
      have hpos : 0 < (encode L).length := by omega
      obtain ⟨C, hC⟩ : ∃ C, C = encode L := ⟨_, rfl⟩
      have hH3 := H3.out.1
      rw [← hC] at z1 hClen hH3 hpos ⊢
      obtain ⟨k, hk⟩ : ∃ k, k = cn % C.length := ⟨_, rfl⟩
      have hklt : k < C.length := by rw [hk]; exact Nat.mod_lt _ hpos
      have hw64 : wrap64 (cn : Int) = (cn : Int) := IntWalk.wrap64_in _ (by have := Hcn.out; omega)
      have htm : (cn : Int).tmod (C.length : Int) = (k : Int) := by rw [hk, Int.ofNat_tmod]
      have hkc : k ≤ c3 := by have := hH3.le; omega
      have hk1 : (k : Int) ≤ (c3 : Int) := by omega
      have ha3 : a3 ≠ none := fun e => by have := (hH3.nil e).1; rw [this] at hpos; simp at hpos
      obtain ⟨n, hn, hcut⟩ := cut_off HL.out.2.2.1 k (by rw [← encode_say HL.out.2.2.1, ← hC]; exact hklt)
      rw [← encode_say HL.out.2.2.1, ← hC] at hcut
      have hdk := (((hH3.below HB4.out).below HB5.out).take k (Nat.le_of_lt hklt) ha3).decode (by rw [List.length_take]; omega)
      rw [hcut, show (C.take k).length = k by rw [List.length_take]; omega] at hdk
      have hxl : (L.take n).length = n := by rw [List.length_take]; omega
      obtain ⟨X, hX⟩ : ∃ X, X = L.take n := ⟨_, rfl⟩
      rw [← hX] at hdk hxl
      have HDK := Lib.hid hdk
      have HX := Lib.hid (And.intro hX hn)
      have hneI : ¬ (C.length : Int) = 0 := by omega
      clear hC hH3 hk hklt ha3 hcut hdk hX hn h0
      go_upto_region 12 with (go_at_call 8; refine HDK.out.mono ?_; rintro e w6 ⟨v6, rfl, hr6, b6⟩; obtain ⟨a6, c6, rfl, hat6, _, _⟩ := hr6.arg)
      have hnL : n < L.length := HX.out.2
      have hx1 : (X.length : Int) < (L.length : Int) := by omega
      have hx2 : (X.length : Int) ≤ (c2 : Int) := by have := H2.out.2.2.1; omega
      have hx3 : X.length ≤ c2 := by omega
      have hlt6 := ((((H2.out.1.grow H3.out.2).grow HB4.out).grow HB5.out).grow b6).take n
      rw [← HX.out.1] at hlt6
      have hs2 := (sameSteps_any (ca := c6) (cb := c2) hat6 hlt6 (fun s hs => say_keep (HL.out.2.2.1 s (by rw [HX.out.1] at hs; exact List.mem_of_mem_take hs))) (by have := HL.out.2.1; omega))
      rw [hxl] at hs2
      have HS2 := Lib.hid hs2
      have hx4 : (n : Int) < (L.length : Int) := by omega
      have hx5 : (n : Int) ≤ (c2 : Int) := by omega
      have HB6 := Lib.hid b6
      clear hs2 hat6 hlt6 hr6 b6
      go_wp2_with (go_at_call 10; refine HS2.out.mono ?_; rintro e w7 ⟨rfl, b7⟩)
      go_ret
      exact ⟨by first | rfl | simp, grow_trans (grow_trans HB.out HB6.out) b7⟩
end Go.Proofs.YtanmihhlkelgeaaGreat
