/- DERIVED. Contracts and laws that the proofs of this seat share, part 32 of 36: FiO FiP RtA. -/
import Derived.Test.YtbbnejehglonjaaGreatMf00
import Derived.Test.YtbbnejehglonjaaGreatMf26
import Derived.Test.YtbbnejehglonjaaGreatMf27
import Derived.Test.YtbbnejehglonjaaGreatMf30
import Derived.Test.YtbbnejehglonjaaGreatMf31
namespace Go.Proofs.YtbbnejehglonjaaGreat
set_option maxHeartbeats 8000000
set_option maxRecDepth 100000
set_option linter.unusedSimpArgs false
set_option linter.unusedVariables false
section
open Go.RowKit
attribute [local irreducible] Calls

theorem trunc1_any (x : Int) (w : World) : Calls Tryz.prog 90 #[.int .i64 x] w fun e w' => e = .returned (.bool (x != -1)) ∧ w' = w := by
 go_enter Tryz.func90, Tryz.ntmps90
 go_wp2_with fail
 go_ret
 exact ⟨rfl, rfl⟩
theorem idxInt_any {w : World} {B : Nat} {g cap : Nat} {l : List Int} (h : IRow w B (.slice (some ⟨g, 0, none⟩) l.length cap) l) (hl : l.length ≤ 1000) :
 Calls Tryz.prog 150 #[.slice (some ⟨g, 0, none⟩) l.length cap, .func (.func 90) #[] #[]] w fun e w' => ∃ r : Int, e = .returned (.int .i64 r) ∧ ((0 ≤ r) ↔ l.all (· == -1) = false) ∧ w' = w := by
 have H0 := Lib.hid h
 clear h
 go_enter Tryz.func150, Tryz.ntmps150
 go_wp2_with fail
 go_loopw [8] (fun q wr => ∃ k : Nat, k ≤ l.length ∧ q = .int .i64 k ∧ (l.take k).all (· == -1) = true ∧ wr = w) (fun q _ => l.length - (Go.RowKit.intOf q).toNat)
 case atStart => exact ⟨0, Nat.zero_le _, rfl, rfl, rfl⟩
 case round =>
  obtain ⟨k, hk, rfl, hno, hwr⟩ := hrel
  subst hwr
  by_cases hlt : k < l.length
  · have hc := IRow.get H0.out k hlt
    have hlti : (k : Int) < (l.length : Int) := by omega
    have hk2 : (k : Int) < 1000 := by omega
    obtain ⟨x, hx⟩ : ∃ x, x = l.getD k 0 := ⟨_, rfl⟩
    rw [← hx] at hc
    have ht : l.take (k + 1) = l.take k ++ [x] := by
     rw [List.take_succ_eq_append_getElem hlt, hx, List.getD_eq_getElem?_getD, List.getElem?_eq_getElem hlt]; rfl
    have HX := Lib.hid (And.intro hno (And.intro hx ht))
    clear hno hx ht
    by_cases hp : x = -1
    · have hp' : (x != -1) = false := by simpa using hp
      have Hp := Lib.hid hp
      clear hp
      go_wp2_with (go_at_call 90; refine (trunc1_any x _).mono ?_; rintro e w2 ⟨rfl, hw2⟩; obtain rfl := hw2.symm)
      go_roundw
      case rel => exact ⟨k + 1, by omega, by go_num, by rw [HX.out.2.2, List.all_append, HX.out.1, Hp.out]; rfl, trivial⟩
      case measure => simp [Go.RowKit.intOf]; omega
    · have hp' : (x != -1) = true := by simpa using hp
      have Hp := Lib.hid hp
      clear hp
      go_wp2_with (go_at_call 90; refine (trunc1_any x _).mono ?_; rintro e w2 ⟨rfl, hw2⟩; obtain rfl := hw2.symm)
      refine bodyPost_ret (results_one rfl (resOne_tmp _ _ _)) rfl ?_
      refine ⟨(k : Int), rfl, ⟨fun _ => ?_, fun _ => by omega⟩, rfl⟩
      rw [List.all_eq_false]
      refine ⟨x, ?_, by have := Hp.out; simpa using this⟩
      rw [HX.out.2.1, List.getD_eq_getElem?_getD, List.getElem?_eq_getElem hlt]
      exact List.getElem_mem _
  · obtain rfl : k = l.length := by omega
    have HX := Lib.hid hno
    clear hno
    go_wp2_with fail
    refine bodyPost_ret (results_one rfl (resOne_tmp _ _ _)) rfl ?_
    refine ⟨-1, rfl, ⟨fun e => by omega, fun e => ?_⟩, rfl⟩
    have := HX.out
    rw [List.take_of_length_le (Nat.le_refl _), e] at this
    cases this
theorem hasInt_any {w : World} {B : Nat} {g cap : Nat} {l : List Int} (h : IRow w B (.slice (some ⟨g, 0, none⟩) l.length cap) l) (hl : l.length ≤ 1000) :
 Calls Tryz.prog 89 #[.slice (some ⟨g, 0, none⟩) l.length cap, .func (.func 90) #[] #[]] w fun e w' => e = .returned (.bool (!l.all (· == -1))) ∧ w' = w := by
 have HI := Lib.hid (idxInt_any h hl)
 clear h
 cases hall : l.all (· == -1) with
 | true =>
   rw [hall] at HI
   clear hall
   go_enter Tryz.func89, Tryz.ntmps89
   go_wp2_with (go_at_call 150; refine HI.out.mono ?_; rintro e w2 ⟨r, rfl, hr, hw2⟩; obtain rfl := hw2.symm; have hr' : ¬ (0 ≤ r) := fun e => by have := hr.1 e; cases this)
   go_ret
   exact ⟨rfl, rfl⟩
 | false =>
   rw [hall] at HI
   clear hall
   go_enter Tryz.func89, Tryz.ntmps89
   go_wp2_with (go_at_call 150; refine HI.out.mono ?_; rintro e w2 ⟨r, rfl, hr, hw2⟩; obtain rfl := hw2.symm; have hr' : 0 ≤ r := hr.2 rfl)
   go_ret
   exact ⟨rfl, rfl⟩
section
variable {w w' : World} {Sd : Nat → Prop} {t v mp mt : Nat} {L : PL} {T : ML} {d reg : Nat} {s : Sh} {gb cap m : Nat} {st : VSt} {c : Nat}
structure TrS (w wr : World) (Sd : Nat → Prop) (t v mp mt d reg : Nat) (sh : Sh) (gb cap m : Nat) (st : VSt) (c : Nat) (F gi ci : Nat) (a : Int) (T : ML) (q : Ws) : Prop where
 tx : TxV wr Sd t v mp mt q.L T d reg sh gb cap m st c
 fl : FlAt wr w.heap.size F t a q.f gi ci
 kp : Keeps (fun r => r = mp ∨ r = mt) w wr
 wf : q.f.n.wf
theorem fTrunc_any (H : TxV w Sd t v mp mt L T d reg s gb cap m st c) (a size : Int) :
 Calls Tryz.prog 37 #[.pointer (some ⟨t, 0, none⟩), .int .i64 a, .int .i64 size] w fun e w' => e = .returned (.int .i64 (truncF st.bs L T a size).1) ∧
  TxV w' Sd t v mp mt (truncF st.bs L T a size).2 T d reg s gb cap m st c ∧ Keeps (fun q => q = mp ∨ q = mt) w w' := by
 have HO := Lib.hid (fOf_any H a)
 have hS : ∀ q, Sd q → q < w.heap.size := fun q hq => H.vol.dev.lt q hq
 have H0 := Lib.hid (And.intro H hS)
 obtain ⟨o, hf⟩ : ∃ o, o = flOf (txV L st.bs) a := ⟨_, rfl⟩
 rw [← hf] at HO
 unfold truncF
 rw [← hf]
 clear H hS
 cases o with
 | none =>
   dsimp only at HO ⊢
   clear hf
   go_enter Tryz.func37, Tryz.ntmps37
   go_wp2_with (go_at_call 84; refine HO.out.mono ?_; rintro e w1 ⟨b1, rfl⟩)
   refine bodyPost_ret (results_one rfl (resOne_tmp _ _ _)) rfl ?_
   exact ⟨rfl, H0.out.1.below b1, Keeps.of_below b1⟩
 | some f =>
   dsimp only at HO ⊢
   by_cases h1 : size < 0
   · rw [if_pos h1]
     dsimp only
     clear hf
     go_enter Tryz.func37, Tryz.ntmps37
     go_wp2_with (go_at_call 84; refine HO.out.mono ?_; rintro e w1 ⟨b1, F, gi, ci, rfl, hF⟩)
     refine bodyPost_ret (results_one rfl (resOne_tmp _ _ _)) rfl ?_
     exact ⟨rfl, H0.out.1.below b1, Keeps.of_below b1⟩
   · by_cases h2 : 1120 < size
     · rw [if_neg h1, if_pos h2]
       dsimp only
       clear hf
       go_enter Tryz.func37, Tryz.ntmps37
       go_wp2_with (go_at_call 84; refine HO.out.mono ?_; rintro e w1 ⟨b1, F, gi, ci, rfl, hF⟩)
       refine bodyPost_ret (results_one rfl (resOne_tmp _ _ _)) rfl ?_
       exact ⟨rfl, H0.out.1.below b1, Keeps.of_below b1⟩
     · rw [if_neg h1, if_neg h2]
       obtain ⟨z, rfl⟩ : ∃ z : Nat, size = (z : Int) := ⟨size.toNat, by omega⟩
       have hz : (z : Int) ≤ 1120 := by omega
       rw [Int.toNat_natCast]
       have hfw := (flOf_may hf.symm).2
       obtain ⟨s0, hs0⟩ : ∃ s0 : Ws, s0 = ⟨L, T, f.sized (z : Int)⟩ := ⟨_, rfl⟩
       rw [← hs0]
       dsimp only
       have HM := Lib.hid (And.intro hfw hs0)
       clear hf hfw hs0 h1 h2
       go_enter Tryz.func37, Tryz.ntmps37
       go_upto_region 8 with (go_at_call 84; refine HO.out.mono ?_; rintro e w1 ⟨b1, F, gi, ci, rfl, hF⟩)
       have e4 : w1.cell? ⟨F, 4, none⟩ = some (.int .i64 f.n.size) := hF.c 4
       have z4 : w1.frozen? ⟨F, 4, none⟩ = false := free_obj hF.obj 4
       have hF2 := hF.putSize (z : Int)
       have hk2 : Keeps (fun r => r = F ∨ r = gi) w1 (w1.setCell ⟨F, 4, none⟩ (.int .i64 (z : Int))) := Keeps.setCell _ _ _ (.inl rfl)
       have hT2 := (H0.out.1.below b1).fl hF H0.out.2 hk2
       have hK2 := (Keeps.of_below (S := fun q => q = mp ∨ q = mt) b1).fl (hk2.mono (S' := fS F gi mp mt) fun _ _ e => e.elim .inl fun e => .inr (.inl e)) hF.ge hF.gi_ge
       obtain ⟨w2, hw2⟩ : ∃ w2, w2 = w1.setCell ⟨F, 4, none⟩ (.int .i64 (z : Int)) := ⟨_, rfl⟩
       rw [← hw2] at hF2 hk2 hT2 hK2
       have hS0 : TrS w w2 Sd t v mp mt d reg s gb cap m st c F gi ci a T (cuts st.bs z 0 s0) := by
        have : cuts st.bs z 0 s0 = s0 := rfl
        rw [this, HM.out.2]
        exact ⟨hT2, hF2, hK2, ⟨HM.out.1.1, HM.out.1.2, HM.out.1.3⟩⟩
       have H2 := Lib.hid hS0
       go_upto_region 9 with fail
       rw [← hw2]
       clear hS0 hw2 hF2 hk2 hT2 hK2 hF b1 e4 z4
       go_wp2_with fail
       go_loopw [34] (fun s34 wr => ∃ k : Nat, k ≤ 20 ∧ s34 = .int .i64 k ∧ TrS w wr Sd t v mp mt d reg s gb cap m st c F gi ci a T (cuts st.bs z k s0)) (fun q _ => 20 - (Go.RowKit.intOf q).toNat)
       case atStart => exact ⟨0, by decide, rfl, H2.out⟩
       case round =>
        obtain ⟨k, hk, rfl, hst⟩ := hrel
        have HS := Lib.hid hst
        clear hst
        by_cases hlt : k < 20
        · have hlti : (k : Int) < 20 := by omega
          have hcut := cuts_succ st.bs z k s0
          obtain ⟨q, hq⟩ : ∃ q, q = cuts st.bs z k s0 := ⟨_, rfl⟩
          rw [← hq] at HS hcut
          have HSl := Lib.hid (slot_any HS.out.fl hlt)
          obtain ⟨g, o, hA, hgF, hcs⟩ := HS.out.fl.slotL hlt
          rw [hA] at HSl
          have hfz : wr.frozen? ⟨g, o, none⟩ = false := by have := slotA_free HS.out.fl k; rwa [hA] at this
          obtain ⟨r, hr⟩ : ∃ r, r = z - k * 56 := ⟨_, rfl⟩
          have hmax : max ((z : Int) - (k : Int) * 56) 0 = (r : Int) := by omega
          have v1 : IntKind.i64.wrap ((k : Int) * 56) = (k : Int) * 56 := IntWalk.i64_in _ (by omega)
          have v2 : IntKind.i64.wrap ((z : Int) - (k : Int) * 56) = (z : Int) - (k : Int) * 56 := IntWalk.i64_in _ (by omega)
          unfold cutF at hcut
          rw [← hr] at hcut
          have hgk : g = F ∨ g = gi := hgF
          clear hgF
          by_cases hr0 : r = 0
          · rw [if_pos hr0] at hcut
            have hmax0 : max ((z : Int) - (k : Int) * 56) 0 = 0 := by omega
            have hF5 := HS.out.fl.put hlt (-1)
            have hk5 : Keeps (fun q => q = F ∨ q = gi) wr (wr.setCell ⟨g, o, none⟩ (.int .i64 (-1))) := Keeps.setCell _ _ _ hgk
            have hT5 := HS.out.tx.fl HS.out.fl H0.out.2 hk5
            have hK5 := HS.out.kp.fl (hk5.mono (S' := fS F gi mp mt) fun _ _ e => e.elim .inl fun e => .inr (.inl e)) HS.out.fl.ge HS.out.fl.gi_ge
            rw [hA] at hF5
            have H5 := Lib.hid (show TrS w (wr.setCell ⟨g, o, none⟩ (.int .i64 (-1))) Sd t v mp mt d reg s gb cap m st c F gi ci a T (cuts st.bs z (k + 1) s0) by
             rw [hcut]
             exact ⟨hT5, hF5, hK5, Fl.put_wf HS.out.wf _ _⟩)
            clear hF5 hk5 hT5 hK5 hcut hA hgk hr hmax hr0 hq
            go_wp2_with (go_at_call 88; refine HSl.out.mono ?_; rintro e w3 ⟨rfl, hw3⟩; obtain rfl := hw3.symm)
            go_roundw
            case rel => exact ⟨k + 1, by omega, by go_num, H5.out⟩
            case measure => simp [Go.RowKit.intOf]; omega
          · rw [if_neg hr0] at hcut
            have hrn : ¬ ((r : Int) = 0) := by omega
            by_cases hr56 : r < 56
            · have hri : (r : Int) < 56 := by omega
              by_cases hs1 : q.f.slot k = -1
              · rw [if_neg (fun e => e.2 hs1)] at hcut
                have hs1' : (q.f.slot k != -1) = false := by simpa using hs1
                have H5 := Lib.hid (show TrS w wr Sd t v mp mt d reg s gb cap m st c F gi ci a T (cuts st.bs z (k + 1) s0) by rw [hcut]; exact HS.out)
                clear hcut hA hgk hr hr0 hq hs1
                go_wp2_with (go_at_call 88; refine HSl.out.mono ?_; rintro e w3 ⟨rfl, hw3⟩; obtain rfl := hw3.symm)
                go_roundw
                case rel => exact ⟨k + 1, by omega, by go_num, H5.out⟩
                case measure => simp [Go.RowKit.intOf]; omega
              · rw [if_pos ⟨hr56, hs1⟩] at hcut
                have hs1' : (q.f.slot k != -1) = true := by simpa using hs1
                have HG := Lib.hid (HS.out.tx.get (q.f.slot k))
                obtain ⟨sb, hsb⟩ : ∃ sb, sb = getB (txV q.L st.bs) (q.f.slot k) := ⟨_, rfl⟩
                rw [← hsb] at HG
                have HC := Lib.hid (And.intro hcut (And.intro hsb (And.intro hr56 hr0)))
                clear hcut hr hr0 hq hs1 hsb
                go_upto_region 18 with (first
                 | (go_at_call 88; refine HSl.out.mono ?_; rintro e w3 ⟨rfl, hw3⟩; obtain rfl := hw3.symm)
                 | (go_at_call 26; refine HG.out.mono ?_; rintro e w6 ⟨rfl, b6⟩))
                obtain ⟨KB, hKe⟩ : ∃ KB, KB = w6.heap.size := ⟨_, rfl⟩
                obtain ⟨w7, hw7⟩ : ∃ w7, w7 = w6.alloc (.cells sb.cells 37) := ⟨_, rfl⟩
                have hb7 : Below wr.heap.size wr w7 := grow_trans b6 (below_alloc hw7)
                have hX7 : BlkAt w7 KB sb := by rw [hKe]; exact obj_alloc hw7
                have hlt5 : wr.heap.size ≤ KB := by rw [hKe]; exact b6.size
                rw [← hw7, ← hKe]
                have hbody := slice_bodyL KB r hr56
                obtain ⟨cb, hcb⟩ : ∃ cb, cb = sb.cover r (List.replicate (56 - r) 0) := ⟨_, rfl⟩
                have hn0 : 0 < 56 - r := by omega
                have hn1 : r + (56 - r) ≤ 56 := by omega
                have H7 := Lib.hid (And.intro hb7 (And.intro hX7 (And.intro hlt5 (And.intro hcb (And.intro hn0 hn1)))))
                clear hb7 hX7 hlt5 hcb hw7 hKe b6 hn0 hn1 hcs hfz
                have hOnce : True := trivial
                go_upto_region 19 with (clear hOnce; refine list_clearAt rfl _ rfl rfl H7.out.2.1 H7.out.2.2.2.2.1 H7.out.2.2.2.2.2 ?_; intro w8 hw8; rw [← H7.out.2.2.2.1] at hw8; have H8 := Lib.hid (And.intro (show BlkAt w8 KB cb by rw [hw8]; exact H7.out.2.1.setRow cb) (show Below wr.heap.size wr w8 by rw [hw8]; exact H7.out.1.setRow H7.out.2.2.1 _)); clear hw8)
                have i1 := H8.out.1.has
                have i2 := H8.out.1.row
                have hF8 := HS.out.fl.below H8.out.2
                have hT8 := HS.out.tx.below H8.out.2
                have hcs8 : w8.cell? ⟨g, o, none⟩ = some (.int .i64 (q.f.slot k)) := by have := hF8.slotC hlt; rwa [hA] at this
                have H9 := Lib.hid (And.intro hF8 hT8)
                clear hF8 hT8 hbody
                refine wp_region_F [5] (S := fun w' => w'.cell? ⟨g, o, none⟩ = some (.int .i64 (q.f.slot k)) ∧ hasBlk w' KB = true ∧ rowAt w' KB = some cb.cells ∧ True) (by kernel_rfl) (⟨hcs8, i1, i2, trivial⟩) (fun hHeld => ?_)
                show wpAnyF _ _ _ _ _ _ 6 #[false, false, false, false, false, false] _ _
                refine gF 0 [0, 5] ?_; try simp only [Act.put, qs]
                refine gF 1 [1, 2, 3, 5] ?_; try simp only [Act.put, qs]
                refine gF 2 [2, 3, 5] ?_; try simp only [Act.put, qs]
                refine gF 3 [3, 5] ?_; try simp only [Act.put, qs]
                refine gF 4 [4, 5] ?_; try simp only [Act.put, qs]
                refine wpAnyF_ready (rs := [5]) (by kernel_rfl) (by simp) ?_
                refine (AllReadyF.last rfl (by kernel_rfl) (fun K hK => ?_) AllReadyF.nil)
                try simp only [qs]
                go_simp
                go_at_call 24; refine ((H9.out.2.below (Below.refl w8.heap.size w8).drew).putC (q.f.slot k) cb).mono ?_; rintro e w10 ⟨rfl, hk10, hT10⟩
                refine hK.out _ _ (trivial) (fun hN => ?_); replace hHeld := hN; clear hK K hN
                try simp only [qs]
                refine wpAnyF_done (by kernel_rfl) ?_ _
                have hF10 := (H9.out.1.below (Below.refl w8.heap.size w8).drew).tx (H9.out.2.below (Below.refl w8.heap.size w8).drew) hk10
                have hK10 : Keeps (fun q => q = mp ∨ q = mt) w w10 := (HS.out.kp.trans (Keeps.of_below H8.out.2.drew)).trans hk10
                have H10 := Lib.hid (show TrS w w10 Sd t v mp mt d reg s gb cap m st c F gi ci a T (cuts st.bs z (k + 1) s0) by
                 rw [HC.out.1]
                 unfold cutB
                 rw [← HC.out.2.1, ← H7.out.2.2.2.1]
                 exact ⟨hT10, hF10, hK10, HS.out.wf⟩)
                clear hF10 hK10 hT10 hk10 i1 i2 hcs8 hHeld
                go_wp2_with fail
                go_roundw
                case rel => exact ⟨k + 1, by omega, by go_num, H10.out⟩
                case measure => simp [Go.RowKit.intOf]; omega
            · have hri : ¬ ((r : Int) < 56) := by omega
              rw [if_neg (fun e => hr56 e.1)] at hcut
              have H5 := Lib.hid (show TrS w wr Sd t v mp mt d reg s gb cap m st c F gi ci a T (cuts st.bs z (k + 1) s0) by rw [hcut]; exact HS.out)
              clear hcut hA hgk hr hr0 hq
              go_wp2_with (go_at_call 88; refine HSl.out.mono ?_; rintro e w3 ⟨rfl, hw3⟩; obtain rfl := hw3.symm)
              go_roundw
              case rel => exact ⟨k + 1, by omega, by go_num, H5.out⟩
              case measure => simp [Go.RowKit.intOf]; omega
        · obtain rfl : k = 20 := by omega
          obtain ⟨q, hq⟩ : ∃ q, q = cuts st.bs z 20 s0 := ⟨_, rfl⟩
          rw [← hq] at HS
          have Hq := Lib.hid hq
          clear hq hlt
          have c11 : wr.cell? ⟨F, 11, none⟩ = some (.slice (some ⟨gi, 0, none⟩) 16 ci) := HS.out.fl.c 11
          have l16 := HS.out.fl.l16
          have hrow := HS.out.fl.row
          rw [← l16] at hrow
          have HC := Lib.hid (hasInt_any hrow (by rw [l16]; decide))
          rw [l16] at HC
          clear hrow l16
          cases hall : q.f.li.all (· == -1) with
          | true =>
            rw [hall] at HC
            have hF5 := HS.out.fl.putIdx (-1)
            have hk5 : Keeps (fun q => q = F ∨ q = gi) wr (wr.setCell ⟨F, 9, none⟩ (.int .i64 (-1))) := Keeps.setCell _ _ _ (.inl rfl)
            have hT5 := HS.out.tx.fl HS.out.fl H0.out.2 hk5
            have hK5 := HS.out.kp.fl (hk5.mono (S' := fS F gi mp mt) fun _ _ e => e.elim .inl fun e => .inr (.inl e)) HS.out.fl.ge HS.out.fl.gi_ge
            have e9 : wr.cell? ⟨F, 9, none⟩ = some (.int .i64 q.f.n.index) := HS.out.fl.c 9
            have z9 : wr.frozen? ⟨F, 9, none⟩ = false := free_obj HS.out.fl.obj 9
            have hlean : q.f.lean = ⟨{ q.f.n with index := -1 }, q.f.li⟩ := by unfold Fl.lean; rw [if_pos hall]
            rw [← hlean] at hF5
            have hwf : q.f.lean.n.wf := by rw [hlean]; exact ⟨HS.out.wf.1, HS.out.wf.2, HS.out.wf.3⟩
            obtain ⟨w5, hw5⟩ : ∃ w5, w5 = wr.setCell ⟨F, 9, none⟩ (.int .i64 (-1)) := ⟨_, rfl⟩
            rw [← hw5] at hF5 hT5 hK5
            have HKp := Lib.hid (keep_any hT5 hF5 hwf)
            have H5 := Lib.hid hK5
            clear hF5 hk5 hT5 hK5 hlean hwf hall
            go_upto_region 23 with (go_at_call 89; refine HC.out.mono ?_; rintro e w3 ⟨rfl, hw3⟩; obtain rfl := hw3.symm)
            rw [← hw5]
            clear hw5 e9 z9 c11
            go_wp2_with (go_at_call 87; refine HKp.out.mono ?_; rintro e w6 ⟨rfl, hk6, hT6⟩)
            refine bodyPost_ret (results_one rfl (resOne_tmp _ _ _)) rfl ?_
            rw [← Hq.out]
            exact ⟨rfl, hT6, H5.out.trans hk6⟩
          | false =>
            rw [hall] at HC
            have hlean : q.f.lean = q.f := by unfold Fl.lean; rw [if_neg (by rw [hall]; decide)]
            have HKp := Lib.hid (keep_any HS.out.tx HS.out.fl HS.out.wf)
            have Hl := Lib.hid hlean
            clear hlean hall
            go_wp2_with (first
             | (go_at_call 89; refine HC.out.mono ?_; rintro e w3 ⟨rfl, hw3⟩; obtain rfl := hw3.symm)
             | (go_at_call 87; refine HKp.out.mono ?_; rintro e w6 ⟨rfl, hk6, hT6⟩))
            refine bodyPost_ret (results_one rfl (resOne_tmp _ _ _)) rfl ?_
            rw [← Hq.out, Hl.out]
            exact ⟨rfl, hT6, HS.out.kp.trans hk6⟩
end
end
section
open Go.RowKit

theorem newBlks_len (n : Nat) : (newBlks n).length = n := by simp [newBlks]
theorem zero_kd : Blk.zero.kind = 0 := by unfold Blk.zero; exact Blk.of_kind _ _
theorem newBlks_at {n j : Nat} (hj : j < n) : (newBlks n).getD j Blk.zero = if j = 0 then ⟨7, Blk.zero.body.set 3 1, by rw [List.length_set]; exact Blk.zero.len⟩ else Blk.zero := by
 unfold newBlks
 rw [getD_set (by rw [List.length_replicate]; omega)]
 split
 · rfl
 · rw [List.getD_eq_getElem?_getD, List.getElem?_replicate, if_pos hj]; rfl
theorem newBlks_kind {n j : Nat} (hj : j < n) : ((newBlks n).getD j Blk.zero).kind = if j = 0 then 7 else 0 := by
 rw [newBlks_at hj]
 split
 · rfl
 · exact zero_kd
theorem use_kinds {bs : List Blk} (h : ∀ j, j < bs.length → (bs.getD j Blk.zero).kind ≠ 1 ∧ (bs.getD j Blk.zero).kind ≠ 2 ∧ (bs.getD j Blk.zero).kind ≠ 3 ∧ (bs.getD j Blk.zero).kind ≠ 6) (j : Nat) : inUse bs [] (j : Int) ↔ j = 0 := by
 unfold inUse
 constructor
 · rintro (e | e | ⟨i, hi, e⟩)
   · omega
   · simp [keysL] at e
   · exact absurd e (useBy_none rfl rfl (h i hi))
 · intro e; exact .inl (by omega)
theorem newBlks_use {n : Nat} (j : Nat) : inUse (newBlks n) [] (j : Int) ↔ j = 0 := by
 refine use_kinds (fun i hi => ?_) j
 rw [newBlks_len] at hi
 rw [newBlks_kind hi]
 split <;> decide
theorem first_of {bs : List Blk} {k : Nat} (hk : k < bs.length) (h1 : ∀ j, j < k → inUse bs [] (j : Int)) (h2 : ¬ inUse bs [] (k : Int)) : first bs [] = (k : Int) := by
 unfold first markAll
 rw [List.foldl_nil]
 refine firstOf_at (by rw [used_length]; exact hk) (fun j hj => ?_) ?_
 · rw [used_getD bs j (by omega)]; exact (used_iff (by omega)).2 (h1 j hj)
 · rw [used_getD bs k hk]
   cases hu : usedUpto bs bs.length k with
   | false => rfl
   | true => exact absurd ((used_iff hk).1 hu) h2
theorem newBlks_left {n : Nat} (h : 0 < n) : left (newBlks n) + 1 = n := by
 have hs := used_setsT (newBlks n) [] (fun k hk => by simp [keysL] at hk)
 have hc := count_sets (n := (newBlks n).length) [0] (by simp) (fun j hj => by rw [List.mem_singleton] at hj; subst hj; rw [newBlks_len]; exact h) (hs.iff fun j _ => by
  rw [newBlks_use]; simp; omega)
 have h2 := count_false_true (usedT (newBlks n) [])
 rw [hs.len, newBlks_len, hc] at h2
 have h3 := left_used (U := usedT (newBlks n) []) (bs := newBlks n) hs
 simp only [List.length_singleton] at h2
 omega
theorem newBlks_next {n : Nat} (h : 0 < n) : nextOf (newBlks n) = 1 := by
 unfold nextOf
 rw [newBlks_at h, if_pos rfl]
 unfold Blk.sub
 have hz : Blk.zero.body = List.replicate 56 0 := by unfold Blk.zero; rw [Blk.of_body]; rfl
 dsimp only
 rw [hz]; rfl
def nd0 : Nd := ⟨1, 1, 0, -1, -1, -1, -1, -1, ⟨#[]⟩⟩
def nmA : Nm := ⟨Id.root, ⟨#[97]⟩, 1, 1⟩
def bsA (n : Nat) : List Blk := (newBlks n).set 1 (putNode 1 nd0).1
def bsB (n : Nat) : List Blk := setNextOf (bsA n) 2
def fileBlks (n : Nat) : List Blk := (bsB n).set 2 (putEntry nmA).1
theorem nd0_may : mayNode 1 nd0 = true := by decide +kernel
theorem nd0_wf : nd0.wf := ⟨by decide, by decide, by decide⟩
theorem nmA_may : mayEntry nmA = true := by decide +kernel
theorem nmA_wf : nmA.wf := ⟨⟨by show (0 : Int) ≤ 0; omega, by show (0 : Int) ≤ 4294967295; omega⟩, by show (0 : Int) ≤ 1; omega, by show (1 : Int) ≤ 4294967295; omega, by show 1 ≤ 1000000; decide⟩
theorem bsA_len (n : Nat) : (bsA n).length = n := by unfold bsA; rw [List.length_set, newBlks_len]
theorem bsB_len (n : Nat) : (bsB n).length = n := by
 have := setNextUpto_length (bsA n) 2 4
 rw [bsA_len] at this; exact this
theorem setNextUpto_at (bs : List Blk) (v j : Nat) (hj : j ≠ 0) : ∀ k, (setNextUpto bs v k).getD j Blk.zero = bs.getD j Blk.zero
 | 0 => rfl
 | k + 1 => by rw [setNextUpto_succ, getD_set_ne hj, setNextUpto_at bs v j hj k]
theorem setNextUpto_kind (bs : List Blk) (v : Nat) (h : 0 < bs.length) : ∀ k, ((setNextUpto bs v k).getD 0 Blk.zero).kind = (bs.getD 0 Blk.zero).kind
 | 0 => rfl
 | k + 1 => by
   rw [setNextUpto_succ, getD_set (by rw [setNextUpto_length]; exact h), if_pos rfl]
   exact setNextUpto_kind bs v h k
theorem bsB_kind {n j : Nat} (_ : 4 ≤ n) (hj : j < n) : ((bsB n).getD j Blk.zero).kind = if j = 0 then 7 else if j = 1 then 1 else 0 := by
 have e : bsB n = setNextUpto (bsA n) 2 4 := rfl
 rw [e]
 by_cases h0 : j = 0
 · subst h0
   rw [setNextUpto_kind _ _ (by rw [bsA_len]; omega), if_pos rfl]
   unfold bsA
   rw [getD_set_ne (by decide), newBlks_kind (by omega), if_pos rfl]
 · rw [setNextUpto_at _ _ _ h0, if_neg h0]
   unfold bsA
   by_cases h1 : j = 1
   · subst h1
     rw [getD_set (by rw [newBlks_len]; omega), if_pos rfl, if_pos rfl]; exact putNode_ok nd0_may
   · rw [getD_set_ne h1, newBlks_kind hj, if_neg h0, if_neg h1]
theorem bsB_node {n : Nat} (hn : 4 ≤ n) : (bsB n).getD 1 Blk.zero = (putNode 1 nd0).1 := by
 have e : bsB n = setNextUpto (bsA n) 2 4 := rfl
 rw [e, setNextUpto_at _ _ _ (by decide)]
 unfold bsA
 rw [getD_set (by rw [newBlks_len]; omega), if_pos rfl]
theorem bsB_use {n : Nat} (hn : 4 ≤ n) (j : Nat) : inUse (bsB n) [] (j : Int) ↔ j < 2 := by
 have ht : takeNode ((bsB n).getD 1 Blk.zero) = (nd0, true) := by rw [bsB_node hn]; exact take_putNode nd0_may nd0_wf
 have hk1 : ((bsB n).getD 1 Blk.zero).kind = 1 := by rw [bsB_kind hn (by omega)]; rfl
 have hN : ¬ (j : Int) ∈ namesT (bsB n) ((bsB n).getD 1 Blk.zero) := by
  unfold namesT
  rw [ht, if_pos rfl, if_pos (show nd0.index = -1 from rfl), List.append_nil]
  show ¬ (j : Int) ∈ [(-1 : Int), -1, -1, -1, -1]
  simp
 unfold inUse
 constructor
 · rintro (e | e | ⟨i, hi, e⟩)
   · omega
   · simp [keysL] at e
   · rw [bsB_len] at hi
     by_cases i1 : i = 1
     · subst i1
       rcases (useBy_file rfl hk1).1 e with e | e
       · exact absurd e hN
       · omega
     · exfalso
       refine useBy_none rfl rfl ?_ e
       rw [bsB_kind hn hi]
       by_cases i0 : i = 0
       · rw [if_pos i0]; decide
       · rw [if_neg i0, if_neg i1]; decide
 · intro e
   by_cases j0 : j = 0
   · exact .inl (by omega)
   · obtain rfl : j = 1 := by omega
     exact .inr (.inr ⟨1, by rw [bsB_len]; omega, (useBy_file rfl hk1).2 (.inr rfl)⟩)
theorem find_no6 {bs : List Blk} (h : ∀ j, j < bs.length → (bs.getD j Blk.zero).kind ≠ 6) (d : Id) (m : ByteArray) : find bs d m = (Nm.zero, -1) := find_none fun j hj => hit_kind (h j hj)
theorem newBlks_find {n : Nat} (d : Id) (m : ByteArray) : find (newBlks n) d m = (Nm.zero, -1) := find_no6 (fun j hj => by
 rw [newBlks_len] at hj
 rw [newBlks_kind hj]; split <;> decide) d m
theorem bsB_add {n : Nat} (hn : 4 ≤ n) : addName (bsB n) nmA = (fileBlks n, 0) := by
 have hp : (putEntry nmA).2 = true := by unfold putEntry; rw [if_pos nmA_may]
 have hf : find (bsB n) nmA.dir nmA.name = (Nm.zero, -1) := find_no6 (fun j hj => by
  rw [bsB_len] at hj
  rw [bsB_kind hn hj]
  split
  · decide
  · split <;> decide) _ _
 have h1 : first (bsB n) [] = ((2 : Nat) : Int) := first_of (by rw [bsB_len]; omega) (fun j hj => (bsB_use hn j).2 hj) (fun e => by have := (bsB_use hn 2).1 e; omega)
 unfold addName
 rw [hp, if_pos rfl, hf, if_neg (by decide), h1, if_neg (by decide)]
 rfl
theorem newBlks_first {n : Nat} (hn : 4 ≤ n) : first (newBlks n) [] = ((1 : Nat) : Int) := first_of (by rw [newBlks_len]; omega) (fun j hj => (newBlks_use j).2 (by omega)) (fun e => by have := (newBlks_use 1).1 e; omega)
def fl0 : Fl := ⟨nd0, holes⟩
theorem fl0_slot (k : Nat) (hk : k < 20) : fl0.slot k = -1 := by
 by_cases h4 : k < 4
 · rw [fl0.slot_lo h4]
   match k, h4 with
   | 0, _ => rfl
   | 1, _ => rfl
   | 2, _ => rfl
   | 3, _ => rfl
 · rw [fl0.slot_hi h4]; exact holes_at _ (by omega)
theorem fileBlks_len (n : Nat) : (fileBlks n).length = n := by unfold fileBlks; rw [List.length_set, bsB_len]
theorem fileBlks_rest {n : Nat} (hn : 4 ≤ n) (h2 : n ≤ 200) : FRest (fileBlks n) fl0 (fun _ => 0) := by
 have hne : ∀ j, j ≠ 2 → (fileBlks n).getD j Blk.zero = (bsB n).getD j Blk.zero := fun j hj => by unfold fileBlks; exact getD_set_ne hj
 have hd : ∀ k, k < 20 → fl0.slot k = -1 := fl0_slot
 refine { len := by rw [fileBlks_len]; exact ⟨hn, h2⟩, may0 := nd0_may, wf0 := nd0_wf, l0 := rfl, lok0 := by decide +kernel, hol0 := fun _ => rfl, nodeB := ?_, idxB := .inl rfl, k0 := ?_, k2 := ?_, ks := fun j j3 jl => ?_, cur := ?_ }
 · rw [hne 1 (by decide)]; exact bsB_node hn
 · rw [hne 0 (by decide), bsB_kind hn (by omega), if_pos rfl]
 · unfold fileBlks
   rw [getD_set (by rw [bsB_len]; omega), if_pos rfl]
   have : putEntry nmA = (Blk.of 6 (entryBytes nmA), true) := by unfold putEntry; rw [if_pos nmA_may]
   rw [this]; exact Blk.of_kind _ _
 · rw [fileBlks_len] at jl
   rw [hne j (by omega), bsB_kind hn jl, if_neg (by omega), if_neg (by omega)]
   exact .inl rfl
 · exact { may := nd0_may, wf := nd0_wf, l16 := rfl, lok := by decide +kernel, hol := fun _ => rfl, slot := fun k hk => .inl (hd k hk), idx := .inl rfl, inj := fun k l hk _ _ hn => absurd (hd k hk) hn, ine := fun k hk hn => absurd (hd k hk) hn, data := fun k hk i hi => by rw [hd k hk, getB_no, zero_at] }
theorem fl0_cnt : fl0.cnt = 0 := by decide +kernel
theorem fileBlks_kinds {n : Nat} (hn : 4 ≤ n) (h2 : n ≤ 200) : ∀ j, j < n → 0 ≤ ((fileBlks n).getD j Blk.zero).kind ∧ ((fileBlks n).getD j Blk.zero).kind ≤ 7 := fun j hj => by
 have h := fileBlks_rest hn h2
 by_cases h0 : j = 0
 · subst h0; rw [h.k0]; decide
 · by_cases h1 : j = 1
   · subst h1; rw [h.nodeB]; exact putNode_kinds _
   · by_cases h2 : j = 2
     · subst h2; rw [h.k2]; decide
     · rcases h.ks j (by omega) (by rw [fileBlks_len]; exact hj) with e | e | e <;> rw [e] <;> decide
end
section
open Go.RowKit
attribute [local go_sem] hasBlk
attribute [local irreducible] Calls
theorem MayID_root (w : World) : Calls Tryz.prog 77 #[.agg Id.root.cells] w fun e w' => e = .returned (.bool (mayID Id.root)) ∧ Below w.heap.size w w' := by
 rw [show mayID Id.root = true by decide, show Id.root.cells = #[.int .i64 (-1), .int .i64 0, .int .u32 0] from rfl]

 have hc0 : (w.alloc (.cells #[.int .i64 (-1), .int .i64 0, .int .u32 0] 66)).cell? ⟨w.heap.size, 0, none⟩ = some (.int .i64 (-1)) := World.cell?_alloc_new ..
 have hc1 : (w.alloc (.cells #[.int .i64 (-1), .int .i64 0, .int .u32 0] 66)).cell? ⟨w.heap.size, 1, none⟩ = some (.int .i64 0) := World.cell?_alloc_new ..
 have hc2 : (w.alloc (.cells #[.int .i64 (-1), .int .i64 0, .int .u32 0] 66)).cell? ⟨w.heap.size, 2, none⟩ = some (.int .u32 0) := World.cell?_alloc_new ..
 have hw : Below w.heap.size w (w.alloc (.cells #[.int .i64 (-1), .int .i64 0, .int .u32 0] 66)) := (Below.refl _ _).alloc (Nat.le_refl _) _
 obtain ⟨G, hG⟩ : ∃ G, G = w.heap.size := ⟨_, rfl⟩
 rw [← hG] at hc0 hc1 hc2
 have HG := Lib.hid hG
 go_enter Tryz.func77, Tryz.ntmps77
 go_wp2_with fail
 rw [← hG]
 clear hG
 generalize w.alloc (.cells #[.int .i64 (-1), .int .i64 0, .int .u32 0] 66) = w0 at *
 have hB0 := Below.refl w0.heap.size w0
 have hS : ∀ w', Below w0.heap.size w0 w' → (w'.cell? ⟨G, 0, none⟩ = some (.int .i64 (-1)) ∧ w'.cell? ⟨G, 1, none⟩ = some (.int .i64 0) ∧ w'.cell? ⟨G, 2, none⟩ = some (.int .u32 0) ∧ Below w0.heap.size w0 w') :=
  fun w' hb => ⟨grow_cell hb hc0, grow_cell hb hc1, grow_cell hb hc2, hb⟩
 refine wp_region_held_drew (S := fun w' => w'.cell? ⟨G, 0, none⟩ = some (.int .i64 (-1)) ∧ w'.cell? ⟨G, 1, none⟩ = some (.int .i64 0) ∧ w'.cell? ⟨G, 2, none⟩ = some (.int .u32 0) ∧ Below w0.heap.size w0 w') (by kernel_rfl) (hS _ hB0.drew) (fun hHeld => ?_)
 show wpAnyH _ _ _ _ _ 29 #[false, false, false, false, false, false, false, false, false, false, false, false, false, false, false, false, false, false, false, false, false, false, false, false, false, false, false, false, false] _ _
 refine gT 0 ?_; try simp only [Act.put, qs]
 refine wpAnyH_ready (rs := [1]) (by kernel_rfl) (by simp) ?_
 refine (AllReadyH.cons rfl (fun K hK => ?_) AllReadyH.nil)
 try simp only [qs]
 go_simp
 go_at_call 34; refine (Root_lit _).mono ?_; rintro e x1 ⟨rfl, b1⟩
 refine hK.out _ _ (by exact hS _ (grow_trans hHeld.2.2.2 b1)) (fun hN => ?_); replace hHeld := hN; clear hK K hN
 try simp only [qs]
 refine gT 2 ?_; try simp only [Act.put, qs]
 refine gT 3 ?_; try simp only [Act.put, qs]
 refine gU 4 ?_; try simp only [Act.put, qs]
 refine gU 5 ?_; try simp only [Act.put, qs]
 refine gU 6 ?_; try simp only [Act.put, qs]
 refine gU 7 ?_; try simp only [Act.put, qs]
 refine gU 8 ?_; try simp only [Act.put, qs]
 refine gU 9 ?_; try simp only [Act.put, qs]
 refine gU 10 ?_; try simp only [Act.put, qs]
 refine gU 11 ?_; try simp only [Act.put, qs]
 refine gU 12 ?_; try simp only [Act.put, qs]
 refine gU 13 ?_; try simp only [Act.put, qs]
 refine gU 14 ?_; try simp only [Act.put, qs]
 refine gU 15 ?_; try simp only [Act.put, qs]
 refine gU 16 ?_; try simp only [Act.put, qs]
 refine gU 17 ?_; try simp only [Act.put, qs]
 refine gU 18 ?_; try simp only [Act.put, qs]
 refine gU 19 ?_; try simp only [Act.put, qs]
 refine gU 20 ?_; try simp only [Act.put, qs]
 refine gU 21 ?_; try simp only [Act.put, qs]
 refine gU 22 ?_; try simp only [Act.put, qs]
 refine gU 23 ?_; try simp only [Act.put, qs]
 refine gU 24 ?_; try simp only [Act.put, qs]
 refine gU 25 ?_; try simp only [Act.put, qs]
 refine gU 26 ?_; try simp only [Act.put, qs]
 refine gT 27 ?_; try simp only [Act.put, qs]
 refine gT 28 ?_; try simp only [Act.put, qs]
 refine wpAnyH_done (by kernel_rfl) ?_ _
 go_wp2_with fail
 go_ret
 exact ⟨rfl, grow_trans hw hHeld.2.2.2⟩
theorem Find_no6 (g cap : Nat) (bs : List Blk) (dir : Id) (name : ByteArray) (w : World) (h : KRow w 0 (.slice (some ⟨g, 0, none⟩) bs.length cap) bs) (hl : bs.length ≤ 1000) (h6 : ∀ j, j < bs.length → (bs.getD j Blk.zero).kind ≠ 6) :
 Calls Tryz.prog 49 #[.slice (some ⟨g, 0, none⟩) bs.length cap, .agg dir.cells, .string name] w fun e w' => e = .returned (.tuple #[.agg (find bs dir name).1.cells, .int .i64 (find bs dir name).2]) ∧ Below w.heap.size w w' := by
 obtain ⟨D, hD⟩ : ∃ D, D = dir := ⟨dir, rfl⟩
 rw [← hD]
 have HD := Lib.hid hD
 clear hD
 obtain ⟨dl, da, dg⟩ := dir
 rw [show D.cells = #[.int .i64 dl, .int .i64 da, .int .u32 dg] by rw [HD.out]; rfl]
 have hA : objAt ((w.alloc (.cells #[.int .i64 dl, .int .i64 da, .int .u32 dg] 66)).alloc (.cells #[.int .i64 0, .int .i64 0, .int .u32 0, .string ⟨#[]⟩, .int .i64 0, .int .u32 0] 100)) w.heap.size = some (.cells #[.int .i64 dl, .int .i64 da, .int .u32 dg] 66 (0, 0)) := by
  rw [objAt_alloc, if_neg (by simp), objAt_alloc, if_pos rfl]
 have hZ : objAt ((w.alloc (.cells #[.int .i64 dl, .int .i64 da, .int .u32 dg] 66)).alloc (.cells #[.int .i64 0, .int .i64 0, .int .u32 0, .string ⟨#[]⟩, .int .i64 0, .int .u32 0] 100)) (w.heap.size + 1) = some (.cells Nm.zero.cells 100 (0, 0)) := by rw [objAt_alloc, size_alloc, if_pos rfl]; rfl
 have hB : Below w.heap.size w ((w.alloc (.cells #[.int .i64 dl, .int .i64 da, .int .u32 dg] 66)).alloc (.cells #[.int .i64 0, .int .i64 0, .int .u32 0, .string ⟨#[]⟩, .int .i64 0, .int .u32 0] 100)) := ((Below.refl _ _).alloc (Nat.le_refl _) _).alloc (by rw [size_alloc]; omega) _
 obtain ⟨G, hG⟩ : ∃ G, G = w.heap.size := ⟨_, rfl⟩
 rw [← hG] at hA hZ
 have Hrow := Lib.hid h
 have H6 := Lib.hid h6
 clear h h6
 go_enter Tryz.func49, Tryz.ntmps49
 go_wp2_with fail
 generalize (w.alloc (.cells #[.int .i64 dl, .int .i64 da, .int .u32 dg] 66)).alloc (.cells #[.int .i64 0, .int .i64 0, .int .u32 0, .string ⟨#[]⟩, .int .i64 0, .int .u32 0] 100) = w0 at *
 rw [← hG]
 have e0 : w0.cell? ⟨G, 0, none⟩ = some (.int .i64 dl) := by rw [cell_of_row w0 G 0 _ _ _ hA]; rfl
 have e1 : w0.cell? ⟨G, 1, none⟩ = some (.int .i64 da) := by rw [cell_of_row w0 G 1 _ _ _ hA]; rfl
 have e2 : w0.cell? ⟨G, 2, none⟩ = some (.int .u32 dg) := by rw [cell_of_row w0 G 2 _ _ _ hA]; rfl
 have HX := Lib.hid (And.intro hG (And.intro hB hZ))
 have HE := Lib.hid (And.intro e0 (And.intro e1 e2))
 clear hG hB hZ hA e0 e1 e2
 have hend : ∀ w1 (N : Nm), Below w0.heap.size w0 w1 → hasNm w1 (G + 1) = true ∧ rowAt (w1.setRow (G + 1) N.cells) (G + 1) = some N.cells ∧ Below w.heap.size w (w1.setRow (G + 1) N.cells) := fun w1 N hb =>
  ⟨hasNm_obj (grow_obj hb HX.out.2.2) rfl, rowAt_heap (objAt_setRow (grow_obj hb HX.out.2.2) _), (grow_trans HX.out.2.1 hb).setRow (by rw [HX.out.1]; exact Nat.le_succ _) _⟩
 have Hend := Lib.hid hend
 clear hend
 go_loopw [8] (fun s8 wr => ∃ k : Nat, k ≤ bs.length ∧ s8 = .int .i64 k ∧ (∀ j, j < k → hit bs D name j = false) ∧ Below w0.heap.size w0 wr) (fun i _ => bs.length - (intOf i).toNat)
 case atStart => exact ⟨0, Nat.zero_le _, rfl, fun j hj => by omega, Below.refl _ _⟩
 case round =>
  obtain ⟨k, hk, rfl, hno, hbel⟩ := hrel
  have Hno := Lib.hid (And.intro hno hbel)
  clear hno
  by_cases hlt : k < bs.length
  · have hK := KRow.below Hrow.out (grow_trans HX.out.2.1 hbel)
    have hc := hK.kind k hlt
    have hh := hK.has k hlt
    have hr := hK.row k hlt
    have i0 : (0 : Int) ≤ (k : Int) := Int.natCast_nonneg _
    have i1 : (k : Int) < (bs.length : Int) := by omega
    clear hK hbel
    have hkd := H6.out k hlt
    have d1 := ne_bne hkd
    have Hh := Lib.hid (hit_kind (bs := bs) (dir := D) (name := name) hkd)
    clear hkd
    generalize bs.getD k Blk.zero = b at *
    go_wp2_with fail
    go_roundw
    case rel => exact ⟨k + 1, by omega, by go_num, upto_succ Hno.out.1 Hh.out, Hno.out.2⟩
    case measure => simp [intOf]; omega
  · have Hf := Lib.hid (find_none (dir := D) (name := name) fun j hj => Hno.out.1 j (by omega))
    have hg := (Hend.out _ Nm.zero Hno.out.2).1
    clear hbel
    go_wp2_with fail
    refine bodyPost_ret (results_two rfl (resOne_agg aggNm rfl (Hend.out _ Nm.zero Hno.out.2).2.1 rfl) (resOne_tmp _ _ _)) rfl ?_
    exact ⟨by rw [Hf.out]; rfl, (Hend.out _ Nm.zero Hno.out.2).2.2⟩
theorem dir_root (p : Nat) (g cap : Nat) (bs : List Blk) (w : World) (h : StoreAt w p 0 g cap bs) :
 Calls Tryz.prog 79 #[.pointer (some ⟨p, 0, none⟩), .agg Id.root.cells] w fun e w' => e = .returned (.bool (dirOk 0 bs Id.root)) ∧ Below w.heap.size w w' := by
 have hd : dirOk 0 bs Id.root = true := rfl
 rw [hd, show Id.root.cells = #[.int .i64 (-1), .int .i64 0, .int .u32 0] from rfl]
 clear hd
 have Hst := Lib.hid h
 clear h
 have hO : objAt (w.alloc (.cells #[.int .i64 (-1), .int .i64 0, .int .u32 0] 66)) w.heap.size = some (.cells #[.int .i64 (-1), .int .i64 0, .int .u32 0] 66 (0, 0)) := by rw [objAt_alloc, if_pos rfl]
 have hB := (Below.refl w.heap.size w).alloc (Nat.le_refl _) (.cells #[.int .i64 (-1), .int .i64 0, .int .u32 0] 66)
 obtain ⟨G, hG⟩ : ∃ G, G = w.heap.size := ⟨_, rfl⟩
 rw [← hG] at hO
 go_enter Tryz.func79, Tryz.ntmps79
 go_upto_region 1 with (fail)
 generalize w.alloc (.cells #[.int .i64 (-1), .int .i64 0, .int .u32 0] 66) = w0 at *
 rw [← hG]
 have c0 := (Hst.out.below hB).c0
 have c1 := (Hst.out.below hB).c1
 have d0 : w0.cell? ⟨G, 0, none⟩ = some (.int .i64 (-1)) := by rw [cell_of_row w0 G 0 _ _ _ hO]; rfl
 have d1 : w0.cell? ⟨G, 1, none⟩ = some (.int .i64 0) := by rw [cell_of_row w0 G 1 _ _ _ hO]; rfl
 have d2 : w0.cell? ⟨G, 2, none⟩ = some (.int .u32 0) := by rw [cell_of_row w0 G 2 _ _ _ hO]; rfl
 have HX := Lib.hid hB
 clear hG hO hB
 have hS : ∀ w', Below w0.heap.size w0 w' → (w'.cell? ⟨p, 0, none⟩ = some (.int .i64 0) ∧ w'.cell? ⟨p, 1, none⟩ = some (.slice (some ⟨g, 0, none⟩) bs.length cap) ∧ w'.cell? ⟨G, 0, none⟩ = some (.int .i64 (-1)) ∧ w'.cell? ⟨G, 1, none⟩ = some (.int .i64 0) ∧ w'.cell? ⟨G, 2, none⟩ = some (.int .u32 0) ∧ Below w0.heap.size w0 w') :=
  fun w' hb => ⟨grow_cell hb c0, grow_cell hb c1, grow_cell hb d0, grow_cell hb d1, grow_cell hb d2, hb⟩

 have e1 : (!((-1 : Int) == 0)) = true := rfl
 refine wp_region_held_drew (S := fun w' => w'.cell? ⟨p, 0, none⟩ = some (.int .i64 0) ∧ w'.cell? ⟨p, 1, none⟩ = some (.slice (some ⟨g, 0, none⟩) bs.length cap) ∧ w'.cell? ⟨G, 0, none⟩ = some (.int .i64 (-1)) ∧ w'.cell? ⟨G, 1, none⟩ = some (.int .i64 0) ∧ w'.cell? ⟨G, 2, none⟩ = some (.int .u32 0) ∧ Below w0.heap.size w0 w') (by kernel_rfl) (hS _ (Below.refl _ _).drew) (fun hHeld => ?_)
 show wpAnyH _ _ _ _ _ 16 #[false, false, false, false, false, false, false, false, false, false, false, false, false, false, false, false] _ _
 refine gT 0 ?_; try simp only [Act.put, qs]
 refine gT 1 ?_; try simp only [Act.put, qs]
 refine gT 2 ?_; try simp only [Act.put, qs]
 refine gT 3 ?_; try simp only [Act.put, qs]
 refine gT 4 ?_; try simp only [Act.put, qs]
 refine gT 5 ?_; try simp only [Act.put, qs]
 refine gT 6 ?_; try simp only [Act.put, qs]
 refine gT 7 ?_; try simp only [Act.put, qs]
 refine gU 8 ?_; try simp only [Act.put, qs]
 refine gU 9 ?_; try simp only [Act.put, qs]
 refine gU 10 ?_; try simp only [Act.put, qs]
 refine gU 11 ?_; try simp only [Act.put, qs]
 refine gU 12 ?_; try simp only [Act.put, qs]
 refine gU 13 ?_; try simp only [Act.put, qs]
 refine gT 14 ?_; try simp only [Act.put, qs]
 refine gT 15 ?_; try simp only [Act.put, qs]
 refine wpAnyH_done (by kernel_rfl) ?_ _
 go_wp2_with fail
 go_ret
 exact ⟨rfl, grow_trans HX.out hHeld.2.2.2.2.2⟩
end
end Go.Proofs.YtbbnejehglonjaaGreat
