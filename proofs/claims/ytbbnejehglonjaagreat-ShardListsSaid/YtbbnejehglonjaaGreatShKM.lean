/- DERIVED. clathrilaw17.ShardLists returns true. -/
import Derived.Test.YtbbnejehglonjaaGreatMg00
import Derived.Test.YtbbnejehglonjaaGreatMg39
namespace Go.Proofs.YtbbnejehglonjaaGreat
open Go.RowKit Go.ChangeShapes Go.WideShapes
attribute [local irreducible] Calls
set_option maxRecDepth 100000

/-- The state of the law's loops. -/
structure LS (w wr : World) (Sd : Nat → Prop) (N v d gb cap mm TH : Nat) (st : VSt) (c : Nat) (L : PL) (T : ML) (there : Nat → Bool) (m : Nat) : Prop where
  tx : TxV wr Sd (N + 2) v N (N + 1) L T d 0 (shN 60) gb cap mm st c
  sl : SL st.bs L T there m
  th : BoolsAt wr TH there
  bel : Below w.heap.size w wr
section
variable {w wr w2 : World} {Sd : Nat → Prop} {N v d gb cap mm TH : Nat} {st : VSt} {c : Nat} {L L' : PL} {T T' : ML} {there : Nat → Bool} {m : Nat}
theorem LS.grow (h : LS w wr Sd N v d gb cap mm TH st c L T there m) (hb : Below wr.heap.size wr w2) : LS w w2 Sd N v d gb cap mm TH st c L T there m :=
  ⟨h.tx.below hb, h.sl, grow_obj hb h.th, grow_trans h.bel hb⟩
theorem TxV.apartK {t mp mt reg : Nat} {s : Sh} (h : TxV wr Sd t v mp mt L T d reg s gb cap mm st c) {g : Nat} {f : Nat → Bool} (hg : BoolsAt wr g f) (hk : Keeps (fun q => q = g) wr w2) (hS : ∀ q, Sd q → q ≠ g) : TxV w2 Sd t v mp mt L T d reg s gb cap mm st c := by
  obtain ⟨cs, hcs⟩ := VolP.neRow h.vol
  refine ⟨h.tx.keeps hk (ne_of_obj h.tx.obj hg (by decide)) (fun e => h.tx.put.neObj hg e) (fun e => h.tx.tk.neObj hg e), VolP.keeps h.vol hk (fun q hq e => hS q hq e) (ne_of_obj h.vol.o hg (by decide)) (fun e => h.vol.map.neObj hg e) (ne_of_obj hcs hg (by decide)), h.ap⟩
end
def cntT (there : Nat → Bool) (i : Nat) : Nat := ((List.range i).filter there).length
theorem cntT_succ (there : Nat → Bool) (i : Nat) : cntT there (i + 1) = cntT there i + (if there i = true then 1 else 0) := by
  unfold cntT
  rw [List.range_succ, List.filter_append, List.length_append]
  cases h : there i <;> simp [h]
theorem cntT_at {there : Nat → Bool} {i : Nat} (hi : i < 256) (ht : there i = true) : (thereL there)[cntT there i]? = some i := by
  obtain ⟨j, hj⟩ : ∃ j, 256 = i + (j + 1) := ⟨255 - i, by omega⟩
  unfold thereL cntT
  rw [hj, List.range_add, List.filter_append, List.range_succ_eq_map, List.map_cons, Nat.add_zero, List.filter_cons_of_pos ht, List.getElem?_append_right (Nat.le_refl _), Nat.sub_self]
  rfl
theorem cntT_all (there : Nat → Bool) : cntT there 256 = (thereL there).length := rfl
theorem cntT_le (there : Nat → Bool) : ∀ i, cntT there i ≤ i
  | 0 => Nat.le_refl _
  | i + 1 => by rw [cntT_succ]; have := cntT_le there i; split <;> omega
set_option maxHeartbeats 16000000 in
theorem walk_ShardLists {H : Type} {enc : TypeId × Value → H} {d1 d2 : DataW H} {p1 p2 : List MemPlace} (a1 : Option Addr) (len1 cap1 : Nat) (a2 : Option Addr) (len2 cap2 : Nat) (w : World)
    (h1 : DataW.Trod enc Tryz.prog w 0 (fun _ => true) true 22 (.slice a1 len1 cap1) d1 p1) (h2 : DataW.Trod enc Tryz.prog w 0 (fun _ => true) true 22 (.slice a2 len2 cap2) d2 p2) :
    Calls Tryz.prog 13 #[.slice a1 len1 cap1, .slice a2 len2 cap2] w fun e w' => e = .returned (.bool true) ∧ Below w.heap.size w w' := by
  obtain ⟨l1, rfl, hb1⟩ := bytes_arg h1
  obtain ⟨l2, rfl, hb2⟩ := bytes_arg h2
  clear h1 h2
  by_cases hl1 : 30 < l1.length
  · have z1 : (30 : Int) < (l1.length : Int) := by omega
    clear hl1 hb1 hb2
    go_enter Tryz.func13, Tryz.ntmps13
    go_wp2_with (go_at_call 43; refine (begun17_any _).mono ?_; rintro e w1 ⟨rfl, b1⟩)
    go_ret
    exact ⟨rfl, b1⟩
  by_cases hl2 : 30 < l2.length
  · have z1 : ¬ (30 : Int) < (l1.length : Int) := by omega
    have z2 : (30 : Int) < (l2.length : Int) := by omega
    clear hl1 hl2 hb1 hb2
    go_enter Tryz.func13, Tryz.ntmps13
    go_wp2_with (go_at_call 43; refine (begun17_any _).mono ?_; rintro e w1 ⟨rfl, b1⟩)
    go_ret
    exact ⟨rfl, b1⟩
  have z1 : ¬ (30 : Int) < (l1.length : Int) := by omega
  have z2 : ¬ (30 : Int) < (l2.length : Int) := by omega
  have HL := Lib.hid (And.intro hb1 (And.intro hb2 (And.intro hl1 hl2)))
  have HN := Lib.hid (fun w => sNew_any 0 60 w (by decide) (by decide))
  clear hb1 hb2 hl1 hl2
  go_enter Tryz.func13, Tryz.ntmps13
  go_upto_region 5 with (go_at_call 43; refine (begun17_any _).mono ?_; rintro e w0 ⟨rfl, b0⟩)
  have H0 := Lib.hid b0
  clear b0 z1 z2
  go_upto_region 6 with (first
    | (go_at_call 32; refine (HN.out _).mono ?_; rintro e w1 ⟨p, g, rfl, hs, b1, _, _⟩; have c1 : w1.cell? ⟨p, 1, none⟩ = some (.slice (some ⟨g, 0, none⟩) 60 60) := hs.c1; have HF := Lib.hid (Filled_new (n := 60) (by decide) (by decide) hs.row); have H1 := Lib.hid b1; clear hs b1)
    | (go_at_call 18; refine HF.out.mono ?_; rintro e w2 ⟨d, v, rfl, Sd, gb, cap, mm, st, c, hf, hst, hc⟩))
  have HX := Lib.hid (txNew_any v st.bs.length w2)
  obtain ⟨N, hN⟩ : ∃ N, N = w2.heap.size := ⟨_, rfl⟩
  rw [← hN] at HX
  have H2 := Lib.hid (And.intro hf (And.intro hst (And.intro hN hc)))
  clear hf hst hN hc c1
  go_upto_region 9 with (go_at_call 19; refine HX.out.mono ?_; rintro e w3 ⟨rfl, ht, b3⟩)
  have hT3 := H2.out.1.txV H2.out.2.2.1 ht (by rw [← H2.out.2.2.1]; exact b3)
  have hB2 := grow_trans H0.out (grow_trans H1.out H2.out.1.below)
  have hB3 : Below w.heap.size w w3 := hB2.trans (b3.mono (by rw [H2.out.2.2.1]; exact hB2.size))
  have hNw : w.heap.size ≤ N := by rw [H2.out.2.2.1]; exact hB2.size
  have H3 := Lib.hid (And.intro hT3 (And.intro hB3 hNw))
  clear hT3 hB3 ht b3 hNw hB2
  go_upto_region 10 with fail
  obtain ⟨TH, hTH⟩ : ∃ TH, TH = w3.heap.size := ⟨_, rfl⟩
  obtain ⟨w4, hw4⟩ : ∃ w4, w4 = w3.alloc (.cells z256b 94) := ⟨_, rfl⟩
  have hb4 : Below w3.heap.size w3 w4 := below_alloc hw4
  have hth4 : BoolsAt w4 TH (fun _ => false) := by unfold BoolsAt; rw [hTH, ← z256b_eq]; exact obj_alloc hw4
  rw [← hw4, ← hTH]
  have hLS4 : LS w w4 Sd N v d gb cap mm TH st c [] [] (fun _ => false) 0 := ⟨H3.out.1.below hb4, by rw [H2.out.2.1]; exact SL.start (by decide), hth4, grow_trans H3.out.2.1 hb4⟩
  have hTHn : w.heap.size ≤ TH ∧ N + 2 < TH ∧ w3.heap.size ≤ TH := by
    have h1 := H3.out.2.1.size
    have h2 := block_lt H3.out.1.tx.obj
    rw [hTH]; exact ⟨h1, h2, Nat.le_refl _⟩
  have H4 := Lib.hid (And.intro hLS4 hTHn)
  clear hw4 hTH hb4 hth4 hLS4 hTHn
  go_upto_region 12 with fail
  obtain ⟨NM, hNM⟩ : ∃ NM, NM = w4.heap.size := ⟨_, rfl⟩
  obtain ⟨w5, hw5⟩ : ∃ w5, w5 = w4.alloc (.cells #[] 96) := ⟨_, rfl⟩
  rw [← hw5, ← hNM]
  have hLS5 := H4.out.1.grow (below_alloc hw5)
  have H5 := Lib.hid hLS5
  clear hw5 hNM hLS5
  go_wp2_with fail
  go_loopw [10, 12] (fun nn ii wr => ∃ (k m : Nat) (L : PL) (T : ML) (there : Nat → Bool), k ≤ l1.length ∧ m ≤ 11 ∧ nn = .int .i64 m ∧ ii = .int .i64 k ∧ LS w wr Sd N v d gb cap mm TH st c L T there m) (fun _ ii _ => l1.length - (Go.RowKit.intOf ii).toNat)
  case atStart => exact ⟨0, 0, [], [], fun _ => false, Nat.zero_le _, Nat.zero_le _, rfl, rfl, H5.out⟩
  case round =>
    obtain ⟨k, m, L, T, there, hk, hm, rfl, rfl, hls⟩ := hrel
    by_cases hgo : k < l1.length ∧ m < 11
    · have hki : (k : Int) < (l1.length : Int) := by omega
      have hmi : (m : Int) < 11 := by omega
      have hk30 : (k : Int) < 30 := by have := HL.out.2.2.1; omega
      obtain ⟨ba, off, hba, hcell⟩ := HL.out.1
      obtain rfl := hba (by omega)
      have hckw := hcell k hgo.1
      obtain ⟨cb, hcb⟩ : ∃ cb, cb = l1[k]'hgo.1 := ⟨_, rfl⟩
      rw [← hcb] at hckw
      have hck := grow_cell hls.bel hckw
      have Hck := Lib.hid hckw
      clear hckw
      have hlt := cb.toNat_lt
      have HLS := Lib.hid (And.intro hls hgo)
      have hthc := hls.th.cell hlt
      clear hba hcell hcb hls hgo
      go_upto_region 15 with fail
      have HA := Lib.hid (fun x (hx : Below wr.heap.size wr x) => shAdd_any (HLS.out.1.tx.below hx) (nmK cb.toNat) (nmK_wf _) (nmK_fl _))
      rw [show (nmK cb.toNat).cells = #[.int .i64 (-1), .int .i64 0, .int .u32 0, .string (nameK cb.toNat), .int .i64 3, .int .u32 1] from rfl] at HA
      have hS : ∀ w', Below wr.heap.size wr w' → w'.cell? ⟨ba, off + k, none⟩ = some (.int .u8 (cb.toNat : Int)) ∧ Below wr.heap.size wr w' := fun w' hb => ⟨grow_cell hb hck, hb⟩
      refine wp_region_F [9] (S := fun w' => w'.cell? ⟨ba, off + k, none⟩ = some (.int .u8 (cb.toNat : Int)) ∧ Below wr.heap.size wr w') (by kernel_rfl) (hS _ (Below.refl _ _).drew) (fun hHeld => ?_)
      show wpAnyF _ _ _ _ _ _ 11 #[false, false, false, false, false, false, false, false, false, false, false] _ _
      refine wpAnyF_take [0, 9, 10] (i := 0) (v := ?kv1) rfl (by kernel_rfl) (by kernel_rfl) (by kernel_rfl) (by kernel_rfl) (fun _ _ _ h => h) (Or.inl ⟨by rfl, ?ky1⟩) (by assumption) ?kr1
      case ky1 => (intro w hSw; (try dsimp only at hSw); go_split_ands; (try simp only [qA, qB]); go_simp; (try with_reducible rfl))
      try simp only [Act.put, qA, qB, qD, qE, qF]
      refine wpAnyF_take [2, 7, 8, 9, 10] (i := 2) (v := ?kv2) rfl (by kernel_rfl) (by kernel_rfl) (by kernel_rfl) (by kernel_rfl) (fun _ _ _ h => h) (Or.inl ⟨by rfl, ?ky2⟩) (by assumption) ?kr2
      case ky2 => (intro w hSw; (try dsimp only at hSw); go_split_ands; (try simp only [qA, qB, qC]); go_simp; (try with_reducible rfl))
      try simp only [Act.put, qA, qB, qC, qD, qE, qF]
      refine wpAnyF_take [3, 5, 6, 7, 8, 9, 10] (i := 3) (v := ?kv3) rfl (by kernel_rfl) (by kernel_rfl) (by kernel_rfl) (by kernel_rfl) (fun _ _ _ h => h) (Or.inl ⟨by rfl, ?ky3⟩) (by assumption) ?kr3
      case ky3 => (intro w hSw; (try dsimp only at hSw); go_split_ands; (try simp only [qA, qB, qC]); go_simp; (try with_reducible rfl))
      try simp only [Act.put, qA, qB, qC, qD, qE, qF]
      refine wpAnyF_take [4, 5, 6, 7, 8, 9, 10] (i := 4) (v := ?kv4) rfl (by kernel_rfl) (by kernel_rfl) (by kernel_rfl) (by kernel_rfl) (fun _ _ _ h => h) (Or.inl ⟨by rfl, ?ky4⟩) (by assumption) ?kr4
      case ky4 => (intro w hSw; (try dsimp only at hSw); go_split_ands; (try simp only [qA, qB, qC]); go_simp; (try with_reducible rfl))
      try simp only [Act.put, qA, qB, qC, qD, qE, qF]
      refine wpAnyF_take [5, 6, 7, 8, 9, 10] (i := 5) (v := ?kv5) rfl (by kernel_rfl) (by kernel_rfl) (by kernel_rfl) (by kernel_rfl) (fun _ _ _ h => h) (Or.inl ⟨by rfl, ?ky5⟩) (by assumption) ?kr5
      case ky5 => (intro w hSw; (try dsimp only at hSw); go_split_ands; (try simp only [qA, qB, qC]); go_simp; (try with_reducible rfl))
      try simp only [Act.put, qA, qB, qC, qD, qE, qF]
      refine wpAnyF_take [6, 7, 8, 9, 10] (i := 6) (v := ?kv6) rfl (by kernel_rfl) (by kernel_rfl) (by kernel_rfl) (by kernel_rfl) (fun _ _ _ h => h) (Or.inl ⟨by rfl, ?ky6⟩) (by assumption) ?kr6
      case ky6 => (intro w hSw; (try dsimp only at hSw); go_split_ands; (try simp only [qA, qB, qC]); go_simp; (try with_reducible rfl))
      try simp only [Act.put, qA, qB, qC, qD, qE, qF]
      refine wpAnyF_ready (rs := [1]) (by kernel_rfl) (by simp) ?_
      refine (AllReadyF.cons rfl (fun K hK => ?_) AllReadyF.nil)
      try simp only [qA, qB, qC]
      go_simp
      go_at_call 34; refine (Root_lit _).mono ?_; rintro e x1 ⟨rfl, y1⟩
      refine hK.out _ _ (by exact hS _ (grow_trans hHeld.2 y1)) (fun hHeldn => ?_)
      clear hHeld hK K
      have hHeld := hHeldn
      clear hHeldn
      try simp only [qD, qE, qF]
      refine wpAnyF_ready (rs := [7]) (by kernel_rfl) (by simp) ?_
      refine (AllReadyF.cons rfl (fun K hK => ?_) AllReadyF.nil)
      try simp only [qA, qB, qC]
      go_simp
      go_at_call 45; refine (namer_any cb.toNat hlt _ rfl _).mono ?_; rintro e x7 ⟨rfl, y7⟩
      refine hK.out _ _ (by exact hS _ (grow_trans hHeld.2 y7)) (fun hHeldn => ?_)
      clear hHeld hK K
      have hHeld := hHeldn
      clear hHeldn
      try simp only [qD, qE, qF]
      refine wpAnyF_take [8, 9, 10] (i := 8) (v := ?kv9) rfl (by kernel_rfl) (by kernel_rfl) (by kernel_rfl) (by kernel_rfl) (fun _ _ _ h => h) (Or.inl ⟨by rfl, ?ky9⟩) (by assumption) ?kr9
      case ky9 => (intro w hSw; (try dsimp only at hSw); go_split_ands; (try simp only [qA, qB, qC]); go_simp; (try with_reducible rfl))
      try simp only [Act.put, qA, qB, qC, qD, qE, qF]
      refine wpAnyF_ready (rs := [9]) (by kernel_rfl) (by simp) ?_
      refine (AllReadyF.last rfl (by kernel_rfl) (fun K hK => ?_) AllReadyF.nil)
      try simp only [qA, qB, qC]
      go_simp
      go_at_call 44; refine (HA.out _ hHeld.2).mono ?_; rintro e x9 ⟨r, L9, T9, rfl, har, hT9, hk9⟩
      refine hK.out _ _ (trivial) (fun hHeldn => ?_)
      clear hHeld hK K
      have hHeld := hHeldn
      clear hHeldn
      try simp only [qD, qE, qF]
      refine wpAnyF_pure (i := 10) (v := ?kv11) rfl (by kernel_rfl) (by kernel_rfl) (by kernel_rfl) (by kernel_rfl) (fun _ _ _ h => h) (Or.inl ⟨by rfl, ?ky11⟩) (by first | (intro _; assumption) | (intro h; exact absurd h (by decide))) ?kr11
      case ky11 => (intro w hSw; clear hSw; (try simp only [qA, qB, qC]); go_simp; (try with_reducible rfl))
      try simp only [Act.put, qA, qB, qC, qD, qE, qF]
      refine wpAnyF_done (by kernel_rfl) ?_ _
      have hx7 : Below wr.heap.size wr x7 := grow_trans (grow_trans (Below.refl _ _).drew y1) y7
      have hbel9 : Below w.heap.size w x9 := (grow_trans HLS.out.1.bel hx7).trans (hk9.below (grow_trans HLS.out.1.bel hx7).size (fun q e => by have := H3.out.2.2; omega))
      have hth9 : BoolsAt x9 TH there := hk9.obj (grow_obj hx7 HLS.out.1.th) (fun e => by have := H4.out.2.2.1; omega)
      have hsl := HLS.out.1.sl.add (by rw [H2.out.2.1]; rfl) hm hlt har
      have hck9 := grow_cell hbel9 Hck.out
      have hth9c := hth9.cell hlt
      have hth9f : x9.frozen? ⟨TH, cb.toNat, none⟩ = false := free_obj hth9 _
      have hlti : (cb.toNat : Int) < 256 := by omega
      have H9 := Lib.hid (And.intro hT9 (And.intro hth9 hbel9))
      have hset := hth9.set cb.toNat true
      have hsetK : Keeps (fun q => q = TH) x9 (x9.setCell ⟨TH, cb.toNat, none⟩ (.bool true)) := setCell_keeps' _ _ _ _
      have HS9 := Lib.hid (And.intro hset hsetK)
      clear hx7 hbel9 hth9 har hT9 hk9 hck hthc hS hHeld hset hsetK
      have hfin : ∀ m', SL st.bs L9 T9 (setB there cb.toNat true) m' → LS w (x9.setCell ⟨TH, cb.toNat, none⟩ (.bool true)) Sd N v d gb cap mm TH st c L9 T9 (setB there cb.toNat true) m' := fun m' h =>
        ⟨H9.out.1.apartK H9.out.2.1 HS9.out.2 (fun q hq e => by have := H3.out.1.vol.dev.lt q hq; have := H4.out.2.2.2; omega), h, HS9.out.1, H9.out.2.2.trans (HS9.out.2.below H9.out.2.2.size (fun q e => by have := H4.out.2.1; omega))⟩
      have Hfin := Lib.hid hfin
      clear hfin
      rcases hsl with ⟨ht, rfl, hsl⟩ | ⟨ht, rfl, hsl⟩
      · rw [ht] at hth9c
        have Hsl := Lib.hid hsl
        clear hsl ht
        go_wp2_with fail
        go_roundw
        case rel => exact ⟨k + 1, m, L9, T9, _, by omega, hm, rfl, by go_num, Hfin.out m Hsl.out⟩
        case measure => simp [Go.RowKit.intOf]; omega
      · rw [ht] at hth9c
        have Hsl := Lib.hid hsl
        clear hsl ht
        go_wp2_with fail
        go_roundw
        case rel => exact ⟨k + 1, m + 1, L9, T9, _, by omega, by omega, by go_num, by go_num, Hfin.out (m + 1) Hsl.out⟩
        case measure => simp [Go.RowKit.intOf]; omega
    · have HLS := Lib.hid (And.intro hls hm)
      have hgo' : ¬ ((k : Int) < (l1.length : Int)) ∨ ((k : Int) < (l1.length : Int) ∧ ¬ ((m : Int) < 11)) := by omega
      clear hls hm hk hgo
      rcases hgo' with hgo' | ⟨hgo', hgo''⟩
      · go_upto_region 21 with fail
        go_wp2_with fail
        go_loopw [14] (fun ii wr => ∃ (k : Nat) (L : PL) (there : Nat → Bool), k ≤ l2.length ∧ ii = .int .i64 k ∧ LS w wr Sd N v d gb cap mm TH st c L T there m) (fun ii _ => l2.length - (Go.RowKit.intOf ii).toNat)
        case atStart => exact ⟨0, L, there, Nat.zero_le _, rfl, HLS.out.1⟩
        case round =>
          obtain ⟨k, L, there, hk, rfl, hls⟩ := hrel
          by_cases hgo : k < l2.length
          · have hki : (k : Int) < (l2.length : Int) := by omega
            have hk30 : (k : Int) < 30 := by have := HL.out.2.2.2; omega
            obtain ⟨ba, off, hba, hcell⟩ := HL.out.2.1
            obtain rfl := hba (by omega)
            have hckw := hcell k hgo
            obtain ⟨cb, hcb⟩ : ∃ cb, cb = l2[k]'hgo := ⟨_, rfl⟩
            rw [← hcb] at hckw
            have hck := grow_cell hls.bel hckw
            have Hck := Lib.hid hckw
            have hlt := cb.toNat_lt
            have HLS := Lib.hid (And.intro hls hgo)
            have hS : ∀ w', Below wr.heap.size wr w' → w'.cell? ⟨ba, off + k, none⟩ = some (.int .u8 (cb.toNat : Int)) ∧ Below wr.heap.size wr w' := fun w' hb => ⟨grow_cell hb hck, hb⟩
            clear hckw hba hcell hcb hls hgo
            go_upto_region 24 with fail
            cases ht : there cb.toNat with
            | true =>
              obtain ⟨q, hq⟩ := (HLS.out.1.sl.find hlt).2 ht
              have hO : ∀ x, Below wr.heap.size wr x → Calls Tryz.prog 46 #[.pointer (some ⟨N + 2, 0, none⟩), .agg Id.root.cells, .string (nameK cb.toNat)] x (fun e w' => e = .returned (.int .i64 0) ∧ TxV w' Sd (N + 2) v N (N + 1) (upB L (q.2 : Int) Blk.zero) T d 0 (shN 60) gb cap mm st c ∧ Keeps (fun q => q = N ∨ q = N + 1) x w') := fun x hx =>
                (shOut_any (HLS.out.1.tx.below hx) Id.root (nameK cb.toNat)).mono (by
                  rintro e w' (⟨h, _⟩ | ⟨p, hp, h1, h2, h3⟩)
                  · rw [hq] at h; cases h
                  · rw [hq] at hp
                    obtain rfl := Option.some.inj hp
                    exact ⟨h1, h2, h3⟩)
              rw [show Id.root.cells = #[.int .i64 (-1), .int .i64 0, .int .u32 0] from rfl] at hO
              have HO := Lib.hid hO
              have Hsl := Lib.hid (HLS.out.1.sl.out hlt hq)
              have Ht := Lib.hid ht
              clear hO hq ht
              refine wp_region_F [8] (S := fun w' => w'.cell? ⟨ba, off + k, none⟩ = some (.int .u8 (cb.toNat : Int)) ∧ Below wr.heap.size wr w') (by kernel_rfl) (hS _ (Below.refl _ _).drew) (fun hHeld => ?_)
              show wpAnyF _ _ _ _ _ _ 10 #[false, false, false, false, false, false, false, false, false, false] _ _
              refine wpAnyF_take [0, 8, 9] (i := 0) (v := ?kv12) rfl (by kernel_rfl) (by kernel_rfl) (by kernel_rfl) (by kernel_rfl) (fun _ _ _ h => h) (Or.inl ⟨by rfl, ?ky12⟩) (by assumption) ?kr12
              case ky12 => (intro w hSw; (try dsimp only at hSw); go_split_ands; (try simp only [qA, qB]); go_simp; (try with_reducible rfl))
              try simp only [Act.put, qA, qB, qD, qE, qF]
              refine wpAnyF_take [2, 7, 8, 9] (i := 2) (v := ?kv13) rfl (by kernel_rfl) (by kernel_rfl) (by kernel_rfl) (by kernel_rfl) (fun _ _ _ h => h) (Or.inl ⟨by rfl, ?ky13⟩) (by assumption) ?kr13
              case ky13 => (intro w hSw; (try dsimp only at hSw); go_split_ands; (try simp only [qA, qB, qC]); go_simp; (try with_reducible rfl))
              try simp only [Act.put, qA, qB, qC, qD, qE, qF]
              refine wpAnyF_take [3, 5, 6, 7, 8, 9] (i := 3) (v := ?kv14) rfl (by kernel_rfl) (by kernel_rfl) (by kernel_rfl) (by kernel_rfl) (fun _ _ _ h => h) (Or.inl ⟨by rfl, ?ky14⟩) (by assumption) ?kr14
              case ky14 => (intro w hSw; (try dsimp only at hSw); go_split_ands; (try simp only [qA, qB, qC]); go_simp; (try with_reducible rfl))
              try simp only [Act.put, qA, qB, qC, qD, qE, qF]
              refine wpAnyF_take [4, 5, 6, 7, 8, 9] (i := 4) (v := ?kv15) rfl (by kernel_rfl) (by kernel_rfl) (by kernel_rfl) (by kernel_rfl) (fun _ _ _ h => h) (Or.inl ⟨by rfl, ?ky15⟩) (by assumption) ?kr15
              case ky15 => (intro w hSw; (try dsimp only at hSw); go_split_ands; (try simp only [qA, qB, qC]); go_simp; (try with_reducible rfl))
              try simp only [Act.put, qA, qB, qC, qD, qE, qF]
              refine wpAnyF_take [5, 6, 7, 8, 9] (i := 5) (v := ?kv16) rfl (by kernel_rfl) (by kernel_rfl) (by kernel_rfl) (by kernel_rfl) (fun _ _ _ h => h) (Or.inl ⟨by rfl, ?ky16⟩) (by assumption) ?kr16
              case ky16 => (intro w hSw; (try dsimp only at hSw); go_split_ands; (try simp only [qA, qB, qC]); go_simp; (try with_reducible rfl))
              try simp only [Act.put, qA, qB, qC, qD, qE, qF]
              refine wpAnyF_take [6, 7, 8, 9] (i := 6) (v := ?kv17) rfl (by kernel_rfl) (by kernel_rfl) (by kernel_rfl) (by kernel_rfl) (fun _ _ _ h => h) (Or.inl ⟨by rfl, ?ky17⟩) (by assumption) ?kr17
              case ky17 => (intro w hSw; (try dsimp only at hSw); go_split_ands; (try simp only [qA, qB, qC]); go_simp; (try with_reducible rfl))
              try simp only [Act.put, qA, qB, qC, qD, qE, qF]
              refine wpAnyF_ready (rs := [1]) (by kernel_rfl) (by simp) ?_
              refine (AllReadyF.cons rfl (fun K hK => ?_) AllReadyF.nil)
              try simp only [qA, qB, qC]
              go_simp
              go_at_call 34; refine (Root_lit _).mono ?_; rintro e x1 ⟨rfl, y1⟩
              refine hK.out _ _ (by exact hS _ (grow_trans hHeld.2 y1)) (fun hHeldn => ?_)
              clear hHeld hK K
              have hHeld := hHeldn
              clear hHeldn
              try simp only [qD, qE, qF]
              refine wpAnyF_ready (rs := [7]) (by kernel_rfl) (by simp) ?_
              refine (AllReadyF.cons rfl (fun K hK => ?_) AllReadyF.nil)
              try simp only [qA, qB, qC]
              go_simp
              go_at_call 45; refine (namer_any cb.toNat hlt _ rfl _).mono ?_; rintro e x7 ⟨rfl, y7⟩
              refine hK.out _ _ (by exact hS _ (grow_trans hHeld.2 y7)) (fun hHeldn => ?_)
              clear hHeld hK K
              have hHeld := hHeldn
              clear hHeldn
              try simp only [qD, qE, qF]
              refine wpAnyF_ready (rs := [8]) (by kernel_rfl) (by simp) ?_
              refine (AllReadyF.last rfl (by kernel_rfl) (fun K hK => ?_) AllReadyF.nil)
              try simp only [qA, qB, qC]
              go_simp
              go_at_call 46; refine (HO.out _ hHeld.2).mono ?_; rintro e x9 ⟨rfl, hT9, hk9⟩
              refine hK.out _ _ (trivial) (fun hHeldn => ?_)
              clear hHeld hK K
              have hHeld := hHeldn
              clear hHeldn
              try simp only [qD, qE, qF]
              refine wpAnyF_pure (i := 9) (v := ?kv21) rfl (by kernel_rfl) (by kernel_rfl) (by kernel_rfl) (by kernel_rfl) (fun _ _ _ h => h) (Or.inl ⟨by rfl, ?ky21⟩) (by first | (intro _; assumption) | (intro h; exact absurd h (by decide))) ?kr21
              case ky21 => (intro w hSw; clear hSw; (try simp only [qA, qB, qC]); go_simp; (try with_reducible rfl))
              try simp only [Act.put, qA, qB, qC, qD, qE, qF]
              refine wpAnyF_done (by kernel_rfl) ?_ _
              have hx7 : Below wr.heap.size wr x7 := grow_trans (grow_trans (Below.refl _ _).drew y1) y7
              have hbel9 : Below w.heap.size w x9 := (grow_trans HLS.out.1.bel hx7).trans (hk9.below (grow_trans HLS.out.1.bel hx7).size (fun q e => by have := H3.out.2.2; omega))
              have hth9 : BoolsAt x9 TH there := hk9.obj (grow_obj hx7 HLS.out.1.th) (fun e => by have := H4.out.2.2.1; omega)
              have hck9 := grow_cell hbel9 Hck.out
              have hth9c := hth9.cell hlt
              rw [Ht.out] at hth9c
              have hth9f : x9.frozen? ⟨TH, cb.toNat, none⟩ = false := free_obj hth9 _
              have hlti : (cb.toNat : Int) < 256 := by omega
              have hset := hth9.set cb.toNat false
              have hsetK : Keeps (fun q => q = TH) x9 (x9.setCell ⟨TH, cb.toNat, none⟩ (.bool false)) := setCell_keeps' _ _ _ _
              have hfin : LS w (x9.setCell ⟨TH, cb.toNat, none⟩ (.bool false)) Sd N v d gb cap mm TH st c (upB L (q.2 : Int) Blk.zero) T (setB there cb.toNat false) m :=
                ⟨hT9.apartK hth9 hsetK (fun q hq e => by have := H3.out.1.vol.dev.lt q hq; have := H4.out.2.2.2; omega), Hsl.out, hset, hbel9.trans (hsetK.below hbel9.size (fun q e => by have := H4.out.2.1; omega))⟩
              have Hfin := Lib.hid hfin
              clear hfin hx7 hbel9 hth9 hT9 hk9 hck hS hHeld hset hsetK
              go_wp2_with fail
              go_roundw
              case rel => exact ⟨k + 1, _, _, by omega, by go_num, Hfin.out⟩
              case measure => simp [Go.RowKit.intOf]; omega
            | false =>
              have hq : findE (txV L st.bs) Id.root (nameK cb.toNat) = none := by
                cases hq : findE (txV L st.bs) Id.root (nameK cb.toNat) with
                | none => rfl
                | some q => rw [(HLS.out.1.sl.find hlt).1 ⟨q, hq⟩] at ht; cases ht
              have hO : ∀ x, Below wr.heap.size wr x → Calls Tryz.prog 46 #[.pointer (some ⟨N + 2, 0, none⟩), .agg Id.root.cells, .string (nameK cb.toNat)] x (fun e w' => e = .returned (.int .i64 2) ∧ TxV w' Sd (N + 2) v N (N + 1) L T d 0 (shN 60) gb cap mm st c ∧ Keeps (fun q => q = N ∨ q = N + 1) x w') := fun x hx =>
                (shOut_any (HLS.out.1.tx.below hx) Id.root (nameK cb.toNat)).mono (by
                  rintro e w' (⟨_, h1, h2, h3⟩ | ⟨p, hp, _⟩)
                  · exact ⟨h1, h2, h3⟩
                  · rw [hq] at hp; cases hp)
              rw [show Id.root.cells = #[.int .i64 (-1), .int .i64 0, .int .u32 0] from rfl] at hO
              have HO := Lib.hid hO
              have hsb : setB there cb.toNat false = there := by
                funext j; unfold setB
                by_cases hj : j = cb.toNat
                · rw [if_pos hj, hj, ht]
                · rw [if_neg hj]
              have Ht := Lib.hid (And.intro ht hsb)
              clear hO hq ht hsb
              refine wp_region_F [8] (S := fun w' => w'.cell? ⟨ba, off + k, none⟩ = some (.int .u8 (cb.toNat : Int)) ∧ Below wr.heap.size wr w') (by kernel_rfl) (hS _ (Below.refl _ _).drew) (fun hHeld => ?_)
              show wpAnyF _ _ _ _ _ _ 10 #[false, false, false, false, false, false, false, false, false, false] _ _
              refine wpAnyF_take [0, 8, 9] (i := 0) (v := ?kv22) rfl (by kernel_rfl) (by kernel_rfl) (by kernel_rfl) (by kernel_rfl) (fun _ _ _ h => h) (Or.inl ⟨by rfl, ?ky22⟩) (by assumption) ?kr22
              case ky22 => (intro w hSw; (try dsimp only at hSw); go_split_ands; (try simp only [qA, qB]); go_simp; (try with_reducible rfl))
              try simp only [Act.put, qA, qB, qD, qE, qF]
              refine wpAnyF_take [2, 7, 8, 9] (i := 2) (v := ?kv23) rfl (by kernel_rfl) (by kernel_rfl) (by kernel_rfl) (by kernel_rfl) (fun _ _ _ h => h) (Or.inl ⟨by rfl, ?ky23⟩) (by assumption) ?kr23
              case ky23 => (intro w hSw; (try dsimp only at hSw); go_split_ands; (try simp only [qA, qB, qC]); go_simp; (try with_reducible rfl))
              try simp only [Act.put, qA, qB, qC, qD, qE, qF]
              refine wpAnyF_take [3, 5, 6, 7, 8, 9] (i := 3) (v := ?kv24) rfl (by kernel_rfl) (by kernel_rfl) (by kernel_rfl) (by kernel_rfl) (fun _ _ _ h => h) (Or.inl ⟨by rfl, ?ky24⟩) (by assumption) ?kr24
              case ky24 => (intro w hSw; (try dsimp only at hSw); go_split_ands; (try simp only [qA, qB, qC]); go_simp; (try with_reducible rfl))
              try simp only [Act.put, qA, qB, qC, qD, qE, qF]
              refine wpAnyF_take [4, 5, 6, 7, 8, 9] (i := 4) (v := ?kv25) rfl (by kernel_rfl) (by kernel_rfl) (by kernel_rfl) (by kernel_rfl) (fun _ _ _ h => h) (Or.inl ⟨by rfl, ?ky25⟩) (by assumption) ?kr25
              case ky25 => (intro w hSw; (try dsimp only at hSw); go_split_ands; (try simp only [qA, qB, qC]); go_simp; (try with_reducible rfl))
              try simp only [Act.put, qA, qB, qC, qD, qE, qF]
              refine wpAnyF_take [5, 6, 7, 8, 9] (i := 5) (v := ?kv26) rfl (by kernel_rfl) (by kernel_rfl) (by kernel_rfl) (by kernel_rfl) (fun _ _ _ h => h) (Or.inl ⟨by rfl, ?ky26⟩) (by assumption) ?kr26
              case ky26 => (intro w hSw; (try dsimp only at hSw); go_split_ands; (try simp only [qA, qB, qC]); go_simp; (try with_reducible rfl))
              try simp only [Act.put, qA, qB, qC, qD, qE, qF]
              refine wpAnyF_take [6, 7, 8, 9] (i := 6) (v := ?kv27) rfl (by kernel_rfl) (by kernel_rfl) (by kernel_rfl) (by kernel_rfl) (fun _ _ _ h => h) (Or.inl ⟨by rfl, ?ky27⟩) (by assumption) ?kr27
              case ky27 => (intro w hSw; (try dsimp only at hSw); go_split_ands; (try simp only [qA, qB, qC]); go_simp; (try with_reducible rfl))
              try simp only [Act.put, qA, qB, qC, qD, qE, qF]
              refine wpAnyF_ready (rs := [1]) (by kernel_rfl) (by simp) ?_
              refine (AllReadyF.cons rfl (fun K hK => ?_) AllReadyF.nil)
              try simp only [qA, qB, qC]
              go_simp
              go_at_call 34; refine (Root_lit _).mono ?_; rintro e x1 ⟨rfl, y1⟩
              refine hK.out _ _ (by exact hS _ (grow_trans hHeld.2 y1)) (fun hHeldn => ?_)
              clear hHeld hK K
              have hHeld := hHeldn
              clear hHeldn
              try simp only [qD, qE, qF]
              refine wpAnyF_ready (rs := [7]) (by kernel_rfl) (by simp) ?_
              refine (AllReadyF.cons rfl (fun K hK => ?_) AllReadyF.nil)
              try simp only [qA, qB, qC]
              go_simp
              go_at_call 45; refine (namer_any cb.toNat hlt _ rfl _).mono ?_; rintro e x7 ⟨rfl, y7⟩
              refine hK.out _ _ (by exact hS _ (grow_trans hHeld.2 y7)) (fun hHeldn => ?_)
              clear hHeld hK K
              have hHeld := hHeldn
              clear hHeldn
              try simp only [qD, qE, qF]
              refine wpAnyF_ready (rs := [8]) (by kernel_rfl) (by simp) ?_
              refine (AllReadyF.last rfl (by kernel_rfl) (fun K hK => ?_) AllReadyF.nil)
              try simp only [qA, qB, qC]
              go_simp
              go_at_call 46; refine (HO.out _ hHeld.2).mono ?_; rintro e x9 ⟨rfl, hT9, hk9⟩
              refine hK.out _ _ (trivial) (fun hHeldn => ?_)
              clear hHeld hK K
              have hHeld := hHeldn
              clear hHeldn
              try simp only [qD, qE, qF]
              refine wpAnyF_pure (i := 9) (v := ?kv31) rfl (by kernel_rfl) (by kernel_rfl) (by kernel_rfl) (by kernel_rfl) (fun _ _ _ h => h) (Or.inl ⟨by rfl, ?ky31⟩) (by first | (intro _; assumption) | (intro h; exact absurd h (by decide))) ?kr31
              case ky31 => (intro w hSw; clear hSw; (try simp only [qA, qB, qC]); go_simp; (try with_reducible rfl))
              try simp only [Act.put, qA, qB, qC, qD, qE, qF]
              refine wpAnyF_done (by kernel_rfl) ?_ _
              have hx7 : Below wr.heap.size wr x7 := grow_trans (grow_trans (Below.refl _ _).drew y1) y7
              have hbel9 : Below w.heap.size w x9 := (grow_trans HLS.out.1.bel hx7).trans (hk9.below (grow_trans HLS.out.1.bel hx7).size (fun q e => by have := H3.out.2.2; omega))
              have hth9 : BoolsAt x9 TH there := hk9.obj (grow_obj hx7 HLS.out.1.th) (fun e => by have := H4.out.2.2.1; omega)
              have hck9 := grow_cell hbel9 Hck.out
              have hth9c := hth9.cell hlt
              rw [Ht.out.1] at hth9c
              have hth9f : x9.frozen? ⟨TH, cb.toNat, none⟩ = false := free_obj hth9 _
              have hlti : (cb.toNat : Int) < 256 := by omega
              have hset := hth9.set cb.toNat false
              rw [Ht.out.2] at hset
              have hsetK : Keeps (fun q => q = TH) x9 (x9.setCell ⟨TH, cb.toNat, none⟩ (.bool false)) := setCell_keeps' _ _ _ _
              have hfin : LS w (x9.setCell ⟨TH, cb.toNat, none⟩ (.bool false)) Sd N v d gb cap mm TH st c L T there m :=
                ⟨hT9.apartK hth9 hsetK (fun q hq e => by have := H3.out.1.vol.dev.lt q hq; have := H4.out.2.2.2; omega), HLS.out.1.sl, hset, hbel9.trans (hsetK.below hbel9.size (fun q e => by have := H4.out.2.1; omega))⟩
              have Hfin := Lib.hid hfin
              clear hfin hx7 hbel9 hth9 hT9 hk9 hck hS hHeld hset hsetK
              go_wp2_with fail
              go_roundw
              case rel => exact ⟨k + 1, _, _, by omega, by go_num, Hfin.out⟩
              case measure => simp [Go.RowKit.intOf]; omega
          · have hki : ¬ ((k : Int) < (l2.length : Int)) := by omega
            have HLS2 := Lib.hid (And.intro hls HLS.out.2)
            clear hls hk hgo
            have hper := HLS2.out.1.sl
            have HLi := Lib.hid (fun x (hx : Below wr.heap.size wr x) => shListA_any (HLS2.out.1.tx.below hx).tx (HLS2.out.1.tx.below hx).vol Id.root (fun p hp => by obtain ⟨k, _, e, _⟩ := HLS2.out.1.sl.mem p hp; rw [e]; rfl) (by have := HLS2.out.1.sl.cntE; have := HLS2.out.2; omega))
            rw [show Id.root.cells = #[.int .i64 (-1), .int .i64 0, .int .u32 0] from rfl] at HLi
            clear hper
            go_upto_region 28 with fail
            go_upto_region 29 with (first
              | (go_at_call 34; refine (Root_lit _).mono ?_; rintro e w6 ⟨rfl, b6⟩)
              | (go_at_call 47; refine (HLi.out _ b6).mono ?_; rintro e w7 ⟨u, l', rfl, hp, ho, hrow, b7⟩))
            have hle := HLS2.out.1.sl.list hp ho
            have hll : l'.length = (thereL there).length := by rw [hle, List.length_map]
            obtain ⟨au, cu, rfl, hau⟩ := hrow.slice
            have hth7 : BoolsAt w7 TH there := grow_obj (grow_trans b6 b7) HLS2.out.1.th
            have hl256 : l'.length ≤ 256 := by rw [hll]; unfold thereL; exact Nat.le_trans (List.length_filter_le _ _) (by simp)
            have H7 := Lib.hid (And.intro hrow (And.intro (grow_trans HLS2.out.1.bel (grow_trans b6 b7)) (And.intro hth7 (And.intro hle (And.intro hll hl256)))))
            clear hp ho hrow b6 b7 hle hll hau hth7 hl256
            go_wp2_with fail
            go_loopw [17, 18] (fun kk ii wx => ∃ i : Nat, i ≤ 256 ∧ ii = .int .i64 i ∧ kk = .int .i64 (cntT there i : Nat) ∧ Below w7.heap.size w7 wx) (fun _ ii _ => 256 - (Go.RowKit.intOf ii).toNat)
            case atStart => exact ⟨0, Nat.zero_le _, rfl, rfl, Below.refl _ _⟩
            case round =>
              obtain ⟨i, hi, rfl, rfl, hbx⟩ := hrel
              by_cases hi2 : i < 256
              · have hii : (i : Int) < 256 := by omega
                have hthc := BoolsAt.cell (grow_obj hbx H7.out.2.2.1) hi2
                have hcs := cntT_succ there i
                have hcl := cntT_le there i
                have hcl2 : (cntT there i : Int) < 256 := by omega
                cases ht : there i with
                | false =>
                  rw [ht] at hthc
                  have Hcs := Lib.hid (show cntT there (i + 1) = cntT there i by rw [hcs, ht]; rfl)
                  have HB := Lib.hid hbx
                  clear hcs ht hbx hcl
                  go_wp2_with fail
                  go_roundw
                  case rel => exact ⟨i + 1, by omega, by go_num, by rw [Hcs.out], HB.out⟩
                  case measure => simp [Go.RowKit.intOf]; omega
                | true =>
                  rw [ht] at hthc
                  have Hcs := Lib.hid (show cntT there (i + 1) = cntT there i + 1 by rw [hcs, ht]; rfl)
                  obtain ⟨q, hq⟩ : ∃ q, q = cntT there i := ⟨_, rfl⟩
                  have hat : l'[q]? = some (nmK i) := by rw [H7.out.2.2.2.1, List.getElem?_map, hq, cntT_at hi2 ht]; rfl
                  have hql := (List.getElem?_eq_some_iff.1 hat).1
                  have hqi : (q : Int) < (l'.length : Int) := by omega
                  have hnl : ¬ ((l'.length : Int) ≤ (q : Int)) := by omega
                  have hd4 : decide ((l'.length : Int) ≤ (q : Int)) = false := decide_eq_false hnl
                  have hrx := H7.out.1.grow hbx (fun _ _ h => h)
                  obtain ⟨gu, cu', hf⟩ := hrx.form (by omega)
                  simp only [Value.slice.injEq] at hf
                  obtain ⟨rfl, hleq, rfl⟩ := hf
                  clear hleq
                  obtain ⟨_, _, _, n3, n4, _⟩ := NmRow.at_ hrx hat
                  rw [show (nmK i).name = nameK i from rfl] at n3
                  rw [show (nmK i).at_ = 3 from rfl] at n4
                  have hs : ((nameK i).toList == (nameK i).toList) = true := by simp
                  have hu8 : IntKind.u8.wrap (i : Int) = i := by rw [wrap_u8]; omega
                  rw [← hq] at Hcs hcl2 ⊢
                  have HB := Lib.hid (And.intro hbx hq)
                  clear hcs ht hbx hcl hq hat hql hrx
                  go_upto_region 34 with fail
                  refine wp_region_held_drew (S := fun w' => w'.cell? ⟨gu, q * 6 + 3, none⟩ = some (.string (nameK i)) ∧ w'.cell? ⟨gu, q * 6 + 4, none⟩ = some (.int .i64 3) ∧ Below wr.heap.size wr w') (by kernel_rfl) (⟨n3, n4, (Below.refl _ _).drew⟩) (fun hHeld => ?_)
                  show wpAnyH _ _ _ _ _ 24 #[false, false, false, false, false, false, false, false, false, false, false, false, false, false, false, false, false, false, false, false, false, false, false, false] _ _
                  refine wpAnyH_take (i := 0) (v := ?kv32) rfl (by kernel_rfl) (by kernel_rfl) (by kernel_rfl) (fun _ _ _ h => h) (Or.inl ⟨by rfl, ?ky32⟩) (by assumption) ?kr32
                  case ky32 => (intro w hSw; (try dsimp only at hSw); go_split_ands; (try simp only [qA, qB]); go_simp; (try with_reducible rfl))
                  try simp only [Act.put, qA, qB, qD, qE, qF]
                  refine wpAnyH_take (i := 1) (v := ?kv33) rfl (by kernel_rfl) (by kernel_rfl) (by kernel_rfl) (fun _ _ _ h => h) (Or.inl ⟨by rfl, ?ky33⟩) (by assumption) ?kr33
                  case ky33 => (intro w hSw; (try dsimp only at hSw); go_split_ands; (try simp only [qA, qB, qC]); go_simp; (try with_reducible rfl))
                  try simp only [Act.put, qA, qB, qC, qD, qE, qF]
                  refine wpAnyH_take (i := 2) (v := ?kv34) rfl (by kernel_rfl) (by kernel_rfl) (by kernel_rfl) (fun _ _ _ h => h) (Or.inl ⟨by rfl, ?ky34⟩) (by assumption) ?kr34
                  case ky34 => (intro w hSw; (try dsimp only at hSw); go_split_ands; (try simp only [qA, qB, qC]); go_simp; (try with_reducible rfl))
                  try simp only [Act.put, qA, qB, qC, qD, qE, qF]
                  refine wpAnyH_take (i := 3) (v := ?kv35) rfl (by kernel_rfl) (by kernel_rfl) (by kernel_rfl) (fun _ _ _ h => h) (Or.inl ⟨by rfl, ?ky35⟩) (by assumption) ?kr35
                  case ky35 => (intro w hSw; (try dsimp only at hSw); go_split_ands; (try simp only [qA, qB, qC]); go_simp; (try with_reducible rfl))
                  try simp only [Act.put, qA, qB, qC, qD, qE, qF]
                  refine wpAnyH_take (i := 4) (v := ?kv36) rfl (by kernel_rfl) (by kernel_rfl) (by kernel_rfl) (fun _ _ _ h => h) (Or.inl ⟨by rfl, ?ky36⟩) (by assumption) ?kr36
                  case ky36 => (intro w hSw; (try dsimp only at hSw); go_split_ands; (try simp only [qA, qB, qC]); go_simp; (try with_reducible rfl))
                  try simp only [Act.put, qA, qB, qC, qD, qE, qF]
                  refine wpAnyH_take (i := 5) (v := ?kv37) rfl (by kernel_rfl) (by kernel_rfl) (by kernel_rfl) (fun _ _ _ h => h) (Or.inl ⟨by rfl, ?ky37⟩) (by assumption) ?kr37
                  case ky37 => (intro w hSw; (try dsimp only at hSw); go_split_ands; (try simp only [qA, qB, qC]); go_simp; (try with_reducible rfl))
                  try simp only [Act.put, qA, qB, qC, qD, qE, qF]
                  refine wpAnyH_take (i := 6) (v := ?kv38) rfl (by kernel_rfl) (by kernel_rfl) (by kernel_rfl) (fun _ _ _ h => h) (Or.inl ⟨by rfl, ?ky38⟩) (by assumption) ?kr38
                  case ky38 => (intro w hSw; (try dsimp only at hSw); go_split_ands; (try simp only [qA, qB, qC]); go_simp; (try with_reducible rfl))
                  try simp only [Act.put, qA, qB, qC, qD, qE, qF]
                  refine wpAnyH_take (i := 7) (v := ?kv39) rfl (by kernel_rfl) (by kernel_rfl) (by kernel_rfl) (fun _ _ _ h => h) (Or.inl ⟨by rfl, ?ky39⟩) (by assumption) ?kr39
                  case ky39 => (intro w hSw; (try dsimp only at hSw); go_split_ands; (try simp only [qA, qB, qC]); go_simp; (try with_reducible rfl))
                  try simp only [Act.put, qA, qB, qC, qD, qE, qF]
                  refine wpAnyH_take (i := 8) (v := ?kv40) rfl (by kernel_rfl) (by kernel_rfl) (by kernel_rfl) (fun _ _ _ h => h) (Or.inl ⟨by rfl, ?ky40⟩) (by assumption) ?kr40
                  case ky40 => (intro w hSw; (try dsimp only at hSw); go_split_ands; (try simp only [qA, qB, qC]); go_simp; (try with_reducible rfl))
                  try simp only [Act.put, qA, qB, qC, qD, qE, qF]
                  refine wpAnyH_take (i := 9) (v := ?kv41) rfl (by kernel_rfl) (by kernel_rfl) (by kernel_rfl) (fun _ _ _ h => h) (Or.inl ⟨by rfl, ?ky41⟩) (by assumption) ?kr41
                  case ky41 => (intro w hSw; (try dsimp only at hSw); go_split_ands; (try simp only [qA, qB, qC]); go_simp; (try with_reducible rfl))
                  try simp only [Act.put, qA, qB, qC, qD, qE, qF]
                  refine wpAnyH_take (i := 10) (v := ?kv42) rfl (by kernel_rfl) (by kernel_rfl) (by kernel_rfl) (fun _ _ _ h => h) (Or.inl ⟨by rfl, ?ky42⟩) (by assumption) ?kr42
                  case ky42 => (intro w hSw; (try dsimp only at hSw); go_split_ands; (try simp only [qA, qB, qC]); go_simp; (try with_reducible rfl))
                  try simp only [Act.put, qA, qB, qC, qD, qE, qF]
                  refine wpAnyH_take (i := 11) (v := ?kv43) rfl (by kernel_rfl) (by kernel_rfl) (by kernel_rfl) (fun _ _ _ h => h) (Or.inl ⟨by rfl, ?ky43⟩) (by assumption) ?kr43
                  case ky43 => (intro w hSw; (try dsimp only at hSw); go_split_ands; (try simp only [qA, qB, qC]); go_simp; (try with_reducible rfl))
                  try simp only [Act.put, qA, qB, qC, qD, qE, qF]
                  refine wpAnyH_take (i := 12) (v := ?kv44) rfl (by kernel_rfl) (by kernel_rfl) (by kernel_rfl) (fun _ _ _ h => h) (Or.inl ⟨by rfl, ?ky44⟩) (by assumption) ?kr44
                  case ky44 => (intro w hSw; (try dsimp only at hSw); go_split_ands; (try simp only [qA, qB, qC]); go_simp; (try with_reducible rfl))
                  try simp only [Act.put, qA, qB, qC, qD, qE, qF]
                  refine wpAnyH_ready (rs := [13]) (by kernel_rfl) (by simp) ?_
                  refine (AllReadyH.cons rfl (fun K hK => ?_) AllReadyH.nil)
                  try simp only [qA, qB, qC]
                  go_simp
                  go_at_call 45; refine (namer_any i hi2 _ rfl _).mono ?_; rintro e x7 ⟨rfl, y7⟩
                  refine hK.out _ _ (by exact ⟨grow_cell (grow_trans hHeld.2.2 y7) n3, grow_cell (grow_trans hHeld.2.2 y7) n4, grow_trans hHeld.2.2 y7⟩) (fun hHeldn => ?_)
                  clear hHeld hK K
                  have hHeld := hHeldn
                  clear hHeldn
                  try simp only [qD, qE, qF]
                  refine wpAnyH_take (i := 14) (v := ?kv46) rfl (by kernel_rfl) (by kernel_rfl) (by kernel_rfl) (fun _ _ _ h => h) (Or.inl ⟨by rfl, ?ky46⟩) (by assumption) ?kr46
                  case ky46 => (intro w hSw; (try dsimp only at hSw); go_split_ands; (try simp only [qA, qB, qC]); go_simp; (try with_reducible rfl))
                  try simp only [Act.put, qA, qB, qC, qD, qE, qF]
                  refine wpAnyH_take (i := 15) (v := ?kv47) rfl (by kernel_rfl) (by kernel_rfl) (by kernel_rfl) (fun _ _ _ h => h) (Or.inl ⟨by rfl, ?ky47⟩) (by assumption) ?kr47
                  case ky47 => (intro w hSw; (try dsimp only at hSw); go_split_ands; (try simp only [qA, qB, qC]); go_simp; (try with_reducible rfl))
                  try simp only [Act.put, qA, qB, qC, qD, qE, qF]
                  refine wpAnyH_take (i := 16) (v := ?kv48) rfl (by kernel_rfl) (by kernel_rfl) (by kernel_rfl) (fun _ _ _ h => h) (Or.inl ⟨by rfl, ?ky48⟩) (by assumption) ?kr48
                  case ky48 => (intro w hSw; (try dsimp only at hSw); go_split_ands; (try simp only [qA, qB, qC]); go_simp; (try with_reducible rfl))
                  try simp only [Act.put, qA, qB, qC, qD, qE, qF]
                  refine wpAnyH_take (i := 17) (v := ?kv49) rfl (by kernel_rfl) (by kernel_rfl) (by kernel_rfl) (fun _ _ _ h => h) (Or.inl ⟨by rfl, ?ky49⟩) (by assumption) ?kr49
                  case ky49 => (intro w hSw; (try dsimp only at hSw); go_split_ands; (try simp only [qA, qB, qC]); go_simp; (try with_reducible rfl))
                  try simp only [Act.put, qA, qB, qC, qD, qE, qF]
                  refine wpAnyH_take (i := 18) (v := ?kv50) rfl (by kernel_rfl) (by kernel_rfl) (by kernel_rfl) (fun _ _ _ h => h) (Or.inl ⟨by rfl, ?ky50⟩) (by assumption) ?kr50
                  case ky50 => (intro w hSw; (try dsimp only at hSw); go_split_ands; (try simp only [qA, qB, qC]); go_simp; (try with_reducible rfl))
                  try simp only [Act.put, qA, qB, qC, qD, qE, qF]
                  refine wpAnyH_take (i := 19) (v := ?kv51) rfl (by kernel_rfl) (by kernel_rfl) (by kernel_rfl) (fun _ _ _ h => h) (Or.inl ⟨by rfl, ?ky51⟩) (by assumption) ?kr51
                  case ky51 => (intro w hSw; (try dsimp only at hSw); go_split_ands; (try simp only [qA, qB, qC]); go_simp; (try with_reducible rfl))
                  try simp only [Act.put, qA, qB, qC, qD, qE, qF]
                  refine wpAnyH_take (i := 20) (v := ?kv52) rfl (by kernel_rfl) (by kernel_rfl) (by kernel_rfl) (fun _ _ _ h => h) (Or.inl ⟨by rfl, ?ky52⟩) (by assumption) ?kr52
                  case ky52 => (intro w hSw; (try dsimp only at hSw); go_split_ands; (try simp only [qA, qB, qC]); go_simp; (try with_reducible rfl))
                  try simp only [Act.put, qA, qB, qC, qD, qE, qF]
                  refine wpAnyH_take (i := 21) (v := ?kv53) rfl (by kernel_rfl) (by kernel_rfl) (by kernel_rfl) (fun _ _ _ h => h) (Or.inl ⟨by rfl, ?ky53⟩) (by assumption) ?kr53
                  case ky53 => (intro w hSw; (try dsimp only at hSw); go_split_ands; (try simp only [qA, qB, qC]); go_simp; (try with_reducible rfl))
                  try simp only [Act.put, qA, qB, qC, qD, qE, qF]
                  refine wpAnyH_take (i := 22) (v := ?kv54) rfl (by kernel_rfl) (by kernel_rfl) (by kernel_rfl) (fun _ _ _ h => h) (Or.inl ⟨by rfl, ?ky54⟩) (by assumption) ?kr54
                  case ky54 => (intro w hSw; (try dsimp only at hSw); go_split_ands; (try simp only [qA, qB, qC]); go_simp; (try with_reducible rfl))
                  try simp only [Act.put, qA, qB, qC, qD, qE, qF]
                  refine wpAnyH_take (i := 23) (v := ?kv55) rfl (by kernel_rfl) (by kernel_rfl) (by kernel_rfl) (fun _ _ _ h => h) (Or.inl ⟨by rfl, ?ky55⟩) (by assumption) ?kr55
                  case ky55 => (intro w hSw; (try dsimp only at hSw); go_split_ands; (try simp only [qA, qB, qC]); go_simp; (try with_reducible rfl))
                  try simp only [Act.put, qA, qB, qC, qD, qE, qF]
                  refine wpAnyH_done (by kernel_rfl) ?_ _
                  go_wp2_with fail
                  go_roundw
                  case rel => exact ⟨i + 1, by omega, by go_num, by rw [Hcs.out]; go_num, grow_trans HB.out.1 hHeld.2.2⟩
                  case measure => simp [Go.RowKit.intOf]; omega
              · obtain rfl : i = 256 := by omega
                have HB := Lib.hid hbx
                have hce : (cntT there 256 : Int) = (l'.length : Int) := by rw [H7.out.2.2.2.2.1, cntT_all]
                clear hbx hi hi2
                go_wp2_with fail
                rw [hce]
                go_ret
                exact ⟨by simp, grow_trans H7.out.2.1 HB.out⟩
      · go_upto_region 21 with fail
        go_wp2_with fail
        go_loopw [14] (fun ii wr => ∃ (k : Nat) (L : PL) (there : Nat → Bool), k ≤ l2.length ∧ ii = .int .i64 k ∧ LS w wr Sd N v d gb cap mm TH st c L T there m) (fun ii _ => l2.length - (Go.RowKit.intOf ii).toNat)
        case atStart => exact ⟨0, L, there, Nat.zero_le _, rfl, HLS.out.1⟩
        case round =>
          obtain ⟨k, L, there, hk, rfl, hls⟩ := hrel
          by_cases hgo : k < l2.length
          · have hki : (k : Int) < (l2.length : Int) := by omega
            have hk30 : (k : Int) < 30 := by have := HL.out.2.2.2; omega
            obtain ⟨ba, off, hba, hcell⟩ := HL.out.2.1
            obtain rfl := hba (by omega)
            have hckw := hcell k hgo
            obtain ⟨cb, hcb⟩ : ∃ cb, cb = l2[k]'hgo := ⟨_, rfl⟩
            rw [← hcb] at hckw
            have hck := grow_cell hls.bel hckw
            have Hck := Lib.hid hckw
            have hlt := cb.toNat_lt
            have HLS := Lib.hid (And.intro hls hgo)
            have hS : ∀ w', Below wr.heap.size wr w' → w'.cell? ⟨ba, off + k, none⟩ = some (.int .u8 (cb.toNat : Int)) ∧ Below wr.heap.size wr w' := fun w' hb => ⟨grow_cell hb hck, hb⟩
            clear hckw hba hcell hcb hls hgo
            go_upto_region 24 with fail
            cases ht : there cb.toNat with
            | true =>
              obtain ⟨q, hq⟩ := (HLS.out.1.sl.find hlt).2 ht
              have hO : ∀ x, Below wr.heap.size wr x → Calls Tryz.prog 46 #[.pointer (some ⟨N + 2, 0, none⟩), .agg Id.root.cells, .string (nameK cb.toNat)] x (fun e w' => e = .returned (.int .i64 0) ∧ TxV w' Sd (N + 2) v N (N + 1) (upB L (q.2 : Int) Blk.zero) T d 0 (shN 60) gb cap mm st c ∧ Keeps (fun q => q = N ∨ q = N + 1) x w') := fun x hx =>
                (shOut_any (HLS.out.1.tx.below hx) Id.root (nameK cb.toNat)).mono (by
                  rintro e w' (⟨h, _⟩ | ⟨p, hp, h1, h2, h3⟩)
                  · rw [hq] at h; cases h
                  · rw [hq] at hp
                    obtain rfl := Option.some.inj hp
                    exact ⟨h1, h2, h3⟩)
              rw [show Id.root.cells = #[.int .i64 (-1), .int .i64 0, .int .u32 0] from rfl] at hO
              have HO := Lib.hid hO
              have Hsl := Lib.hid (HLS.out.1.sl.out hlt hq)
              have Ht := Lib.hid ht
              clear hO hq ht
              refine wp_region_F [8] (S := fun w' => w'.cell? ⟨ba, off + k, none⟩ = some (.int .u8 (cb.toNat : Int)) ∧ Below wr.heap.size wr w') (by kernel_rfl) (hS _ (Below.refl _ _).drew) (fun hHeld => ?_)
              show wpAnyF _ _ _ _ _ _ 10 #[false, false, false, false, false, false, false, false, false, false] _ _
              refine wpAnyF_take [0, 8, 9] (i := 0) (v := ?kv56) rfl (by kernel_rfl) (by kernel_rfl) (by kernel_rfl) (by kernel_rfl) (fun _ _ _ h => h) (Or.inl ⟨by rfl, ?ky56⟩) (by assumption) ?kr56
              case ky56 => (intro w hSw; (try dsimp only at hSw); go_split_ands; (try simp only [qA, qB]); go_simp; (try with_reducible rfl))
              try simp only [Act.put, qA, qB, qD, qE, qF]
              refine wpAnyF_take [2, 7, 8, 9] (i := 2) (v := ?kv57) rfl (by kernel_rfl) (by kernel_rfl) (by kernel_rfl) (by kernel_rfl) (fun _ _ _ h => h) (Or.inl ⟨by rfl, ?ky57⟩) (by assumption) ?kr57
              case ky57 => (intro w hSw; (try dsimp only at hSw); go_split_ands; (try simp only [qA, qB, qC]); go_simp; (try with_reducible rfl))
              try simp only [Act.put, qA, qB, qC, qD, qE, qF]
              refine wpAnyF_take [3, 5, 6, 7, 8, 9] (i := 3) (v := ?kv58) rfl (by kernel_rfl) (by kernel_rfl) (by kernel_rfl) (by kernel_rfl) (fun _ _ _ h => h) (Or.inl ⟨by rfl, ?ky58⟩) (by assumption) ?kr58
              case ky58 => (intro w hSw; (try dsimp only at hSw); go_split_ands; (try simp only [qA, qB, qC]); go_simp; (try with_reducible rfl))
              try simp only [Act.put, qA, qB, qC, qD, qE, qF]
              refine wpAnyF_take [4, 5, 6, 7, 8, 9] (i := 4) (v := ?kv59) rfl (by kernel_rfl) (by kernel_rfl) (by kernel_rfl) (by kernel_rfl) (fun _ _ _ h => h) (Or.inl ⟨by rfl, ?ky59⟩) (by assumption) ?kr59
              case ky59 => (intro w hSw; (try dsimp only at hSw); go_split_ands; (try simp only [qA, qB, qC]); go_simp; (try with_reducible rfl))
              try simp only [Act.put, qA, qB, qC, qD, qE, qF]
              refine wpAnyF_take [5, 6, 7, 8, 9] (i := 5) (v := ?kv60) rfl (by kernel_rfl) (by kernel_rfl) (by kernel_rfl) (by kernel_rfl) (fun _ _ _ h => h) (Or.inl ⟨by rfl, ?ky60⟩) (by assumption) ?kr60
              case ky60 => (intro w hSw; (try dsimp only at hSw); go_split_ands; (try simp only [qA, qB, qC]); go_simp; (try with_reducible rfl))
              try simp only [Act.put, qA, qB, qC, qD, qE, qF]
              refine wpAnyF_take [6, 7, 8, 9] (i := 6) (v := ?kv61) rfl (by kernel_rfl) (by kernel_rfl) (by kernel_rfl) (by kernel_rfl) (fun _ _ _ h => h) (Or.inl ⟨by rfl, ?ky61⟩) (by assumption) ?kr61
              case ky61 => (intro w hSw; (try dsimp only at hSw); go_split_ands; (try simp only [qA, qB, qC]); go_simp; (try with_reducible rfl))
              try simp only [Act.put, qA, qB, qC, qD, qE, qF]
              refine wpAnyF_ready (rs := [1]) (by kernel_rfl) (by simp) ?_
              refine (AllReadyF.cons rfl (fun K hK => ?_) AllReadyF.nil)
              try simp only [qA, qB, qC]
              go_simp
              go_at_call 34; refine (Root_lit _).mono ?_; rintro e x1 ⟨rfl, y1⟩
              refine hK.out _ _ (by exact hS _ (grow_trans hHeld.2 y1)) (fun hHeldn => ?_)
              clear hHeld hK K
              have hHeld := hHeldn
              clear hHeldn
              try simp only [qD, qE, qF]
              refine wpAnyF_ready (rs := [7]) (by kernel_rfl) (by simp) ?_
              refine (AllReadyF.cons rfl (fun K hK => ?_) AllReadyF.nil)
              try simp only [qA, qB, qC]
              go_simp
              go_at_call 45; refine (namer_any cb.toNat hlt _ rfl _).mono ?_; rintro e x7 ⟨rfl, y7⟩
              refine hK.out _ _ (by exact hS _ (grow_trans hHeld.2 y7)) (fun hHeldn => ?_)
              clear hHeld hK K
              have hHeld := hHeldn
              clear hHeldn
              try simp only [qD, qE, qF]
              refine wpAnyF_ready (rs := [8]) (by kernel_rfl) (by simp) ?_
              refine (AllReadyF.last rfl (by kernel_rfl) (fun K hK => ?_) AllReadyF.nil)
              try simp only [qA, qB, qC]
              go_simp
              go_at_call 46; refine (HO.out _ hHeld.2).mono ?_; rintro e x9 ⟨rfl, hT9, hk9⟩
              refine hK.out _ _ (trivial) (fun hHeldn => ?_)
              clear hHeld hK K
              have hHeld := hHeldn
              clear hHeldn
              try simp only [qD, qE, qF]
              refine wpAnyF_pure (i := 9) (v := ?kv65) rfl (by kernel_rfl) (by kernel_rfl) (by kernel_rfl) (by kernel_rfl) (fun _ _ _ h => h) (Or.inl ⟨by rfl, ?ky65⟩) (by first | (intro _; assumption) | (intro h; exact absurd h (by decide))) ?kr65
              case ky65 => (intro w hSw; clear hSw; (try simp only [qA, qB, qC]); go_simp; (try with_reducible rfl))
              try simp only [Act.put, qA, qB, qC, qD, qE, qF]
              refine wpAnyF_done (by kernel_rfl) ?_ _
              have hx7 : Below wr.heap.size wr x7 := grow_trans (grow_trans (Below.refl _ _).drew y1) y7
              have hbel9 : Below w.heap.size w x9 := (grow_trans HLS.out.1.bel hx7).trans (hk9.below (grow_trans HLS.out.1.bel hx7).size (fun q e => by have := H3.out.2.2; omega))
              have hth9 : BoolsAt x9 TH there := hk9.obj (grow_obj hx7 HLS.out.1.th) (fun e => by have := H4.out.2.2.1; omega)
              have hck9 := grow_cell hbel9 Hck.out
              have hth9c := hth9.cell hlt
              rw [Ht.out] at hth9c
              have hth9f : x9.frozen? ⟨TH, cb.toNat, none⟩ = false := free_obj hth9 _
              have hlti : (cb.toNat : Int) < 256 := by omega
              have hset := hth9.set cb.toNat false
              have hsetK : Keeps (fun q => q = TH) x9 (x9.setCell ⟨TH, cb.toNat, none⟩ (.bool false)) := setCell_keeps' _ _ _ _
              have hfin : LS w (x9.setCell ⟨TH, cb.toNat, none⟩ (.bool false)) Sd N v d gb cap mm TH st c (upB L (q.2 : Int) Blk.zero) T (setB there cb.toNat false) m :=
                ⟨hT9.apartK hth9 hsetK (fun q hq e => by have := H3.out.1.vol.dev.lt q hq; have := H4.out.2.2.2; omega), Hsl.out, hset, hbel9.trans (hsetK.below hbel9.size (fun q e => by have := H4.out.2.1; omega))⟩
              have Hfin := Lib.hid hfin
              clear hfin hx7 hbel9 hth9 hT9 hk9 hck hS hHeld hset hsetK
              go_wp2_with fail
              go_roundw
              case rel => exact ⟨k + 1, _, _, by omega, by go_num, Hfin.out⟩
              case measure => simp [Go.RowKit.intOf]; omega
            | false =>
              have hq : findE (txV L st.bs) Id.root (nameK cb.toNat) = none := by
                cases hq : findE (txV L st.bs) Id.root (nameK cb.toNat) with
                | none => rfl
                | some q => rw [(HLS.out.1.sl.find hlt).1 ⟨q, hq⟩] at ht; cases ht
              have hO : ∀ x, Below wr.heap.size wr x → Calls Tryz.prog 46 #[.pointer (some ⟨N + 2, 0, none⟩), .agg Id.root.cells, .string (nameK cb.toNat)] x (fun e w' => e = .returned (.int .i64 2) ∧ TxV w' Sd (N + 2) v N (N + 1) L T d 0 (shN 60) gb cap mm st c ∧ Keeps (fun q => q = N ∨ q = N + 1) x w') := fun x hx =>
                (shOut_any (HLS.out.1.tx.below hx) Id.root (nameK cb.toNat)).mono (by
                  rintro e w' (⟨_, h1, h2, h3⟩ | ⟨p, hp, _⟩)
                  · exact ⟨h1, h2, h3⟩
                  · rw [hq] at hp; cases hp)
              rw [show Id.root.cells = #[.int .i64 (-1), .int .i64 0, .int .u32 0] from rfl] at hO
              have HO := Lib.hid hO
              have hsb : setB there cb.toNat false = there := by
                funext j; unfold setB
                by_cases hj : j = cb.toNat
                · rw [if_pos hj, hj, ht]
                · rw [if_neg hj]
              have Ht := Lib.hid (And.intro ht hsb)
              clear hO hq ht hsb
              refine wp_region_F [8] (S := fun w' => w'.cell? ⟨ba, off + k, none⟩ = some (.int .u8 (cb.toNat : Int)) ∧ Below wr.heap.size wr w') (by kernel_rfl) (hS _ (Below.refl _ _).drew) (fun hHeld => ?_)
              show wpAnyF _ _ _ _ _ _ 10 #[false, false, false, false, false, false, false, false, false, false] _ _
              refine wpAnyF_take [0, 8, 9] (i := 0) (v := ?kv66) rfl (by kernel_rfl) (by kernel_rfl) (by kernel_rfl) (by kernel_rfl) (fun _ _ _ h => h) (Or.inl ⟨by rfl, ?ky66⟩) (by assumption) ?kr66
              case ky66 => (intro w hSw; (try dsimp only at hSw); go_split_ands; (try simp only [qA, qB]); go_simp; (try with_reducible rfl))
              try simp only [Act.put, qA, qB, qD, qE, qF]
              refine wpAnyF_take [2, 7, 8, 9] (i := 2) (v := ?kv67) rfl (by kernel_rfl) (by kernel_rfl) (by kernel_rfl) (by kernel_rfl) (fun _ _ _ h => h) (Or.inl ⟨by rfl, ?ky67⟩) (by assumption) ?kr67
              case ky67 => (intro w hSw; (try dsimp only at hSw); go_split_ands; (try simp only [qA, qB, qC]); go_simp; (try with_reducible rfl))
              try simp only [Act.put, qA, qB, qC, qD, qE, qF]
              refine wpAnyF_take [3, 5, 6, 7, 8, 9] (i := 3) (v := ?kv68) rfl (by kernel_rfl) (by kernel_rfl) (by kernel_rfl) (by kernel_rfl) (fun _ _ _ h => h) (Or.inl ⟨by rfl, ?ky68⟩) (by assumption) ?kr68
              case ky68 => (intro w hSw; (try dsimp only at hSw); go_split_ands; (try simp only [qA, qB, qC]); go_simp; (try with_reducible rfl))
              try simp only [Act.put, qA, qB, qC, qD, qE, qF]
              refine wpAnyF_take [4, 5, 6, 7, 8, 9] (i := 4) (v := ?kv69) rfl (by kernel_rfl) (by kernel_rfl) (by kernel_rfl) (by kernel_rfl) (fun _ _ _ h => h) (Or.inl ⟨by rfl, ?ky69⟩) (by assumption) ?kr69
              case ky69 => (intro w hSw; (try dsimp only at hSw); go_split_ands; (try simp only [qA, qB, qC]); go_simp; (try with_reducible rfl))
              try simp only [Act.put, qA, qB, qC, qD, qE, qF]
              refine wpAnyF_take [5, 6, 7, 8, 9] (i := 5) (v := ?kv70) rfl (by kernel_rfl) (by kernel_rfl) (by kernel_rfl) (by kernel_rfl) (fun _ _ _ h => h) (Or.inl ⟨by rfl, ?ky70⟩) (by assumption) ?kr70
              case ky70 => (intro w hSw; (try dsimp only at hSw); go_split_ands; (try simp only [qA, qB, qC]); go_simp; (try with_reducible rfl))
              try simp only [Act.put, qA, qB, qC, qD, qE, qF]
              refine wpAnyF_take [6, 7, 8, 9] (i := 6) (v := ?kv71) rfl (by kernel_rfl) (by kernel_rfl) (by kernel_rfl) (by kernel_rfl) (fun _ _ _ h => h) (Or.inl ⟨by rfl, ?ky71⟩) (by assumption) ?kr71
              case ky71 => (intro w hSw; (try dsimp only at hSw); go_split_ands; (try simp only [qA, qB, qC]); go_simp; (try with_reducible rfl))
              try simp only [Act.put, qA, qB, qC, qD, qE, qF]
              refine wpAnyF_ready (rs := [1]) (by kernel_rfl) (by simp) ?_
              refine (AllReadyF.cons rfl (fun K hK => ?_) AllReadyF.nil)
              try simp only [qA, qB, qC]
              go_simp
              go_at_call 34; refine (Root_lit _).mono ?_; rintro e x1 ⟨rfl, y1⟩
              refine hK.out _ _ (by exact hS _ (grow_trans hHeld.2 y1)) (fun hHeldn => ?_)
              clear hHeld hK K
              have hHeld := hHeldn
              clear hHeldn
              try simp only [qD, qE, qF]
              refine wpAnyF_ready (rs := [7]) (by kernel_rfl) (by simp) ?_
              refine (AllReadyF.cons rfl (fun K hK => ?_) AllReadyF.nil)
              try simp only [qA, qB, qC]
              go_simp
              go_at_call 45; refine (namer_any cb.toNat hlt _ rfl _).mono ?_; rintro e x7 ⟨rfl, y7⟩
              refine hK.out _ _ (by exact hS _ (grow_trans hHeld.2 y7)) (fun hHeldn => ?_)
              clear hHeld hK K
              have hHeld := hHeldn
              clear hHeldn
              try simp only [qD, qE, qF]
              refine wpAnyF_ready (rs := [8]) (by kernel_rfl) (by simp) ?_
              refine (AllReadyF.last rfl (by kernel_rfl) (fun K hK => ?_) AllReadyF.nil)
              try simp only [qA, qB, qC]
              go_simp
              go_at_call 46; refine (HO.out _ hHeld.2).mono ?_; rintro e x9 ⟨rfl, hT9, hk9⟩
              refine hK.out _ _ (trivial) (fun hHeldn => ?_)
              clear hHeld hK K
              have hHeld := hHeldn
              clear hHeldn
              try simp only [qD, qE, qF]
              refine wpAnyF_pure (i := 9) (v := ?kv75) rfl (by kernel_rfl) (by kernel_rfl) (by kernel_rfl) (by kernel_rfl) (fun _ _ _ h => h) (Or.inl ⟨by rfl, ?ky75⟩) (by first | (intro _; assumption) | (intro h; exact absurd h (by decide))) ?kr75
              case ky75 => (intro w hSw; clear hSw; (try simp only [qA, qB, qC]); go_simp; (try with_reducible rfl))
              try simp only [Act.put, qA, qB, qC, qD, qE, qF]
              refine wpAnyF_done (by kernel_rfl) ?_ _
              have hx7 : Below wr.heap.size wr x7 := grow_trans (grow_trans (Below.refl _ _).drew y1) y7
              have hbel9 : Below w.heap.size w x9 := (grow_trans HLS.out.1.bel hx7).trans (hk9.below (grow_trans HLS.out.1.bel hx7).size (fun q e => by have := H3.out.2.2; omega))
              have hth9 : BoolsAt x9 TH there := hk9.obj (grow_obj hx7 HLS.out.1.th) (fun e => by have := H4.out.2.2.1; omega)
              have hck9 := grow_cell hbel9 Hck.out
              have hth9c := hth9.cell hlt
              rw [Ht.out.1] at hth9c
              have hth9f : x9.frozen? ⟨TH, cb.toNat, none⟩ = false := free_obj hth9 _
              have hlti : (cb.toNat : Int) < 256 := by omega
              have hset := hth9.set cb.toNat false
              rw [Ht.out.2] at hset
              have hsetK : Keeps (fun q => q = TH) x9 (x9.setCell ⟨TH, cb.toNat, none⟩ (.bool false)) := setCell_keeps' _ _ _ _
              have hfin : LS w (x9.setCell ⟨TH, cb.toNat, none⟩ (.bool false)) Sd N v d gb cap mm TH st c L T there m :=
                ⟨hT9.apartK hth9 hsetK (fun q hq e => by have := H3.out.1.vol.dev.lt q hq; have := H4.out.2.2.2; omega), HLS.out.1.sl, hset, hbel9.trans (hsetK.below hbel9.size (fun q e => by have := H4.out.2.1; omega))⟩
              have Hfin := Lib.hid hfin
              clear hfin hx7 hbel9 hth9 hT9 hk9 hck hS hHeld hset hsetK
              go_wp2_with fail
              go_roundw
              case rel => exact ⟨k + 1, _, _, by omega, by go_num, Hfin.out⟩
              case measure => simp [Go.RowKit.intOf]; omega
          · have hki : ¬ ((k : Int) < (l2.length : Int)) := by omega
            have HLS2 := Lib.hid (And.intro hls HLS.out.2)
            clear hls hk hgo
            have hper := HLS2.out.1.sl
            have HLi := Lib.hid (fun x (hx : Below wr.heap.size wr x) => shListA_any (HLS2.out.1.tx.below hx).tx (HLS2.out.1.tx.below hx).vol Id.root (fun p hp => by obtain ⟨k, _, e, _⟩ := HLS2.out.1.sl.mem p hp; rw [e]; rfl) (by have := HLS2.out.1.sl.cntE; have := HLS2.out.2; omega))
            rw [show Id.root.cells = #[.int .i64 (-1), .int .i64 0, .int .u32 0] from rfl] at HLi
            clear hper
            go_upto_region 28 with fail
            go_upto_region 29 with (first
              | (go_at_call 34; refine (Root_lit _).mono ?_; rintro e w6 ⟨rfl, b6⟩)
              | (go_at_call 47; refine (HLi.out _ b6).mono ?_; rintro e w7 ⟨u, l', rfl, hp, ho, hrow, b7⟩))
            have hle := HLS2.out.1.sl.list hp ho
            have hll : l'.length = (thereL there).length := by rw [hle, List.length_map]
            obtain ⟨au, cu, rfl, hau⟩ := hrow.slice
            have hth7 : BoolsAt w7 TH there := grow_obj (grow_trans b6 b7) HLS2.out.1.th
            have hl256 : l'.length ≤ 256 := by rw [hll]; unfold thereL; exact Nat.le_trans (List.length_filter_le _ _) (by simp)
            have H7 := Lib.hid (And.intro hrow (And.intro (grow_trans HLS2.out.1.bel (grow_trans b6 b7)) (And.intro hth7 (And.intro hle (And.intro hll hl256)))))
            clear hp ho hrow b6 b7 hle hll hau hth7 hl256
            go_wp2_with fail
            go_loopw [17, 18] (fun kk ii wx => ∃ i : Nat, i ≤ 256 ∧ ii = .int .i64 i ∧ kk = .int .i64 (cntT there i : Nat) ∧ Below w7.heap.size w7 wx) (fun _ ii _ => 256 - (Go.RowKit.intOf ii).toNat)
            case atStart => exact ⟨0, Nat.zero_le _, rfl, rfl, Below.refl _ _⟩
            case round =>
              obtain ⟨i, hi, rfl, rfl, hbx⟩ := hrel
              by_cases hi2 : i < 256
              · have hii : (i : Int) < 256 := by omega
                have hthc := BoolsAt.cell (grow_obj hbx H7.out.2.2.1) hi2
                have hcs := cntT_succ there i
                have hcl := cntT_le there i
                have hcl2 : (cntT there i : Int) < 256 := by omega
                cases ht : there i with
                | false =>
                  rw [ht] at hthc
                  have Hcs := Lib.hid (show cntT there (i + 1) = cntT there i by rw [hcs, ht]; rfl)
                  have HB := Lib.hid hbx
                  clear hcs ht hbx hcl
                  go_wp2_with fail
                  go_roundw
                  case rel => exact ⟨i + 1, by omega, by go_num, by rw [Hcs.out], HB.out⟩
                  case measure => simp [Go.RowKit.intOf]; omega
                | true =>
                  rw [ht] at hthc
                  have Hcs := Lib.hid (show cntT there (i + 1) = cntT there i + 1 by rw [hcs, ht]; rfl)
                  obtain ⟨q, hq⟩ : ∃ q, q = cntT there i := ⟨_, rfl⟩
                  have hat : l'[q]? = some (nmK i) := by rw [H7.out.2.2.2.1, List.getElem?_map, hq, cntT_at hi2 ht]; rfl
                  have hql := (List.getElem?_eq_some_iff.1 hat).1
                  have hqi : (q : Int) < (l'.length : Int) := by omega
                  have hnl : ¬ ((l'.length : Int) ≤ (q : Int)) := by omega
                  have hd4 : decide ((l'.length : Int) ≤ (q : Int)) = false := decide_eq_false hnl
                  have hrx := H7.out.1.grow hbx (fun _ _ h => h)
                  obtain ⟨gu, cu', hf⟩ := hrx.form (by omega)
                  simp only [Value.slice.injEq] at hf
                  obtain ⟨rfl, hleq, rfl⟩ := hf
                  clear hleq
                  obtain ⟨_, _, _, n3, n4, _⟩ := NmRow.at_ hrx hat
                  rw [show (nmK i).name = nameK i from rfl] at n3
                  rw [show (nmK i).at_ = 3 from rfl] at n4
                  have hs : ((nameK i).toList == (nameK i).toList) = true := by simp
                  have hu8 : IntKind.u8.wrap (i : Int) = i := by rw [wrap_u8]; omega
                  rw [← hq] at Hcs hcl2 ⊢
                  have HB := Lib.hid (And.intro hbx hq)
                  clear hcs ht hbx hcl hq hat hql hrx
                  go_upto_region 34 with fail
                  refine wp_region_held_drew (S := fun w' => w'.cell? ⟨gu, q * 6 + 3, none⟩ = some (.string (nameK i)) ∧ w'.cell? ⟨gu, q * 6 + 4, none⟩ = some (.int .i64 3) ∧ Below wr.heap.size wr w') (by kernel_rfl) (⟨n3, n4, (Below.refl _ _).drew⟩) (fun hHeld => ?_)
                  show wpAnyH _ _ _ _ _ 24 #[false, false, false, false, false, false, false, false, false, false, false, false, false, false, false, false, false, false, false, false, false, false, false, false] _ _
                  refine wpAnyH_take (i := 0) (v := ?kv76) rfl (by kernel_rfl) (by kernel_rfl) (by kernel_rfl) (fun _ _ _ h => h) (Or.inl ⟨by rfl, ?ky76⟩) (by assumption) ?kr76
                  case ky76 => (intro w hSw; (try dsimp only at hSw); go_split_ands; (try simp only [qA, qB]); go_simp; (try with_reducible rfl))
                  try simp only [Act.put, qA, qB, qD, qE, qF]
                  refine wpAnyH_take (i := 1) (v := ?kv77) rfl (by kernel_rfl) (by kernel_rfl) (by kernel_rfl) (fun _ _ _ h => h) (Or.inl ⟨by rfl, ?ky77⟩) (by assumption) ?kr77
                  case ky77 => (intro w hSw; (try dsimp only at hSw); go_split_ands; (try simp only [qA, qB, qC]); go_simp; (try with_reducible rfl))
                  try simp only [Act.put, qA, qB, qC, qD, qE, qF]
                  refine wpAnyH_take (i := 2) (v := ?kv78) rfl (by kernel_rfl) (by kernel_rfl) (by kernel_rfl) (fun _ _ _ h => h) (Or.inl ⟨by rfl, ?ky78⟩) (by assumption) ?kr78
                  case ky78 => (intro w hSw; (try dsimp only at hSw); go_split_ands; (try simp only [qA, qB, qC]); go_simp; (try with_reducible rfl))
                  try simp only [Act.put, qA, qB, qC, qD, qE, qF]
                  refine wpAnyH_take (i := 3) (v := ?kv79) rfl (by kernel_rfl) (by kernel_rfl) (by kernel_rfl) (fun _ _ _ h => h) (Or.inl ⟨by rfl, ?ky79⟩) (by assumption) ?kr79
                  case ky79 => (intro w hSw; (try dsimp only at hSw); go_split_ands; (try simp only [qA, qB, qC]); go_simp; (try with_reducible rfl))
                  try simp only [Act.put, qA, qB, qC, qD, qE, qF]
                  refine wpAnyH_take (i := 4) (v := ?kv80) rfl (by kernel_rfl) (by kernel_rfl) (by kernel_rfl) (fun _ _ _ h => h) (Or.inl ⟨by rfl, ?ky80⟩) (by assumption) ?kr80
                  case ky80 => (intro w hSw; (try dsimp only at hSw); go_split_ands; (try simp only [qA, qB, qC]); go_simp; (try with_reducible rfl))
                  try simp only [Act.put, qA, qB, qC, qD, qE, qF]
                  refine wpAnyH_take (i := 5) (v := ?kv81) rfl (by kernel_rfl) (by kernel_rfl) (by kernel_rfl) (fun _ _ _ h => h) (Or.inl ⟨by rfl, ?ky81⟩) (by assumption) ?kr81
                  case ky81 => (intro w hSw; (try dsimp only at hSw); go_split_ands; (try simp only [qA, qB, qC]); go_simp; (try with_reducible rfl))
                  try simp only [Act.put, qA, qB, qC, qD, qE, qF]
                  refine wpAnyH_take (i := 6) (v := ?kv82) rfl (by kernel_rfl) (by kernel_rfl) (by kernel_rfl) (fun _ _ _ h => h) (Or.inl ⟨by rfl, ?ky82⟩) (by assumption) ?kr82
                  case ky82 => (intro w hSw; (try dsimp only at hSw); go_split_ands; (try simp only [qA, qB, qC]); go_simp; (try with_reducible rfl))
                  try simp only [Act.put, qA, qB, qC, qD, qE, qF]
                  refine wpAnyH_take (i := 7) (v := ?kv83) rfl (by kernel_rfl) (by kernel_rfl) (by kernel_rfl) (fun _ _ _ h => h) (Or.inl ⟨by rfl, ?ky83⟩) (by assumption) ?kr83
                  case ky83 => (intro w hSw; (try dsimp only at hSw); go_split_ands; (try simp only [qA, qB, qC]); go_simp; (try with_reducible rfl))
                  try simp only [Act.put, qA, qB, qC, qD, qE, qF]
                  refine wpAnyH_take (i := 8) (v := ?kv84) rfl (by kernel_rfl) (by kernel_rfl) (by kernel_rfl) (fun _ _ _ h => h) (Or.inl ⟨by rfl, ?ky84⟩) (by assumption) ?kr84
                  case ky84 => (intro w hSw; (try dsimp only at hSw); go_split_ands; (try simp only [qA, qB, qC]); go_simp; (try with_reducible rfl))
                  try simp only [Act.put, qA, qB, qC, qD, qE, qF]
                  refine wpAnyH_take (i := 9) (v := ?kv85) rfl (by kernel_rfl) (by kernel_rfl) (by kernel_rfl) (fun _ _ _ h => h) (Or.inl ⟨by rfl, ?ky85⟩) (by assumption) ?kr85
                  case ky85 => (intro w hSw; (try dsimp only at hSw); go_split_ands; (try simp only [qA, qB, qC]); go_simp; (try with_reducible rfl))
                  try simp only [Act.put, qA, qB, qC, qD, qE, qF]
                  refine wpAnyH_take (i := 10) (v := ?kv86) rfl (by kernel_rfl) (by kernel_rfl) (by kernel_rfl) (fun _ _ _ h => h) (Or.inl ⟨by rfl, ?ky86⟩) (by assumption) ?kr86
                  case ky86 => (intro w hSw; (try dsimp only at hSw); go_split_ands; (try simp only [qA, qB, qC]); go_simp; (try with_reducible rfl))
                  try simp only [Act.put, qA, qB, qC, qD, qE, qF]
                  refine wpAnyH_take (i := 11) (v := ?kv87) rfl (by kernel_rfl) (by kernel_rfl) (by kernel_rfl) (fun _ _ _ h => h) (Or.inl ⟨by rfl, ?ky87⟩) (by assumption) ?kr87
                  case ky87 => (intro w hSw; (try dsimp only at hSw); go_split_ands; (try simp only [qA, qB, qC]); go_simp; (try with_reducible rfl))
                  try simp only [Act.put, qA, qB, qC, qD, qE, qF]
                  refine wpAnyH_take (i := 12) (v := ?kv88) rfl (by kernel_rfl) (by kernel_rfl) (by kernel_rfl) (fun _ _ _ h => h) (Or.inl ⟨by rfl, ?ky88⟩) (by assumption) ?kr88
                  case ky88 => (intro w hSw; (try dsimp only at hSw); go_split_ands; (try simp only [qA, qB, qC]); go_simp; (try with_reducible rfl))
                  try simp only [Act.put, qA, qB, qC, qD, qE, qF]
                  refine wpAnyH_ready (rs := [13]) (by kernel_rfl) (by simp) ?_
                  refine (AllReadyH.cons rfl (fun K hK => ?_) AllReadyH.nil)
                  try simp only [qA, qB, qC]
                  go_simp
                  go_at_call 45; refine (namer_any i hi2 _ rfl _).mono ?_; rintro e x7 ⟨rfl, y7⟩
                  refine hK.out _ _ (by exact ⟨grow_cell (grow_trans hHeld.2.2 y7) n3, grow_cell (grow_trans hHeld.2.2 y7) n4, grow_trans hHeld.2.2 y7⟩) (fun hHeldn => ?_)
                  clear hHeld hK K
                  have hHeld := hHeldn
                  clear hHeldn
                  try simp only [qD, qE, qF]
                  refine wpAnyH_take (i := 14) (v := ?kv90) rfl (by kernel_rfl) (by kernel_rfl) (by kernel_rfl) (fun _ _ _ h => h) (Or.inl ⟨by rfl, ?ky90⟩) (by assumption) ?kr90
                  case ky90 => (intro w hSw; (try dsimp only at hSw); go_split_ands; (try simp only [qA, qB, qC]); go_simp; (try with_reducible rfl))
                  try simp only [Act.put, qA, qB, qC, qD, qE, qF]
                  refine wpAnyH_take (i := 15) (v := ?kv91) rfl (by kernel_rfl) (by kernel_rfl) (by kernel_rfl) (fun _ _ _ h => h) (Or.inl ⟨by rfl, ?ky91⟩) (by assumption) ?kr91
                  case ky91 => (intro w hSw; (try dsimp only at hSw); go_split_ands; (try simp only [qA, qB, qC]); go_simp; (try with_reducible rfl))
                  try simp only [Act.put, qA, qB, qC, qD, qE, qF]
                  refine wpAnyH_take (i := 16) (v := ?kv92) rfl (by kernel_rfl) (by kernel_rfl) (by kernel_rfl) (fun _ _ _ h => h) (Or.inl ⟨by rfl, ?ky92⟩) (by assumption) ?kr92
                  case ky92 => (intro w hSw; (try dsimp only at hSw); go_split_ands; (try simp only [qA, qB, qC]); go_simp; (try with_reducible rfl))
                  try simp only [Act.put, qA, qB, qC, qD, qE, qF]
                  refine wpAnyH_take (i := 17) (v := ?kv93) rfl (by kernel_rfl) (by kernel_rfl) (by kernel_rfl) (fun _ _ _ h => h) (Or.inl ⟨by rfl, ?ky93⟩) (by assumption) ?kr93
                  case ky93 => (intro w hSw; (try dsimp only at hSw); go_split_ands; (try simp only [qA, qB, qC]); go_simp; (try with_reducible rfl))
                  try simp only [Act.put, qA, qB, qC, qD, qE, qF]
                  refine wpAnyH_take (i := 18) (v := ?kv94) rfl (by kernel_rfl) (by kernel_rfl) (by kernel_rfl) (fun _ _ _ h => h) (Or.inl ⟨by rfl, ?ky94⟩) (by assumption) ?kr94
                  case ky94 => (intro w hSw; (try dsimp only at hSw); go_split_ands; (try simp only [qA, qB, qC]); go_simp; (try with_reducible rfl))
                  try simp only [Act.put, qA, qB, qC, qD, qE, qF]
                  refine wpAnyH_take (i := 19) (v := ?kv95) rfl (by kernel_rfl) (by kernel_rfl) (by kernel_rfl) (fun _ _ _ h => h) (Or.inl ⟨by rfl, ?ky95⟩) (by assumption) ?kr95
                  case ky95 => (intro w hSw; (try dsimp only at hSw); go_split_ands; (try simp only [qA, qB, qC]); go_simp; (try with_reducible rfl))
                  try simp only [Act.put, qA, qB, qC, qD, qE, qF]
                  refine wpAnyH_take (i := 20) (v := ?kv96) rfl (by kernel_rfl) (by kernel_rfl) (by kernel_rfl) (fun _ _ _ h => h) (Or.inl ⟨by rfl, ?ky96⟩) (by assumption) ?kr96
                  case ky96 => (intro w hSw; (try dsimp only at hSw); go_split_ands; (try simp only [qA, qB, qC]); go_simp; (try with_reducible rfl))
                  try simp only [Act.put, qA, qB, qC, qD, qE, qF]
                  refine wpAnyH_take (i := 21) (v := ?kv97) rfl (by kernel_rfl) (by kernel_rfl) (by kernel_rfl) (fun _ _ _ h => h) (Or.inl ⟨by rfl, ?ky97⟩) (by assumption) ?kr97
                  case ky97 => (intro w hSw; (try dsimp only at hSw); go_split_ands; (try simp only [qA, qB, qC]); go_simp; (try with_reducible rfl))
                  try simp only [Act.put, qA, qB, qC, qD, qE, qF]
                  refine wpAnyH_take (i := 22) (v := ?kv98) rfl (by kernel_rfl) (by kernel_rfl) (by kernel_rfl) (fun _ _ _ h => h) (Or.inl ⟨by rfl, ?ky98⟩) (by assumption) ?kr98
                  case ky98 => (intro w hSw; (try dsimp only at hSw); go_split_ands; (try simp only [qA, qB, qC]); go_simp; (try with_reducible rfl))
                  try simp only [Act.put, qA, qB, qC, qD, qE, qF]
                  refine wpAnyH_take (i := 23) (v := ?kv99) rfl (by kernel_rfl) (by kernel_rfl) (by kernel_rfl) (fun _ _ _ h => h) (Or.inl ⟨by rfl, ?ky99⟩) (by assumption) ?kr99
                  case ky99 => (intro w hSw; (try dsimp only at hSw); go_split_ands; (try simp only [qA, qB, qC]); go_simp; (try with_reducible rfl))
                  try simp only [Act.put, qA, qB, qC, qD, qE, qF]
                  refine wpAnyH_done (by kernel_rfl) ?_ _
                  go_wp2_with fail
                  go_roundw
                  case rel => exact ⟨i + 1, by omega, by go_num, by rw [Hcs.out]; go_num, grow_trans HB.out.1 hHeld.2.2⟩
                  case measure => simp [Go.RowKit.intOf]; omega
              · obtain rfl : i = 256 := by omega
                have HB := Lib.hid hbx
                have hce : (cntT there 256 : Int) = (l'.length : Int) := by rw [H7.out.2.2.2.2.1, cntT_all]
                clear hbx hi hi2
                go_wp2_with fail
                rw [hce]
                go_ret
                exact ⟨by simp, grow_trans H7.out.2.1 HB.out⟩
end Go.Proofs.YtbbnejehglonjaaGreat
