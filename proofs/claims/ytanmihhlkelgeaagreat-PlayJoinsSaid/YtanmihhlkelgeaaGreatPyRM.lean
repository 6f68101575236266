/- DERIVED. clathrilaw28.PlayJoins returns true. -/
import Derived.Test.YtanmihhlkelgeaaGreatMg31
namespace Go.Proofs.YtanmihhlkelgeaaGreat
open Go.RowKit Go.ChangeShapes Go.WideShapes
attribute [local irreducible] Calls
set_option maxRecDepth 100000

theorem keeps_from {B : Nat} {a b : World} (h : Below B a b) : Keeps (fun q => B ≤ q) a b := ⟨h.os, h.tape, h.output, h.size, fun k _ hn => h.block k (by omega)⟩
set_option maxHeartbeats 8000000 in
theorem walk_PlayJoins {H : Type} {enc : TypeId × Value → H} {d d2 : DataW H} {p p2 : List MemPlace} {base base2 : Nat} (a : Option Addr) (len cap : Nat) (a' : Option Addr) (len' cap' : Nat) (w : World)
    (h : DataW.Trod enc Tryz.prog w 0 (fun _ => true) true 22 (.slice a len cap) d p) (hok : Value.okWide Tryz.prog w .any base 22 (.slice a len cap))
    (h' : DataW.Trod enc Tryz.prog w 0 (fun _ => true) true 22 (.slice a' len' cap') d2 p2) (hok' : Value.okWide Tryz.prog w .any base2 22 (.slice a' len' cap')) :
    Calls Tryz.prog 4 #[.slice a len cap, .slice a' len' cap'] w fun e w' => e = .returned (.bool true) ∧ Below w.heap.size w w' := by
  obtain ⟨b, rfl, hb⟩ := barg_of h hok
  obtain ⟨b', rfl, hb'⟩ := barg_of h' hok'
  clear h hok h' hok'
  by_cases hlen : 100 < b.length
  · have hl1 : (100 : Int) < (b.length : Int) := by omega
    clear hb hb' hlen
    go_enter Tryz.func4, Tryz.ntmps4
    go_wp2_with (go_at_call 7; refine (begun_ok _).mono ?_; rintro e w1 ⟨rfl, b1⟩)
    go_ret
    exact ⟨rfl, b1⟩
  have hl1 : ¬ (100 : Int) < (b.length : Int) := by omega
  by_cases hlen' : 100 < b'.length
  · have hl2 : (100 : Int) < (b'.length : Int) := by omega
    clear hb hb' hlen hlen'
    go_enter Tryz.func4, Tryz.ntmps4
    go_wp2_with (go_at_call 7; refine (begun_ok _).mono ?_; rintro e w1 ⟨rfl, b1⟩)
    go_ret
    exact ⟨rfl, b1⟩
  have hl2 : ¬ (100 : Int) < (b'.length : Int) := by omega
  obtain ⟨L, hL⟩ : ∃ L, L = decode b := ⟨_, rfl⟩
  obtain ⟨M, hM⟩ : ∃ M, M = decode b' := ⟨_, rfl⟩
  have hLlen : L.length ≤ 100 := by rw [hL]; exact Nat.le_trans (decode_len b) (by omega)
  have hMlen : M.length ≤ 100 := by rw [hM]; exact Nat.le_trans (decode_len b') (by omega)
  have hSL : ∀ s ∈ L, Say s := by rw [hL]; exact say_decode b
  have hSM : ∀ s ∈ M, Say s := by rw [hM]; exact say_decode b'
  have hjb : decode (encode L ++ encode M) = L ++ M := by rw [hL, hM]; exact joins_back b b'
  have hCL : (encode L).length ≤ 210000 := Nat.le_trans (encode_len2 hSL) (by omega)
  have hCM : (encode M).length ≤ 210000 := Nat.le_trans (encode_len2 hSM) (by omega)
  have HL := Lib.hid (And.intro (And.intro hL (And.intro hLlen (And.intro hSL (And.intro hCL hb)))) (And.intro (And.intro hM (And.intro hMlen (And.intro hSM (And.intro hCM hb')))) hjb))
  clear hL hSL hb hM hSM hb' hjb hlen hlen' hCL hCM
  go_enter Tryz.func4, Tryz.ntmps4
  go_upto_region 6 with (first
    | (go_at_call 7; refine (begun_ok _).mono ?_; rintro e w1 ⟨rfl, b1⟩; have HB1 := Lib.hid b1; have HD1 := Lib.hid ((HL.out.1.2.2.2.2.below b1).decode (by omega)); have HD2 := fun w' (hb : Below w1.heap.size w1 w') => ((HL.out.2.1.2.2.2.2.below HB1.out).below hb).decode (by omega); clear b1)
    | (go_at_call 8; refine HD1.out.mono ?_; rintro e w2 ⟨v2, rfl, hr2, b2⟩; rw [← HL.out.1.1] at hr2; obtain ⟨a2, c2, rfl, hat2, _, hn2⟩ := hr2.arg; have H2 := Lib.hid (And.intro hat2 (And.intro b2 hn2)); clear hr2 hat2 b2 hn2)
    | (go_at_call 8; refine (HD2 w2 H2.out.2.1).mono ?_; rintro e w3 ⟨v3, rfl, hr3, b3⟩; rw [← HL.out.2.1.1] at hr3; obtain ⟨a3, c3, rfl, hat3, _, hn3⟩ := hr3.arg; have H3 := Lib.hid (And.intro hat3 (And.intro b3 hn3)); clear hr3 hat3 b3 hn3))
  clear HD2 HD1
  have hB0 : Below w3.heap.size w3 (w3.alloc (.cells #[] 35)) := grow_alloc (Below.refl _ _) _
  have hLw : StpsAt w3 w3.heap.size a2 L := H2.out.1.grow H3.out.2.1
  obtain ⟨xl, hxl, hcl⟩ := (hLw.below hB0 (Nat.le_refl _)).cells
  have h1L : L.length * 11 = xl.length := hxl.len.symm
  have HX := Lib.hid (And.intro hxl (And.intro hcl hLw))
  go_upto_region 7 with (first
    | (at_builtin; refine list_appN elemStpK rfl _ _ rfl rfl (owns_empty (g := w3.heap.size) (base := w3.heap.size) (by simp [objAt_alloc]) (Nat.le_refl _)) (news := xl) rfl (fun e => ⟨by rw [(H2.out.2.2 e).1]; rfl, (H2.out.2.2 e).2⟩) HX.out.1.len HX.out.2.1 HX.out.1.one (by omega) (by simp) ?_; intro v4 w4 hw4 b4; obtain ⟨xm, hxm, hcm⟩ := ((H3.out.1.below (grow_alloc (Below.refl _ _) (.cells #[] 35)) (Nat.le_refl _)).keeps (keeps_from b4) (fun q hq => hq) (by simp)).cells; have H4 := Lib.hid (And.intro hw4 (And.intro b4 (And.intro hxm hcm))); clear hw4 b4 hxm hcm)
    | (at_builtin; refine list_appN elemStpK rfl _ _ rfl rfl H4.out.1 (news := xm) rfl (fun e => ⟨by rw [(H3.out.2.2 e).1]; rfl, (H3.out.2.2 e).2⟩) H4.out.2.2.1.len H4.out.2.2.2 H4.out.2.2.1.one (by omega) (by have := H4.out.2.1.size; simp at this ⊢; omega) ?_; intro v5 w5 hw5 b5; have H5 := Lib.hid (And.intro hw5 b5); clear hw5 b5))
  have hB35 : Below w3.heap.size w3 w5 := (hB0.trans H4.out.2.1).trans H5.out.2
  have h05 : w3.heap.size ≤ w5.heap.size := hB35.size
  have hxl5 : StpC w5 w3.heap.size L xl := HX.out.1.keeps ((keeps_from H4.out.2.1).trans (keeps_from H5.out.2)) (fun q hq => hq) hB0.size
  have hxm5 : StpC w5 w3.heap.size M xm := H4.out.2.2.1.keeps (keeps_from H5.out.2) (fun q hq => hq) (Nat.le_trans hB0.size H4.out.2.1.size)
  obtain ⟨a7, c7, rfl, hat7, hn7⟩ := (hxl5.append hxm5).row (B := w3.heap.size) (v := v5) (by have := H5.out.1; rw [Nat.zero_add, List.nil_append] at this; rw [List.length_append]; exact this) h05
  have HE1 := Lib.hid (encode_any (cap := c2) (hLw.grow hB35) (fun s hs => fits_say (HL.out.1.2.2.1 s hs)) (by omega))
  have H7 := Lib.hid (And.intro hat7 (And.intro hB35 (H3.out.1.grow hB35)))
  obtain ⟨X, hX⟩ : ∃ X, X = encode L := ⟨_, rfl⟩
  obtain ⟨Y, hY⟩ : ∃ Y, Y = encode M := ⟨_, rfl⟩
  rw [← hX] at HE1
  have hXl : X.length ≤ 210000 := by rw [hX]; exact HL.out.1.2.2.2.1
  have hYl : Y.length ≤ 210000 := by rw [hY]; exact HL.out.2.1.2.2.2.1
  have hdec : decode (X ++ Y) = L ++ M := by rw [hX, hY]; exact HL.out.2.2
  have henc : encode (L ++ M) = X ++ Y := by rw [hX, hY]; exact joins L M
  have HXY := Lib.hid (And.intro hdec (And.intro henc hY))
  clear hB0 hB35 h05 hxl5 hxm5 hat7 hn7 hxl hcl hLw h1L hX hY hdec henc
  go_upto_region 8 with (first
    | (go_at_call 9; refine HE1.out.mono ?_; rintro e w6 ⟨v6, rfl, hr6, b6⟩; have HE2 := Lib.hid (encode_any (cap := c3) (H7.out.2.2.grow b6) (fun s hs => fits_say (HL.out.2.1.2.2.1 s hs)) (by omega)); have H6 := Lib.hid (And.intro hr6 b6); clear hr6 b6)
    | (go_at_call 9; refine HE2.out.mono ?_; rintro e w7 ⟨v7, rfl, hr7, b7⟩; rw [← HXY.out.2.2] at hr7; obtain ⟨ay, cy, rfl, hAy⟩ := hr7.arg; obtain ⟨ax, cx, rfl, hAx⟩ := H6.out.1.arg; have H8 := Lib.hid (And.intro (hAx.below b7) (And.intro hAy b7)); clear hr7 hAy hAx b7))
  have hB57 := grow_trans H6.out.2 H8.out.2.2
  have hS : ∀ w', Below w7.heap.size w7 w' → (Go.convert 22 9 (.slice ax X.length cx)).run Tryz.prog w' = .ok (.string ⟨X.toArray⟩) w' ∧ (Go.convert 22 9 (.slice ay Y.length cy)).run Tryz.prog w' = .ok (.string ⟨Y.toArray⟩) w' ∧ True := fun w' hb => ⟨conv_at cx (H8.out.1.below hb).bytes, conv_at cy (H8.out.2.1.below hb).bytes, trivial⟩
  have HB57 := Lib.hid hB57
  have h9 := hS w7.drew (Below.refl _ _).drew
  clear hB57
  have hcat : ¬ 9223372036854775807 < X.length + Y.length := by omega
  refine wp_region_held_drew (S := fun w' => (Go.convert 22 9 (.slice ax X.length cx)).run Tryz.prog w' = .ok (.string ⟨X.toArray⟩) w' ∧ (Go.convert 22 9 (.slice ay Y.length cy)).run Tryz.prog w' = .ok (.string ⟨Y.toArray⟩) w' ∧ True) (by kernel_rfl) (h9) (fun hHeld => ?_)
  show wpAnyH _ _ _ _ _ 20 #[false, false, false, false, false, false, false, false, false, false, false, false, false, false, false, false, false, false, false, false] _ _
  refine wpAnyH_take (i := 1) (v := ?kv1) rfl (by kernel_rfl) (by kernel_rfl) (by kernel_rfl) (fun _ _ _ h => h) (Or.inl ⟨by rfl, ?ky1⟩) (by assumption) ?kr1
  case ky1 => (intro w hSw; (try dsimp only at hSw); go_split_ands; (try simp only [List.getElem_toArray, List.getElem_cons_zero, List.getElem_cons_succ]); go_simp; (try with_reducible rfl))
  try simp only [Act.put, List.getElem_toArray, List.getElem_cons_zero, List.getElem_cons_succ, List.setIfInBounds_toArray, List.set_cons_zero, List.set_cons_succ]
  refine wpAnyH_take (i := 3) (v := ?kv2) rfl (by kernel_rfl) (by kernel_rfl) (by kernel_rfl) (fun _ _ _ h => h) (Or.inl ⟨by rfl, ?ky2⟩) (by assumption) ?kr2
  case ky2 => (intro w hSw; (try dsimp only at hSw); go_split_ands; (try simp only [List.getElem_toArray, List.getElem_cons_zero, List.getElem_cons_succ]); go_simp; (try with_reducible rfl))
  try simp only [Act.put, List.getElem_toArray, List.getElem_cons_zero, List.getElem_cons_succ, List.setIfInBounds_toArray, List.set_cons_zero, List.set_cons_succ]
  refine wpAnyH_take (i := 6) (v := ?kv3) rfl (by kernel_rfl) (by kernel_rfl) (by kernel_rfl) (fun _ _ _ h => h) (Or.inl ⟨by rfl, ?ky3⟩) (by assumption) ?kr3
  case ky3 => (intro w hSw; (try dsimp only at hSw); go_split_ands; (try simp only [List.getElem_toArray, List.getElem_cons_zero, List.getElem_cons_succ]); go_simp; (try with_reducible rfl))
  try simp only [Act.put, List.getElem_toArray, List.getElem_cons_zero, List.getElem_cons_succ, List.setIfInBounds_toArray, List.set_cons_zero, List.set_cons_succ]
  refine wpAnyH_ready (rs := [0]) (by kernel_rfl) (by simp) ?_
  refine (AllReadyH.cons rfl (fun K hK => ?_) AllReadyH.nil)
  refine step_emptyB rfl rfl ?_; intro g0 x0 hg0 hx0; have o0 : objAt x0 g0 = some (.cells #[] 5 (0, 0)) := (by rw [hg0]; exact obj_alloc hx0); have hge0 : w7.heap.size ≤ g0 := (by rw [hg0]; exact Nat.le_refl _); have hld : Below w7.heap.size w7 x0 := (by rw [hx0]; exact grow_alloc (Below.refl _ _).drew _); clear hx0 hg0
  refine hK.out _ _ (by exact hS _ hld) (fun hHeldn => ?_)
  clear hHeld hK K
  have hHeld := hHeldn
  clear hHeldn
  try simp only [Act.put, List.getElem_toArray, List.getElem_cons_zero, List.setIfInBounds_toArray, List.set_cons_zero, List.set_cons_succ]
  refine wpAnyH_ready (rs := [2]) (by kernel_rfl) (by simp) ?_
  refine (AllReadyH.cons rfl (fun K hK => ?_) AllReadyH.nil)
  refine step_appN elemByteK rfl (.tmp 33) (.tmp 34) rfl rfl (owns_empty o0 hge0) (news := byteV X) rfl H8.out.1.none0 (by simp [byteV]) (H8.out.1.below hld).cells (byteV_one _) (by omega) hld.size ?_; intro v2' x2 hw2 bb2; replace hld := hld.trans bb2; clear bb2 o0
  refine hK.out _ _ (by exact hS _ hld) (fun hHeldn => ?_)
  clear hHeld hK K
  have hHeld := hHeldn
  clear hHeldn
  try simp only [Act.put, List.getElem_toArray, List.getElem_cons_zero, List.getElem_cons_succ, List.setIfInBounds_toArray, List.set_cons_zero, List.set_cons_succ]
  refine wpAnyH_ready (rs := [4]) (by kernel_rfl) (by simp) ?_
  refine (AllReadyH.cons rfl (fun K hK => ?_) AllReadyH.nil)
  refine step_appN elemByteK rfl (.tmp 35) (.tmp 36) rfl rfl hw2 (news := byteV Y) rfl H8.out.2.1.none0 (by simp [byteV]) (H8.out.2.1.below hld).cells (byteV_one _) (by omega) hld.size ?_; intro v4' x4 hw4 bb4; replace hld := hld.trans bb4; have hr4 : BRow x4 w7.heap.size v4' (X ++ Y) := (by unfold BRow; rw [List.length_append, List.map_append]; simpa [byteV] using hw4); obtain ⟨a4, c4, rfl, hA4⟩ := hr4.arg; have HD4 := Lib.hid (hA4.decode (by rw [List.length_append]; omega)); have hlen4 : (X ++ Y).length = X.length + Y.length := List.length_append; rw [HXY.out.1, hlen4] at HD4; rw [hlen4]; clear bb4 hw4 hw2 hr4 hA4 hlen4
  refine hK.out _ _ (by exact hS _ hld) (fun hHeldn => ?_)
  clear hHeld hK K
  have hHeld := hHeldn
  clear hHeldn
  try simp only [Act.put, List.getElem_toArray, List.getElem_cons_zero, List.getElem_cons_succ, List.setIfInBounds_toArray, List.set_cons_zero, List.set_cons_succ]
  refine wpAnyH_ready (rs := [5]) (by kernel_rfl) (by simp) ?_
  refine (AllReadyH.cons rfl (fun K hK => ?_) AllReadyH.nil)
  try simp only [List.getElem_toArray, List.getElem_cons_zero, List.getElem_cons_succ]
  go_simp
  go_at_call 8; refine HD4.out.mono ?_; rintro e x5 ⟨v5', rfl, hr5, bb5⟩; obtain ⟨a5, c5, rfl, hat5, _, _⟩ := hr5.arg; replace hld := grow_trans hld bb5; have hs5 := (sameSteps_any (ca := c5) (cb := c7) hat5 (H7.out.1.grow (grow_trans HB57.out hld)) (fun s hs => by rcases List.mem_append.1 hs with h | h; exact say_keep (HL.out.1.2.2.1 s h); exact say_keep (HL.out.2.1.2.2.1 s h)) (by rw [List.length_append]; omega)); rw [show (L ++ M).length = L.length + M.length from List.length_append] at hs5; have HS5 := Lib.hid hs5; clear hs5 hr5 bb5 hat5
  refine hK.out _ _ (by exact hS _ hld) (fun hHeldn => ?_)
  clear hHeld hK K
  have hHeld := hHeldn
  clear hHeldn
  try simp only [List.setIfInBounds_toArray, List.set_cons_zero, List.set_cons_succ]
  refine wpAnyH_ready (rs := [7]) (by kernel_rfl) (by simp) ?_
  refine (AllReadyH.cons rfl (fun K hK => ?_) AllReadyH.nil)
  try simp only [List.getElem_toArray, List.getElem_cons_zero, List.getElem_cons_succ]
  go_simp
  go_at_call 10; refine HS5.out.mono ?_; rintro e x7 ⟨rfl, bb7⟩; replace hld := grow_trans hld bb7; have he7 := (encode_any (cap := c7) (H7.out.1.grow (grow_trans HB57.out hld)) (fun s hs => by rcases List.mem_append.1 hs with h | h; exact fits_say (HL.out.1.2.2.1 s h); exact fits_say (HL.out.2.1.2.2.1 s h)) (by rw [List.length_append]; omega)); rw [show (L ++ M).length = L.length + M.length from List.length_append] at he7; have HE7 := Lib.hid he7; clear he7 bb7
  refine hK.out _ _ (by exact hS _ hld) (fun hHeldn => ?_)
  clear hHeld hK K
  have hHeld := hHeldn
  clear hHeldn
  try simp only [List.setIfInBounds_toArray, List.set_cons_zero, List.set_cons_succ]
  refine wpAnyH_take (i := 8) (v := ?kv9) rfl (by kernel_rfl) (by kernel_rfl) (by kernel_rfl) (fun _ _ _ h => h) (Or.inl ⟨by rfl, ?ky9⟩) (by assumption) ?kr9
  case ky9 => (intro w hSw; (try dsimp only at hSw); go_split_ands; (try simp only [List.getElem_toArray, List.getElem_cons_zero, List.getElem_cons_succ]); go_simp; (try with_reducible rfl))
  try simp only [Act.put, List.getElem_toArray, List.getElem_cons_zero, List.getElem_cons_succ, List.setIfInBounds_toArray, List.set_cons_zero, List.set_cons_succ]
  refine wpAnyH_take (i := 9) (v := ?kv10) rfl (by kernel_rfl) (by kernel_rfl) (by kernel_rfl) (fun _ _ _ h => h) (Or.inl ⟨by rfl, ?ky10⟩) (by assumption) ?kr10
  case ky10 => (intro w hSw; (try dsimp only at hSw); go_split_ands; (try simp only [List.getElem_toArray, List.getElem_cons_zero, List.getElem_cons_succ]); go_simp; (try with_reducible rfl))
  try simp only [Act.put, List.getElem_toArray, List.getElem_cons_zero, List.getElem_cons_succ, List.setIfInBounds_toArray, List.set_cons_zero, List.set_cons_succ]
  refine wpAnyH_take (i := 12) (v := ?kv11) rfl (by kernel_rfl) (by kernel_rfl) (by kernel_rfl) (fun _ _ _ h => h) (Or.inl ⟨by rfl, ?ky11⟩) (by assumption) ?kr11
  case ky11 => (intro w hSw; (try dsimp only at hSw); go_split_ands; (try simp only [List.getElem_toArray, List.getElem_cons_zero, List.getElem_cons_succ]); go_simp; (try with_reducible rfl))
  try simp only [Act.put, List.getElem_toArray, List.getElem_cons_zero, List.getElem_cons_succ, List.setIfInBounds_toArray, List.set_cons_zero, List.set_cons_succ]
  refine wpAnyH_take (i := 13) (v := ?kv12) rfl (by kernel_rfl) (by kernel_rfl) (by kernel_rfl) (fun _ _ _ h => h) (Or.inl ⟨by rfl, ?ky12⟩) (by assumption) ?kr12
  case ky12 => (intro w hSw; (try dsimp only at hSw); go_split_ands; (try simp only [List.getElem_toArray, List.getElem_cons_zero, List.getElem_cons_succ]); go_simp; (try with_reducible rfl))
  try simp only [Act.put, List.getElem_toArray, List.getElem_cons_zero, List.getElem_cons_succ, List.setIfInBounds_toArray, List.set_cons_zero, List.set_cons_succ]
  refine wpAnyH_take (i := 14) (v := ?kv13) rfl (by kernel_rfl) (by kernel_rfl) (by kernel_rfl) (fun _ _ _ h => h) (Or.inl ⟨by rfl, ?ky13⟩) (by assumption) ?kr13
  case ky13 => (intro w hSw; (try dsimp only at hSw); go_split_ands; (try simp only [List.getElem_toArray, List.getElem_cons_zero, List.getElem_cons_succ]); go_simp; (try with_reducible rfl))
  try simp only [Act.put, List.getElem_toArray, List.getElem_cons_zero, List.getElem_cons_succ, List.setIfInBounds_toArray, List.set_cons_zero, List.set_cons_succ]
  refine wpAnyH_take (i := 15) (v := ?kv14) rfl (by kernel_rfl) (by kernel_rfl) (by kernel_rfl) (fun _ _ _ h => h) (Or.inl ⟨by rfl, ?ky14⟩) (by assumption) ?kr14
  case ky14 => (intro w hSw; (try dsimp only at hSw); go_split_ands; (try simp only [List.getElem_toArray, List.getElem_cons_zero, List.getElem_cons_succ]); go_simp; (try with_reducible rfl))
  try simp only [Act.put, List.getElem_toArray, List.getElem_cons_zero, List.getElem_cons_succ, List.setIfInBounds_toArray, List.set_cons_zero, List.set_cons_succ]
  refine wpAnyH_take (i := 16) (v := ?kv15) rfl (by kernel_rfl) (by kernel_rfl) (by kernel_rfl) (fun _ _ _ h => h) (Or.inl ⟨by rfl, ?ky15⟩) (by assumption) ?kr15
  case ky15 => (intro w hSw; (try dsimp only at hSw); go_split_ands; (try simp only [List.getElem_toArray, List.getElem_cons_zero, List.getElem_cons_succ]); go_simp; (try with_reducible rfl))
  try simp only [Act.put, List.getElem_toArray, List.getElem_cons_zero, List.getElem_cons_succ, List.setIfInBounds_toArray, List.set_cons_zero, List.set_cons_succ]
  refine wpAnyH_ready (rs := [10]) (by kernel_rfl) (by simp) ?_
  refine (AllReadyH.cons rfl (fun K hK => ?_) AllReadyH.nil)
  try simp only [List.getElem_toArray, List.getElem_cons_zero, List.getElem_cons_succ]
  go_simp
  go_at_call 9; refine HE7.out.mono ?_; rintro e x10 ⟨v10, rfl, hr10, bb10⟩; rw [HXY.out.2.1] at hr10; obtain ⟨a10, c10, rfl, hA10⟩ := hr10.arg; replace hld := grow_trans hld bb10; have e11 := conv_at c10 hA10.bytes; rw [List.length_append] at e11; clear hr10 hA10 bb10
  refine hK.out _ _ (by exact hS _ hld) (fun hHeldn => ?_)
  clear hHeld hK K
  have hHeld := hHeldn
  clear hHeldn
  try simp only [List.setIfInBounds_toArray, List.set_cons_zero, List.set_cons_succ]
  refine wpAnyH_ready (rs := [11]) (by kernel_rfl) (by simp) ?_
  refine (AllReadyH.cons rfl (fun K hK => ?_) AllReadyH.nil)
  try simp only [List.getElem_toArray, List.getElem_cons_zero, List.getElem_cons_succ]
  go_simp
  skip
  refine hK.out _ _ (by exact hS _ hld) (fun hHeldn => ?_)
  clear hHeld hK K
  have hHeld := hHeldn
  clear hHeldn
  try simp only [List.setIfInBounds_toArray, List.set_cons_zero, List.set_cons_succ]
  refine wpAnyH_take (i := 17) (v := ?kv18) rfl (by kernel_rfl) (by kernel_rfl) (by kernel_rfl) (fun _ _ _ h => h) (Or.inl ⟨by rfl, ?ky18⟩) (by assumption) ?kr18
  case ky18 => (intro w hSw; (try dsimp only at hSw); go_split_ands; (try simp only [List.getElem_toArray, List.getElem_cons_zero, List.getElem_cons_succ]); go_simp; (try with_reducible rfl))
  try simp only [Act.put, List.getElem_toArray, List.getElem_cons_zero, List.getElem_cons_succ, List.setIfInBounds_toArray, List.set_cons_zero, List.set_cons_succ]
  refine wpAnyH_take (i := 18) (v := ?kv19) rfl (by kernel_rfl) (by kernel_rfl) (by kernel_rfl) (fun _ _ _ h => h) (Or.inl ⟨by rfl, ?ky19⟩) (by assumption) ?kr19
  case ky19 => (intro w hSw; (try dsimp only at hSw); go_split_ands; (try simp only [List.getElem_toArray, List.getElem_cons_zero, List.getElem_cons_succ]); go_simp; (try with_reducible rfl))
  try simp only [Act.put, List.getElem_toArray, List.getElem_cons_zero, List.getElem_cons_succ, List.setIfInBounds_toArray, List.set_cons_zero, List.set_cons_succ]
  refine wpAnyH_take (i := 19) (v := ?kv20) rfl (by kernel_rfl) (by kernel_rfl) (by kernel_rfl) (fun _ _ _ h => h) (Or.inl ⟨by rfl, ?ky20⟩) (by assumption) ?kr20
  case ky20 => (intro w hSw; (try dsimp only at hSw); go_split_ands; (try simp only [List.getElem_toArray, List.getElem_cons_zero, List.getElem_cons_succ]); go_simp; (try with_reducible rfl))
  try simp only [Act.put, List.getElem_toArray, List.getElem_cons_zero, List.getElem_cons_succ, List.setIfInBounds_toArray, List.set_cons_zero, List.set_cons_succ]
  refine wpAnyH_done (by kernel_rfl) ?_ _
  go_wp2_with fail
  go_ret
  exact ⟨by rw [ByteArray.toList_eq, ByteArray.data_append]; simp, grow_trans (grow_trans (grow_trans (grow_trans (grow_trans HB1.out H2.out.2.1) H3.out.2.1) H7.out.2.1) HB57.out) hld⟩
end Go.Proofs.YtanmihhlkelgeaaGreat
