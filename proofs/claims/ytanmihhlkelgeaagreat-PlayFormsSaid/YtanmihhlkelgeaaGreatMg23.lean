/- DERIVED. Contracts and laws that the proofs of this seat share, part 23 of 32: PyF PyH. -/
import Derived.Lib.ConvBytes
import Derived.Test.YtanmihhlkelgeaaGreatMg13
import Derived.Test.YtanmihhlkelgeaaGreatMg20
import Derived.Test.YtanmihhlkelgeaaGreatMg22
/- DERIVED. Contract of play's Decode. -/
namespace Go.Proofs.YtanmihhlkelgeaaGreat
open Go.RowKit
attribute [local go_sem] hasBlk
attribute [local irreducible] Calls
set_option maxRecDepth 100000

theorem elemStpK : ElemK Tryz.prog 25 35 11 136 := ElemK.mk' (z := .agg #[.int .i64 0, .int .i64 0, .int .i64 0, .string ⟨#[]⟩, .string ⟨#[]⟩, .int .i64 0, .int .i64 0, .int .i64 0, .slice none 0 0, .int .i64 0, .slice none 0 0]) Tryz.underlying25 (by kernel_rfl) rfl (by decide) (by decide)
/-- A row of steps, all in cells from B on. -/
def SEl (B : Nat) (w : World) (s : Stp) (c : List Value) : Prop := StpV w B s c.toArray
abbrev RowS (w : World) (B : Nat) (v : Value) (ss : List Stp) : Prop := RowG w (fun q => B ≤ q) 35 11 (SEl B) v ss
theorem RowS.keeps {w w' : World} {B B' : Nat} {v : Value} {ss : List Stp} (h : RowS w B v ss) {T : Nat → Prop} (hk : Keeps T w w') (hT : ∀ q, B ≤ q → ¬ T q) (hB : B' ≤ B) : RowS w' B' v ss :=
  RowG.keeps h hk (fun g hg => hT g (h.own g hg)) (fun _ hg => Nat.le_trans hB hg) (fun _ _ hx => StpV.keeps hx hk hT hB)
theorem stpV_ne {w w' : World} {B : Nat} {V : Value} {ss : List Stp} (h : RowS w B V ss) (hk : Keeps (fun q => V.ownBlock = some q) w w') {s : Stp} {c : Array Value} (hs : StpV w B s c) : StpV w' B s c := by
  obtain ⟨ad, dn, dc, ka, kn, kc, e, hd, hr⟩ := hs.ex
  have h1 : ∀ g q, objAt w g = some (.cells q 5 (0, 0)) → ¬ V.ownBlock = some g := fun g q hq e => by
    obtain ⟨c, hc⟩ := RowG.obj h e
    exact ne_of_obj hq hc (by decide) rfl
  have h2 : ∀ {v : Value} {l : List UInt8}, BRow w B v l → BRow w' B v l := fun hb => owns_keeps hb hk (fun g hg => by
    obtain ⟨_, q, hq⟩ := BRow.ownObj hb hg
    exact h1 g q hq)
  refine ⟨ad, dn, dc, ka, kn, kc, e, h2 hd, RowG.keeps hr hk (fun g hg e => ?_) (fun _ h => h) (fun l c ⟨x, e, hx⟩ => ⟨x, e, h2 hx⟩)⟩
  obtain ⟨c1, hc1⟩ := RowG.obj hr hg
  obtain ⟨c2, hc2⟩ := RowG.obj h e
  exact ne_of_obj hc1 hc2 (by decide) rfl
theorem decF_len : ∀ (f : Nat) (b : List UInt8), (decF f b).length ≤ f
  | 0, _ => Nat.le_refl _
  | f + 1, [] => Nat.zero_le _
  | f + 1, c :: b => by
    unfold decF
    split
    · exact Nat.le_succ_of_le (decF_len f b)
    · split
      · exact Nat.zero_le _
      · exact Nat.succ_le_succ (decF_len f _)
theorem decode_len (b : List UInt8) : (decode b).length ≤ b.length := decF_len _ b
/-- What is wanted for one more step in a row. -/
theorem sStep {w4 : World} {B : Nat} {V : Value} {done : List Stp} {s : Stp} {c : Array Value} (hrow : RowS w4 B V done) (hv : StpV w4 B s c) {w5 : World} (hw5 : w5 = w4.alloc (.cells c 35)) :
    RowS w5 B V done ∧ objAt w5 w4.heap.size = some (.cells c 35 (0, 0)) ∧ (∀ w', Keeps (fun q => V.ownBlock = some q) w5 w' → (∀ a c, SEl B w5 a c → SEl B w' a c) ∧ SEl B w' s c.toList) := by
  have hB : Below w4.heap.size w4 w5 := by rw [hw5]; exact grow_alloc (Below.refl _ _) _
  have hK : Keeps (fun _ => False) w4 w5 := ⟨hB.os, hB.tape, hB.output, hB.size, fun k hk _ => hB.block k hk⟩
  have h1 : RowS w5 B V done := RowS.keeps hrow hK (fun _ _ h => h) (Nat.le_refl _)
  have h2 : StpV w5 B s c := StpV.keeps hv hK (fun _ _ h => h) (Nat.le_refl _)
  exact ⟨h1, by rw [hw5, objAt_alloc, if_pos rfl], fun w' hk => ⟨fun a c h => stpV_ne h1 hk h, by unfold SEl; exact stpV_ne h1 hk h2⟩⟩
/-- How much the reader has left. -/
def rdLen (w : World) (R : Nat) : Nat := match w.cell? ⟨R, 0, none⟩ with | some (.slice _ n _) => n | _ => 0
theorem RdAt.rdLen {w : World} {R : Nat} {r : Rd} {a : Option Addr} {cap : Nat} (h : RdAt w R r a cap) : Go.Proofs.YtanmihhlkelgeaaGreat.rdLen w R = r.1.length := by
  unfold Go.Proofs.YtanmihhlkelgeaaGreat.rdLen
  rw [h.c0]
theorem rN_cons (c : UInt8) (b : List UInt8) : rN 1 (c :: b, false) = (c.toNat, (b, false)) := by
  unfold rN rB
  rw [if_neg (by simp)]
  simp [num]
theorem frame33 (A : Array Value) (h : A.size = 33) : A = #[A.getD 0 undef, A.getD 1 undef, A.getD 2 undef, A.getD 3 undef, A.getD 4 undef, A.getD 5 undef, A.getD 6 undef, A.getD 7 undef, A.getD 8 undef, A.getD 9 undef, A.getD 10 undef, A.getD 11 undef, A.getD 12 undef, A.getD 13 undef, A.getD 14 undef, A.getD 15 undef, A.getD 16 undef, A.getD 17 undef, A.getD 18 undef, A.getD 19 undef, A.getD 20 undef, A.getD 21 undef, A.getD 22 undef, A.getD 23 undef, A.getD 24 undef, A.getD 25 undef, A.getD 26 undef, A.getD 27 undef, A.getD 28 undef, A.getD 29 undef, A.getD 30 undef, A.getD 31 undef, A.getD 32 undef] := frame_list A 33 h
def DecJ (w1 : World) (R : Nat) (b : List UInt8) (l : Nat) (a' : Act) (w' : World) : Prop :=
  l = 0 ∧ ∃ V rest done, Keeps (fun q => q = R) w1 w' ∧ (∃ a cap, RdAt w' R (rest, false) a cap) ∧ RowS w' (R + 1) V done ∧ decode b = done ++ decode rest ∧ ∃ A : Array Value, A.size = 33 ∧ (A.getD 2 undef = V ∧ A.getD 3 undef = .pointer (some ⟨R, 0, none⟩) ∧ True) ∧ a' = { tmps := A, defers := [] }
set_option maxHeartbeats 4000000 in
theorem decode_any {w : World} {a : Option Addr} {cap : Nat} {l : List UInt8} (hb : BytesAt w a l) (hnil : a = none → l = [] ∧ cap = 0) (hle : l.length ≤ cap) (hlong : l.length ≤ 900000) (hlt : ∀ ad, a = some ad → (∃ b off, ad = ⟨b, off, none⟩) ∧ ad.block < w.heap.size) :
    Calls Tryz.prog 8 #[.slice a l.length cap] w fun e w' => ∃ v, e = .returned v ∧ RowS w' w.heap.size v (decode l) ∧ Below w.heap.size w w' := by
  have hB0 : Below w.heap.size w (w.alloc (.cells #[.slice a l.length cap, .bool false] 61)) := grow_alloc (Below.refl _ _) _
  have hr : RdAt (w.alloc (.cells #[.slice a l.length cap, .bool false] 61)) w.heap.size (l, false) a cap :=
    ⟨by rw [objAt_alloc, if_pos rfl], hb.below hB0, hnil, hle, Nat.le_trans hlong (by decide), hlt⟩
  obtain ⟨R, hR⟩ : ∃ R, R = w.heap.size := ⟨_, rfl⟩
  obtain ⟨w1, hw1⟩ : ∃ w1, w1 = w.alloc (.cells #[.slice a l.length cap, .bool false] 61) := ⟨_, rfl⟩
  rw [← hw1] at hr hB0
  rw [← hR] at hr
  have HW := Lib.hid (And.intro hR hw1)
  have H1 := Lib.hid (And.intro hB0 hr)
  have HL := Lib.hid hlong
  clear hb hnil hle hlong hlt hr hB0 hR hw1
  go_enter Tryz.func8, Tryz.ntmps8
  go_wp2_with fail
  refine wp_scope_labels (DecJ w1 R l) (fun _ _ w' => rdLen w' R) ?_ ?_ ?_
  · rintro l a' w' ⟨rfl, _⟩; exact ⟨_, rfl⟩
  · rintro l' rest a' w' ⟨rfl, V, rs, done, hk, ⟨ra, rc, hrd⟩, hrow, hdec, ⟨A, hA, ⟨hA2, hA3, _⟩, rfl⟩⟩ hrest
    obtain rfl := (Code.seq.inj (Option.some.inj hrest)).2
    rw [frame33 A hA, hA2, hA3]
    clear hrest
    rw [hrd.rdLen]
    dsimp only
    have c0 := hrd.c0
    cases rs with
    | nil =>
      have H2 := Lib.hid (And.intro hk (And.intro hrow hdec))
      clear hk hrd hrow hdec
      rw [List.length_nil] at c0
      go_wp2_with fail
      rw [jumps_ret]
      refine bodyPost_ret (results_one rfl (resOne_tmp _ _ _)) rfl ?_
      have e := H2.out.2.2
      rw [decode_nil, List.append_nil] at e
      rw [e]
      exact ⟨V, rfl, RowS.keeps H2.out.2.1 (Keeps.refl (fun _ => False) _) (fun _ _ h => h) (by rw [← HW.out.1]; exact Nat.le_succ _), H1.out.1.trans (H2.out.1.below H1.out.1.size (fun q e => by rw [e, HW.out.1]; exact Nat.le_refl _))⟩
    | cons c bs =>
      have HN := Lib.hid (rnum_any hrd 1 (by decide))
      rw [rN_cons] at HN
      dsimp only at HN
      have hlen : ((c :: bs).length : Int) = (bs.length : Int) + 1 := rfl
      obtain ⟨L, hL⟩ : ∃ L, L = (c :: bs).length := ⟨_, rfl⟩
      have hL0 : ¬ ((L : Int) = 0) := by rw [hL]; simp; omega
      have hL1 : ((L : Int) == 0) = false := by simpa using hL0
      rw [← hL] at c0
      have H2 := Lib.hid (And.intro hk (And.intro hrow (And.intro hdec hL)))
      have hc := c.toNat_lt
      obtain ⟨kd, hkd⟩ : ∃ kd, kd = c.toNat % 7 := ⟨_, rfl⟩
      have hkdi : (c.toNat : Int) % 7 = (kd : Int) := by omega
      have hkd7 : kd < 7 := by omega
      have HK := Lib.hid hkd
      clear hk hrow hdec hL hlen hkd hrd
      by_cases h0 : kd = 0
      · have h0' : ((kd : Int) == 0) = true := by simpa using by omega
        have H0 := Lib.hid h0
        clear h0
        go_wp2_with (go_at_call 13; refine HN.out.mono ?_; rintro e w2 ⟨rfl, hs2⟩)
        go_step3
        obtain ⟨a2, cap2, hr2⟩ := hs2.at_
        refine ⟨⟨rfl, V, bs, done, H2.out.1.trans hs2.keeps, hs2.at_, RowS.keeps H2.out.2.1 hs2.keeps (fun q hq e => by omega) (Nat.le_refl _), ?_, ⟨_, rfl, ⟨rfl, rfl, trivial⟩, rfl⟩⟩, ?_⟩
        · rw [H2.out.2.2.1, decode_cons, if_pos (by rw [← HK.out]; exact H0.out)]
        · rw [hr2.rdLen]; simp
      · have h0' : ((kd : Int) == 0) = false := by simpa using by omega
        have H0 := Lib.hid h0
        clear h0
        obtain ⟨⟨s, ⟨rs3, sh⟩⟩, e3⟩ : ∃ x, x = rStep kd (bs, false) := ⟨_, rfl⟩
        have HSt := fun (x : World) (hx : ∃ a cap, RdAt x R (bs, false) a cap) => (by
          obtain ⟨a2, cap2, hx⟩ := hx
          have := rstep_any hx kd hkd7
          rw [← e3] at this
          exact this : Calls Tryz.prog 14 #[.pointer (some ⟨R, 0, none⟩), .int .i64 kd] x fun e w' => ∃ c, e = .returned (.agg c) ∧ StpV w' x.heap.size s c ∧ RdStep x w' R (rs3, sh))
        have HSt' := Lib.hid HSt
        have HE := Lib.hid e3
        clear HSt e3
        go_upto_region 7 with (first | (go_at_call 13; refine HN.out.mono ?_; rintro e w2 ⟨rfl, hs2⟩) | (go_at_call 14; refine (HSt'.out _ hs2.at_).mono ?_; rintro e w3 ⟨cs, rfl, hv3, hs3⟩; obtain ⟨ad, dn, dc, ka, kn, kc, rfl, hd3, hk3⟩ := hv3.ex; unfold stpCells))
        obtain ⟨Q, hQ⟩ : ∃ Q, Q = w3.heap.size := ⟨_, rfl⟩
        have hB4 : Below w3.heap.size w3 (w3.alloc (.cells #[.int .i64 s.kind, .int .i64 s.n, .int .i64 s.ask, .string s.path, .string s.dest, .int .i64 s.an, .int .i64 s.off, .int .i64 s.len, .slice ad dn dc, .int .i64 s.cut, .slice ka kn kc] 35)) := grow_alloc (Below.refl _ _) _
        have hq4 : objAt (w3.alloc (.cells #[.int .i64 s.kind, .int .i64 s.n, .int .i64 s.ask, .string s.path, .string s.dest, .int .i64 s.an, .int .i64 s.off, .int .i64 s.len, .slice ad dn dc, .int .i64 s.cut, .slice ka kn kc] 35)) Q = some (.cells #[.int .i64 s.kind, .int .i64 s.n, .int .i64 s.ask, .string s.path, .string s.dest, .int .i64 s.an, .int .i64 s.off, .int .i64 s.len, .slice ad dn dc, .int .i64 s.cut, .slice ka kn kc] 35 (0, 0)) := by rw [objAt_alloc, if_pos hQ]
        obtain ⟨w4, hw4⟩ : ∃ w4, w4 = w3.alloc (.cells #[.int .i64 s.kind, .int .i64 s.n, .int .i64 s.ask, .string s.path, .string s.dest, .int .i64 s.an, .int .i64 s.off, .int .i64 s.len, .slice ad dn dc, .int .i64 s.cut, .slice ka kn kc] 35) := ⟨_, rfl⟩
        rw [← hw4] at hB4 hq4
        rw [← hw4, ← hQ]
        have hd4 := rdAt_below hs3.at_ hB4
        have hR2 : R < w2.heap.size := by obtain ⟨_, _, h⟩ := hs2.at_; exact block_lt h.obj
        have hk4 : Keeps (fun q => q = R) w1 w4 := (H2.out.1.trans (hs2.keeps.trans hs3.keeps)).trans (Keeps.of_below hB4)
        have hrow4 : RowS w4 (R + 1) V done := (RowS.keeps H2.out.2.1 (hs2.keeps.trans hs3.keeps) (fun q hq e => by omega) (Nat.le_refl _)).keeps (T := fun _ => False) ⟨hB4.os, hB4.tape, hB4.output, hB4.size, fun k hk _ => hB4.block k hk⟩ (fun _ _ h => h) (Nat.le_refl _)
        have hv4 : StpV w4 (R + 1) s #[.int .i64 s.kind, .int .i64 s.n, .int .i64 s.ask, .string s.path, .string s.dest, .int .i64 s.an, .int .i64 s.off, .int .i64 s.len, .slice ad dn dc, .int .i64 s.cut, .slice ka kn kc] := StpV.keeps hv3 (T := fun _ => False) ⟨hB4.os, hB4.tape, hB4.output, hB4.size, fun k hk _ => hB4.block k hk⟩ (fun _ _ h => h) hR2
        have H4 := Lib.hid (And.intro hd4 (And.intro hk4 (And.intro hrow4 (And.intro hv4 hq4))))
        have hdl := decode_cons c bs
        rw [← HK.out, if_neg H0.out, ← HE.out] at hdl
        dsimp only at hdl
        have HD := Lib.hid hdl
        obtain ⟨a4, cap4, hr4⟩ := hd4
        have c1 := hr4.c1
        dsimp only at c1
        cases sh with
        | true =>
          rw [if_pos rfl] at HD
          clear hr4 hk4 hrow4 hv4 hq4 hB4 hw4 hQ hv3 hs3 hs2 hd3 hk3 hR2 hdl
          go_wp2_with fail
          rw [jumps_ret]
          refine bodyPost_ret (results_one rfl (resOne_tmp _ _ _)) rfl ?_
          have e := H2.out.2.2.1
          rw [HD.out, List.append_nil] at e
          rw [e]
          exact ⟨V, rfl, RowS.keeps H4.out.2.2.1 (Keeps.refl (fun _ => False) _) (fun _ _ h => h) (by rw [← HW.out.1]; exact Nat.le_succ _), H1.out.1.trans (H4.out.2.1.below H1.out.1.size (fun q e => by rw [e, HW.out.1]; exact Nat.le_refl _))⟩
        | false =>
          rw [if_neg (by decide)] at HD
          have hh := hasStp_obj hq4 rfl
          have b0 := cell_obj hq4 0
          have b1 := cell_obj hq4 1
          have b2 := cell_obj hq4 2
          have b3 := cell_obj hq4 3
          have b4 := cell_obj hq4 4
          have b5 := cell_obj hq4 5
          have b6 := cell_obj hq4 6
          have b7 := cell_obj hq4 7
          have b8 := cell_obj hq4 8
          have b9 := cell_obj hq4 9
          have b10 := cell_obj hq4 10
          clear hr4 hk4 hrow4 hv4 hq4 hB4 hw4 hv3 hs3 hs2 hd3 hk3 hdl
          have HQ := Lib.hid (And.intro hQ hR2)
          clear hQ hR2
          have hdn : done.length < 1000000 := by
            have h1 := congrArg List.length H2.out.2.2.1
            rw [List.length_append] at h1
            have h2 := decode_len l
            have h3 := HL.out
            omega
          go_wp2_with (first | (refine list_lit1 elemStpK rfl _ rfl rfl rfl (by decide) ?_; intro w5 hw5; have HX := Lib.hid (And.intro (sStep H4.out.2.2.1 H4.out.2.2.2.1 hw5) hw5); clear hw5) | (at_builtin; refine list_appG elemStpK rfl _ _ rfl rfl HX.out.1.1 rfl HX.out.1.2.1 rfl (by simp [Value.oneCell']) hdn (SEl (R + 1)) s HX.out.1.2.2 ?_; intro g6 cap6 w6 hr6 hk6 ho6 hl6; have H6 := Lib.hid (And.intro hr6 hk6); clear hr6 hk6 ho6 hl6))
          go_step3
          have hw1s : w1.heap.size = R + 1 := by rw [HW.out.2, size_alloc, HW.out.1]
          have hB5 : Below w4.heap.size w4 w5 := by rw [HX.out.2]; exact grow_alloc (Below.refl _ _) _
          have hVo : ∀ q, V.ownBlock = some q → R + 1 ≤ q := fun q hq => HX.out.1.1.own q hq
          have hd6 := rdAt_keepQ (rdAt_below H4.out.1 hB5) H6.out.2 (fun q e => hVo q e)
          have hk6 : Keeps (fun q => q = R) w1 w6 := (H4.out.2.1.trans (Keeps.of_below hB5)).chain H6.out.2 (fun q hq e => by have := hVo q e; omega)
          have hr6 : RowS w6 (R + 1) (.slice (some ⟨g6, 0, none⟩) (done.length + 1) cap6) (done ++ [s]) := RowG.keeps H6.out.1 (Keeps.refl (fun _ => False) _) (fun _ _ h => h) (fun q hq => hq.elim id (fun h => by have := H4.out.2.1.size; have := hB5.size; omega)) (fun _ _ h => h)
          refine ⟨⟨rfl, .slice (some ⟨g6, 0, none⟩) (done.length + 1) cap6, rs3, done ++ [s], hk6, hd6, hr6, ?_, ⟨_, rfl, ⟨rfl, rfl, trivial⟩, rfl⟩⟩, ?_⟩
          · rw [H2.out.2.2.1, HD.out, List.append_assoc]; rfl
          · obtain ⟨a6, c6, h6⟩ := hd6
            rw [h6.rdLen]
            have := rStep_le kd bs false
            rw [← HE.out] at this
            dsimp only at this ⊢
            simp only [List.length_cons]; omega
  · intro hfall
    have HF := Lib.hid hfall
    clear hfall
    go_wp2_with fail
    go_step3
    simp only [Exit.then]
    go_step
    rw [← HW.out.2, ← HW.out.1]
    refine HF.out 0 _ _ _ ?_ rfl
    exact ⟨rfl, .slice none 0 0, l, [], Keeps.refl _ _, ⟨a, cap, H1.out.2⟩, RowG.nil _ _ _ _ _, rfl, ⟨_, rfl, ⟨rfl, rfl, trivial⟩, rfl⟩⟩
end Go.Proofs.YtanmihhlkelgeaaGreat

/- DERIVED. Contract of play's writer.step. -/
namespace Go.Proofs.YtanmihhlkelgeaaGreat
open Go.RowKit
attribute [local irreducible] Calls
set_option maxRecDepth 100000

/-- A text as bytes. -/
theorem convS_at (w : World) (s : ByteArray) : ∃ cap w', (Go.convert 9 22 (.string s)).run Tryz.prog w = .ok (.slice (some ⟨w.heap.size, 0, none⟩) s.data.toList.length cap) w' ∧ Below w.heap.size w w' ∧ BytesAt w' (some ⟨w.heap.size, 0, none⟩) s.data.toList ∧ w.heap.size < w'.heap.size := by
  have hlen : s.data.toList.length = s.size := by simp
  refine ⟨grownCap w s.size 0 5, Lib.bytesWorld w 5 s, ?_, ⟨rfl, rfl, rfl, ?_, fun k hk => Lib.bytesWorld_at_old w 5 s k hk⟩, ⟨w.heap.size, 0, fun _ => rfl, fun i hi => ?_⟩, by rw [Lib.bytesWorld_size]; exact Nat.lt_succ_self _⟩
  · rw [hlen]
    exact Lib.run_convert_string_bytes w 9 22 5 s Tryz.underlying9 Tryz.underlying22 Tryz.underlying5
  · rw [Lib.bytesWorld_size]; exact Nat.le_succ _
  · rw [hlen] at hi
    rw [Nat.zero_add, Lib.bytesWorld_cell w 5 s i hi, List.getD_eq_getElem?_getD, List.getElem?_eq_getElem (by rw [hlen]; exact hi)]
    rfl
/-- A step that lies below W, wherever. -/
structure StpL (w : World) (W : Nat) (s : Stp) (ad : Option Addr) (ka : Option Addr) : Prop where
  data : BytesAt w ad s.data
  dlt : ∀ p, ad = some p → p.block < W
  keep : ∀ i l, s.keep[i]? = some l → ∃ kb ko p c, ka = some ⟨kb, ko, none⟩ ∧ kb < W ∧ w.cell? ⟨kb, ko + i, none⟩ = some (.slice p l.length c) ∧ BytesAt w p l ∧ (0 < l.length → ∀ q, p = some q → q.block < W)
theorem BytesAt.keepsW {w w' : World} {T : Nat → Prop} {W : Nat} {ad : Option Addr} {l : List UInt8} (h : BytesAt w ad l) (hlt : 0 < l.length → ∀ p, ad = some p → p.block < W) (hk : Keeps T w w') (hT : ∀ q, T q → W ≤ q) (hW : W ≤ w.heap.size) : BytesAt w' ad l := by
  cases l with
  | nil => exact BytesAt.none0
  | cons c l =>
    cases ad with
    | none =>
      obtain ⟨b, off, h1, h2⟩ := h
      simp at h1
    | some p =>
      have := hlt (by simp) p rfl
      exact h.congr (hk.block p.block (by omega) (fun e => by have := hT _ e; omega))
theorem StpL.keeps {w w' : World} {W : Nat} {s : Stp} {ad ka : Option Addr} (h : StpL w W s ad ka) {T : Nat → Prop} (hk : Keeps T w w') (hT : ∀ q, T q → W ≤ q) (hW : W ≤ w.heap.size) : StpL w' W s ad ka :=
  ⟨h.data.keepsW (fun _ => h.dlt) hk hT hW, h.dlt, fun i l hl => by
    obtain ⟨kb, ko, p, c, h1, h2, h3, h4, h5⟩ := h.keep i l hl
    refine ⟨kb, ko, p, c, h1, h2, ?_, h4.keepsW h5 hk hT hW, h5⟩
    rw [World.cell?_of_block (hk.block kb (by omega) (fun e => by have := hT _ e; omega))]
    exact h3⟩
/-- A writer whose bytes lie behind it. -/
theorem Wt.ge {w w' : World} {t : TypeId} {W : Nat} {v v' : Value} {ys : List UInt8} (hs : WtrStep w w' t W v v' ys) (hv : ∀ g, v.ownBlock = some g → W < g) (hW : W < w.heap.size) : Keeps (fun q => W ≤ q) w w' ∧ ∀ g, v'.ownBlock = some g → W < g :=
  ⟨hs.keeps.mono fun q _ e => by
    rcases e with e | e
    · exact Nat.le_of_eq e.symm
    · exact Nat.le_of_lt (hv q e), fun g hg => (hs.own g hg).elim (hv g) (fun h => by omega)⟩
/-- A step is being written. -/
structure PwSt (w w' : World) (W G : Nat) (s : Stp) (ad : Option Addr) (dc : Nat) (ka : Option Addr) (kc : Nat) (v : Value) (xs : List UInt8) (N : Nat) : Prop where
  wtr : WtrAt w' 66 W v xs
  own : ∀ g, v.ownBlock = some g → W < g
  keeps : Keeps (fun q => W ≤ q) w w'
  box : objAt w' G = some (.cells (stpCells s (.slice ad s.data.length dc) (.slice ka s.keep.length kc)) 35 (0, 0))
  stp : StpL w' W s ad ka
  lt : W < G
  len : xs.length ≤ N
section
variable {w w' w2 : World} {W G : Nat} {s : Stp} {ad : Option Addr} {dc : Nat} {ka : Option Addr} {kc : Nat} {v v2 : Value} {xs ys : List UInt8} {N : Nat}
theorem PwSt.step (h : PwSt w w' W G s ad dc ka kc v xs N) (hs : WtrStep w' w2 66 W v v2 ys) (N' : Nat) (hN : ys.length ≤ N') : PwSt w w2 W G s ad dc ka kc v2 ys N' := by
  have hW := block_lt h.wtr.obj
  obtain ⟨h1, h2⟩ := Wt.ge hs h.own hW
  exact ⟨hs.at_, h2, h.keeps.trans h1, hs.obj h.wtr h.box (by decide) (by decide), h.stp.keeps h1 (fun _ h => h) (Nat.le_of_lt hW), h.lt, hN⟩
theorem PwSt.below (h : PwSt w w' W G s ad dc ka kc v xs N) (hb : Below w'.heap.size w' w2) : PwSt w w2 W G s ad dc ka kc v xs N := by
  have hW := block_lt h.wtr.obj
  exact ⟨h.wtr.below hb, h.own, h.keeps.trans (Keeps.of_below hb), grow_obj hb h.box, h.stp.keeps (Keeps.of_below_size hb) (fun q hq => Nat.le_trans (Nat.le_of_lt hW) hq) (Nat.le_of_lt hW), h.lt, h.len⟩
theorem PwSt.num (h : PwSt w w' W G s ad dc ka kc v xs N) (hN : N ≤ 800000) (x : Int) (n : Nat) (hn : n ≤ 2) :
    Calls Tryz.prog 22 #[.pointer (some ⟨W, 0, none⟩), .int .i64 x, .int .i64 n] w' fun e w2 => e = .returned (.tuple #[]) ∧ ∃ v2, PwSt w w2 W G s ad dc ka kc v2 (xs ++ ihigh x n) (N + 2) := by
  refine (pnum_any W v xs x n w' h.wtr hn (by have := h.len; omega)).mono ?_
  rintro e w2 ⟨rfl, v2, hs⟩
  exact ⟨rfl, v2, h.step hs _ (by rw [List.length_append, ihigh_length]; have := h.len; omega)⟩
theorem PwSt.text (h : PwSt w w' W G s ad dc ka kc v xs N) (hN : N ≤ 800000) {p : Option Addr} {cap : Nat} {l : List UInt8} (hb : BytesAt w' p l) (hl : l.length ≤ 1000) (hp : 0 < l.length → ∀ q, p = some q → q.block < w'.heap.size ∧ (q.block < W ∨ (W < q.block ∧ v.ownBlock ≠ some q.block))) :
    Calls Tryz.prog 23 #[.pointer (some ⟨W, 0, none⟩), .slice p l.length cap] w' fun e w2 => e = .returned (.tuple #[]) ∧ ∃ v2, PwSt w w2 W G s ad dc ka kc v2 (xs ++ textW l) (N + 1001) := by
  refine (ptext_any W v xs w' h.wtr hb (fun h0 q hq => (hp h0 q hq).1) (fun h0 q hq => ?_) (by have := h.len; omega)).mono ?_
  · rcases (hp h0 q hq).2 with h1 | ⟨h1, h2⟩
    · exact ⟨by omega, fun e => by have := h.own _ e; omega⟩
    · exact ⟨by omega, h2⟩
  · rintro e w2 ⟨rfl, v2, hs⟩
    exact ⟨rfl, v2, h.step hs _ (by unfold textW; rw [List.length_append, List.length_append, ihigh_length]; have := h.len; omega)⟩
end
theorem frame78 (A : Array Value) (h : A.size = 78) : A = #[A.getD 0 undef, A.getD 1 undef, A.getD 2 undef, A.getD 3 undef, A.getD 4 undef, A.getD 5 undef, A.getD 6 undef, A.getD 7 undef, A.getD 8 undef, A.getD 9 undef, A.getD 10 undef, A.getD 11 undef, A.getD 12 undef, A.getD 13 undef, A.getD 14 undef, A.getD 15 undef, A.getD 16 undef, A.getD 17 undef, A.getD 18 undef, A.getD 19 undef, A.getD 20 undef, A.getD 21 undef, A.getD 22 undef, A.getD 23 undef, A.getD 24 undef, A.getD 25 undef, A.getD 26 undef, A.getD 27 undef, A.getD 28 undef, A.getD 29 undef, A.getD 30 undef, A.getD 31 undef, A.getD 32 undef, A.getD 33 undef, A.getD 34 undef, A.getD 35 undef, A.getD 36 undef, A.getD 37 undef, A.getD 38 undef, A.getD 39 undef, A.getD 40 undef, A.getD 41 undef, A.getD 42 undef, A.getD 43 undef, A.getD 44 undef, A.getD 45 undef, A.getD 46 undef, A.getD 47 undef, A.getD 48 undef, A.getD 49 undef, A.getD 50 undef, A.getD 51 undef, A.getD 52 undef, A.getD 53 undef, A.getD 54 undef, A.getD 55 undef, A.getD 56 undef, A.getD 57 undef, A.getD 58 undef, A.getD 59 undef, A.getD 60 undef, A.getD 61 undef, A.getD 62 undef, A.getD 63 undef, A.getD 64 undef, A.getD 65 undef, A.getD 66 undef, A.getD 67 undef, A.getD 68 undef, A.getD 69 undef, A.getD 70 undef, A.getD 71 undef, A.getD 72 undef, A.getD 73 undef, A.getD 74 undef, A.getD 75 undef, A.getD 76 undef, A.getD 77 undef] := frame_list A 78 h
def PstJ (w : World) (W G : Nat) (s : Stp) (ad : Option Addr) (dc : Nat) (ka : Option Addr) (kc : Nat) (l : Nat) (a' : Act) (w' : World) : Prop :=
  l = 0 ∧ s.kind = 5 ∧ (∃ v, PwSt w w' W G s ad dc ka kc v (ihigh s.kind 1) 2) ∧ ∃ A : Array Value, A.size = 78 ∧ (A.getD 0 undef = .pointer (some ⟨W, 0, none⟩) ∧ A.getD 3 undef = .pointer (some ⟨G, 0, none⟩) ∧ True) ∧ a' = { tmps := A, defers := [] }
/-- A step that can be written. -/
structure Stp.fits (s : Stp) : Prop where
  path : s.path.data.toList.length ≤ 1000
  dest : s.dest.data.toList.length ≤ 1000
  data : s.data.length ≤ 1000
  keep : s.keep.length ≤ 20
  keeps : ∀ l ∈ s.keep, l.length ≤ 1000
  cut : -1000000 ≤ s.cut ∧ s.cut ≤ 1000000
set_option maxHeartbeats 8000000 in
theorem pstep_any {w : World} {W : Nat} {s : Stp} {ad : Option Addr} {dc : Nat} {ka : Option Addr} {kc : Nat} {v : Value} (hw : WtrAt w 66 W v []) (hv : ∀ g, v.ownBlock = some g → W < g) (hs : StpL w W s ad ka) (hf : s.fits) :
    Calls Tryz.prog 15 #[.pointer (some ⟨W, 0, none⟩), .agg (stpCells s (.slice ad s.data.length dc) (.slice ka s.keep.length kc))] w fun e w' => e = .returned (.tuple #[]) ∧ ∃ v', WtrAt w' 66 W v' (writeStp s) ∧ Keeps (fun q => W ≤ q) w w' ∧ ∀ g, v'.ownBlock = some g → W < g := by
  have hW := block_lt hw.obj
  have hB0 : Below w.heap.size w (w.alloc (.cells (stpCells s (.slice ad s.data.length dc) (.slice ka s.keep.length kc)) 35)) := grow_alloc (Below.refl _ _) _
  have hst : PwSt w (w.alloc (.cells (stpCells s (.slice ad s.data.length dc) (.slice ka s.keep.length kc)) 35)) W w.heap.size s ad dc ka kc v [] 0 :=
    ⟨hw.below hB0, hv, Keeps.of_below hB0, by rw [objAt_alloc, if_pos rfl], hs.keeps (Keeps.of_below_size hB0) (fun q hq => Nat.le_trans (Nat.le_of_lt hW) hq) (Nat.le_of_lt hW), hW, Nat.le_refl _⟩
  obtain ⟨G, hG⟩ : ∃ G, G = w.heap.size := ⟨_, rfl⟩
  obtain ⟨w1, hw1⟩ : ∃ w1, w1 = w.alloc (.cells (stpCells s (.slice ad s.data.length dc) (.slice ka s.keep.length kc)) 35) := ⟨_, rfl⟩
  rw [← hw1, ← hG] at hst
  have HW := Lib.hid (And.intro hG hw1)
  have H1 := Lib.hid (And.intro hst hf)
  have b0 : w1.cell? ⟨G, 0, none⟩ = some (.int .i64 s.kind) := cell_obj hst.box 0
  have HN := Lib.hid (hst.num (by decide) s.kind 1 (by decide))
  clear hw hv hs hf hB0 hst hG hw1 hW
  go_enter Tryz.func15, Tryz.ntmps15
  go_wp2_with fail
  refine wp_scope_labels (PstJ w W G s ad dc ka kc) (fun l _ _ => l) ?_ ?_ ?_
  · rintro l a' w' ⟨rfl, _⟩; exact ⟨_, rfl⟩
  · rintro l rest a' w' ⟨rfl, hk5, ⟨v5, h5⟩, ⟨A, hA, ⟨hA0, hA3, _⟩, rfl⟩⟩ hrest
    obtain rfl := (Code.seq.inj (Option.some.inj hrest)).2
    rw [frame78 A hA, hA0, hA3]
    clear hrest
    have HK5 := Lib.hid hk5
    clear hk5
    have H5 := Lib.hid h5
    have hcut := H1.out.2.cut
    have hw1 : IntKind.i64.wrap (s.cut + 1) = s.cut + 1 := IntWalk.i64_in _ (by omega)
    have c9 : w'.cell? ⟨G, 9, none⟩ = some (.int .i64 s.cut) := cell_obj h5.box 9
    clear h5 b0 HN
    go_upto_region 13 with (go_at_call 22; refine (H5.out.num (by decide) (s.cut + 1) 1 (by decide)).mono ?_; rintro e x12 ⟨rfl, v12, h12⟩)
    have H12 := Lib.hid h12
    have c10 : x12.cell? ⟨G, 10, none⟩ = some (.slice ka s.keep.length kc) := cell_obj h12.box 10
    clear h12 c9 hw1 hcut
    go_upto_region 14 with (go_at_call 22; refine (H12.out.num (by decide) (s.keep.length : Int) 1 (by decide)).mono ?_; rintro e x13 ⟨rfl, v13, h13⟩)
    have H13 := Lib.hid h13
    have d10 : x13.cell? ⟨G, 10, none⟩ = some (.slice ka s.keep.length kc) := cell_obj h13.box 10
    clear h13 c10
    go_wp2_with fail
    go_loopw [70] (fun i wr => ∃ (k : Nat) (V : Value), k ≤ s.keep.length ∧ i = .int .i64 k ∧ PwSt w wr W G s ad dc ka kc V (ihigh s.kind 1 ++ ihigh (s.cut + 1) 1 ++ ihigh s.keep.length 1 ++ (s.keep.take k).flatMap textW) (2 + 2 + 2 + k * 1001)) (fun i _ => s.keep.length - (Go.RowKit.intOf i).toNat)
    case atStart => exact ⟨0, v13, Nat.zero_le _, rfl, by rw [List.take_zero, List.flatMap_nil, List.append_nil]; exact H13.out⟩
    case round =>
      obtain ⟨k, V, hk, rfl, hp⟩ := hrel
      by_cases hlt : k < s.keep.length
      · obtain ⟨l, hl⟩ : ∃ l, s.keep[k]? = some l := ⟨_, List.getElem?_eq_getElem hlt⟩
        obtain ⟨kb, ko, p, c, rfl, hkb, hcell, hby, hpl⟩ := hp.stp.keep k l hl
        have hl1 := H1.out.2.keeps l (List.mem_of_getElem? hl)
        have hk20 := H1.out.2.keep
        have HP := Lib.hid (And.intro hp (And.intro hl (And.intro hby (And.intro hpl (And.intro hl1 hk20)))))
        have hlt' : (k : Int) < (s.keep.length : Int) := by omega
        have hk21 : k < 20 := by omega
        clear hp hl hby hpl hl1 hk hk20
        go_wp2_with (go_at_call 23; refine (HP.out.1.text (by have := HP.out.2.2.2.2.2; omega) HP.out.2.2.1 HP.out.2.2.2.2.1 (fun h0 q hq => by have := HP.out.2.2.2.1 h0 q hq; have := block_lt HP.out.1.wtr.obj; exact ⟨by omega, .inl (by omega)⟩)).mono ?_; rintro e x14 ⟨rfl, v14, h14⟩)
        go_roundw
        case rel =>
          have e : (s.keep.take (k + 1)).flatMap textW = (s.keep.take k).flatMap textW ++ textW l := by
            obtain ⟨hk', rfl⟩ := List.getElem?_eq_some_iff.1 HP.out.2.1
            rw [List.take_succ_eq_append_getElem hk', List.flatMap_append]; simp
          exact ⟨k + 1, v14, by omega, by go_num, by rw [e, ← List.append_assoc, show 2 + 2 + 2 + (k + 1) * 1001 = 2 + 2 + 2 + k * 1001 + 1001 by omega]; exact h14⟩
        case measure => simp [Go.RowKit.intOf]; omega
      · obtain rfl : k = s.keep.length := by omega
        rw [List.take_length] at hp
        have HP := Lib.hid hp
        clear hp
        go_wp2_with fail
        first | go_end0 | (rw [jumps_normal]; refine bodyPost_end (results_none rfl _ _ _) rfl ?_) | trace_state
        refine ⟨rfl, V, ?_, HP.out.keeps, HP.out.own⟩
        have e : writeStp s = ihigh s.kind 1 ++ ihigh (s.cut + 1) 1 ++ ihigh s.keep.length 1 ++ s.keep.flatMap textW := by
          unfold writeStp bodyW
          rw [if_pos HK5.out]
          simp only [List.append_assoc]
        rw [e]; exact HP.out.wtr
  · intro hfall
    have HF := Lib.hid hfall
    clear hfall
    go_upto_region 1 with fail
    rw [← HW.out.2, ← HW.out.1]
    go_upto_region 2 with (go_at_call 22; refine HN.out.mono ?_; rintro e w2 ⟨rfl, v2, h2⟩)
    rw [List.nil_append] at h2
    have H2 := Lib.hid h2
    have c0 : w2.cell? ⟨G, 0, none⟩ = some (.int .i64 s.kind) := cell_obj h2.box 0
    clear h2 b0 HN
    by_cases h5 : s.kind = 5
    · have h5' : (s.kind == 5) = true := by simpa using h5
      have HK5 := Lib.hid h5
      clear h5
      go_wp2_with fail
      go_step3
      exact ⟨rfl, HK5.out, ⟨v2, H2.out⟩, ⟨_, rfl, ⟨rfl, rfl, trivial⟩, rfl⟩⟩
    · have h5' : (s.kind == 5) = false := by simpa using h5
      have c1 : w2.cell? ⟨G, 1, none⟩ = some (.int .i64 s.n) := cell_obj H2.out.box 1
      have HK5 := Lib.hid h5
      clear h5
      go_upto_region 4 with (go_at_call 22; refine (H2.out.num (by decide) s.n 2 (by decide)).mono ?_; rintro e w3 ⟨rfl, v3, h3⟩)
      have H3 := Lib.hid h3
      have d0 : w3.cell? ⟨G, 0, none⟩ = some (.int .i64 s.kind) := cell_obj h3.box 0
      clear h3 c0 c1 HF
      by_cases hk2 : s.kind = 2
      · have hk2' : (s.kind == 2) = true := by simpa using hk2
        have hk2'' : (s.kind != 2) = false := by rw [bne, hk2']; rfl
        have HK2 := Lib.hid hk2
        clear hk2
        go_upto_region 5 with fail
        clear d0
        have b5 : w3.cell? ⟨G, 2, none⟩ = some (.int .i64 s.ask) := cell_obj H3.out.box 2
        go_upto_region 6 with (go_at_call 22; refine (H3.out.num (by decide) s.ask 1 (by decide)).mono ?_; rintro e x5 ⟨rfl, v5, h5⟩)
        have H5 := Lib.hid h5
        clear h5 b5
        have b6 : x5.cell? ⟨G, 3, none⟩ = some (.string s.path) := cell_obj H5.out.box 3
        obtain ⟨cp6, y6, hc6, hy6, hba6, hl6⟩ := convS_at x5 s.path
        have HY6 := Lib.hid (And.intro (H5.out.below hy6) (And.intro hba6 (And.intro hl6 H5.out)))
        clear hy6 hba6 hl6
        go_upto_region 7 with (go_at_call 23; refine (HY6.out.1.text (by decide) HY6.out.2.1 H1.out.2.path (fun _ q hq => by obtain rfl := Option.some.inj hq; exact ⟨HY6.out.2.2.1, .inr ⟨block_lt HY6.out.2.2.2.wtr.obj, fun e => by obtain ⟨_, c, hc⟩ := BRow.ownObj HY6.out.2.2.2.wtr.row e; exact Nat.lt_irrefl _ (block_lt hc)⟩⟩)).mono ?_; rintro e x6 ⟨rfl, v6, h6⟩)
        have H6 := Lib.hid h6
        clear h6 b6 hc6
        have b7 : x6.cell? ⟨G, 4, none⟩ = some (.string s.dest) := cell_obj H6.out.box 4
        obtain ⟨cp7, y7, hc7, hy7, hba7, hl7⟩ := convS_at x6 s.dest
        have HY7 := Lib.hid (And.intro (H6.out.below hy7) (And.intro hba7 (And.intro hl7 H6.out)))
        clear hy7 hba7 hl7
        go_upto_region 8 with (go_at_call 23; refine (HY7.out.1.text (by decide) HY7.out.2.1 H1.out.2.dest (fun _ q hq => by obtain rfl := Option.some.inj hq; exact ⟨HY7.out.2.2.1, .inr ⟨block_lt HY7.out.2.2.2.wtr.obj, fun e => by obtain ⟨_, c, hc⟩ := BRow.ownObj HY7.out.2.2.2.wtr.row e; exact Nat.lt_irrefl _ (block_lt hc)⟩⟩)).mono ?_; rintro e x7 ⟨rfl, v7, h7⟩)
        have H7 := Lib.hid h7
        clear h7 b7 hc7
        have b8 : x7.cell? ⟨G, 5, none⟩ = some (.int .i64 s.an) := cell_obj H7.out.box 5
        go_upto_region 9 with (go_at_call 22; refine (H7.out.num (by decide) s.an 2 (by decide)).mono ?_; rintro e x8 ⟨rfl, v8, h8⟩)
        have H8 := Lib.hid h8
        clear h8 b8
        have b9 : x8.cell? ⟨G, 6, none⟩ = some (.int .i64 s.off) := cell_obj H8.out.box 6
        go_upto_region 10 with (go_at_call 22; refine (H8.out.num (by decide) s.off 2 (by decide)).mono ?_; rintro e x9 ⟨rfl, v9, h9⟩)
        have H9 := Lib.hid h9
        clear h9 b9
        have b10 : x9.cell? ⟨G, 7, none⟩ = some (.int .i64 s.len) := cell_obj H9.out.box 7
        go_upto_region 11 with (go_at_call 22; refine (H9.out.num (by decide) s.len 2 (by decide)).mono ?_; rintro e x10 ⟨rfl, v10, h10⟩)
        have H10 := Lib.hid h10
        clear h10 b10
        have b11 : x10.cell? ⟨G, 8, none⟩ = some (.slice ad s.data.length dc) := cell_obj H10.out.box 8
        go_wp2_with (go_at_call 23; refine (H10.out.text (by decide) H10.out.stp.data H1.out.2.data (fun _ q hq => by have := H10.out.stp.dlt q hq; have := block_lt H10.out.wtr.obj; exact ⟨by omega, .inl (by omega)⟩)).mono ?_; rintro e x11 ⟨rfl, v11, h11⟩)
        try rw [jumps_ret]
        refine bodyPost_ret (results_none rfl _ _ _) rfl ?_
        refine ⟨rfl, v11, ?_, h11.keeps, h11.own⟩
        have e : writeStp s = ihigh s.kind 1 ++ ihigh s.n 2 ++ ihigh s.ask 1 ++ textW s.path.data.toList ++ textW s.dest.data.toList ++ ihigh s.an 2 ++ ihigh s.off 2 ++ ihigh s.len 2 ++ textW s.data := by
          unfold writeStp bodyW
          rw [if_neg HK5.out, if_pos HK2.out]
          simp only [List.append_assoc]
        rw [e]; exact h11.wtr
      · have hk2' : (s.kind == 2) = false := by simpa using hk2
        have hk2'' : (s.kind != 2) = true := by rw [bne, hk2']; rfl
        have HK2 := Lib.hid hk2
        clear hk2
        go_wp2_with fail
        try rw [jumps_ret]
        refine bodyPost_ret (results_none rfl _ _ _) rfl ?_
        refine ⟨rfl, v3, ?_, H3.out.keeps, H3.out.own⟩
        have e : writeStp s = ihigh s.kind 1 ++ ihigh s.n 2 := by
          unfold writeStp bodyW
          rw [if_neg HK5.out, if_neg HK2.out, List.append_nil]
        rw [e]; exact H3.out.wtr
end Go.Proofs.YtanmihhlkelgeaaGreat
