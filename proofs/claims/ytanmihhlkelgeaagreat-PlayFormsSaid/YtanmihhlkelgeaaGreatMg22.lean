/- DERIVED. Contracts and laws that the proofs of this seat share, part 22 of 32: PyE. -/
import Derived.Test.YtanmihhlkelgeaaGreatMg13
import Derived.Test.YtanmihhlkelgeaaGreatMg18
import Derived.Test.YtanmihhlkelgeaaGreatMg21
/- DERIVED. Contract of play's reader.step. -/
namespace Go.Proofs.YtanmihhlkelgeaaGreat
open Go.RowKit
attribute [local go_sem] hasBlk
attribute [local irreducible] Calls
set_option maxRecDepth 100000

/-- Rows of bytes, each in cells from B on. -/
def KEl (B : Nat) (w : World) (l : List UInt8) (c : List Value) : Prop := ∃ x, c = [x] ∧ BRow w B x l
abbrev RowK (w : World) (B : Nat) (v : Value) (ls : List (List UInt8)) : Prop := RowG w (fun q => B ≤ q) 22 1 (KEl B) v ls
theorem RowK.keeps {w w' : World} {B B' : Nat} {v : Value} {ls : List (List UInt8)} (h : RowK w B v ls) {T : Nat → Prop} (hk : Keeps T w w') (hT : ∀ q, B ≤ q → ¬ T q) (hB : B' ≤ B) : RowK w' B' v ls :=
  RowG.keeps h hk (fun g hg => hT g (h.own g hg)) (fun _ hg => Nat.le_trans hB hg) (fun _ _ ⟨x, e, hx⟩ => ⟨x, e, (hx.keepsB hk hT).mono hB⟩)
theorem frame39 (A : Array Value) (h : A.size = 39) : A = #[A.getD 0 undef, A.getD 1 undef, A.getD 2 undef, A.getD 3 undef, A.getD 4 undef, A.getD 5 undef, A.getD 6 undef, A.getD 7 undef, A.getD 8 undef, A.getD 9 undef, A.getD 10 undef, A.getD 11 undef, A.getD 12 undef, A.getD 13 undef, A.getD 14 undef, A.getD 15 undef, A.getD 16 undef, A.getD 17 undef, A.getD 18 undef, A.getD 19 undef, A.getD 20 undef, A.getD 21 undef, A.getD 22 undef, A.getD 23 undef, A.getD 24 undef, A.getD 25 undef, A.getD 26 undef, A.getD 27 undef, A.getD 28 undef, A.getD 29 undef, A.getD 30 undef, A.getD 31 undef, A.getD 32 undef, A.getD 33 undef, A.getD 34 undef, A.getD 35 undef, A.getD 36 undef, A.getD 37 undef, A.getD 38 undef] := frame_list A 39 h
/-- A step's cells. -/
def stpCells (s : Stp) (d k : Value) : Array Value := #[.int .i64 s.kind, .int .i64 s.n, .int .i64 s.ask, .string s.path, .string s.dest, .int .i64 s.an, .int .i64 s.off, .int .i64 s.len, d, .int .i64 s.cut, k]
structure StpV (w : World) (B : Nat) (s : Stp) (c : Array Value) : Prop where
  ex : ∃ ad dn dc ka kn kc, c = stpCells s (.slice ad dn dc) (.slice ka kn kc) ∧ BRow w B (.slice ad dn dc) s.data ∧ RowK w B (.slice ka kn kc) s.keep
theorem StpV.keeps {w w' : World} {B B' : Nat} {s : Stp} {c : Array Value} (h : StpV w B s c) {T : Nat → Prop} (hk : Keeps T w w') (hT : ∀ q, B ≤ q → ¬ T q) (hB : B' ≤ B) : StpV w' B' s c := by
  obtain ⟨ad, dn, dc, ka, kn, kc, h1, h2, h3⟩ := h.ex
  exact ⟨ad, dn, dc, ka, kn, kc, h1, (h2.keepsB hk hT).mono hB, h3.keeps hk hT hB⟩
/-- The steps that are being read: the result's cells at G, the step at Q. -/
structure StSt (w w' : World) (R G Q : Nat) (r : Rd) (c : Array Value) : Prop where
  keeps : Keeps (fun q => q = R) w w'
  rd : ∃ a cap, RdAt w' R r a cap
  out : ∃ c0, objAt w' G = some (.cells c0 35 (0, 0)) ∧ c0.size = 11
  obj : objAt w' Q = some (.cells c 35 (0, 0))
  lt : R < G ∧ w.heap.size ≤ G ∧ G < Q
theorem StSt.step {w w' w2 : World} {R G Q : Nat} {r r2 : Rd} {c : Array Value} (h : StSt w w' R G Q r c) (h2 : RdStep w' w2 R r2) : StSt w w2 R G Q r2 c := by
  obtain ⟨c0, ho, hc⟩ := h.out
  have := h.lt
  exact ⟨h.keeps.trans h2.keeps, h2.at_, ⟨c0, h2.keeps.obj ho (by omega), hc⟩, h2.keeps.obj h.obj (by omega), h.lt⟩
theorem StSt.set {w w' : World} {R G Q : Nat} {r : Rd} {c : Array Value} (h : StSt w w' R G Q r c) (i : Nat) (x : Value) : StSt w (w'.setCell ⟨Q, i, none⟩ x) R G Q r (c.setIfInBounds i x) := by
  obtain ⟨c0, ho, hc⟩ := h.out
  have hl := h.lt
  have hk : Keeps (fun q => q = Q) w' (w'.setCell ⟨Q, i, none⟩ x) := Keeps.setCell _ _ _ rfl
  exact ⟨h.keeps.chain hk (fun q hq e => by omega), rdAt_keepQ h.rd hk (fun q e => by omega), ⟨c0, hk.obj ho (by omega), hc⟩, by rw [objAt_setCell h.obj], h.lt⟩
theorem StSt.row {w w' : World} {R G Q : Nat} {r : Rd} {c : Array Value} (h : StSt w w' R G Q r c) (c2 : Array Value) : StSt w (w'.setRow Q c2) R G Q r c2 := by
  obtain ⟨c0, ho, hc⟩ := h.out
  have hl := h.lt
  have hk := setRow_keeps w' Q c2
  exact ⟨h.keeps.chain hk (fun q hq e => by omega), rdAt_keepQ h.rd hk (fun q e => by omega), ⟨c0, hk.obj ho (by omega), hc⟩, objAt_setRow h.obj c2, h.lt⟩
/-- It is handed out. -/
theorem StSt.fin {w w' : World} {R G Q : Nat} {r : Rd} {c : Array Value} (h : StSt w w' R G Q r c) {s : Stp} {B : Nat} (hs : StpV w' B s c) (hB : G < B) : StpV (w'.setRow G c) w.heap.size s c ∧ RdStep w (w'.setRow G c) R r ∧ rowAt (w'.setRow G c) G = some c := by
  obtain ⟨c0, ho, hc⟩ := h.out
  have hl := h.lt
  have hk := setRow_keeps w' G c
  exact ⟨hs.keeps hk (fun q hq e => by omega) (by omega), ⟨h.keeps.chain hk (fun q hq e => by omega), rdAt_keepQ h.rd hk (fun q e => by omega)⟩, rowAt_heap (objAt_setRow ho c)⟩
theorem stp_load (w : World) (Q : Nat) (c : Array Value) (h : objAt w Q = some (.cells c 35 (0, 0))) (i : Nat) : w.cell? ⟨Q, i, none⟩ = c[i]? := cell_obj h i
theorem kEl_ne {w w' : World} {B : Nat} {V : Value} {ks : List (List UInt8)} (h : RowK w B V ks) (hk : Keeps (fun q => V.ownBlock = some q) w w') {l : List UInt8} {x : Value} (hx : BRow w B x l) : BRow w' B x l :=
  owns_keeps hx hk (fun g hg e => by
    obtain ⟨_, q, hq⟩ := BRow.ownObj hx hg
    obtain ⟨c, hc⟩ := RowG.obj h e
    exact ne_of_obj hq hc (by decide) rfl)
/-- One more text is laid in a row of its own. -/
theorem kStep {w wr x : World} {R G : Nat} {r r3 : Rd} {c : Array Value} {V : Value} {ks : List (List UInt8)} {ad : Option Addr} {n dc : Nat} {l : List UInt8} {base : Nat} (_ : StSt w x R G (G + 1) r3 c) (h : StSt w wr R G (G + 1) r c) (hrow : RowK wr (G + 2) V ks) (hk : Keeps (fun q => q = R) wr x) (hr : BRow x base (.slice ad n dc) l) (hb : G + 2 ≤ base) :
    RowK (x.alloc (.cells #[.slice ad n dc] 22)) (G + 2) V ks ∧ objAt (x.alloc (.cells #[.slice ad n dc] 22)) x.heap.size = some (.cells #[.slice ad n dc] 22 (0, 0)) ∧
      (∀ w', Keeps (fun q => V.ownBlock = some q) (x.alloc (.cells #[.slice ad n dc] 22)) w' → (∀ a c, KEl (G + 2) (x.alloc (.cells #[.slice ad n dc] 22)) a c → KEl (G + 2) w' a c) ∧ KEl (G + 2) w' l (#[Value.slice ad n dc] : Array Value).toList) := by
  have hl := h.lt
  have hB : Below x.heap.size x (x.alloc (.cells #[.slice ad n dc] 22)) := grow_alloc (Below.refl _ _) _
  have h1 : RowK (x.alloc (.cells #[.slice ad n dc] 22)) (G + 2) V ks := (RowK.keeps hrow hk (fun q hq e => by omega) (Nat.le_refl _)).keeps (T := fun _ => False) ⟨rfl, rfl, rfl, hB.size, fun k hk _ => hB.block k hk⟩ (fun _ _ h => h) (Nat.le_refl _)
  have h2 : BRow (x.alloc (.cells #[.slice ad n dc] 22)) (G + 2) (.slice ad n dc) l := (hr.mono hb).keepsB (T := fun _ => False) ⟨rfl, rfl, rfl, hB.size, fun k hk _ => hB.block k hk⟩ (fun _ _ h => h)
  exact ⟨h1, by rw [objAt_alloc, if_pos rfl], fun w' hk' => ⟨fun a c ⟨y, e, hy⟩ => ⟨y, e, kEl_ne h1 hk' hy⟩, ⟨_, rfl, kEl_ne h1 hk' h2⟩⟩⟩
theorem StSt.more {w x x' : World} {R G Q : Nat} {r : Rd} {c : Array Value} (h : StSt w x R G Q r c) {T : Nat → Prop} (hk : Keeps T x x') (hT : ∀ q, T q → Q < q) : StSt w x' R G Q r c := by
  obtain ⟨c0, ho, hc⟩ := h.out
  have hl := h.lt
  exact ⟨h.keeps.chain hk (fun q hq e => by have := hT q e; omega), rdAt_keepQ h.rd hk (fun q e => by have := hT q e; omega), ⟨c0, hk.obj ho (fun e => by have := hT _ e; omega), hc⟩, hk.obj h.obj (fun e => by have := hT _ e; omega), h.lt⟩
theorem kObj {w x x6 : World} {R G : Nat} {r3 : Rd} {c : Array Value} {V : Value} {ks : List (List UInt8)} {o : Obj} (h5 : StSt w x R G (G + 1) r3 c) (hrow : RowK (x.alloc o) (G + 2) V ks) (hk6 : Keeps (fun q => V.ownBlock = some q) (x.alloc o) x6) : StSt w x6 R G (G + 1) r3 c :=
  (h5.more (T := fun _ => False) (by have hB : Below x.heap.size x (x.alloc o) := grow_alloc (Below.refl _ _) _; exact ⟨rfl, rfl, rfl, hB.size, fun k hk _ => hB.block k hk⟩) (fun _ h => h.elim)).more hk6 (fun q hq => hrow.own q hq)
def StepJ (w1 : World) (R G : Nat) (_ : Nat) (l : Nat) (a' : Act) (w' : World) : Prop :=
  w' = w1 ∧ l = 0 ∧ ∃ A : Array Value, A.size = 39 ∧ (A.getD 0 undef = .pointer (some ⟨R, 0, none⟩) ∧ A.getD 4 undef = .pointer (some ⟨G, 0, none⟩) ∧ A.getD 5 undef = .pointer (some ⟨G + 1, 0, none⟩) ∧ True) ∧ a' = { tmps := A, defers := [] }
set_option maxHeartbeats 4000000 in
theorem rstep_any {w : World} {R : Nat} {r : Rd} {a : Option Addr} {cap : Nat} (h : RdAt w R r a cap) (kind : Nat) (_ : kind < 7) :
    Calls Tryz.prog 14 #[.pointer (some ⟨R, 0, none⟩), .int .i64 kind] w fun e w' => ∃ c, e = .returned (.agg c) ∧ StpV w' w.heap.size (rStep kind r).1 c ∧ RdStep w w' R (rStep kind r).2 := by
  obtain ⟨W0, hW0⟩ : ∃ W0, W0 = w.alloc (.cells #[.int .i64 0, .int .i64 0, .int .i64 0, .string ⟨#[]⟩, .string ⟨#[]⟩, .int .i64 0, .int .i64 0, .int .i64 0, .slice none 0 0, .int .i64 0, .slice none 0 0] 35) := ⟨_, rfl⟩
  have hst : StSt w (W0.alloc (.cells #[.int .i64 kind, .int .i64 0, .int .i64 0, .string ⟨#[]⟩, .string ⟨#[]⟩, .int .i64 0, .int .i64 0, .int .i64 0, .slice none 0 0, .int .i64 0, .slice none 0 0] 35)) R w.heap.size (w.heap.size + 1) r #[.int .i64 kind, .int .i64 0, .int .i64 0, .string ⟨#[]⟩, .string ⟨#[]⟩, .int .i64 0, .int .i64 0, .int .i64 0, .slice none 0 0, .int .i64 0, .slice none 0 0] := by
    have hb : Below w.heap.size w (W0.alloc (.cells #[.int .i64 kind, .int .i64 0, .int .i64 0, .string ⟨#[]⟩, .string ⟨#[]⟩, .int .i64 0, .int .i64 0, .int .i64 0, .slice none 0 0, .int .i64 0, .slice none 0 0] 35)) := by rw [hW0]; exact grow_alloc (grow_alloc (Below.refl _ _) _) _
    have hs0 : W0.heap.size = w.heap.size + 1 := by rw [hW0, size_alloc]
    have := block_lt h.obj
    refine ⟨Keeps.of_below hb, ⟨a, cap, h.below hb⟩, ⟨_, by rw [objAt_alloc, if_neg (by omega), hW0, objAt_alloc, if_pos rfl], rfl⟩, by rw [objAt_alloc, if_pos hs0.symm], by omega, Nat.le_refl _, by omega⟩
  obtain ⟨G, hG⟩ : ∃ G, G = w.heap.size := ⟨_, rfl⟩
  rw [← hG] at hst
  obtain ⟨w1, hw1⟩ : ∃ w1, w1 = W0.alloc (.cells #[.int .i64 kind, .int .i64 0, .int .i64 0, .string ⟨#[]⟩, .string ⟨#[]⟩, .int .i64 0, .int .i64 0, .int .i64 0, .slice none 0 0, .int .i64 0, .slice none 0 0] 35) := ⟨_, rfl⟩
  rw [← hw1] at hst
  rw [hW0] at hw1
  have HW := Lib.hid (And.intro hG hw1)
  have H1 := Lib.hid hst
  clear hW0 hG hw1 hst h W0
  by_cases h5 : kind = 5
  · have hk5 : ((kind : Int) == 5) = true := by simpa using by omega
    unfold rStep
    rw [if_pos h5]
    simp only [rCrash, bindR, retR]
    clear h5
    obtain ⟨⟨c1, r1⟩, e1⟩ : ∃ x, x = rN 1 r := ⟨_, rfl⟩
    have hc1 : c1 < 256 := by have := rN_lt 1 r; rw [← e1] at this; simpa using this
    rw [← e1]
    dsimp only
    obtain ⟨⟨m1, r2⟩, e2⟩ : ∃ x, x = rN 1 r1 := ⟨_, rfl⟩
    have hm1 : m1 < 256 := by have := rN_lt 1 r1; rw [← e2] at this; simpa using this
    rw [← e2]
    dsimp only
    have HN := Lib.hid (rnum_eq H1.out.rd (by decide : 1 ≤ 2) e1)
    have HE := Lib.hid e2
    clear e1 e2
    go_enter Tryz.func14, Tryz.ntmps14
    go_wp2_with fail
    refine wp_scope_labels (StepJ w1 R G kind) (fun l _ _ => l) ?_ ?_ ?_
    · rintro l a' w' ⟨_, rfl, _⟩; exact ⟨_, rfl⟩
    · rintro l rest a' w' ⟨rfl, rfl, ⟨A, hA, ⟨hA0, hA4, hA5, _⟩, rfl⟩⟩ hrest
      obtain rfl := (Code.seq.inj (Option.some.inj hrest)).2
      rw [frame39 A hA, hA0, hA4, hA5]
      clear hrest
      go_upto_region 8 with (go_at_call 13; refine HN.out.mono ?_; rintro e x2 ⟨rfl, hs2⟩; have hst2 := H1.out.step hs2; have q9 := cell_obj hst2.obj 9; have f9 := free_obj hst2.obj 9)
      have hst3 := hst2.set 9 (.int .i64 ((c1 : Int) - 1))
      generalize x2.setCell ⟨G + 1, 9, none⟩ (.int .i64 ((c1 : Int) - 1)) = w3 at *
      replace hst3 : StSt w w3 R G (G + 1) r1 #[.int .i64 kind, .int .i64 0, .int .i64 0, .string ⟨#[]⟩, .string ⟨#[]⟩, .int .i64 0, .int .i64 0, .int .i64 0, .slice none 0 0, .int .i64 ((c1 : Int) - 1), .slice none 0 0] := hst3
      have H3 := Lib.hid hst3
      have HN2 := Lib.hid (rnum_eq hst3.rd (by decide : 1 ≤ 2) HE.out)
      obtain ⟨M, hM⟩ : ∃ M, M = m1 % 9 := ⟨_, rfl⟩
      have hM9 : M < 9 := by omega
      have hMi : (m1 : Int) % 9 = (M : Int) := by omega
      have HM := Lib.hid hM
      clear hst3 hst2 hs2 q9 f9 hM
      go_wp2_with (go_at_call 13; refine HN2.out.mono ?_; rintro e x4 ⟨rfl, hs4⟩; have H4 := Lib.hid (H3.out.step hs4); clear hs4)
      go_loopw [6] (fun i wr => ∃ (k : Nat) (V : Value), k ≤ M ∧ i = .int .i64 ((M : Int) - k) ∧ StSt w wr R G (G + 1) (rTs k r2).2 #[.int .i64 kind, .int .i64 0, .int .i64 0, .string ⟨#[]⟩, .string ⟨#[]⟩, .int .i64 0, .int .i64 0, .int .i64 0, .slice none 0 0, .int .i64 ((c1 : Int) - 1), V] ∧ RowK wr (G + 2) V (rTs k r2).1) (fun i _ => (Go.RowKit.intOf i).toNat)
      case atStart => exact ⟨0, .slice none 0 0, Nat.zero_le _, by simpa using hMi, H4.out, RowG.nil _ _ _ _ _⟩
      case round =>
        obtain ⟨k, V, hk, rfl, hst, hrow⟩ := hrel
        have hlenk := (rTs_len r2 k).1
        by_cases hlt : k < M
        · have hpos : (0 : Int) < (M : Int) - k := by omega
          obtain ⟨⟨l, r3⟩, e3⟩ : ∃ x, x = rT (rTs k r2).2 := ⟨_, rfl⟩
          have hsucc : rTs (k + 1) r2 = ((rTs k r2).1 ++ [l], r3) := by show ((rTs k r2).1 ++ [(rT (rTs k r2).2).1], (rT (rTs k r2).2).2) = _; rw [← e3]
          have HT := Lib.hid (rtext_eq (rdAt_below hst.rd (Below.refl wr.heap.size wr).drew) e3)
          have HS := Lib.hid (And.intro hst (And.intro hrow (And.intro hsucc hlenk)))
          have q10 : wr.cell? ⟨G + 1, 10, none⟩ = some V := cell_obj hst.obj 10
          clear hst hrow hsucc hlenk e3
          go_upto_region 11 with fail
          refine wp_region_F [5, 7] (S := fun w' => w'.cell? ⟨G + 1, 10, none⟩ = some V ∧ True) (by kernel_rfl) (⟨q10, trivial⟩) (fun hHeld => ?_)
          show wpAnyF _ _ _ _ _ _ 8 #[false, false, false, false, false, false, false, false] _ _
          refine wpAnyF_take [0, 1, 5, 6, 7] (i := 0) (v := ?kv1) rfl (by kernel_rfl) (by kernel_rfl) (by kernel_rfl) (by kernel_rfl) (fun _ _ _ h => h) (Or.inl ⟨by rfl, ?ky1⟩) (by assumption) ?kr1
          case ky1 => (intro w hSw; (try dsimp only at hSw); go_split_ands; (try simp only [List.getElem_toArray, List.getElem_cons_zero]); go_simp; (try with_reducible rfl))
          try simp only [Act.put, List.getElem_toArray, List.getElem_cons_zero, List.setIfInBounds_toArray, List.set_cons_zero, List.set_cons_succ]
          refine wpAnyF_take [1, 5, 6, 7] (i := 1) (v := ?kv2) rfl (by kernel_rfl) (by kernel_rfl) (by kernel_rfl) (by kernel_rfl) (fun _ _ _ h => h) (Or.inl ⟨by rfl, ?ky2⟩) (by assumption) ?kr2
          case ky2 => (intro w hSw; (try dsimp only at hSw); go_split_ands; (try simp only [List.getElem_toArray, List.getElem_cons_zero, List.getElem_cons_succ]); go_simp; (try with_reducible rfl))
          try simp only [Act.put, List.getElem_toArray, List.getElem_cons_zero, List.getElem_cons_succ, List.setIfInBounds_toArray, List.set_cons_zero, List.set_cons_succ]
          refine wpAnyF_take [2, 3, 4, 5, 6, 7] (i := 2) (v := ?kv3) rfl (by kernel_rfl) (by kernel_rfl) (by kernel_rfl) (by kernel_rfl) (fun _ _ _ h => h) (Or.inl ⟨by rfl, ?ky3⟩) (by assumption) ?kr3
          case ky3 => (intro w hSw; (try dsimp only at hSw); go_split_ands; (try simp only [List.getElem_toArray, List.getElem_cons_zero, List.getElem_cons_succ]); go_simp; (try with_reducible rfl))
          try simp only [Act.put, List.getElem_toArray, List.getElem_cons_zero, List.getElem_cons_succ, List.setIfInBounds_toArray, List.set_cons_zero, List.set_cons_succ]
          refine wpAnyF_ready (rs := [3]) (by kernel_rfl) (by simp) ?_
          refine (AllReadyF.cons rfl (fun K hK => ?_) AllReadyF.nil)
          try simp only [List.getElem_toArray, List.getElem_cons_zero, List.getElem_cons_succ]
          go_simp
          go_at_call 21; refine HT.out.mono ?_; rintro e x5 ⟨a5, c5, rfl, hr5, hs5⟩; have hst5 := HS.out.1.step (r2 := r3) ⟨(Keeps.of_below (Below.refl wr.heap.size wr).drew).trans hs5.keeps, hs5.at_⟩; have p10 : x5.cell? ⟨G + 1, 10, none⟩ = some V := cell_obj hst5.obj 10; have hkp := kStep hst5 HS.out.1 HS.out.2.1 ((Keeps.of_below (Below.refl wr.heap.size wr).drew).trans hs5.keeps) hr5 (by have := block_lt HS.out.1.obj; exact this); have HK := Lib.hid (And.intro hst5 hkp); clear hst5 hkp
          refine hK.out _ _ (by exact ⟨p10, trivial⟩) (fun hHeldn => ?_)
          clear hHeld hK K
          have hHeld := hHeldn
          clear hHeldn
          try simp only [List.setIfInBounds_toArray, List.set_cons_zero, List.set_cons_succ]
          refine wpAnyF_ready (rs := [4]) (by kernel_rfl) (by simp) ?_
          refine (AllReadyF.cons rfl (fun K hK => ?_) AllReadyF.nil)
          try simp only [List.getElem_toArray, List.getElem_cons_zero, List.getElem_cons_succ]
          go_simp
          refine hK.out _ _ (by exact ⟨grow_cell (grow_alloc (Below.refl _ _) _) p10, trivial⟩) (fun hHeldn => ?_)
          clear hHeld hK K
          have hHeld := hHeldn
          clear hHeldn
          try simp only [List.setIfInBounds_toArray, List.set_cons_zero, List.set_cons_succ]
          refine wpAnyF_ready (rs := [5]) (by kernel_rfl) (by simp) ?_
          refine (AllReadyF.last rfl (by kernel_rfl) (fun K hK => ?_) AllReadyF.nil)
          refine step_appG elemBytesK (v := V) rfl _ _ rfl rfl HK.out.2.1 rfl HK.out.2.2.1 rfl (by simp [Value.oneCell']) (by have := HS.out.2.2.2; omega) (KEl (G + 2)) l HK.out.2.2.2 ?_; intro g6 cap6 x6 hv6 hk6 ho6 hl6; have hst6 := kObj HK.out.1 HK.out.2.1 hk6; have p6 := cell_obj hst6.obj 10; have f6 := free_obj hst6.obj 10; have H6 := Lib.hid (And.intro hst6 hv6); clear hst6 hv6 hk6 ho6 hl6
          refine hK.out _ _ (trivial) (fun hHeldn => ?_)
          clear hHeld hK K
          have hHeld := hHeldn
          clear hHeldn
          try simp only [Act.put, List.getElem_toArray, List.getElem_cons_zero, List.getElem_cons_succ, List.setIfInBounds_toArray, List.set_cons_zero, List.set_cons_succ]
          refine wpAnyF_pure (i := 6) (v := ?kv7) rfl (by kernel_rfl) (by kernel_rfl) (by kernel_rfl) (by kernel_rfl) (fun _ _ _ h => h) (Or.inl ⟨by rfl, ?ky7⟩) (by first | (intro _; assumption) | (intro h; exact absurd h (by decide))) ?kr7
          case ky7 => (intro w hSw; clear hSw; (try simp only [List.getElem_toArray, List.getElem_cons_zero, List.getElem_cons_succ]); go_simp; (try with_reducible rfl))
          try simp only [Act.put, List.getElem_toArray, List.getElem_cons_zero, List.getElem_cons_succ, List.setIfInBounds_toArray, List.set_cons_zero, List.set_cons_succ]
          refine wpAnyF_ready (rs := [7]) (by kernel_rfl) (by simp) ?_
          refine (AllReadyF.last rfl (by kernel_rfl) (fun K hK => ?_) AllReadyF.nil)
          try simp only [List.getElem_toArray, List.getElem_cons_zero, List.getElem_cons_succ]
          go_simp
          refine hK.out _ _ (trivial) (fun hHeldn => ?_)
          clear hHeld hK K
          have hHeld := hHeldn
          clear hHeldn
          try simp only [List.setIfInBounds_toArray, List.set_cons_zero, List.set_cons_succ]
          refine wpAnyF_done (by kernel_rfl) ?_ _
          have hst7 := H6.out.1.set 10 (.slice (some ⟨g6, 0, none⟩) ((rTs k r2).1.length + 1) cap6)
          have hk7 : Keeps (fun q => q = G + 1) x6 (x6.setCell ⟨G + 1, 10, none⟩ (.slice (some ⟨g6, 0, none⟩) ((rTs k r2).1.length + 1) cap6)) := Keeps.setCell _ _ _ rfl
          have hG6 : G + 2 ≤ (x5.alloc (.cells #[.slice a5 l.length c5] 22)).heap.size := by have := block_lt HK.out.1.obj; rw [size_alloc]; omega
          have hr6 : RowK x6 (G + 2) (.slice (some ⟨g6, 0, none⟩) ((rTs k r2).1.length + 1) cap6) ((rTs k r2).1 ++ [l]) := RowG.keeps H6.out.2 (Keeps.refl (fun _ => False) x6) (fun _ _ h => h) (fun q hq => hq.elim id (fun h => Nat.le_trans hG6 h)) (fun _ _ h => h)
          have hr7 := RowK.keeps hr6 hk7 (fun q hq e => by omega) (Nat.le_refl _)
          have H7 := Lib.hid (And.intro hst7 hr7)
          clear hst7 hk7 hG6 hr6 hr7 hHeld q10 p10 p6 f6
          go_wp2_with fail
          go_roundw
          case rel => exact ⟨k + 1, by omega, by first | omega | (congr 1; omega), .slice (some ⟨g6, 0, none⟩) ((rTs k r2).1.length + 1) cap6, by rw [HS.out.2.2.1]; exact H7.out.1, by rw [HS.out.2.2.1]; exact H7.out.2⟩
          case measure => simp [Go.RowKit.intOf]; omega
        · obtain rfl : k = M := by omega
          obtain ⟨va, vn, vc, rfl⟩ : ∃ va vn vc, V = .slice va vn vc := by
            obtain ⟨va, vc, e, _⟩ := RowG.slice hrow
            exact ⟨va, _, vc, e⟩
          have hz : ¬ ((0 : Int) < (k : Int) - k) := by omega
          have hsp : StpV wr (G + 2) ⟨kind, 0, 0, ⟨#[]⟩, ⟨#[]⟩, 0, 0, 0, [], (c1 : Int) - 1, (rTs k r2).1⟩ #[.int .i64 kind, .int .i64 0, .int .i64 0, .string ⟨#[]⟩, .string ⟨#[]⟩, .int .i64 0, .int .i64 0, .int .i64 0, .slice none 0 0, .int .i64 ((c1 : Int) - 1), .slice va vn vc] := ⟨none, 0, 0, va, vn, vc, rfl, World.ownsRow_nil _ _ _ _, hrow⟩
          have hfin := hst.fin hsp (by omega)
          obtain ⟨c0, ho0, hc0⟩ := hst.out
          have hhs := hasStp_obj ho0 hc0
          have b0 := cell_obj hst.obj 0
          have b1 := cell_obj hst.obj 1
          have b2 := cell_obj hst.obj 2
          have b3 := cell_obj hst.obj 3
          have b4 := cell_obj hst.obj 4
          have b5 := cell_obj hst.obj 5
          have b6 := cell_obj hst.obj 6
          have b7 := cell_obj hst.obj 7
          have b8 := cell_obj hst.obj 8
          have b9 := cell_obj hst.obj 9
          have b10 := cell_obj hst.obj 10
          have HF := Lib.hid hfin
          clear hfin hsp ho0 hc0 hst hrow hlenk
          go_wp2_with fail
          try rw [jumps_ret]
          refine bodyPost_ret (results_one rfl (resOne_agg aggStp rfl HF.out.2.2 rfl)) rfl ?_
          rw [← HM.out]
          exact ⟨_, rfl, HF.out.1, HF.out.2.1⟩
    · intro hfall
      clear hfall
      go_upto_region 2 with fail
      rw [← HW.out.2, ← HW.out.1]
      go_wp2_with fail
      go_step3
      exact ⟨rfl, rfl, ⟨_, rfl, ⟨rfl, rfl, rfl, trivial⟩, rfl⟩⟩
  · have hk5 : ((kind : Int) == 5) = false := by simpa using by omega
    unfold rStep
    rw [if_neg h5]
    simp only [bindR]
    obtain ⟨⟨n1, r1⟩, e1⟩ : ∃ x, x = rN 2 r := ⟨_, rfl⟩
    rw [← e1]
    dsimp only
    have HN := Lib.hid (rnum_eq H1.out.rd (by decide : 2 ≤ 2) e1)
    clear h5 e1
    by_cases h2 : kind = 2
    · have hk2 : ((kind : Int) == 2) = true := by simpa using by omega
      rw [if_pos h2]
      clear h2
      obtain ⟨⟨s, r2⟩, e2⟩ : ∃ x, x = rAsk kind n1 r1 := ⟨_, rfl⟩
      have hs4 : s.kind = (kind : Nat) ∧ s.n = n1 ∧ s.cut = 0 ∧ s.keep = [] := by
        have := congrArg Prod.fst e2
        dsimp only at this
        rw [this]
        exact ⟨rfl, rfl, rfl, rfl⟩
      rw [← e2]
      dsimp only
      have HR := fun (x : World) (hx : ∃ a cap, RdAt x R r1 a cap) => (by
        obtain ⟨a2, cap2, hx⟩ := hx
        have := rrequest_any hx kind n1
        rw [← e2] at this
        exact this : Calls Tryz.prog 20 #[.pointer (some ⟨R, 0, none⟩)] x fun e w' => ∃ ad dn dc, e = .returned (.agg (rqCells s.ask s.path s.dest s.an s.off s.len (.slice ad dn dc))) ∧ BRow w' x.heap.size (.slice ad dn dc) s.data ∧ RdStep x w' R r2)
      have HR' := Lib.hid HR
      have HS := Lib.hid hs4
      clear HR e2 hs4
      go_enter Tryz.func14, Tryz.ntmps14
      go_wp2_with fail
      refine wp_scope_labels (fun _ _ _ => False) (fun l _ _ => l) (fun _ _ _ h => h.elim) (fun _ _ _ _ h => h.elim) ?_
      intro hfall
      clear hfall
      go_upto_region 2 with fail
      rw [← HW.out.2, ← HW.out.1]
      go_upto_region 4 with (go_at_call 13; refine HN.out.mono ?_; rintro e x2 ⟨rfl, hs2⟩; have hst2 := H1.out.step hs2; have q1 := cell_obj hst2.obj 1; have f1 := free_obj hst2.obj 1)
      have hst4 := hst2.set 1 (.int .i64 n1)
      generalize x2.setCell ⟨G + 1, 1, none⟩ (.int .i64 n1) = w4 at *
      replace hst4 : StSt w w4 R G (G + 1) r1 #[.int .i64 kind, .int .i64 n1, .int .i64 0, .string ⟨#[]⟩, .string ⟨#[]⟩, .int .i64 0, .int .i64 0, .int .i64 0, .slice none 0 0, .int .i64 0, .slice none 0 0] := hst4
      have H4 := Lib.hid hst4
      clear hst4 hst2 hs2 q1 f1
      go_upto_region 6 with (go_at_call 20; refine (HR'.out _ H4.out.rd).mono ?_; rintro e x5 ⟨ad, dn, dc, rfl, hr5, hs5⟩; have hst5 := H4.out.step hs5; unfold rqCells; have hrw5 := rowAt_heap hst5.obj; have hhs5 := hasStp_obj hst5.obj rfl)
      have hst6 := hst5.row #[.int .i64 kind, .int .i64 n1, .int .i64 s.ask, .string s.path, .string s.dest, .int .i64 s.an, .int .i64 s.off, .int .i64 s.len, .slice ad dn dc, .int .i64 0, .slice none 0 0]
      have hG2 : G + 2 ≤ w4.heap.size := by have := block_lt H4.out.obj; omega
      have hr6 := (hr5.mono hG2).keepsB (setRow_keeps x5 (G + 1) #[.int .i64 kind, .int .i64 n1, .int .i64 s.ask, .string s.path, .string s.dest, .int .i64 s.an, .int .i64 s.off, .int .i64 s.len, .slice ad dn dc, .int .i64 0, .slice none 0 0]) (fun q hq e => by omega)
      generalize x5.setRow (G + 1) #[.int .i64 kind, .int .i64 n1, .int .i64 s.ask, .string s.path, .string s.dest, .int .i64 s.an, .int .i64 s.off, .int .i64 s.len, .slice ad dn dc, .int .i64 0, .slice none 0 0] = w6 at *
      have hsp : StpV w6 (G + 2) s #[.int .i64 kind, .int .i64 n1, .int .i64 s.ask, .string s.path, .string s.dest, .int .i64 s.an, .int .i64 s.off, .int .i64 s.len, .slice ad dn dc, .int .i64 0, .slice none 0 0] := ⟨ad, dn, dc, none, 0, 0, by unfold stpCells; rw [HS.out.1, HS.out.2.1, HS.out.2.2.1], hr6, by rw [HS.out.2.2.2]; exact RowG.nil _ _ _ _ _⟩
      have hfin := hst6.fin hsp (by omega)
      obtain ⟨c0, ho0, hc0⟩ := hst6.out
      have hhs := hasStp_obj ho0 hc0
      have b0 := cell_obj hst6.obj 0
      have b1 := cell_obj hst6.obj 1
      have b2 := cell_obj hst6.obj 2
      have b3 := cell_obj hst6.obj 3
      have b4 := cell_obj hst6.obj 4
      have b5 := cell_obj hst6.obj 5
      have b6 := cell_obj hst6.obj 6
      have b7 := cell_obj hst6.obj 7
      have b8 := cell_obj hst6.obj 8
      have b9 := cell_obj hst6.obj 9
      have b10 := cell_obj hst6.obj 10
      have HF := Lib.hid hfin
      clear hfin hsp ho0 hc0 hst6 hst5 hs5 hr5 hr6 hrw5 hhs5 hG2
      go_wp2_with fail
      try rw [jumps_ret]
      refine bodyPost_ret (results_one rfl (resOne_agg aggStp rfl HF.out.2.2 rfl)) rfl ?_
      exact ⟨_, rfl, HF.out.1, HF.out.2.1⟩
    · have hk2 : ((kind : Int) == 2) = false := by simpa using by omega
      rw [if_neg h2]
      unfold retR
      clear h2
      go_enter Tryz.func14, Tryz.ntmps14
      go_wp2_with fail
      refine wp_scope_labels (fun _ _ _ => False) (fun l _ _ => l) (fun _ _ _ h => h.elim) (fun _ _ _ _ h => h.elim) ?_
      intro hfall
      clear hfall
      go_upto_region 2 with fail
      rw [← HW.out.2, ← HW.out.1]
      go_upto_region 6 with (go_at_call 13; refine HN.out.mono ?_; rintro e x2 ⟨rfl, hs2⟩; have hst2 := H1.out.step hs2; have q1 := cell_obj hst2.obj 1; have f1 := free_obj hst2.obj 1)
      have hst4 := hst2.set 1 (.int .i64 n1)
      generalize x2.setCell ⟨G + 1, 1, none⟩ (.int .i64 n1) = w4 at *
      replace hst4 : StSt w w4 R G (G + 1) r1 #[.int .i64 kind, .int .i64 n1, .int .i64 0, .string ⟨#[]⟩, .string ⟨#[]⟩, .int .i64 0, .int .i64 0, .int .i64 0, .slice none 0 0, .int .i64 0, .slice none 0 0] := hst4
      have hsp : StpV w4 (G + 2) (Stp.of kind n1) #[.int .i64 kind, .int .i64 n1, .int .i64 0, .string ⟨#[]⟩, .string ⟨#[]⟩, .int .i64 0, .int .i64 0, .int .i64 0, .slice none 0 0, .int .i64 0, .slice none 0 0] := ⟨none, 0, 0, none, 0, 0, rfl, World.ownsRow_nil _ _ _ _, RowG.nil _ _ _ _ _⟩
      have hfin := hst4.fin hsp (by omega)
      obtain ⟨c0, ho0, hc0⟩ := hst4.out
      have hhs := hasStp_obj ho0 hc0
      have b0 := cell_obj hst4.obj 0
      have b1 := cell_obj hst4.obj 1
      have b2 := cell_obj hst4.obj 2
      have b3 := cell_obj hst4.obj 3
      have b4 := cell_obj hst4.obj 4
      have b5 := cell_obj hst4.obj 5
      have b6 := cell_obj hst4.obj 6
      have b7 := cell_obj hst4.obj 7
      have b8 := cell_obj hst4.obj 8
      have b9 := cell_obj hst4.obj 9
      have b10 := cell_obj hst4.obj 10
      have HF := Lib.hid hfin
      clear hfin hsp ho0 hc0 hst4 hst2 hs2 q1 f1
      go_wp2_with fail
      try rw [jumps_ret]
      refine bodyPost_ret (results_one rfl (resOne_agg aggStp rfl HF.out.2.2 rfl)) rfl ?_
      exact ⟨_, rfl, HF.out.1, HF.out.2.1⟩
end Go.Proofs.YtanmihhlkelgeaaGreat
