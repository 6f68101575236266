/- DERIVED. Contracts and laws that the proofs of this seat share, part 21 of 32: PyD. -/
import Derived.Test.YtanmihhlkelgeaaGreatMg00
import Derived.Test.YtanmihhlkelgeaaGreatMg04
import Derived.Test.YtanmihhlkelgeaaGreatMg20
/- DERIVED. Requests and steps in cells; contract of play's reader.request. -/
namespace Go.Proofs.YtanmihhlkelgeaaGreat
open Go.RowKit
attribute [local go_sem] hasBlk
attribute [local irreducible] Calls
set_option maxRecDepth 100000

theorem aggReq : AggOf Tryz.prog 32 7 := ⟨⟨_, Tryz.underlying32, rfl⟩, by kernel_rfl⟩
noncomputable def reqStore (x y : Value) (w : World) : Result Unit := Sem.run Tryz.prog (Instr.storeAt 32 x y) w
def hasReq (w : World) (g : Nat) : Bool := (rowAt w g).any (·.size == 7)
theorem hasReq_some {w : World} {g : Nat} (h : hasReq w g = true) : ∃ c, rowAt w g = some c ∧ c.size = 7 := by
  unfold hasReq at h
  cases hr : rowAt w g with
  | none => rw [hr] at h; cases h
  | some c => rw [hr] at h; exact ⟨c, rfl, by simpa using h⟩
theorem hasReq_obj {w : World} {g : Nat} {c : Array Value} {t : TypeId} (h : objAt w g = some (.cells c t (0, 0))) (hc : c.size = 7) : hasReq w g = true := by
  unfold hasReq; rw [rowAt_heap h]; simp [hc]
@[go_sem] theorem hasReq_new (w : World) (c : Array Value) (t : TypeId) (n : Nat) (hn : n = w.heap.size) (hc : c.size = 7) : hasReq (w.alloc (.cells c t)) n = true := by
  unfold hasReq; rw [rowAt_alloc_at w c t n hn]; simp [hc]
@[go_sem] theorem hasReq_drew (w : World) (n : Nat) : hasReq w.drew n = hasReq w n := rfl
@[go_sem] theorem store_req (w : World) (gB : Nat) (a : Int) (p t : ByteArray) (x o l : Int) (ad : Option Addr) (dn dc : Nat) (hB : hasReq w gB = true) :
    reqStore (.pointer (some ⟨gB, 0, none⟩)) (.agg #[.int .i64 a, .string p, .string t, .int .i64 x, .int .i64 o, .int .i64 l, .slice ad dn dc]) w = .ok () (w.setRow gB #[.int .i64 a, .string p, .string t, .int .i64 x, .int .i64 o, .int .i64 l, .slice ad dn dc]) := by
  obtain ⟨c, hc, hs⟩ := hasReq_some hB
  refine run_store_agg aggReq w gB _ hc hs rfl ?_
  simp [Value.oneCell']
@[go_sem ↓] theorem exec_store_req (ρ : Operand → Value) (w : World) (dst : Option Tmp) (x y : Operand) (ty : TypeId) (pos : String) (after : Array Edge) (gd : Option (Nat × Bool)) :
    (execOp ρ ⟨dst, .store 32 x y, ty, pos, after, gd⟩).run Tryz.prog w = (reqStore (ρ x) (ρ y) w).andThen fun _ w => .ok .skip w := by
  simp only [execOp, reqStore, Sem.run_bind]; rfl
attribute [irreducible] reqStore
theorem aggStp : AggOf Tryz.prog 35 11 := ⟨⟨_, Tryz.underlying35, rfl⟩, by kernel_rfl⟩
noncomputable def stpStore (x y : Value) (w : World) : Result Unit := Sem.run Tryz.prog (Instr.storeAt 35 x y) w
def hasStp (w : World) (g : Nat) : Bool := (rowAt w g).any (·.size == 11)
theorem hasStp_some {w : World} {g : Nat} (h : hasStp w g = true) : ∃ c, rowAt w g = some c ∧ c.size = 11 := by
  unfold hasStp at h
  cases hr : rowAt w g with
  | none => rw [hr] at h; cases h
  | some c => rw [hr] at h; exact ⟨c, rfl, by simpa using h⟩
theorem hasStp_obj {w : World} {g : Nat} {c : Array Value} {t : TypeId} (h : objAt w g = some (.cells c t (0, 0))) (hc : c.size = 11) : hasStp w g = true := by
  unfold hasStp; rw [rowAt_heap h]; simp [hc]
@[go_sem] theorem hasStp_new (w : World) (c : Array Value) (t : TypeId) (n : Nat) (hn : n = w.heap.size) (hc : c.size = 11) : hasStp (w.alloc (.cells c t)) n = true := by
  unfold hasStp; rw [rowAt_alloc_at w c t n hn]; simp [hc]
@[go_sem] theorem hasStp_drew (w : World) (n : Nat) : hasStp w.drew n = hasStp w n := rfl
@[go_sem] theorem store_stp (w : World) (gB : Nat) (k n a : Int) (p t : ByteArray) (x o l : Int) (ad : Option Addr) (dn dc : Nat) (cut : Int) (ka : Option Addr) (kn kc : Nat) (hB : hasStp w gB = true) :
    stpStore (.pointer (some ⟨gB, 0, none⟩)) (.agg #[.int .i64 k, .int .i64 n, .int .i64 a, .string p, .string t, .int .i64 x, .int .i64 o, .int .i64 l, .slice ad dn dc, .int .i64 cut, .slice ka kn kc]) w = .ok () (w.setRow gB #[.int .i64 k, .int .i64 n, .int .i64 a, .string p, .string t, .int .i64 x, .int .i64 o, .int .i64 l, .slice ad dn dc, .int .i64 cut, .slice ka kn kc]) := by
  obtain ⟨c, hc, hs⟩ := hasStp_some hB
  refine run_store_agg aggStp w gB _ hc hs rfl ?_
  simp [Value.oneCell']
@[go_sem ↓] theorem exec_store_stp (ρ : Operand → Value) (w : World) (dst : Option Tmp) (x y : Operand) (ty : TypeId) (pos : String) (after : Array Edge) (gd : Option (Nat × Bool)) :
    (execOp ρ ⟨dst, .store 35 x y, ty, pos, after, gd⟩).run Tryz.prog w = (stpStore (ρ x) (ρ y) w).andThen fun _ w => .ok .skip w := by
  simp only [execOp, stpStore, Sem.run_bind]; rfl
attribute [irreducible] stpStore
/-- A request laid into a step. -/
@[go_sem] theorem store_req2 (w : World) (g : Nat) (a : Int) (p t : ByteArray) (x o l : Int) (ad : Option Addr) (dn dc : Nat) (hB : hasStp w g = true) :
    reqStore (.pointer (some ⟨g, 2, none⟩)) (.agg #[.int .i64 a, .string p, .string t, .int .i64 x, .int .i64 o, .int .i64 l, .slice ad dn dc]) w =
      .ok () (w.setRow g (((rowAt w g).getD #[]).toList.take 2 ++ ([.int .i64 a, .string p, .string t, .int .i64 x, .int .i64 o, .int .i64 l, .slice ad dn dc] : List Value) ++ ((rowAt w g).getD #[]).toList.drop 9).toArray) := by
  obtain ⟨c, h, hc⟩ := hasStp_some hB
  obtain ⟨ty, hg⟩ := heap_rowAt h
  have hs : (sizeOf 32).run Tryz.prog w = .ok 7 w := by
    have h7 : (Tryz.prog.info? 32).map (·.size) = some 7 := by kernel_rfl
    obtain ⟨i, hi, hsz⟩ := Option.map_eq_some_iff.1 h7
    simp [sizeOf, typeInfo, hi, hsz]
  have hst := run_storeCells_at Tryz.prog g 2 ty [.int .i64 a, .string p, .string t, .int .i64 x, .int .i64 o, .int .i64 l, .slice ad dn dc] 0 c w hg (by simp; omega) (by simp [Value.oneCell'])
  unfold reqStore
  show (Instr.storeAt 32 _ _).run Tryz.prog w = _
  simp only [Instr.storeAt, Instr.sureAddr, Sem.run_bind, Sem.run_pure, Result.andThen_ok, storeVar, hs, Value.cells, ne_eq]
  simp only [List.size_toArray, List.length_cons, List.length_nil, Nat.reduceAdd, not_true_eq_false, if_false]
  rw [hst, h]
  rfl
theorem BytesAt.keepR {w w' : World} {R B : Nat} {a : Option Addr} {cap : Nat} {l : List UInt8} (h : BRow w B (.slice a l.length cap) l) (hk : Keeps (fun q => q = R) w w') (hR : R < B) : BRow w' B (.slice a l.length cap) l :=
  owns_keeps h hk (fun g hg e => by
    rcases h.2 with ⟨h', _⟩ | ⟨g', cap', cur, h', hb, _⟩
    · rw [h'] at hg; cases hg
    · rw [h'] at hg; obtain rfl := Option.some.inj hg; have e' : g' = R := e; omega)
theorem rtext_eq {w : World} {R : Nat} {r r' : Rd} {l : List UInt8} (h : ∃ a cap, RdAt w R r a cap) (e : (l, r') = rT r) :
    Calls Tryz.prog 21 #[.pointer (some ⟨R, 0, none⟩)] w fun e w' => ∃ ad c, e = .returned (.slice ad l.length c) ∧ BRow w' w.heap.size (.slice ad l.length c) l ∧ RdStep w w' R r' := by
  obtain ⟨a, cap, h⟩ := h
  have := rtext_any h
  rw [← e] at this
  refine this.mono ?_
  rintro e w' ⟨v, rfl, hr, hs⟩
  obtain ⟨ad, c, rfl, _⟩ := hr.val
  exact ⟨ad, c, rfl, hr, hs⟩
theorem rnum_eq {w : World} {R : Nat} {r r' : Rd} {v n : Nat} (h : ∃ a cap, RdAt w R r a cap) (hn : n ≤ 2) (e : (v, r') = rN n r) :
    Calls Tryz.prog 13 #[.pointer (some ⟨R, 0, none⟩), .int .i64 n] w fun e w' => e = .returned (.int .i64 (v : Nat)) ∧ RdStep w w' R r' := by
  obtain ⟨a, cap, h⟩ := h
  have := rnum_any h n hn
  rw [← e] at this
  exact this
theorem rdAt_below {w w' : World} {R : Nat} {r : Rd} (h : ∃ a cap, RdAt w R r a cap) (hb : Below w.heap.size w w') : ∃ a cap, RdAt w' R r a cap := by
  obtain ⟨a, cap, h⟩ := h
  exact ⟨a, cap, h.below hb⟩
/-- What lies behind the reader may be turned. -/
theorem rdAt_keepQ {w w' : World} {R : Nat} {r : Rd} (h : ∃ a cap, RdAt w R r a cap) {T : Nat → Prop} (hk : Keeps T w w') (hT : ∀ q, T q → R < q) : ∃ a cap, RdAt w' R r a cap := by
  obtain ⟨a, cap, h⟩ := h
  exact ⟨a, cap, h.keeps hk (fun e => Nat.lt_irrefl _ (hT R e)) (fun ad e e' => by have := (h.lt ad e).2; have := hT _ e'; omega)⟩
theorem setRow_keeps (w : World) (g : Nat) (c : Array Value) : Keeps (fun q => q = g) w (w.setRow g c) :=
  ⟨rfl, rfl, rfl, by simp [World.setRow], fun k _ hk => by simp only [World.setRow, Array.getElem?_modify]; rw [if_neg (fun e => hk e.symm)]⟩
theorem BRow.keepsB {w w' : World} {B : Nat} {v : Value} {l : List UInt8} (h : BRow w B v l) {T : Nat → Prop} (hk : Keeps T w w') (hT : ∀ q, B ≤ q → ¬ T q) : BRow w' B v l :=
  owns_keeps h hk (fun g hg => by
    rcases h.2 with ⟨h', _⟩ | ⟨g', cap', cur, h', hb, _⟩
    · rw [h'] at hg; cases hg
    · rw [h'] at hg; obtain rfl := Option.some.inj hg; exact hT _ hb)
/-- A request's cells. -/
def rqCells (a : Int) (p t : ByteArray) (x o l : Int) (d : Value) : Array Value := #[.int .i64 a, .string p, .string t, .int .i64 x, .int .i64 o, .int .i64 l, d]
/-- The request that is being read, at Q. -/
structure RqAt (w w' : World) (R Q : Nat) (r : Rd) (c : Array Value) : Prop where
  step : RdStep w w' R r
  obj : objAt w' Q = some (.cells c 32 (0, 0))
theorem RdStep.at2 {w w' : World} {R Q : Nat} {r : Rd} {o : Obj} (h : RdStep w w' R r) (hq : objAt w Q = some o) (hne : Q ≠ R) : objAt w' Q = some o := h.keeps.obj hq hne
set_option maxHeartbeats 4000000 in
theorem rrequest_any {w : World} {R : Nat} {r : Rd} {a : Option Addr} {cap : Nat} (h : RdAt w R r a cap) (kind n : Nat) :
    Calls Tryz.prog 20 #[.pointer (some ⟨R, 0, none⟩)] w fun e w' => ∃ ad dn dc, e = .returned (.agg (rqCells (rAsk kind n r).1.ask (rAsk kind n r).1.path (rAsk kind n r).1.dest (rAsk kind n r).1.an (rAsk kind n r).1.off (rAsk kind n r).1.len (.slice ad dn dc))) ∧ BRow w' w.heap.size (.slice ad dn dc) (rAsk kind n r).1.data ∧ RdStep w w' R (rAsk kind n r).2 := by
  have hB0 : Below w.heap.size w (w.alloc (.cells (rqCells 0 ⟨#[]⟩ ⟨#[]⟩ 0 0 0 (.slice none 0 0)) 32)) := grow_alloc (Below.refl _ _) _
  have ho : objAt (w.alloc (.cells (rqCells 0 ⟨#[]⟩ ⟨#[]⟩ 0 0 0 (.slice none 0 0)) 32)) w.heap.size = some (.cells (rqCells 0 ⟨#[]⟩ ⟨#[]⟩ 0 0 0 (.slice none 0 0)) 32 (0, 0)) := by rw [objAt_alloc, if_pos rfl]
  rw [show rqCells 0 ⟨#[]⟩ ⟨#[]⟩ 0 0 0 (.slice none 0 0) = #[.int .i64 0, .string ⟨#[]⟩, .string ⟨#[]⟩, .int .i64 0, .int .i64 0, .int .i64 0, .slice none 0 0] from rfl] at hB0 ho
  obtain ⟨G, hG⟩ : ∃ G, G = w.heap.size := ⟨_, rfl⟩
  obtain ⟨w1, hw1⟩ : ∃ w1, w1 = w.alloc (.cells #[.int .i64 0, .string ⟨#[]⟩, .string ⟨#[]⟩, .int .i64 0, .int .i64 0, .int .i64 0, .slice none 0 0] 32) := ⟨_, rfl⟩
  rw [← hw1] at hB0 ho
  rw [← hG] at ho
  have hRG : R < G := by rw [hG]; exact block_lt h.obj
  have h1 := h.below hB0
  have HG := Lib.hid (And.intro hG hw1)
  have H1 := Lib.hid (And.intro hB0 (And.intro ho (And.intro h1 hRG)))
  have HN := Lib.hid (rnum_any h1 1 (by decide))
  clear h hB0 ho hG hw1 hRG h1
  simp only [rAsk, bindR, retR]
  obtain ⟨⟨x1, r1⟩, e1⟩ : ∃ x, x = rN 1 r := ⟨_, rfl⟩
  rw [← e1] at HN ⊢
  dsimp only at HN ⊢
  obtain ⟨⟨p1, r2⟩, e2⟩ : ∃ x, x = rT r1 := ⟨_, rfl⟩
  rw [← e2]
  dsimp only
  obtain ⟨⟨t1, r3⟩, e3⟩ : ∃ x, x = rT r2 := ⟨_, rfl⟩
  rw [← e3]
  dsimp only
  obtain ⟨⟨y1, r4⟩, e4⟩ : ∃ x, x = rN 2 r3 := ⟨_, rfl⟩
  rw [← e4]
  dsimp only
  obtain ⟨⟨o1, r5⟩, e5⟩ : ∃ x, x = rN 2 r4 := ⟨_, rfl⟩
  rw [← e5]
  dsimp only
  obtain ⟨⟨l1, r6⟩, e6⟩ : ∃ x, x = rN 2 r5 := ⟨_, rfl⟩
  rw [← e6]
  dsimp only
  obtain ⟨⟨d1, r7⟩, e7⟩ : ∃ x, x = rT r6 := ⟨_, rfl⟩
  rw [← e7]
  dsimp only
  have HE := Lib.hid (And.intro e1 (And.intro e2 (And.intro e3 (And.intro e4 (And.intro e5 (And.intro e6 e7))))))
  clear e1 e2 e3 e4 e5 e6 e7
  go_enter Tryz.func20, Tryz.ntmps20
  go_upto_region 1 with fail
  rw [← HG.out.2, ← HG.out.1]
  go_upto_region 2 with (go_at_call 13; refine HN.out.mono ?_; rintro e w2 ⟨rfl, hs2⟩)
  obtain ⟨Q, hQ⟩ : ∃ Q, Q = w2.heap.size := ⟨_, rfl⟩
  have hB3 : Below w2.heap.size w2 (w2.alloc (.cells #[.int .i64 x1, .string ⟨#[]⟩, .string ⟨#[]⟩, .int .i64 0, .int .i64 0, .int .i64 0, .slice none 0 0] 32)) := grow_alloc (Below.refl _ _) _
  have hq3 : objAt (w2.alloc (.cells #[.int .i64 x1, .string ⟨#[]⟩, .string ⟨#[]⟩, .int .i64 0, .int .i64 0, .int .i64 0, .slice none 0 0] 32)) Q = some (.cells #[.int .i64 x1, .string ⟨#[]⟩, .string ⟨#[]⟩, .int .i64 0, .int .i64 0, .int .i64 0, .slice none 0 0] 32 (0, 0)) := by rw [objAt_alloc, if_pos hQ]
  obtain ⟨w3, hw3⟩ : ∃ w3, w3 = w2.alloc (.cells #[.int .i64 x1, .string ⟨#[]⟩, .string ⟨#[]⟩, .int .i64 0, .int .i64 0, .int .i64 0, .slice none 0 0] 32) := ⟨_, rfl⟩
  rw [← hw3] at hB3 hq3
  rw [← hQ, ← hw3]
  have hQR : R < Q := by have := hs2.keeps.size; have := H1.out.2.2.2; have := block_lt H1.out.2.1; omega
  have hd3 := rdAt_below hs2.at_ hB3
  have hR3 : R < w3.heap.size := by obtain ⟨_, _, h⟩ := hd3; exact block_lt h.obj
  have hGQ : G < Q := by have := block_lt H1.out.2.1; have := hs2.keeps.size; omega
  have HGQ := Lib.hid hGQ
  have H3 := Lib.hid (And.intro (And.intro hs2.keeps hB3) (And.intro hq3 (And.intro hd3 (And.intro hQR hR3))))
  clear hGQ
  have HT1 := Lib.hid (rtext_eq (rdAt_below hd3 (Below.refl w3.heap.size w3).drew) HE.out.2.1)
  clear hQ hB3 hq3 hw3 hQR hd3 hs2 HN
  go_cut [] (fun wx => Keeps (fun q => q = R ∨ q = Q) w3 wx ∧ (∃ a cap, RdAt wx R r3 a cap) ∧ objAt wx Q = some (.cells #[.int .i64 x1, .string ⟨p1.toArray⟩, .string ⟨t1.toArray⟩, .int .i64 0, .int .i64 0, .int .i64 0, .slice none 0 0] 32 (0, 0)))
  case first =>
    refine wp_region_held_drew (S := fun _ => True) (by kernel_rfl) (trivial) (fun hHeld => ?_)
    show wpAnyH _ _ _ _ _ 10 #[false, false, false, false, false, false, false, false, false, false] _ _
    refine wpAnyH_take (i := 0) (v := ?kv1) rfl (by kernel_rfl) (by kernel_rfl) (by kernel_rfl) (fun _ _ _ h => h) (Or.inl ⟨by rfl, ?ky1⟩) (by assumption) ?kr1
    case ky1 => (intro w hSw; (try dsimp only at hSw); go_split_ands; (try simp only [List.getElem_toArray, List.getElem_cons_zero]); go_simp; (try with_reducible rfl))
    try simp only [Act.put, List.getElem_toArray, List.getElem_cons_zero, List.setIfInBounds_toArray, List.set_cons_zero, List.set_cons_succ]
    refine wpAnyH_take (i := 3) (v := ?kv2) rfl (by kernel_rfl) (by kernel_rfl) (by kernel_rfl) (fun _ _ _ h => h) (Or.inl ⟨by rfl, ?ky2⟩) (by assumption) ?kr2
    case ky2 => (intro w hSw; (try dsimp only at hSw); go_split_ands; (try simp only [List.getElem_toArray, List.getElem_cons_zero, List.getElem_cons_succ]); go_simp; (try with_reducible rfl))
    try simp only [Act.put, List.getElem_toArray, List.getElem_cons_zero, List.getElem_cons_succ, List.setIfInBounds_toArray, List.set_cons_zero, List.set_cons_succ]
    refine wpAnyH_ready (rs := [1]) (by kernel_rfl) (by simp) ?_
    refine (AllReadyH.cons rfl (fun K hK => ?_) AllReadyH.nil)
    try simp only [List.getElem_toArray, List.getElem_cons_zero, List.getElem_cons_succ]
    go_simp
    go_at_call 21; refine HT1.out.mono ?_; rintro e x4 ⟨a8, c8, rfl, hr8, hs8⟩
    refine hK.out _ _ (by trivial) (fun hHeldn => ?_)
    clear hHeld hK K
    have hHeld := hHeldn
    clear hHeldn
    try simp only [List.setIfInBounds_toArray, List.set_cons_zero, List.set_cons_succ]
    refine wpAnyH_ready (rs := [2, 4]) (by kernel_rfl) (by simp) ?_
    refine (AllReadyH.cons rfl (fun K hK => ?kb4x0) (AllReadyH.cons rfl (fun K hK => ?kb4x1) AllReadyH.nil))
    case kb4x0 =>
      have e8 := conv_at c8 (by first | exact (BRow.bytesAt hr9).1 | exact (BRow.bytesAt hr8).1)
      try simp only [List.getElem_toArray, List.getElem_cons_zero, List.getElem_cons_succ]
      go_simp
      skip
      refine hK.out _ _ (by trivial) (fun hHeldn => ?_)
      clear hHeld hK K
      have hHeld := hHeldn
      clear hHeldn
      try simp only [List.setIfInBounds_toArray, List.set_cons_zero, List.set_cons_succ]
      refine wpAnyH_take (i := 6) (v := ?kv5) rfl (by kernel_rfl) (by kernel_rfl) (by kernel_rfl) (fun _ _ _ h => h) (Or.inl ⟨by rfl, ?ky5⟩) (by assumption) ?kr5
      case ky5 => (intro w hSw; (try dsimp only at hSw); go_split_ands; (try simp only [List.getElem_toArray, List.getElem_cons_zero, List.getElem_cons_succ]); go_simp; (try with_reducible rfl))
      try simp only [Act.put, List.getElem_toArray, List.getElem_cons_zero, List.getElem_cons_succ, List.setIfInBounds_toArray, List.set_cons_zero, List.set_cons_succ]
      refine wpAnyH_ready (rs := [4]) (by kernel_rfl) (by simp) ?_
      refine (AllReadyH.cons rfl (fun K hK => ?_) AllReadyH.nil)
      try simp only [List.getElem_toArray, List.getElem_cons_zero, List.getElem_cons_succ]
      go_simp
      go_at_call 21; refine (rtext_eq hs8.at_ HE.out.2.2.1).mono ?_; rintro e x5 ⟨a11, c11, rfl, hr11, hs11⟩; have hr9 := BytesAt.keepR hr8 hs11.keeps (show R < w3.drew.heap.size from H3.out.2.2.2.2); have hQ4 : Q < x4.heap.size := Nat.lt_of_lt_of_le (block_lt (show objAt w3.drew Q = _ from H3.out.2.1)) hs8.keeps.size; have e11 := conv_at c11 (BRow.bytesAt hr11).1; have e12 := conv_at c11 (BRow.bytesAt (BRow.setR (x := .string ⟨p1.toArray⟩) hr11 hQ4 1)).1
      refine hK.out _ _ (by trivial) (fun hHeldn => ?_)
      clear hHeld hK K
      have hHeld := hHeldn
      clear hHeldn
      try simp only [List.setIfInBounds_toArray, List.set_cons_zero, List.set_cons_succ]
      refine wpAnyH_ready (rs := [5, 7]) (by kernel_rfl) (by simp) ?_
      refine (AllReadyH.cons rfl (fun K hK => ?kb7x0) (AllReadyH.cons rfl (fun K hK => ?kb7x1) AllReadyH.nil))
      case kb7x0 =>
        try simp only [List.getElem_toArray, List.getElem_cons_zero, List.getElem_cons_succ]
        go_simp
        skip
        refine hK.out _ _ (by trivial) (fun hHeldn => ?_)
        clear hHeld hK K
        have hHeld := hHeldn
        clear hHeldn
        try simp only [List.setIfInBounds_toArray, List.set_cons_zero, List.set_cons_succ]
        refine wpAnyH_ready (rs := [7]) (by kernel_rfl) (by simp) ?_
        refine (AllReadyH.cons rfl (fun K hK => ?_) AllReadyH.nil)
        have hq5 := hs11.keeps.obj (hs8.keeps.obj (show objAt w3.drew Q = _ from H3.out.2.1) (Nat.ne_of_gt H3.out.2.2.2.1)) (Nat.ne_of_gt H3.out.2.2.2.1); have q7 := cell_obj hq5 1; have f7 := free_obj hq5 1; have q9 := cell_obj hq5 2; have f9 := free_obj hq5 2
        try simp only [List.getElem_toArray, List.getElem_cons_zero, List.getElem_cons_succ]
        go_simp
        skip
        refine hK.out _ _ (by trivial) (fun hHeldn => ?_)
        clear hHeld hK K
        have hHeld := hHeldn
        clear hHeldn
        try simp only [List.setIfInBounds_toArray, List.set_cons_zero, List.set_cons_succ]
        refine wpAnyH_take (i := 8) (v := ?kv9) rfl (by kernel_rfl) (by kernel_rfl) (by kernel_rfl) (fun _ _ _ h => h) (Or.inl ⟨by rfl, ?ky9⟩) (by assumption) ?kr9
        case ky9 => (intro w hSw; (try dsimp only at hSw); go_split_ands; (try simp only [List.getElem_toArray, List.getElem_cons_zero, List.getElem_cons_succ]); go_simp; (try with_reducible rfl))
        try simp only [Act.put, List.getElem_toArray, List.getElem_cons_zero, List.getElem_cons_succ, List.setIfInBounds_toArray, List.set_cons_zero, List.set_cons_succ]
        refine wpAnyH_ready (rs := [9]) (by kernel_rfl) (by simp) ?_
        refine (AllReadyH.cons rfl (fun K hK => ?_) AllReadyH.nil)
        try simp only [List.getElem_toArray, List.getElem_cons_zero, List.getElem_cons_succ]
        go_simp
        skip
        refine hK.out _ _ (by trivial) (fun hHeldn => ?_)
        clear hHeld hK K
        have hHeld := hHeldn
        clear hHeldn
        try simp only [List.setIfInBounds_toArray, List.set_cons_zero, List.set_cons_succ]
        refine wpAnyH_done (by kernel_rfl) ?_ _
        go_wp2_with fail
        go_meet
        have hset : Keeps (fun q => q = Q) x5 ((x5.setCell ⟨Q, 1, none⟩ (.string ⟨p1.toArray⟩)).setCell ⟨Q, 2, none⟩ (.string ⟨t1.toArray⟩)) := Keeps.trans (S := fun q => q = Q) (Keeps.setCell _ ⟨Q, 1, none⟩ _ rfl) (Keeps.setCell _ ⟨Q, 2, none⟩ _ rfl)
        exact ⟨(Keeps.of_below (Below.refl w3.heap.size w3).drew).trans (((hs8.keeps.trans hs11.keeps).mono fun q _ e => Or.inl e).trans (hset.mono fun q _ e => Or.inr e)), rdAt_keepQ hs11.at_ hset (fun q e => by rw [e]; exact H3.out.2.2.2.1), by rw [objAt_setCell (objAt_setCell hq5 1 _)]; rfl⟩
      case kb7x1 =>
        have hq5 := hs11.keeps.obj (hs8.keeps.obj (show objAt w3.drew Q = _ from H3.out.2.1) (Nat.ne_of_gt H3.out.2.2.2.1)) (Nat.ne_of_gt H3.out.2.2.2.1); have q7 := cell_obj hq5 1; have f7 := free_obj hq5 1; have q9 := cell_obj hq5 2; have f9 := free_obj hq5 2
        try simp only [List.getElem_toArray, List.getElem_cons_zero, List.getElem_cons_succ]
        go_simp
        skip
        refine hK.out _ _ (by trivial) (fun hHeldn => ?_)
        clear hHeld hK K
        have hHeld := hHeldn
        clear hHeldn
        try simp only [List.setIfInBounds_toArray, List.set_cons_zero, List.set_cons_succ]
        refine wpAnyH_ready (rs := [5]) (by kernel_rfl) (by simp) ?_
        refine (AllReadyH.cons rfl (fun K hK => ?_) AllReadyH.nil)
        try simp only [List.getElem_toArray, List.getElem_cons_zero, List.getElem_cons_succ]
        go_simp
        skip
        refine hK.out _ _ (by trivial) (fun hHeldn => ?_)
        clear hHeld hK K
        have hHeld := hHeldn
        clear hHeldn
        try simp only [List.setIfInBounds_toArray, List.set_cons_zero, List.set_cons_succ]
        refine wpAnyH_take (i := 8) (v := ?kv12) rfl (by kernel_rfl) (by kernel_rfl) (by kernel_rfl) (fun _ _ _ h => h) (Or.inl ⟨by rfl, ?ky12⟩) (by assumption) ?kr12
        case ky12 => (intro w hSw; (try dsimp only at hSw); go_split_ands; (try simp only [List.getElem_toArray, List.getElem_cons_zero, List.getElem_cons_succ]); go_simp; (try with_reducible rfl))
        try simp only [Act.put, List.getElem_toArray, List.getElem_cons_zero, List.getElem_cons_succ, List.setIfInBounds_toArray, List.set_cons_zero, List.set_cons_succ]
        refine wpAnyH_ready (rs := [9]) (by kernel_rfl) (by simp) ?_
        refine (AllReadyH.cons rfl (fun K hK => ?_) AllReadyH.nil)
        try simp only [List.getElem_toArray, List.getElem_cons_zero, List.getElem_cons_succ]
        go_simp
        skip
        refine hK.out _ _ (by trivial) (fun hHeldn => ?_)
        clear hHeld hK K
        have hHeld := hHeldn
        clear hHeldn
        try simp only [List.setIfInBounds_toArray, List.set_cons_zero, List.set_cons_succ]
        refine wpAnyH_done (by kernel_rfl) ?_ _
        go_wp2_with fail
        go_meet
        have hset : Keeps (fun q => q = Q) x5 ((x5.setCell ⟨Q, 1, none⟩ (.string ⟨p1.toArray⟩)).setCell ⟨Q, 2, none⟩ (.string ⟨t1.toArray⟩)) := Keeps.trans (S := fun q => q = Q) (Keeps.setCell _ ⟨Q, 1, none⟩ _ rfl) (Keeps.setCell _ ⟨Q, 2, none⟩ _ rfl)
        exact ⟨(Keeps.of_below (Below.refl w3.heap.size w3).drew).trans (((hs8.keeps.trans hs11.keeps).mono fun q _ e => Or.inl e).trans (hset.mono fun q _ e => Or.inr e)), rdAt_keepQ hs11.at_ hset (fun q e => by rw [e]; exact H3.out.2.2.2.1), by rw [objAt_setCell (objAt_setCell hq5 1 _)]; rfl⟩
    case kb4x1 =>
      try simp only [List.getElem_toArray, List.getElem_cons_zero, List.getElem_cons_succ]
      go_simp
      go_at_call 21; refine (rtext_eq hs8.at_ HE.out.2.2.1).mono ?_; rintro e x5 ⟨a11, c11, rfl, hr11, hs11⟩; have hr9 := BytesAt.keepR hr8 hs11.keeps (show R < w3.drew.heap.size from H3.out.2.2.2.2); have hQ4 : Q < x4.heap.size := Nat.lt_of_lt_of_le (block_lt (show objAt w3.drew Q = _ from H3.out.2.1)) hs8.keeps.size; have e11 := conv_at c11 (BRow.bytesAt hr11).1; have e12 := conv_at c11 (BRow.bytesAt (BRow.setR (x := .string ⟨p1.toArray⟩) hr11 hQ4 1)).1
      refine hK.out _ _ (by trivial) (fun hHeldn => ?_)
      clear hHeld hK K
      have hHeld := hHeldn
      clear hHeldn
      try simp only [List.setIfInBounds_toArray, List.set_cons_zero, List.set_cons_succ]
      refine wpAnyH_ready (rs := [2, 5]) (by kernel_rfl) (by simp) ?_
      refine (AllReadyH.cons rfl (fun K hK => ?kb14x0) (AllReadyH.cons rfl (fun K hK => ?kb14x1) AllReadyH.nil))
      case kb14x0 =>
        have e8 := conv_at c8 (by first | exact (BRow.bytesAt hr9).1 | exact (BRow.bytesAt hr8).1)
        try simp only [List.getElem_toArray, List.getElem_cons_zero, List.getElem_cons_succ]
        go_simp
        skip
        refine hK.out _ _ (by trivial) (fun hHeldn => ?_)
        clear hHeld hK K
        have hHeld := hHeldn
        clear hHeldn
        try simp only [List.setIfInBounds_toArray, List.set_cons_zero, List.set_cons_succ]
        refine wpAnyH_take (i := 6) (v := ?kv15) rfl (by kernel_rfl) (by kernel_rfl) (by kernel_rfl) (fun _ _ _ h => h) (Or.inl ⟨by rfl, ?ky15⟩) (by assumption) ?kr15
        case ky15 => (intro w hSw; (try dsimp only at hSw); go_split_ands; (try simp only [List.getElem_toArray, List.getElem_cons_zero, List.getElem_cons_succ]); go_simp; (try with_reducible rfl))
        try simp only [Act.put, List.getElem_toArray, List.getElem_cons_zero, List.getElem_cons_succ, List.setIfInBounds_toArray, List.set_cons_zero, List.set_cons_succ]
        refine wpAnyH_ready (rs := [5, 7]) (by kernel_rfl) (by simp) ?_
        refine (AllReadyH.cons rfl (fun K hK => ?kb16x0) (AllReadyH.cons rfl (fun K hK => ?kb16x1) AllReadyH.nil))
        case kb16x0 =>
          try simp only [List.getElem_toArray, List.getElem_cons_zero, List.getElem_cons_succ]
          go_simp
          skip
          refine hK.out _ _ (by trivial) (fun hHeldn => ?_)
          clear hHeld hK K
          have hHeld := hHeldn
          clear hHeldn
          try simp only [List.setIfInBounds_toArray, List.set_cons_zero, List.set_cons_succ]
          refine wpAnyH_ready (rs := [7]) (by kernel_rfl) (by simp) ?_
          refine (AllReadyH.cons rfl (fun K hK => ?_) AllReadyH.nil)
          have hq5 := hs11.keeps.obj (hs8.keeps.obj (show objAt w3.drew Q = _ from H3.out.2.1) (Nat.ne_of_gt H3.out.2.2.2.1)) (Nat.ne_of_gt H3.out.2.2.2.1); have q7 := cell_obj hq5 1; have f7 := free_obj hq5 1; have q9 := cell_obj hq5 2; have f9 := free_obj hq5 2
          try simp only [List.getElem_toArray, List.getElem_cons_zero, List.getElem_cons_succ]
          go_simp
          skip
          refine hK.out _ _ (by trivial) (fun hHeldn => ?_)
          clear hHeld hK K
          have hHeld := hHeldn
          clear hHeldn
          try simp only [List.setIfInBounds_toArray, List.set_cons_zero, List.set_cons_succ]
          refine wpAnyH_take (i := 8) (v := ?kv18) rfl (by kernel_rfl) (by kernel_rfl) (by kernel_rfl) (fun _ _ _ h => h) (Or.inl ⟨by rfl, ?ky18⟩) (by assumption) ?kr18
          case ky18 => (intro w hSw; (try dsimp only at hSw); go_split_ands; (try simp only [List.getElem_toArray, List.getElem_cons_zero, List.getElem_cons_succ]); go_simp; (try with_reducible rfl))
          try simp only [Act.put, List.getElem_toArray, List.getElem_cons_zero, List.getElem_cons_succ, List.setIfInBounds_toArray, List.set_cons_zero, List.set_cons_succ]
          refine wpAnyH_ready (rs := [9]) (by kernel_rfl) (by simp) ?_
          refine (AllReadyH.cons rfl (fun K hK => ?_) AllReadyH.nil)
          try simp only [List.getElem_toArray, List.getElem_cons_zero, List.getElem_cons_succ]
          go_simp
          skip
          refine hK.out _ _ (by trivial) (fun hHeldn => ?_)
          clear hHeld hK K
          have hHeld := hHeldn
          clear hHeldn
          try simp only [List.setIfInBounds_toArray, List.set_cons_zero, List.set_cons_succ]
          refine wpAnyH_done (by kernel_rfl) ?_ _
          go_wp2_with fail
          go_meet
          have hset : Keeps (fun q => q = Q) x5 ((x5.setCell ⟨Q, 1, none⟩ (.string ⟨p1.toArray⟩)).setCell ⟨Q, 2, none⟩ (.string ⟨t1.toArray⟩)) := Keeps.trans (S := fun q => q = Q) (Keeps.setCell _ ⟨Q, 1, none⟩ _ rfl) (Keeps.setCell _ ⟨Q, 2, none⟩ _ rfl)
          exact ⟨(Keeps.of_below (Below.refl w3.heap.size w3).drew).trans (((hs8.keeps.trans hs11.keeps).mono fun q _ e => Or.inl e).trans (hset.mono fun q _ e => Or.inr e)), rdAt_keepQ hs11.at_ hset (fun q e => by rw [e]; exact H3.out.2.2.2.1), by rw [objAt_setCell (objAt_setCell hq5 1 _)]; rfl⟩
        case kb16x1 =>
          have hq5 := hs11.keeps.obj (hs8.keeps.obj (show objAt w3.drew Q = _ from H3.out.2.1) (Nat.ne_of_gt H3.out.2.2.2.1)) (Nat.ne_of_gt H3.out.2.2.2.1); have q7 := cell_obj hq5 1; have f7 := free_obj hq5 1; have q9 := cell_obj hq5 2; have f9 := free_obj hq5 2
          try simp only [List.getElem_toArray, List.getElem_cons_zero, List.getElem_cons_succ]
          go_simp
          skip
          refine hK.out _ _ (by trivial) (fun hHeldn => ?_)
          clear hHeld hK K
          have hHeld := hHeldn
          clear hHeldn
          try simp only [List.setIfInBounds_toArray, List.set_cons_zero, List.set_cons_succ]
          refine wpAnyH_ready (rs := [5]) (by kernel_rfl) (by simp) ?_
          refine (AllReadyH.cons rfl (fun K hK => ?_) AllReadyH.nil)
          try simp only [List.getElem_toArray, List.getElem_cons_zero, List.getElem_cons_succ]
          go_simp
          skip
          refine hK.out _ _ (by trivial) (fun hHeldn => ?_)
          clear hHeld hK K
          have hHeld := hHeldn
          clear hHeldn
          try simp only [List.setIfInBounds_toArray, List.set_cons_zero, List.set_cons_succ]
          refine wpAnyH_take (i := 8) (v := ?kv21) rfl (by kernel_rfl) (by kernel_rfl) (by kernel_rfl) (fun _ _ _ h => h) (Or.inl ⟨by rfl, ?ky21⟩) (by assumption) ?kr21
          case ky21 => (intro w hSw; (try dsimp only at hSw); go_split_ands; (try simp only [List.getElem_toArray, List.getElem_cons_zero, List.getElem_cons_succ]); go_simp; (try with_reducible rfl))
          try simp only [Act.put, List.getElem_toArray, List.getElem_cons_zero, List.getElem_cons_succ, List.setIfInBounds_toArray, List.set_cons_zero, List.set_cons_succ]
          refine wpAnyH_ready (rs := [9]) (by kernel_rfl) (by simp) ?_
          refine (AllReadyH.cons rfl (fun K hK => ?_) AllReadyH.nil)
          try simp only [List.getElem_toArray, List.getElem_cons_zero, List.getElem_cons_succ]
          go_simp
          skip
          refine hK.out _ _ (by trivial) (fun hHeldn => ?_)
          clear hHeld hK K
          have hHeld := hHeldn
          clear hHeldn
          try simp only [List.setIfInBounds_toArray, List.set_cons_zero, List.set_cons_succ]
          refine wpAnyH_done (by kernel_rfl) ?_ _
          go_wp2_with fail
          go_meet
          have hset : Keeps (fun q => q = Q) x5 ((x5.setCell ⟨Q, 1, none⟩ (.string ⟨p1.toArray⟩)).setCell ⟨Q, 2, none⟩ (.string ⟨t1.toArray⟩)) := Keeps.trans (S := fun q => q = Q) (Keeps.setCell _ ⟨Q, 1, none⟩ _ rfl) (Keeps.setCell _ ⟨Q, 2, none⟩ _ rfl)
          exact ⟨(Keeps.of_below (Below.refl w3.heap.size w3).drew).trans (((hs8.keeps.trans hs11.keeps).mono fun q _ e => Or.inl e).trans (hset.mono fun q _ e => Or.inr e)), rdAt_keepQ hs11.at_ hset (fun q e => by rw [e]; exact H3.out.2.2.2.1), by rw [objAt_setCell (objAt_setCell hq5 1 _)]; rfl⟩
      case kb14x1 =>
        try simp only [List.getElem_toArray, List.getElem_cons_zero, List.getElem_cons_succ]
        go_simp
        skip
        refine hK.out _ _ (by trivial) (fun hHeldn => ?_)
        clear hHeld hK K
        have hHeld := hHeldn
        clear hHeldn
        try simp only [List.setIfInBounds_toArray, List.set_cons_zero, List.set_cons_succ]
        refine wpAnyH_ready (rs := [2]) (by kernel_rfl) (by simp) ?_
        refine (AllReadyH.cons rfl (fun K hK => ?_) AllReadyH.nil)
        have e8 := conv_at c8 (by first | exact (BRow.bytesAt hr9).1 | exact (BRow.bytesAt hr8).1)
        try simp only [List.getElem_toArray, List.getElem_cons_zero, List.getElem_cons_succ]
        go_simp
        skip
        refine hK.out _ _ (by trivial) (fun hHeldn => ?_)
        clear hHeld hK K
        have hHeld := hHeldn
        clear hHeldn
        try simp only [List.setIfInBounds_toArray, List.set_cons_zero, List.set_cons_succ]
        refine wpAnyH_take (i := 6) (v := ?kv24) rfl (by kernel_rfl) (by kernel_rfl) (by kernel_rfl) (fun _ _ _ h => h) (Or.inl ⟨by rfl, ?ky24⟩) (by assumption) ?kr24
        case ky24 => (intro w hSw; (try dsimp only at hSw); go_split_ands; (try simp only [List.getElem_toArray, List.getElem_cons_zero, List.getElem_cons_succ]); go_simp; (try with_reducible rfl))
        try simp only [Act.put, List.getElem_toArray, List.getElem_cons_zero, List.getElem_cons_succ, List.setIfInBounds_toArray, List.set_cons_zero, List.set_cons_succ]
        refine wpAnyH_ready (rs := [7]) (by kernel_rfl) (by simp) ?_
        refine (AllReadyH.cons rfl (fun K hK => ?_) AllReadyH.nil)
        have hq5 := hs11.keeps.obj (hs8.keeps.obj (show objAt w3.drew Q = _ from H3.out.2.1) (Nat.ne_of_gt H3.out.2.2.2.1)) (Nat.ne_of_gt H3.out.2.2.2.1); have q7 := cell_obj hq5 1; have f7 := free_obj hq5 1; have q9 := cell_obj hq5 2; have f9 := free_obj hq5 2
        try simp only [List.getElem_toArray, List.getElem_cons_zero, List.getElem_cons_succ]
        go_simp
        skip
        refine hK.out _ _ (by trivial) (fun hHeldn => ?_)
        clear hHeld hK K
        have hHeld := hHeldn
        clear hHeldn
        try simp only [List.setIfInBounds_toArray, List.set_cons_zero, List.set_cons_succ]
        refine wpAnyH_take (i := 8) (v := ?kv26) rfl (by kernel_rfl) (by kernel_rfl) (by kernel_rfl) (fun _ _ _ h => h) (Or.inl ⟨by rfl, ?ky26⟩) (by assumption) ?kr26
        case ky26 => (intro w hSw; (try dsimp only at hSw); go_split_ands; (try simp only [List.getElem_toArray, List.getElem_cons_zero, List.getElem_cons_succ]); go_simp; (try with_reducible rfl))
        try simp only [Act.put, List.getElem_toArray, List.getElem_cons_zero, List.getElem_cons_succ, List.setIfInBounds_toArray, List.set_cons_zero, List.set_cons_succ]
        refine wpAnyH_ready (rs := [9]) (by kernel_rfl) (by simp) ?_
        refine (AllReadyH.cons rfl (fun K hK => ?_) AllReadyH.nil)
        try simp only [List.getElem_toArray, List.getElem_cons_zero, List.getElem_cons_succ]
        go_simp
        skip
        refine hK.out _ _ (by trivial) (fun hHeldn => ?_)
        clear hHeld hK K
        have hHeld := hHeldn
        clear hHeldn
        try simp only [List.setIfInBounds_toArray, List.set_cons_zero, List.set_cons_succ]
        refine wpAnyH_done (by kernel_rfl) ?_ _
        go_wp2_with fail
        go_meet
        have hset : Keeps (fun q => q = Q) x5 ((x5.setCell ⟨Q, 1, none⟩ (.string ⟨p1.toArray⟩)).setCell ⟨Q, 2, none⟩ (.string ⟨t1.toArray⟩)) := Keeps.trans (S := fun q => q = Q) (Keeps.setCell _ ⟨Q, 1, none⟩ _ rfl) (Keeps.setCell _ ⟨Q, 2, none⟩ _ rfl)
        exact ⟨(Keeps.of_below (Below.refl w3.heap.size w3).drew).trans (((hs8.keeps.trans hs11.keeps).mono fun q _ e => Or.inl e).trans (hset.mono fun q _ e => Or.inr e)), rdAt_keepQ hs11.at_ hset (fun q e => by rw [e]; exact H3.out.2.2.2.1), by rw [objAt_setCell (objAt_setCell hq5 1 _)]; rfl⟩
  case rest =>
    obtain ⟨k4, hd4, hq4⟩ := hcut
    have H4 := Lib.hid (And.intro k4 hq4)
    have HN4 := Lib.hid (rnum_eq hd4 (by decide : 2 ≤ 2) HE.out.2.2.2.1)
    clear k4 hd4 hq4 HT1
    go_upto_region 4 with (first
      | (go_at_call 13; refine HN4.out.mono ?_; rintro e x6 ⟨rfl, hs6⟩)
      | (go_at_call 13; refine (rnum_eq hs6.at_ (by decide : 2 ≤ 2) HE.out.2.2.2.2.1).mono ?_; rintro e x7 ⟨rfl, hs7⟩)
      | (go_at_call 13; refine (rnum_eq hs7.at_ (by decide : 2 ≤ 2) HE.out.2.2.2.2.2.1).mono ?_; rintro e x8 ⟨rfl, hs8⟩; have hk8 := hs6.keeps.trans (hs7.keeps.trans hs8.keeps); have hq8 := hk8.obj H4.out.2 (Nat.ne_of_gt H3.out.2.2.2.1); have q3 := cell_obj hq8 3; have q4 := cell_obj hq8 4; have q5 := cell_obj hq8 5; have g3 := free_obj hq8 3; have g4 := free_obj hq8 4; have g5 := free_obj hq8 5))
    have hset : Keeps (fun q => q = Q) x8 (((x8.setCell ⟨Q, 3, none⟩ (.int .i64 y1)).setCell ⟨Q, 4, none⟩ (.int .i64 o1)).setCell ⟨Q, 5, none⟩ (.int .i64 l1)) := Keeps.trans (S := fun q => q = Q) (Keeps.trans (S := fun q => q = Q) (Keeps.setCell _ ⟨Q, 3, none⟩ _ rfl) (Keeps.setCell _ ⟨Q, 4, none⟩ _ rfl)) (Keeps.setCell _ ⟨Q, 5, none⟩ _ rfl)
    have hq9 : objAt (((x8.setCell ⟨Q, 3, none⟩ (.int .i64 y1)).setCell ⟨Q, 4, none⟩ (.int .i64 o1)).setCell ⟨Q, 5, none⟩ (.int .i64 l1)) Q = some (.cells #[.int .i64 x1, .string ⟨p1.toArray⟩, .string ⟨t1.toArray⟩, .int .i64 y1, .int .i64 o1, .int .i64 l1, .slice none 0 0] 32 (0, 0)) := by rw [objAt_setCell (objAt_setCell (objAt_setCell hq8 3 _) 4 _)]; rfl
    have hd9 := rdAt_keepQ hs8.at_ hset (fun q e => by rw [e]; exact H3.out.2.2.2.1)
    have hk9 : Keeps (fun q => q = R ∨ q = Q) w3 _ := (H4.out.1.trans (hk8.mono fun q _ e => Or.inl e)).trans (hset.mono fun q _ e => Or.inr e)
    generalize (((x8.setCell ⟨Q, 3, none⟩ (.int .i64 y1)).setCell ⟨Q, 4, none⟩ (.int .i64 o1)).setCell ⟨Q, 5, none⟩ (.int .i64 l1)) = w9 at *
    have HT := Lib.hid (rtext_eq hd9 HE.out.2.2.2.2.2.2)
    have H9 := Lib.hid (And.intro hq9 hk9)
    clear hset hq9 hd9 hk9 hk8 hq8 q3 q4 q5 g3 g4 g5 HN4 hs6 hs7 hs8
    go_upto_region 5 with (go_at_call 21; refine HT.out.mono ?_; rintro e x10 ⟨a10, c10, rfl, hr10, hs10⟩; have hq10 := hs10.keeps.obj H9.out.1 (Nat.ne_of_gt H3.out.2.2.2.1); have q6 := cell_obj hq10 6; have g6 := free_obj hq10 6)
    have hq11 := objAt_setCell hq10 6 (.slice a10 d1.length c10)
    have hk11 : Keeps (fun q => q = Q) x10 (x10.setCell ⟨Q, 6, none⟩ (.slice a10 d1.length c10)) := Keeps.setCell _ _ _ rfl
    have hQ9 : Q < w9.heap.size := Nat.lt_of_lt_of_le (block_lt H3.out.2.1) H9.out.2.size
    have hr11 := BRow.setR (x := .slice a10 d1.length c10) hr10 hQ9 6
    have hd11 := rdAt_keepQ hs10.at_ hk11 (fun q e => by rw [e]; exact H3.out.2.2.2.1)
    have hkk : Keeps (fun q => q = R ∨ q = Q) w3 _ := (H9.out.2.trans (hs10.keeps.mono fun q _ e => Or.inl e)).trans (hk11.mono fun q _ e => Or.inr e)
    generalize x10.setCell ⟨Q, 6, none⟩ (.slice a10 d1.length c10) = w11 at *
    have hq11' : objAt w11 Q = some (.cells #[.int .i64 x1, .string ⟨p1.toArray⟩, .string ⟨t1.toArray⟩, .int .i64 y1, .int .i64 o1, .int .i64 l1, .slice a10 d1.length c10] 32 (0, 0)) := hq11
    have hGR : ¬ (G = R ∨ G = Q) := by have := HGQ.out; have := H1.out.2.2.2; omega
    have hG11 := hkk.obj (grow_obj H3.out.1.2 (H3.out.1.1.obj H1.out.2.1 (fun e => hGR (.inl e)))) hGR
    have b0 := cell_obj hq11' 0
    have b1 := cell_obj hq11' 1
    have b2 := cell_obj hq11' 2
    have b3 := cell_obj hq11' 3
    have b4 := cell_obj hq11' 4
    have b5 := cell_obj hq11' 5
    have b6 := cell_obj hq11' 6
    have hbr : rowAt w11 Q = some #[.int .i64 x1, .string ⟨p1.toArray⟩, .string ⟨t1.toArray⟩, .int .i64 y1, .int .i64 o1, .int .i64 l1, .slice a10 d1.length c10] := rowAt_heap hq11'
    have hhq := hasReq_obj hG11 rfl
    have hrow := rowAt_heap (objAt_setRow hG11 #[.int .i64 x1, .string ⟨p1.toArray⟩, .string ⟨t1.toArray⟩, .int .i64 y1, .int .i64 o1, .int .i64 l1, .slice a10 d1.length c10])
    have H11 := Lib.hid (And.intro hr11 (And.intro hd11 (And.intro hkk hrow)))
    clear hq11 hq11' hG11 hr11 hd11 hkk hk11 hrow hq10 q6 g6 hQ9 hr10 hs10 hGR
    go_wp2_with fail
    refine bodyPost_ret (results_one rfl (resOne_agg aggReq rfl H11.out.2.2.2 rfl)) rfl ?_
    have hks := setRow_keeps w11 G #[.int .i64 x1, .string ⟨p1.toArray⟩, .string ⟨t1.toArray⟩, .int .i64 y1, .int .i64 o1, .int .i64 l1, .slice a10 d1.length c10]
    have hG9 : G < w9.heap.size := by have := HGQ.out; have := block_lt H9.out.1; omega
    have hw9 : w.heap.size ≤ w9.heap.size := by have := HG.out.1; omega
    refine ⟨a10, d1.length, c10, rfl, (H11.out.1.keepsB hks (fun q hq e => by omega)).mono hw9, ?_, rdAt_keepQ H11.out.2.1 hks (fun q e => by rw [e]; exact H1.out.2.2.2)⟩
    have hQw : w.heap.size ≤ Q := by have := HGQ.out; have := HG.out.1; omega
    exact ((((Keeps.of_below H1.out.1).trans H3.out.1.1).trans (Keeps.of_below H3.out.1.2)).chain H11.out.2.2.1 (fun q hq e => e.resolve_right (by omega))).chain hks (fun q hq e => by have := HG.out.1; omega)
end Go.Proofs.YtanmihhlkelgeaaGreat
