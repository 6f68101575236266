/- DERIVED. Contracts and laws that the proofs of this seat share, part 30 of 36: FiE IxF FiL FiM. -/
import Derived.Test.YtbbnejehglonjaaGreatMh00
import Derived.Test.YtbbnejehglonjaaGreatMh16
import Derived.Test.YtbbnejehglonjaaGreatMh29
namespace Go.Proofs.YtbbnejehglonjaaGreat
set_option maxHeartbeats 8000000
set_option maxRecDepth 100000
set_option linter.unusedSimpArgs false
set_option linter.unusedVariables false
section
open Go.RowKit

theorem WI.congr {B : List Blk} {T : ML} {f0 f : Fl} {c c' : Nat → UInt8} (h : WI B T f0 f c) (e : ∀ i, i < 1120 → c i = c' i) : WI B T f0 f c' := { h with mid := h.mid.to (h.mid.cur.congr e) }
def endAt : Nat → Nat → Nat → Nat
 | 0, a, _ => a
 | m + 1, a, b => if a < b then endAt m (pcEnd a b) b else a
theorem pc_q {a b : Nat} (h : a < b) : ∃ q E, a / 56 = q ∧ pcEnd a b = E ∧ q * 56 ≤ a ∧ a < q * 56 + 56 ∧ a < E ∧ E ≤ b ∧ E ≤ q * 56 + 56 ∧ (E = b ∨ E = q * 56 + 56) ∧ pcOf a b = ⟨q, a - q * 56, E - q * 56⟩ := by
 obtain ⟨q, hq⟩ : ∃ q, q = a / 56 := ⟨_, rfl⟩
 have h1 : q * 56 ≤ a := by omega
 have h2 : a < q * 56 + 56 := by omega
 have h3 : a % 56 = a - q * 56 := by omega
 obtain ⟨E, hE⟩ : ∃ E, E = pcEnd a b := ⟨_, rfl⟩
 have hp : pcOf a b = ⟨q, a - q * 56, E - q * 56⟩ := by rw [hE]; unfold pcOf pcEnd; rw [← hq, h3]
 have h4 : E = if b ≤ q * 56 + 56 then b else q * 56 + 56 := by
  rw [hE]; unfold pcEnd; rw [← hq, Nat.succ_mul, Nat.min_def]
 clear hE h3
 refine ⟨q, E, hq.symm, ?_, h1, h2, ?_, ?_, ?_, ?_, hp⟩
 · rw [h4]; unfold pcEnd; rw [← hq, Nat.succ_mul, Nat.min_def]
 · clear hp; split at h4 <;> omega
 · clear hp; split at h4 <;> omega
 · clear hp; split at h4 <;> omega
 · clear hp; split at h4 <;> omega
theorem endAt_go {a b : Nat} (h : a < b) (m : Nat) : endAt (m + 1) a b = endAt m (pcEnd a b) b := by rw [endAt, if_pos h]
theorem endAt_no {a b : Nat} (h : ¬ a < b) : ∀ m, endAt m a b = a
 | 0 => rfl
 | m + 1 => by rw [endAt, if_neg h]
theorem endAt_bd (b : Nat) (m : Nat) : ∀ a, a ≤ endAt m a b ∧ (a ≤ b → endAt m a b ≤ b) := by
 induction m with
 | zero => intro a; exact ⟨Nat.le_refl _, id⟩
 | succ m ih =>
   intro a
   by_cases h : a < b
   · rw [endAt_go h]
     have h1 := pcEnd_gt h
     have := ih (pcEnd a b)
     exact ⟨by omega, fun _ => this.2 h1.2⟩
   · rw [endAt_no h]
     exact ⟨Nat.le_refl _, id⟩
theorem endAt_eq (b : Nat) (m : Nat) : ∀ a, a < b → endAt (m + 1) a b = if b ≤ (a / 56 + (m + 1)) * 56 then b else (a / 56 + (m + 1)) * 56 := by
 induction m with
 | zero =>
   intro a h
   rw [endAt_go h]
   obtain ⟨q, E, hq, hE, h1, h2, h3, h4, h5, h6, _⟩ := pc_q h
   rw [hq, hE]
   show E = _
   split <;> omega
 | succ m ih =>
   intro a h
   rw [endAt_go h]
   obtain ⟨q, E, hq, hE, h1, h2, h3, h4, h5, h6, _⟩ := pc_q h
   rw [hq, hE]
   by_cases h7 : E < b
   · rw [ih _ h7]
     have e : E = (q + 1) * 56 := by omega
     rw [e, Nat.mul_div_cancel _ (by decide), show q + 1 + (m + 1) = q + (m + 1 + 1) by omega]
   · rw [endAt_no h7, if_pos (by omega)]; omega
theorem wEnd_eq (b : Nat) (m : Nat) : ∀ a, a < b → wEnd ((pieces a b).take (m + 1)) = endAt (m + 1) a b := by
 induction m with
 | zero =>
   intro a h
   obtain ⟨q, E, hq, hE, h1, h2, h3, h4, h5, h6, hp⟩ := pc_q h
   rw [pieces_step h, List.take_succ_cons, List.take_zero, endAt_go h, hp, hE]
   show q * 56 + (E - q * 56) = E
   omega
 | succ m ih =>
   intro a h
   obtain ⟨q, E, hq, hE, h1, h2, h3, h4, h5, h6, hp⟩ := pc_q h
   rw [pieces_step h, List.take_succ_cons, endAt_go h, hE, hp]
   by_cases h7 : E < b
   · rw [← ih _ h7]
     unfold wEnd
     rw [pieces_step h7, List.take_succ_cons, List.getLast?_cons_cons]
   · rw [pieces_done h7, List.take_nil, endAt_no h7]
     show q * 56 + (E - q * 56) = _
     omega
def hitB (a e k : Nat) : Prop := a < e ∧ k * 56 < e ∧ a < (k + 1) * 56
theorem want_le (f : Fl) (k : Nat) : f.want k ≤ 2 := by unfold Fl.want; split; omega; split <;> omega
structure Ran (bs : List Blk) (s s' : Ws) (f0 : Fl) (c : Nat → UInt8) (a e : Nat) (m : Nat) : Prop where
 wi : WI (txV s'.L bs) s'.T f0 s'.f c
 slot : ∀ k, s'.f.slot k = -1 ↔ s.f.slot k = -1 ∧ ¬ hitB a e k
 idx : s'.f.n.index = -1 ↔ s.f.n.index = -1 ∧ (e ≤ 224 ∨ ¬ a < e)
 size : s'.f.n.size = s.f.n.size
 len : s'.L.length ≤ s.L.length + 2 * m
 lk : LK s.L → LK s'.L
theorem wRun_spec {bs : List Blk} {f0 : Fl} {data : List UInt8} {off b : Nat} (hb : b ≤ 1120) (hd : b ≤ off + data.length) (m : Nat) : ∀ (a : Nat) (s : Ws) (c : Nat → UInt8), WI (txV s.L bs) s.T f0 s.f c → off ≤ a → 2 * m ≤ leftT (txV s.L bs) s.T →
 ∃ s', wRun bs off data ((pieces a b).take m) s = (true, s') ∧ Ran bs s s' f0 (ov c data off a (endAt m a b)) a (endAt m a b) m := by
 induction m with
 | zero =>
   intro a s c h ha hl
   refine ⟨s, by rw [List.take_zero]; rfl, ⟨h.congr fun i _ => ?_, fun k => ?_, ?_, rfl, by omega, id⟩⟩
   · show c i = if a ≤ i ∧ i < a then _ else c i
     rw [if_neg (by omega)]
   · show _ ↔ _ ∧ ¬ (a < a ∧ _)
     exact ⟨fun e => ⟨e, fun e' => by omega⟩, fun e => e.1⟩
   · show _ ↔ _ ∧ (a ≤ 224 ∨ ¬ a < a)
     exact ⟨fun e => ⟨e, .inr (by omega)⟩, fun e => e.1⟩
 | succ m ih =>
   intro a s c h ha hl
   by_cases hab : a < b
   · obtain ⟨q, E, hq, hE, q1, q2, q3, q4, q5, q6, hpc⟩ := pc_q hab
     rw [pieces_step hab, List.take_succ_cons, endAt_go hab, hE, hpc]
     obtain ⟨f1, hf1⟩ : ∃ f1, f1 = a - q * 56 := ⟨_, rfl⟩
     rw [← hf1]
     have hk : q < 20 := by omega
     obtain ⟨hlt, _⟩ | ⟨j, s1, h1, hg⟩ := blkF_spec h hk
     · have := want_le s.f q; omega
     · have hlen : ((data.drop (a - off)).take (E - a)).length = E - a := by rw [List.length_take, List.length_drop]; omega
       have hw1 := hg.wi.cover hk hg.at_ f1 ((data.drop (a - off)).take (E - a)) (by rw [hlen]; omega)
       obtain ⟨jj, hjj, _, ql, qk⟩ := (hg.wi.mid.cur.slot q hk).resolve_left (by rw [hg.at_]; omega)
       have hqj : j = jj := by rw [hg.at_] at hjj; omega
       subst hqj
       have ql' : j < bs.length := by rwa [txV_length] at ql
       have hp : putP bs off data s1 ⟨q, f1, E - q * 56⟩ (j : Int) = ⟨putL s1.L bs (j : Int) ((getB (txV s1.L bs) (j : Int)).cover f1 ((data.drop (a - off)).take (E - a))), s1.T, s1.f⟩ := by
        unfold putP
        have e1 : q * 56 + f1 - off = a - off := by omega
        have e2 : E - q * 56 - f1 = E - a := by omega
        dsimp only
        rw [e1, e2]
       have hw2 : WI (txV (putL s1.L bs (j : Int) ((getB (txV s1.L bs) (j : Int)).cover f1 ((data.drop (a - off)).take (E - a)))) bs) s1.T f0 s1.f (ov c data off a E) := by
        rw [txV_putL ql']
        refine hw1.congr fun i _ => ?_
        rw [hlen]
        unfold ov
        by_cases hi : a ≤ i ∧ i < E
        · rw [if_pos (by omega), if_pos hi, List.getD_eq_getElem?_getD, List.getD_eq_getElem?_getD, List.getElem?_take, if_pos (by omega), List.getElem?_drop]
          congr 2; omega
        · rw [if_neg (by omega), if_neg hi]
       have hl2 : 2 * m ≤ leftT (txV (putL s1.L bs (j : Int) ((getB (txV s1.L bs) (j : Int)).cover f1 ((data.drop (a - off)).take (E - a)))) bs) s1.T := by
        have a1 := hw2.left
        have a2 := hg.wi.left
        rw [txV_length] at a1 a2
        have a3 := hg.left
        have a4 := want_le s.f q
        omega
       obtain ⟨s', hr, hR⟩ := ih E ⟨putL s1.L bs (j : Int) ((getB (txV s1.L bs) (j : Int)).cover f1 ((data.drop (a - off)).take (E - a))), s1.T, s1.f⟩ _ hw2 (by omega) hl2
       have heb := endAt_bd b m E
       have hee : endAt m E b ≤ b := heb.2 q4
       obtain ⟨e, he⟩ : ∃ e, e = endAt m E b := ⟨_, rfl⟩
       rw [← he] at hR heb hee ⊢
       refine ⟨s', ?_, ⟨hR.wi.congr fun i _ => ?_, fun k => ?_, ?_, by rw [hR.size, hg.size], ?_, fun hL => hR.lk (putL_LK (hg.lk hL) ?_)⟩⟩
       · show (match blkF bs s q with | (none, s1) => (false, s1) | (some x, s1) => wRun bs off data _ (putP bs off data s1 ⟨q, f1, E - q * 56⟩ x)) = _
         rw [h1]
         show wRun bs off data _ (putP bs off data s1 ⟨q, f1, E - q * 56⟩ (j : Int)) = _
         rw [hp, hr]
       · unfold ov
         by_cases h2 : E ≤ i ∧ i < e
         · rw [if_pos h2, if_pos (by omega)]
         · rw [if_neg h2]
           by_cases h3 : a ≤ i ∧ i < E
           · rw [if_pos h3, if_pos (by omega)]
           · rw [if_neg h3, if_neg (by omega)]
       · rw [hR.slot k]
         show s1.f.slot k = -1 ∧ _ ↔ _
         unfold hitB
         by_cases hkk : k = q
         · subst hkk
           rw [hg.at_]
           constructor
           · rintro ⟨e1, _⟩; omega
           · rintro ⟨_, e2⟩; exact absurd ⟨by omega, by omega, by omega⟩ e2
         · rw [hg.oth k hkk]
           constructor
           · rintro ⟨e1, e2⟩
             refine ⟨e1, fun e3 => e2 ?_⟩
             omega
           · rintro ⟨e1, e2⟩
             exact ⟨e1, fun e3 => e2 (by omega)⟩
       · rw [hR.idx]
         show s1.f.n.index = -1 ∧ _ ↔ _
         rw [hg.idx]
         constructor
         · rintro ⟨⟨e1, e2⟩, e3⟩; exact ⟨e1, by omega⟩
         · rintro ⟨e1, e2⟩; exact ⟨⟨e1, by omega⟩, by omega⟩
       · have b1 := hR.len
         have b2 := hg.len
         have b3 : (putL s1.L bs (j : Int) ((getB (txV s1.L bs) (j : Int)).cover f1 ((data.drop (a - off)).take (E - a)))).length ≤ s1.L.length + 1 := putL_len _ _ _ _
         have b4 : s'.L.length ≤ (putL s1.L bs (j : Int) ((getB (txV s1.L bs) (j : Int)).cover f1 ((data.drop (a - off)).take (E - a)))).length + 2 * m := b1
         omega
       · show 0 ≤ (getB (txV s1.L bs) (j : Int)).kind ∧ (getB (txV s1.L bs) (j : Int)).kind ≤ 7
         rw [getB_at ql, qk]; omega
   · rw [pieces_done hab, List.take_nil, endAt_no hab]
     refine ⟨s, rfl, ⟨h.congr fun i _ => ?_, fun k => ?_, ?_, rfl, by omega, id⟩⟩
     · show c i = if a ≤ i ∧ i < a then _ else c i
       rw [if_neg (by omega)]
     · show _ ↔ _ ∧ ¬ (a < a ∧ _)
       exact ⟨fun e => ⟨e, fun e' => by omega⟩, fun e => e.1⟩
     · show _ ↔ _ ∧ (a ≤ 224 ∨ ¬ a < a)
       exact ⟨fun e => ⟨e, .inr (by omega)⟩, fun e => e.1⟩
/-! What is kept. -/
def keepB (B : List Blk) (f : Fl) : List Blk := (if f.n.index = -1 then B else B.set f.n.index.toNat (putIndex f.li).1).set 1 (putNode 1 f.n).1
theorem keepB_length (B : List Blk) (f : Fl) : (keepB B f).length = B.length := by
 unfold keepB; rw [List.length_set]; split
 · rfl
 · rw [List.length_set]
theorem FS.far {B B' : List Blk} {f : Fl} {c : Nat → UInt8} (h : FS B f c) (hl : B'.length = B.length) (hb : ∀ j : Nat, 3 ≤ j → f.n.index ≠ (j : Int) → B'.getD j Blk.zero = B.getD j Blk.zero) : FS B' f c := by
 refine { h with slot := fun k hk => ?_, idx := by rw [hl]; exact h.idx, data := fun k hk i hi => ?_ }
 · rcases h.slot k hk with e | ⟨j, hj, j3, jl, jk⟩
   · exact .inl e
   · refine .inr ⟨j, hj, j3, by rw [hl]; exact jl, ?_⟩
     rw [hb j j3 (fun e => h.ine k hk (by rw [hj]; omega) (by rw [hj, e]))]; exact jk
 · rw [← h.data k hk i hi]
   rcases h.slot k hk with e | ⟨j, hj, j3, jl, jk⟩
   · rw [e, getB_no, getB_no]
   · rw [hj, getB_at (by rw [hl]; exact jl), getB_at jl, hb j j3 (fun e => h.ine k hk (by rw [hj]; omega) (by rw [hj, e]))]
theorem putIndex_kind {l : List Int} (h : l.length = 16) (h2 : placesOk l = true) : (putIndex l).1.kind = 5 := takeIndex_kind (take_putIndex h h2)
theorem keep_rest {B : List Blk} {f0 f : Fl} {c : Nat → UInt8} (h : FMid B f0 f c) : FRest (keepB B f) f c := by
 have hc := h.cur
 have hgi : ∀ j : Nat, f.n.index = (j : Int) → 3 ≤ j ∧ j < B.length := fun j e => by
  obtain ⟨q, hq, q3, ql⟩ := hc.idx.resolve_left (by rw [e]; omega)
  obtain rfl : j = q := by omega
  exact ⟨q3, ql⟩
 have hg : ∀ j : Nat, j ≠ 1 → f.n.index ≠ (j : Int) → (keepB B f).getD j Blk.zero = B.getD j Blk.zero := fun j j1 ji => by
  unfold keepB
  rw [getD_set_ne j1]
  split
  · rfl
  · rename_i hn
    obtain ⟨q, hq, q3, ql⟩ := hc.idx.resolve_left hn
    rw [getD_set_ne (by rw [hq] at ji ⊢; simp; omega)]
 have h1 : (keepB B f).getD 1 Blk.zero = (putNode 1 f.n).1 := by
  unfold keepB
  rw [getD_set (by have := h.len.1; split; omega; rw [List.length_set]; omega), if_pos rfl]
 have hi : ∀ j : Nat, f.n.index = (j : Int) → (keepB B f).getD j Blk.zero = (putIndex f.li).1 := fun j e => by
  obtain ⟨q3, ql⟩ := hgi j e
  unfold keepB
  rw [getD_set_ne (by omega), if_neg (by rw [e]; omega), e, Int.toNat_natCast, getD_set ql, if_pos rfl]
 refine { len := by rw [keepB_length]; exact h.len, may0 := hc.may, wf0 := hc.wf, l0 := hc.l16, lok0 := hc.lok, hol0 := hc.hol, nodeB := h1, idxB := ?_, k0 := ?_, k2 := ?_, ks := fun j j3 jl => ?_, cur := hc.far (keepB_length B f) (fun j j3 ji => hg j (by omega) ji) }
 · refine hc.idx.imp id ?_
   rintro ⟨j, hj, j3, jl⟩
   exact ⟨j, hj, j3, by rw [keepB_length]; exact jl, hi j hj⟩
 · rw [hg 0 (by omega) (fun e => by have := hgi 0 e; omega)]; exact h.k0
 · rw [hg 2 (by omega) (fun e => by have := hgi 2 e; omega)]; exact h.k2
 · rw [keepB_length] at jl
   by_cases e : f.n.index = (j : Int)
   · rw [hi j e]; exact .inr (.inr (putIndex_kind hc.l16 hc.lok))
   · rw [hg j (by omega) e]; exact h.ks j j3 jl
theorem keepF_V {bs : List Blk} {s : Ws} {f0 : Fl} {c : Nat → UInt8} (h : FMid (txV s.L bs) f0 s.f c) : txV (keepF bs 1 s) bs = keepB (txV s.L bs) s.f := by
 have hl := h.len.1
 rw [txV_length] at hl
 unfold keepF keepB
 show txV (putL _ bs ((1 : Nat) : Int) _) bs = _
 rw [txV_putL (j := 1) (by omega)]
 congr 1
 split
 · rfl
 · rename_i hn
   obtain ⟨q, hq, q3, ql⟩ := h.cur.idx.resolve_left hn
   rw [txV_length] at ql
   rw [hq, txV_putL ql, Int.toNat_natCast]
theorem keepF_len (bs : List Blk) (a : Int) (s : Ws) : (keepF bs a s).length ≤ s.L.length + 2 := by
 unfold keepF
 have h1 := putL_len (if s.f.n.index = -1 then s.L else putL s.L bs s.f.n.index (putIndex s.f.li).1) bs a (putNode 1 s.f.n).1
 have h2 := putL_len s.L bs s.f.n.index (putIndex s.f.li).1
 split at h1 <;> split <;> omega
theorem putNode_kinds (n : Nd) : 0 ≤ (putNode 1 n).1.kind ∧ (putNode 1 n).1.kind ≤ 7 := by
 unfold putNode Blk.zero
 split <;> (rw [Blk.of_kind]; omega)
theorem putIndex_kinds (l : List Int) : 0 ≤ (putIndex l).1.kind ∧ (putIndex l).1.kind ≤ 7 := by
 unfold putIndex Blk.zero
 split <;> (rw [Blk.of_kind]; omega)
theorem keepF_LK {bs : List Blk} {a : Int} {s : Ws} (h : LK s.L) : LK (keepF bs a s) := by
 unfold keepF
 refine putL_LK ?_ (putNode_kinds _)
 split
 · exact h
 · exact putL_LK h (putIndex_kinds _)
theorem FRest.flOf {B : List Blk} {f : Fl} {c : Nat → UInt8} (h : FRest B f c) : flOf B 1 = some f := by
 have hl := h.len.1
 have h1 : getB B 1 = (putNode 1 f.n).1 := by
  have := getB_at (B := B) (j := 1) (by omega)
  rw [h.nodeB] at this; exact this
 have ht : takeNode (putNode 1 f.n).1 = (f.n, true) := take_putNode h.may0 h.wf0
 unfold Go.Proofs.YtbbnejehglonjaaGreat.flOf
 rw [h1, if_pos ⟨putNode_ok h.may0, by rw [ht]⟩, ht]
 have : (takeIndex (getB B f.n.index)).getD holes = f.li := by
  by_cases hi : f.n.index = -1
  · rw [hi, getB_no, takeIndex_zero, h.hol0 hi]; rfl
  · rw [getB_idx hi h.idxB, take_putIndex h.l0 h.lok0]; rfl
 show some _ = some _
 rw [this]
theorem FRest.wi {B : List Blk} {f : Fl} {c : Nat → UInt8} (h : FRest B f c) : WI B [] f f c := ⟨h, fun j => by simp [keysL], .inr rfl, fun k hk => by simp [keysL] at hk⟩
theorem FS.sized {B : List Blk} {f : Fl} {c : Nat → UInt8} (h : FS B f c) {z : Int} (h0 : 0 ≤ z) (h1 : z ≤ 1120) : FS B (f.sized z) c :=
 { h with may := mayNode_size h.may h0 h1, wf := ⟨h.wf.1, h.wf.2, h.wf.3⟩ }
structure Wrote (bs : List Blk) (L L' : PL) (T' : ML) (f f' : Fl) (c : Nat → UInt8) (a e : Nat) : Prop where
 wi : WI (txV L' bs) T' f' f' c
 slot : ∀ k, f'.slot k = -1 ↔ f.slot k = -1 ∧ ¬ hitB a e k
 idx : f'.n.index = -1 ↔ f.n.index = -1 ∧ e ≤ 224
 size : f'.n.size = max f.n.size e
 len : L'.length ≤ L.length + 10
 lk : LK L → LK L'
theorem keep_wi {bs : List Blk} {s : Ws} {f0 : Fl} {c : Nat → UInt8} (h : WI (txV s.L bs) s.T f0 s.f c) : WI (txV (keepF bs 1 s) bs) s.T s.f s.f c := by
 rw [keepF_V h.mid]
 exact ⟨keep_rest h.mid, fun j => ⟨.inr, fun e => e.elim (fun e => (h.own j).2 (.inl e)) id⟩, .inr rfl, h.pos⟩
theorem WI.sized {B : List Blk} {T : ML} {f0 f : Fl} {c : Nat → UInt8} (h : WI B T f0 f c) {z : Int} (h0 : 0 ≤ z) (h1 : z ≤ 1120) : WI B T f0 (f.sized z) c :=
 ⟨h.mid.to (h.mid.cur.sized h0 h1), h.own, h.oi, h.pos⟩
theorem write_spec {bs : List Blk} {L : PL} {T : ML} {f : Fl} {c : Nat → UInt8} {off : Nat} {data : List UInt8} (h : WI (txV L bs) T f f c) (ho : off < 1120) (hd : data ≠ []) (hl : 8 ≤ leftT (txV L bs) T) :
 ∃ (m : Nat) (L' : PL) (T' : ML) (f' : Fl), m = min data.length (min (1120 - off) (224 - off % 56)) ∧ writeF bs L T 1 (off : Int) data = (((m : Int), 0), L', T') ∧ Wrote bs L L' T' f f' (ov c data off off (off + m)) off (off + m) := by
 have hdl : 0 < data.length := List.length_pos_iff.2 hd
 obtain ⟨b, hb⟩ : ∃ b, b = off + min data.length (1120 - off) := ⟨_, rfl⟩
 have hob : off < b := by omega
 obtain ⟨s', hr, hR⟩ := wRun_spec (bs := bs) (f0 := f) (data := data) (off := off) (b := b) (by omega) (by omega) 4 off ⟨L, T, f⟩ c h (Nat.le_refl _) (by show 8 ≤ leftT (txV L bs) T; exact hl)
 have he := endAt_eq b 3 off hob
 have hw := wEnd_eq b 3 off hob
 have hm : endAt 4 off b = off + min data.length (min (1120 - off) (224 - off % 56)) := by rw [he]; split <;> omega
 rw [hm] at hR hw
 obtain ⟨m, hmm⟩ : ∃ m, m = min data.length (min (1120 - off) (224 - off % 56)) := ⟨_, rfl⟩
 rw [← hmm] at hR hw
 have hz := hR.wi.mid.cur.may
 rw [mayNode_fileP] at hz
 have hsz : s'.f.n.size = f.n.size := hR.size
 have hW2 := hR.wi.sized (z := max s'.f.n.size ((off + m : Nat) : Int)) (by omega) (by omega)
 have hk := keep_wi (s := ⟨s'.L, s'.T, s'.f.sized (max s'.f.n.size ((off + m : Nat) : Int))⟩) hW2
 refine ⟨m, keepF bs 1 ⟨s'.L, s'.T, s'.f.sized (max s'.f.n.size ((off + m : Nat) : Int))⟩, s'.T, s'.f.sized (max s'.f.n.size ((off + m : Nat) : Int)), hmm, ?_, ⟨hk, hR.slot, ?_, ?_, ?_, fun hL => keepF_LK (hR.lk hL)⟩⟩
 · unfold writeF
   rw [FRest.flOf h.mid]
   dsimp only
   rw [if_neg (by omega), if_neg hd, if_neg (by omega), Int.toNat_natCast]
   unfold wPcs
   rw [← hb, hr]
   dsimp only
   rw [hw]
   congr 2
   omega
 · show s'.f.n.index = -1 ↔ _
   rw [hR.idx]
   constructor
   · rintro ⟨e1, e2⟩; exact ⟨e1, by omega⟩
   · rintro ⟨e1, e2⟩; exact ⟨e1, .inl e2⟩
 · show max s'.f.n.size _ = _
   rw [hsz]
 · have a1 := keepF_len bs 1 ⟨s'.L, s'.T, s'.f.sized (max s'.f.n.size ((off + m : Nat) : Int))⟩
   have a2 := hR.len
   have a3 : s'.L.length ≤ L.length + 2 * 4 := a2
   have a4 : (keepF bs 1 ⟨s'.L, s'.T, s'.f.sized (max s'.f.n.size ((off + m : Nat) : Int))⟩).length ≤ s'.L.length + 2 := a1
   omega
theorem read_spec {B : List Blk} {f : Fl} {c : Nat → UInt8} (h : FS B f c) {b : Nat} (hb : b ≤ 1120) : ∀ (m a : Nat), b - a = m → readF B f a b = (List.range (b - a)).map fun i => c (a + i) := by
 intro m
 induction m using Nat.strongRecOn with
 | _ m ih =>
   intro a hm
   unfold readF
   by_cases hab : a < b
   · obtain ⟨q, E, hq, hE, q1, q2, q3, q4, q5, q6, hpc⟩ := pc_q hab
     have ih2 := ih (b - E) (by omega) E rfl
     unfold readF at ih2
     rw [pieces_step hab, List.flatMap_cons, hE, ih2, hpc]
     have hk : q < 20 := by omega
     have e1 : ((getB B (f.slot q)).body.drop (a - q * 56)).take (E - q * 56 - (a - q * 56)) = (List.range (E - a)).map fun i => c (a + i) := by
      have hlen := (getB B (f.slot q)).len
      apply List.ext_getElem
      · rw [List.length_take, List.length_drop, hlen, List.length_map, List.length_range]; omega
      · intro i h1 h2
        rw [List.length_map, List.length_range] at h2
        have hd := h.data q hk (a - q * 56 + i) (by omega)
        rw [List.getD_eq_getElem?_getD, List.getElem?_eq_getElem (by rw [hlen]; omega), Option.getD_some] at hd
        rw [List.getElem_take, List.getElem_drop, List.getElem_map, List.getElem_range, hd]
        congr 1; omega
     dsimp only
     rw [e1]
     have e2 : b - a = (E - a) + (b - E) := by omega
     rw [e2, List.range_add, List.map_append, List.map_map]
     congr 1
     apply List.map_congr_left
     intro i _
     show c (E + i) = c (a + (E - a + i))
     congr 1; omega
   · rw [pieces_done hab, show b - a = 0 by omega]; rfl
end
section
open Go.RowKit
attribute [local irreducible] Calls

theorem setRow_keepsI (w : World) (g : Nat) (c : Array Value) : Keeps (fun q => q = g) w (w.setRow g c) :=
 ⟨rfl, rfl, rfl, by simp [World.setRow], fun q hq hn => by simp only [World.setRow, Array.getElem?_modify]; rw [if_neg (fun e => hn e.symm)]⟩
theorem frame45 (A : Array Value) (h : A.size = 45) : A = #[A.getD 0 undef, A.getD 1 undef, A.getD 2 undef, A.getD 3 undef, A.getD 4 undef, A.getD 5 undef, A.getD 6 undef, A.getD 7 undef, A.getD 8 undef, A.getD 9 undef, A.getD 10 undef, A.getD 11 undef, A.getD 12 undef, A.getD 13 undef, A.getD 14 undef, A.getD 15 undef, A.getD 16 undef, A.getD 17 undef, A.getD 18 undef, A.getD 19 undef, A.getD 20 undef, A.getD 21 undef, A.getD 22 undef, A.getD 23 undef, A.getD 24 undef, A.getD 25 undef, A.getD 26 undef, A.getD 27 undef, A.getD 28 undef, A.getD 29 undef, A.getD 30 undef, A.getD 31 undef, A.getD 32 undef, A.getD 33 undef, A.getD 34 undef, A.getD 35 undef, A.getD 36 undef, A.getD 37 undef, A.getD 38 undef, A.getD 39 undef, A.getD 40 undef, A.getD 41 undef, A.getD 42 undef, A.getD 43 undef, A.getD 44 undef] := frame_list A 45 h
def sliceN : Value → Nat | .slice _ n _ => n | _ => 0
def PcJ (w : World) (a0 b : Nat) (l : Nat) (a' : Act) (w' : World) : Prop :=
 Below w.heap.size w w' ∧ l = 0 ∧ ∃ (f : Nat) (V : Value) (acc : List Pc), f ≤ 1120 ∧ acc ++ pieces f b = pieces a0 b ∧ PcRow w' (fun q => w.heap.size ≤ q) V acc ∧ sliceN V = acc.length ∧ ∃ A : Array Value, A.size = 45 ∧ (A.getD 4 undef = V ∧ A.getD 5 undef = cz f b ∧ True) ∧ a' = { tmps := A, defers := [] }
theorem xPieces_ok (a0 n : Nat) (w : World) (h : a0 + n ≤ 1120) : Calls Tryz.prog 85 #[.int .i64 a0, .int .i64 n] w fun e w' => ∃ u, e = .returned u ∧ PcRow w' (fun q => w.heap.size ≤ q) u (pieces a0 (a0 + n)) ∧ Below w.heap.size w w' := by
 obtain ⟨b, hb⟩ : ∃ b, b = a0 + n := ⟨_, rfl⟩
 have h1 : (n : Int) ≤ 1120 - (a0 : Int) := by omega
 have h0 : (a0 : Int) ≤ 1120 := by omega
 have hs : (a0 : Int) + (n : Int) = (b : Int) := by omega
 rw [← hb]
 have hbl : b ≤ 1120 := by omega
 have hpl := pieces_length b _ a0 rfl
 have Hb := Lib.hid (And.intro hbl hpl)
 clear hb h hbl hpl
 go_enter Tryz.func85, Tryz.ntmps85
 go_wp2_with fail
 refine wp_scope_labels (PcJ w a0 b) (fun l a _ => 3000 - sliceN (a.tmps.getD 4 undef)) ?_ ?_ ?_
 · rintro l a w' ⟨_, rfl, _⟩; exact ⟨_, rfl⟩
 · rintro l rest a w' ⟨hbel, rfl, f, V, acc, hf, hacc, hrow, hsl, ⟨A, hA, ⟨hA4, hA5, _⟩, rfl⟩⟩ hrest
   obtain rfl := (Code.seq.inj (Option.some.inj hrest)).2
   rw [frame45 A hA, hA4, hA5]
   clear hrest
   by_cases hfb : f < b
   · have hlss : (FloatKind.f64.format.order (floatOfInt .f64 (f : Int)) (floatOfInt .f64 (b : Int)) == some .lt) = true := by
      have := ord_fz f b (by have := Hb.out.1; omega) (by have := Hb.out.1; omega)
      rwa [decide_eq_true hfb] at this
     have HR := Lib.hid (And.intro hbel (And.intro hacc (And.intro hrow (And.intro hsl hfb))))
     clear hbel hacc hrow hsl hfb
     unfold cz
     go_upto_region 6 with fail
     have hG0 : objAt (w'.alloc (.cells #[.int .i64 0, .int .i64 0, .int .i64 0] 174)) w'.heap.size = some (.cells #[.int .i64 0, .int .i64 0, .int .i64 0] 174 (0, 0)) := by rw [objAt_alloc, if_pos rfl]
     have hB1 : Below w'.heap.size w' (w'.alloc (.cells #[.int .i64 0, .int .i64 0, .int .i64 0] 174)) := grow_alloc (Below.refl _ _) _
     obtain ⟨w1, hw1⟩ : ∃ w1, w1 = w'.alloc (.cells #[.int .i64 0, .int .i64 0, .int .i64 0] 174) := ⟨_, rfl⟩
     obtain ⟨G, hG⟩ : ∃ G, G = w'.heap.size := ⟨_, rfl⟩
     rw [← hw1] at hG0 hB1 ⊢
     rw [← hG] at hG0 ⊢
     have HF := Lib.hid (rFirst_any f b HR.out.2.2.2.2 Hb.out.1 w1)
     unfold cz at HF
     have H1 := Lib.hid (And.intro hG0 (And.intro hB1 hG))
     clear hG0 hB1 hw1 hG hlss
     obtain ⟨p, hp⟩ : ∃ p, p = pcOf f b := ⟨_, rfl⟩
     rw [← hp, show p.cells = #[.int .i64 p.k, .int .i64 p.from_, .int .i64 p.to_] from rfl] at HF
     have Hp := Lib.hid hp
     clear hp
     go_upto_region 7 with (go_at_call 146; refine HF.out.mono ?_; rintro e w2 ⟨rfl, b2⟩; have ho2 := grow_obj b2 H1.out.1; have hp2 : hasPiece w2 G = true := by { unfold hasPiece; rw [rowAt_heap ho2]; rfl })
     have ho3 := objAt_setRow ho2 #[.int .i64 p.k, .int .i64 p.from_, .int .i64 p.to_]
     have hk3 := setRow_keepsI w2 G #[.int .i64 p.k, .int .i64 p.from_, .int .i64 p.to_]
     obtain ⟨w3, hw3⟩ : ∃ w3, w3 = w2.setRow G #[.int .i64 p.k, .int .i64 p.from_, .int .i64 p.to_] := ⟨_, rfl⟩
     rw [← hw3] at ho3 hk3 ⊢
     have q0 : w3.cell? ⟨G, 0, none⟩ = some (.int .i64 p.k) := cell_obj ho3 0
     have q1 : w3.cell? ⟨G, 1, none⟩ = some (.int .i64 p.from_) := cell_obj ho3 1
     have q2 : w3.cell? ⟨G, 2, none⟩ = some (.int .i64 p.to_) := cell_obj ho3 2
     have hbel3 : Below w'.heap.size w' w3 := (grow_trans H1.out.2.1 b2).trans (hk3.below (grow_trans H1.out.2.1 b2).size (fun x e => by have := H1.out.2.2; omega))
     have hrow3 : PcRow w3 (fun q => w.heap.size ≤ q) V acc := RowG.keeps HR.out.2.2.1 (Keeps.of_below_size hbel3) (fun g hg e => by have := RowG.lt HR.out.2.2.1 hg; omega) (fun _ h => h) (fun _ _ h => h)
     have hal : acc.length < 1000000 := by
      have h1 := congrArg List.length HR.out.2.1
      rw [List.length_append] at h1
      have := Hb.out.2; have := Hb.out.1; omega
     have H3 := Lib.hid (And.intro hbel3 hrow3)
     clear ho3 hk3 hw3 hbel3 hrow3 ho2 hp2 b2
     go_wp2_with (first
      | (refine list_lit1 elemPieceK rfl _ rfl (by rfl) rfl (by decide) ?_; intro w5 hw5; have hB5 := below_alloc hw5; have ho5 := obj_alloc hw5; have HX5 := Lib.hid (And.intro (show PcRow w5 (fun q => w.heap.size ≤ q) V acc from RowG.keeps H3.out.2 (Keeps.of_below_size hB5) (fun g hg e => by have := RowG.lt H3.out.2 hg; omega) (fun _ h => h) (fun _ _ h => h)) (And.intro ho5 hB5)); clear hw5 hB5 ho5)
      | (at_builtin; refine list_appG elemPieceK rfl _ _ rfl rfl HX5.out.1 rfl HX5.out.2.1 rfl (by simp [Value.oneCell']) hal PcEl p (fun w' _ => ⟨fun _ _ h => h, rfl⟩) ?_; intro g6 cap6 w6 hr6 hk6 ho6 hl6; have H6 := Lib.hid (And.intro hr6 hk6); clear hr6 hk6 ho6 hl6))
     have hb6 : Below w.heap.size w w6 := (grow_trans (grow_trans HR.out.1 H3.out.1) HX5.out.2.2).trans (H6.out.2.below (grow_trans (grow_trans HR.out.1 H3.out.1) HX5.out.2.2).size (fun q e => HX5.out.1.own q e))
     have hr6 : PcRow w6 (fun q => w.heap.size ≤ q) (.slice (some ⟨g6, 0, none⟩) (acc.length + 1) cap6) (acc ++ [p]) := RowG.mono (S2 := fun q => w.heap.size ≤ q) H6.out.1 (fun q hq => Or.elim hq id (fun h => Nat.le_trans (grow_trans (grow_trans HR.out.1 H3.out.1) HX5.out.2.2).size h))
     have hac : (acc ++ [p]) ++ pieces (pcEnd f b) b = pieces a0 b := by
      rw [← HR.out.2.1, pieces_step HR.out.2.2.2.2, List.append_assoc, Hp.out]; rfl
     have hend : pcEnd f b ≤ 1120 := Nat.le_trans (pcEnd_gt HR.out.2.2.2.2).2 Hb.out.1
     have hal2 : acc.length ≤ 1120 := by
      have h1 := congrArg List.length HR.out.2.1
      rw [List.length_append] at h1
      have := Hb.out.2; have := Hb.out.1; omega
     have Hs := Lib.hid HR.out.2.2.2.1
     go_step3
     refine ⟨⟨hb6, rfl, pcEnd f b, _, acc ++ [p], hend, hac, hr6, by simp [sliceN], ⟨_, rfl, ⟨rfl, rfl, trivial⟩, rfl⟩⟩, ?_⟩
     have hs := Hs.out
     show 3000 - (acc.length + 1) < 3000 - sliceN V
     rw [hs]
     omega
   · have hlss : (FloatKind.f64.format.order (floatOfInt .f64 (f : Int)) (floatOfInt .f64 (b : Int)) == some .lt) = false := by
      have := ord_fz f b (by omega) (by have := Hb.out.1; omega)
      rwa [decide_eq_false hfb] at this
     have HR := Lib.hid (And.intro hbel (And.intro hacc (And.intro hrow (And.intro hsl hfb))))
     clear hbel hacc hrow hsl hfb
     unfold cz
     go_wp2_with fail
     try rw [jumps_ret]
     refine bodyPost_ret (results_one rfl (resOne_tmp _ _ _)) rfl ?_
     refine ⟨V, rfl, ?_, HR.out.1⟩
     have h1 := HR.out.2.1
     rw [pieces_done HR.out.2.2.2.2, List.append_nil] at h1
     rw [← h1]; exact HR.out.2.2.1
 · intro hfall
   have HF := Lib.hid hfall
   clear hfall
   go_upto_region 4 with fail
   go_step3
   simp only [Exit.then]
   go_step
   refine HF.out 0 _ _ _ ?_ rfl
   exact ⟨Below.refl _ _, rfl, a0, .slice none 0 0, [], by omega, rfl, RowG.nil _ _ _ _ _, rfl, ⟨_, rfl, ⟨rfl, rfl, trivial⟩, rfl⟩⟩
end
section
open Go.RowKit
attribute [local irreducible] Calls

structure PcOk (a b : Nat) (p : Pc) : Prop where
 k : p.k < 20
 lt : p.from_ < p.to_
 le : p.to_ ≤ 56
 lo : a ≤ p.k * 56 + p.from_
 hi : p.k * 56 + p.to_ ≤ b
theorem pieces_mem {b : Nat} (hb : b ≤ 1120) : ∀ (m a : Nat), b - a = m → ∀ p ∈ pieces a b, PcOk a b p := by
 intro m
 induction m using Nat.strongRecOn with
 | _ m ih =>
   intro a hm p hp
   by_cases hab : a < b
   · obtain ⟨q, E, hq, hE, q1, q2, q3, q4, q5, q6, hpc⟩ := pc_q hab
     rw [pieces_step hab, hE, hpc] at hp
     rcases List.mem_cons.1 hp with e | e
     · subst e
       exact ⟨by show q < 20; omega, by show a - q * 56 < E - q * 56; omega, by show E - q * 56 ≤ 56; omega, by show a ≤ q * 56 + (a - q * 56); omega, by show q * 56 + (E - q * 56) ≤ b; omega⟩
     · have := ih (b - E) (by omega) E rfl p e
       exact ⟨this.k, this.lt, this.le, by have := this.lo; omega, this.hi⟩
   · rw [pieces_done hab] at hp; cases hp
theorem PcRow.at_ {w : World} {S : Nat → Prop} {g n cap : Nat} {l : List Pc} (h : PcRow w S (.slice (some ⟨g, 0, none⟩) n cap) l) {k : Nat} {p : Pc} (hp : l[k]? = some p) :
 w.cell? ⟨g, k * 3, none⟩ = some (.int .i64 p.k) ∧ w.cell? ⟨g, k * 3 + 1, none⟩ = some (.int .i64 p.from_) ∧ w.cell? ⟨g, k * 3 + 2, none⟩ = some (.int .i64 p.to_) := by
 obtain ⟨cc, _, hR, hc⟩ := h.cells hp
 unfold PcEl at hR
 subst hR
 exact ⟨hc 0 _ rfl, hc 1 _ rfl, hc 2 _ rfl⟩
theorem add_at (g a i : Nat) : (⟨g, a, none⟩ : Addr).add i = ⟨g, a + i, none⟩ := by
 unfold Addr.add; split
 · rename_i e; subst e; rfl
 · rfl
theorem slice_body (g f t : Nat) (h1 : f < t) (h2 : t ≤ 56) (w : World) : (Instr.sliceAt 35 (.pointer (some ⟨g, 1, none⟩)) (some (.int .i64 (f : Int))) (some (.int .i64 (t : Int))) none).run Tryz.prog w = .ok (.slice (some ⟨g, 1 + f, none⟩) (t - f) (56 - f)) w := by
 have hl : Tryz.prog.arrayLen 35 = 56 := by kernel_rfl
 have hs : (sizeOf (Tryz.prog.elem 35)).run Tryz.prog w = .ok 1 w := by kernel_rfl
 rw [run_sliceAt_array_lh w 35 ⟨g, 1, none⟩ Tryz.underlying35 .i64 .i64 (f : Int) (t : Int) (by omega) (by omega) (by rw [hl]; omega), hs, hl]
 simp only [Result.andThen_ok, slicedAt, Int.toNat_natCast, Nat.mul_one]
 rw [if_neg (by omega), add_at]
theorem slice_bodyL (g f : Nat) (h1 : f < 56) (w : World) : (Instr.sliceAt 35 (.pointer (some ⟨g, 1, none⟩)) (some (.int .i64 (f : Int))) none none).run Tryz.prog w = .ok (.slice (some ⟨g, 1 + f, none⟩) (56 - f) (56 - f)) w := by
 have hl : Tryz.prog.arrayLen 35 = 56 := by kernel_rfl
 have hs : (sizeOf (Tryz.prog.elem 35)).run Tryz.prog w = .ok 1 w := by kernel_rfl
 rw [run_sliceAt_array_l w 35 ⟨g, 1, none⟩ Tryz.underlying35 .i64 (f : Int) (by omega) (by rw [hl]; omega), hs, hl]
 simp only [Result.andThen_ok, slicedAt, Int.toNat_natCast, Nat.mul_one]
 rw [if_neg (by omega), add_at]
theorem BlkAt.some {w : World} {g : Nat} {b : Blk} (h : BlkAt w g b) (f n : Nat) : BytesAt w (some ⟨g, 1 + f, none⟩) ((b.body.drop f).take n) :=
 ⟨g, 1 + f, fun _ => rfl, fun i hi => by
  rw [List.length_take, List.length_drop, b.len] at hi
  rw [List.getElem_take, List.getElem_drop, show 1 + f + i = 1 + (f + i) by omega]
  exact h.cell (f + i) (by omega)⟩
theorem flOf_may {B : List Blk} {a : Int} {f : Fl} (h : flOf B a = some f) : mayNode 1 f.n = true ∧ f.n.wf := by
 unfold flOf at h
 split at h
 · rename_i hc
   obtain rfl := Option.some.inj h
   have ht : takeNode (getB B a) = ((takeNode (getB B a)).1, true) := by rw [← hc.2]
   have h1 := (takeNode_true ht).2
   rw [hc.1] at h1
   exact ⟨h1, takeNode_wf ht⟩
 · cases h
theorem pieces_any (a m : Nat) (w : World) (h : a + m ≤ 1120 ∨ m = 0) (ha : a < 1000000) : Calls Tryz.prog 85 #[.int .i64 (a : Int), .int .i64 (m : Int)] w fun e w' => ∃ u, e = .returned u ∧ PcRow w' (fun q => w.heap.size ≤ q) u (pieces a (a + m)) ∧ Below w.heap.size w w' := by
 by_cases h1 : a + m ≤ 1120
 · exact xPieces_ok a m w h1
 · obtain rfl : m = 0 := h.resolve_left h1
   refine (xPieces_no (a : Int) ((0 : Nat) : Int) w (.inr (.inr (.inl (by omega)))) (by omega)).mono ?_
   rintro e w' ⟨rfl, rfl⟩
   exact ⟨_, rfl, by rw [pieces_done (by omega)]; exact RowG.nil _ _ _ _ _, Below.refl _ _⟩
end
section
open Go.RowKit
attribute [local irreducible] Calls

section
variable {w w' : World} {Sd : Nat → Prop} {t v mp mt : Nat} {L : PL} {T : ML} {d reg : Nat} {s : Sh} {gb cap m : Nat} {st : VSt} {c : Nat}
def pcB (B : List Blk) (f : Fl) (p : Pc) : List UInt8 := ((getB B (f.slot p.k)).body.drop p.from_).take (p.to_ - p.from_)
theorem fRead_any (H : TxV w Sd t v mp mt L T d reg s gb cap m st c) (a off n : Int) (ho : off < 1000000) :
 Calls Tryz.prog 36 #[.pointer (some ⟨t, 0, none⟩), .int .i64 a, .int .i64 off, .int .i64 n] w fun e w' => ∃ V, e = .returned (.tuple #[V, .int .i64 (readR (txV L st.bs) a off n).2]) ∧ BRow w' w.heap.size V (readR (txV L st.bs) a off n).1 ∧ Below w.heap.size w w' := by
 have HO := Lib.hid (fOf_any H a)
 have H0 := Lib.hid H
 unfold readR
 obtain ⟨o, hf⟩ : ∃ o, o = flOf (txV L st.bs) a := ⟨_, rfl⟩
 rw [← hf] at HO ⊢
 cases o with
 | none =>
   dsimp only at HO ⊢
   clear H hf
   go_enter Tryz.func36, Tryz.ntmps36
   go_wp2_with (go_at_call 84; refine HO.out.mono ?_; rintro e w1 ⟨b1, rfl⟩)
   refine bodyPost_ret (results_two rfl (resOne_tmp _ _ _) (resOne_tmp _ _ _)) rfl ?_
   exact ⟨_, rfl, BRow.nil _ _, b1⟩
 | some f =>
   dsimp only at HO ⊢
   have hmay := flOf_may hf.symm
   have hz := (mayNode_fileP.1 hmay.1).2.2.2.2
   have z0 : 0 ≤ f.n.size := hz.1
   have z1 : f.n.size ≤ 1120 := hz.2.1
   clear H hf hmay hz
   by_cases h1 : off < 0
   · rw [if_pos (.inl h1)]
     go_enter Tryz.func36, Tryz.ntmps36
     go_wp2_with (go_at_call 84; refine HO.out.mono ?_; rintro e w1 ⟨b1, F, gi, ci, rfl, hF⟩)
     refine bodyPost_ret (results_two rfl (resOne_tmp _ _ _) (resOne_tmp _ _ _)) rfl ?_
     exact ⟨_, rfl, BRow.nil _ _, b1⟩
   · by_cases h2 : n < 0
     · rw [if_pos (.inr h2)]
       go_enter Tryz.func36, Tryz.ntmps36
       go_wp2_with (go_at_call 84; refine HO.out.mono ?_; rintro e w1 ⟨b1, F, gi, ci, rfl, hF⟩)
       refine bodyPost_ret (results_two rfl (resOne_tmp _ _ _) (resOne_tmp _ _ _)) rfl ?_
       exact ⟨_, rfl, BRow.nil _ _, b1⟩
     · rw [if_neg (by omega)]
       obtain ⟨a0, rfl⟩ : ∃ a0 : Nat, off = (a0 : Int) := ⟨off.toNat, by omega⟩
       obtain ⟨mm, hmm⟩ : ∃ mm : Nat, min n (max (f.n.size - (a0 : Int)) 0) = (mm : Int) := ⟨(min n (max (f.n.size - (a0 : Int)) 0)).toNat, by omega⟩
       have hle : a0 + mm ≤ 1120 ∨ mm = 0 := by omega
       rw [hmm, Int.toNat_natCast, Int.toNat_natCast]
       have u1 : IntKind.i64.wrap (f.n.size - (a0 : Int)) = f.n.size - (a0 : Int) := IntWalk.i64_in _ (by omega)
       have HP := Lib.hid (fun w => pieces_any a0 mm w hle (by omega))
       have hpm : ∀ p ∈ pieces a0 (a0 + mm), PcOk a0 (a0 + mm) p := by
        rcases hle with h | h
        · exact pieces_mem h _ a0 rfl
        · subst h; rw [pieces_done (by omega)]; intro p hp; cases hp
       unfold readF
       obtain ⟨pcs, hpc⟩ : ∃ pcs, pcs = pieces a0 (a0 + mm) := ⟨_, rfl⟩
       rw [← hpc] at HP hpm ⊢
       have hpl : pcs.length ≤ 1120 := by
        rw [hpc]
        rcases hle with h | h
        · have := pieces_length (a0 + mm) _ a0 rfl; omega
        · subst h; rw [pieces_done (by omega)]; decide
       have hff : (pcs.flatMap fun p => ((getB (txV L st.bs) (f.slot p.k)).body.drop p.from_).take (p.to_ - p.from_)) = pcs.flatMap (pcB (txV L st.bs) f) := rfl
       rw [hff]
       have HM := Lib.hid (And.intro hpm hpl)
       clear hpc hle hpm hff hpl ho
       go_enter Tryz.func36, Tryz.ntmps36
       go_upto_region 7 with (go_at_call 84; refine HO.out.mono ?_; rintro e w1 ⟨b1, F, gi, ci, rfl, hF⟩)
       have c4 : w1.cell? ⟨F, 4, none⟩ = some (.int .i64 f.n.size) := hF.c 4
       have H1 := Lib.hid (And.intro b1 hF)
       clear b1 hF
       go_wp2_with (go_at_call 85; refine (HP.out _).mono ?_; rintro e w2 ⟨u, rfl, hu, b2⟩; obtain ⟨av, cv, rfl, hav⟩ := RowG.slice hu)
       clear hmm u1 c4
       have H2 := Lib.hid (And.intro hu b2)
       clear hu b2 hav
       go_loopw [12, 46] (fun s12 s46 wr => ∃ (k : Nat) (V : Value), k ≤ pcs.length ∧ s46 = .int .i64 k ∧ V = s12 ∧ BRow wr w2.heap.size V ((pcs.take k).flatMap (pcB (txV L st.bs) f)) ∧ Below w2.heap.size w2 wr) (fun _ i _ => pcs.length - (Go.RowKit.intOf i).toNat)
       case atStart => exact ⟨0, _, Nat.zero_le _, rfl, rfl, by rw [List.take_zero]; exact BRow.nil _ _, Below.refl _ _⟩
       case round =>
        obtain ⟨k, V, hk, rfl, rfl, hrow, hbel⟩ := hrel
        by_cases hlt : k < pcs.length
        · obtain ⟨p, hp⟩ : ∃ p, pcs[k]? = some p := ⟨_, List.getElem?_eq_getElem hlt⟩
          have hok := HM.out.1 p (List.mem_of_getElem? hp)
          have hlti : (k : Int) < (pcs.length : Int) := by omega
          have hk2 : (k : Int) < 1120 := by have := HM.out.2; omega
          have hur := H2.out.1.grow hbel (R := PcEl) (fun _ _ h => h)
          obtain ⟨gu, cu', hfu⟩ := hur.form (by omega)
          simp only [Value.slice.injEq] at hfu
          obtain ⟨rfl, _, rfl⟩ := hfu
          obtain ⟨p0, p1, p2⟩ := PcRow.at_ hur hp
          have hts : (pcs.take (k + 1)).flatMap (pcB (txV L st.bs) f) = (pcs.take k).flatMap (pcB (txV L st.bs) f) ++ pcB (txV L st.bs) f p := by
           obtain ⟨hk', rfl⟩ := List.getElem?_eq_some_iff.1 hp
           rw [List.take_succ_eq_append_getElem hk', List.flatMap_append]; simp
          have hrl : ((pcs.take k).flatMap (pcB (txV L st.bs) f)).length ≤ 62720 := by
           have : ∀ l : List Pc, (l.flatMap (pcB (txV L st.bs) f)).length ≤ l.length * 56 := by
            intro l
            induction l with
            | nil => exact Nat.le_refl _
            | cons q l ih =>
              rw [List.flatMap_cons, List.length_append, List.length_cons, Nat.succ_mul]
              have : (pcB (txV L st.bs) f q).length ≤ 56 := by
               unfold pcB
               rw [List.length_take, List.length_drop, Blk.len]; omega
              omega
           have h1 := this (pcs.take k)
           rw [List.length_take] at h1
           have := HM.out.2; omega
          obtain ⟨wx, hwx⟩ : ∃ wx, wx = wr.alloc (.cells #[.int .i64 p.k, .int .i64 p.from_, .int .i64 p.to_] 174) := ⟨_, rfl⟩
          have hbx : Below wr.heap.size wr wx := below_alloc hwx
          obtain ⟨G, hG⟩ : ∃ G, G = wr.heap.size := ⟨_, rfl⟩
          have hox : objAt wx G = some (.cells #[.int .i64 p.k, .int .i64 p.from_, .int .i64 p.to_] 174 (0, 0)) := by rw [hG]; exact obj_alloc hwx
          have HR := Lib.hid (And.intro hrow (And.intro hbel (And.intro hok (And.intro hts (And.intro hrl (And.intro hbx hox))))))
          clear hrow hbel hok hts hrl hbx hox hur hp
          go_upto_region 10 with fail
          rw [← hwx, ← hG]
          obtain ⟨wy, hwy⟩ : ∃ wy, wy = wx.alloc (.cells Blk.zero.cells 37) := ⟨_, rfl⟩
          obtain ⟨K, hK⟩ : ∃ K, K = wx.heap.size := ⟨_, rfl⟩
          have hby : Below wx.heap.size wx wy := below_alloc hwy
          have hZ : BlkAt wy K Blk.zero := by rw [hK]; exact obj_alloc hwy
          have hoy := grow_obj hby HR.out.2.2.2.2.2.2
          have q0 : wy.cell? ⟨G, 0, none⟩ = some (.int .i64 p.k) := cell_obj hoy 0
          have hb1y : Below w1.heap.size w1 wy := grow_trans H2.out.2 (grow_trans HR.out.2.1 (grow_trans HR.out.2.2.2.2.2.1 hby))
          have hFy := H1.out.2.below hb1y
          have HSl := Lib.hid (slot_any hFy HR.out.2.2.1.k)
          obtain ⟨gs, os, hA, _, hcs⟩ := hFy.slotL HR.out.2.2.1.k
          rw [hA] at HSl
          have HY := Lib.hid (And.intro hZ (And.intro hoy (And.intro hb1y hA)))
          clear hZ hoy hb1y hFy hA hwx hG p0 p1 p2 hby
          go_upto_region 11 with fail
          rw [← hwy, ← hK]
          have HKW := Lib.hid hwy
          have HK := Lib.hid hK
          clear hwy hK
          go_upto_region 12 with (go_at_call 88; refine HSl.out.mono ?_; rintro e w5 ⟨rfl, hw5⟩; obtain rfl := hw5.symm)
          have hend : ∀ w6, BlkAt w6 K (getB (txV L st.bs) (f.slot p.k)) → Below wx.heap.size wx w6 → BRow w6 w2.heap.size V ((pcs.take k).flatMap (pcB (txV L st.bs) f)) ∧ objAt w6 G = some (.cells #[.int .i64 p.k, .int .i64 p.from_, .int .i64 p.to_] 174 (0, 0)) ∧ Below w2.heap.size w2 w6 ∧ w2.heap.size ≤ w6.heap.size := fun w6 h6 hb6 => by
           have hb := grow_trans HR.out.2.2.2.2.2.1 hb6
           exact ⟨HR.out.1.below hb, grow_obj hb6 HR.out.2.2.2.2.2.2, grow_trans HR.out.2.1 hb, (grow_trans HR.out.2.1 hb).size⟩
          have Hend := Lib.hid hend
          clear hend
          have hkk := HR.out.2.2.1
          have hsl := slice_body K p.from_ p.to_ hkk.lt hkk.le
          have hlen : ((((getB (txV L st.bs) (f.slot p.k)).body.drop p.from_).take (p.to_ - p.from_)).length) = p.to_ - p.from_ := by
           rw [List.length_take, List.length_drop, Blk.len]; have := hkk.lt; have := hkk.le; omega
          have HL := Lib.hid hlen
          clear hlen hkk hcs q0
          by_cases h0 : f.slot p.k = -1
          · have h0' : (f.slot p.k != -1) = false := by simpa using h0
            have hg : getB (txV L st.bs) (f.slot p.k) = Blk.zero := by rw [h0]; exact getB_no _
            have H6 := Lib.hid (Hend.out wy (by rw [hg]; exact HY.out.1) (below_alloc HKW.out))
            have hX6 : BlkAt wy K (getB (txV L st.bs) (f.slot p.k)) := by rw [hg]; exact HY.out.1
            have q1 : wy.cell? ⟨G, 1, none⟩ = some (.int .i64 p.from_) := cell_obj H6.out.2.1 1
            have q2 : wy.cell? ⟨G, 2, none⟩ = some (.int .i64 p.to_) := cell_obj H6.out.2.1 2
            have HX6 := Lib.hid hX6
            clear h0 hg hX6
            go_wp2_with (at_builtin; refine list_appAt rfl _ _ rfl rfl H6.out.1 (ys := ((getB (txV L st.bs) (f.slot p.k)).body.drop p.from_).take (p.to_ - p.from_)) (by rw [HL.out]; rfl) (HX6.out.some p.from_ (p.to_ - p.from_)) (by rw [HL.out]; have := HR.out.2.2.2.2.1; have := HR.out.2.2.1.le; omega) H6.out.2.2.2 ?_; intro V7 w7 hr7 b7)
            go_roundw
            case rel => exact ⟨k + 1, _, by omega, by go_num, rfl, by rw [HR.out.2.2.2.1]; exact hr7, H6.out.2.2.1.trans b7⟩
            case measure => simp [Go.RowKit.intOf]; omega
          · have h0' : (f.slot p.k != -1) = true := by simpa using h0
            have hgt := Lib.hid ((H0.out.below (grow_trans H1.out.1 HY.out.2.2.1)).get (f.slot p.k))
            obtain ⟨sb, hsb⟩ : ∃ sb, sb = getB (txV L st.bs) (f.slot p.k) := ⟨_, rfl⟩
            rw [← hsb] at hgt HL
            have Hsb := Lib.hid hsb
            have i1 := HY.out.1.has
            clear h0 hsb
            go_upto_region 14 with (go_at_call 26; refine hgt.out.mono ?_; rintro e w5 ⟨rfl, b5⟩; have hZ5 := BlkAt.below HY.out.1 b5 (block_lt HY.out.1); have i2 := hZ5.has)
            have hX6 : BlkAt (w5.setRow K sb.cells) K sb := hZ5.setRow sb
            have hb6 : Below wx.heap.size wx (w5.setRow K sb.cells) := (grow_trans (below_alloc HKW.out) b5).setRow (by rw [HK.out]; exact Nat.le_refl _) _
            obtain ⟨w6, hw6⟩ : ∃ w6, w6 = w5.setRow K sb.cells := ⟨_, rfl⟩
            rw [← hw6] at hX6 hb6 ⊢
            have H6 := Lib.hid (Hend.out w6 (by rw [← Hsb.out]; exact hX6) hb6)
            have HX6 := Lib.hid hX6
            have q1 : w6.cell? ⟨G, 1, none⟩ = some (.int .i64 p.from_) := cell_obj H6.out.2.1 1
            have q2 : w6.cell? ⟨G, 2, none⟩ = some (.int .i64 p.to_) := cell_obj H6.out.2.1 2
            clear hw6 hX6 hb6 i1 i2 hZ5 b5 h0' hgt
            go_wp2_with (at_builtin; refine list_appAt rfl _ _ rfl rfl H6.out.1 (ys := (sb.body.drop p.from_).take (p.to_ - p.from_)) (by rw [HL.out]; rfl) (HX6.out.some p.from_ (p.to_ - p.from_)) (by rw [HL.out]; have := HR.out.2.2.2.2.1; have := HR.out.2.2.1.le; omega) H6.out.2.2.2 ?_; intro V7 w7 hr7 b7)
            rw [Hsb.out] at hr7
            go_roundw
            case rel => exact ⟨k + 1, _, by omega, by go_num, rfl, by rw [HR.out.2.2.2.1]; exact hr7, H6.out.2.2.1.trans b7⟩
            case measure => simp [Go.RowKit.intOf]; omega
        · obtain rfl : k = pcs.length := by omega
          rw [List.take_of_length_le (Nat.le_refl _)] at hrow
          have HB := Lib.hid (And.intro hrow hbel)
          clear hrow hbel
          go_wp2_with fail
          refine bodyPost_ret (results_two rfl (resOne_tmp _ _ _) (resOne_tmp _ _ _)) rfl ?_
          exact ⟨V, rfl, BRow.mono HB.out.1 (grow_trans H1.out.1 H2.out.2).size, grow_trans H1.out.1 (grow_trans H2.out.2 HB.out.2)⟩
end
end
end Go.Proofs.YtbbnejehglonjaaGreat
