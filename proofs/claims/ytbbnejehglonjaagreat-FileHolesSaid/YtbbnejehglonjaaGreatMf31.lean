/- DERIVED. Contracts and laws that the proofs of this seat share, part 31 of 36: FiF. -/
import Derived.Test.YtbbnejehglonjaaGreatMf00
import Derived.Test.YtbbnejehglonjaaGreatMf29
namespace Go.Proofs.YtbbnejehglonjaaGreat
set_option maxHeartbeats 8000000
set_option maxRecDepth 100000
set_option linter.unusedSimpArgs false
set_option linter.unusedVariables false
section
open Go.RowKit

theorem holes_set (i : Nat) : holes.set i (-1) = holes := by
 unfold holes
 apply List.ext_getElem?
 intro j
 rw [List.getElem?_set, List.getElem?_replicate]
 by_cases e : i = j
 · subst e
   rw [if_pos rfl, List.length_replicate]
 · rw [if_neg e]
theorem FS.drop {B : List Blk} {f : Fl} {c : Nat → UInt8} (h : FS B f c) {k : Nat} (hk : k < 20) : FS B (f.put k (-1)) (fun i => if k * 56 ≤ i ∧ i < k * 56 + 56 then 0 else c i) := by
 have hps := fun l => f.put_slot (l := l) h.l16 hk (-1)
 refine ⟨?_, ?_, by rw [f.put_16]; exact h.l16, ?_, fun e => ?_, fun l hl => ?_, by rw [f.put_index]; exact h.idx, fun a b ha hb e hn => ?_, fun l hl hn => ?_, fun l hl i hi => ?_⟩
 · by_cases k4 : k < 4
   · rw [f.put_lo k4]
     exact mayNode_direct h.may k4 (placesOk_unset (mayNode_fileP.1 h.may).2.2.2.1 (by show k < 5; omega))
   · rw [f.put_hi k4]; exact h.may
 · by_cases k4 : k < 4
   · rw [f.put_lo k4]; exact Nd.setDirect_wf h.wf _ _
   · rw [f.put_hi k4]; exact h.wf
 · by_cases k4 : k < 4
   · rw [f.put_lo k4]; exact h.lok
   · rw [f.put_hi k4]; exact placesOk_unset h.lok (by rw [h.l16]; omega)
 · rw [f.put_index] at e
   by_cases k4 : k < 4
   · rw [f.put_lo k4]; exact h.hol e
   · rw [f.put_hi k4]
     show f.li.set (k - 4) (-1) = holes
     rw [h.hol e]; exact holes_set _
 · rw [hps l]
   split
   · exact .inl rfl
   · exact h.slot l hl
 · rw [hps a, hps b] at e
   rw [hps a] at hn
   by_cases ea : a = k
   · rw [if_pos ea] at hn; exact absurd rfl hn
   · rw [if_neg ea] at e hn
     by_cases eb : b = k
     · rw [if_pos eb] at e; exact absurd e hn
     · rw [if_neg eb] at e; exact h.inj a b ha hb e hn
 · rw [hps l] at hn ⊢
   rw [f.put_index]
   by_cases e : l = k
   · rw [if_pos e] at hn; exact absurd rfl hn
   · rw [if_neg e] at hn ⊢; exact h.ine l hl hn
 · rw [hps l]
   by_cases e : l = k
   · subst e
     rw [if_pos rfl, getB_no, zero_at, if_pos (by omega)]
   · rw [if_neg e, h.data l hl i hi, if_neg (by omega)]
def cutC (c : Nat → UInt8) (size k : Nat) : Nat → UInt8 := fun i => if size ≤ i ∧ i < k * 56 then 0 else c i
structure CutS (bs : List Blk) (s s' : Ws) (f0 : Fl) (c : Nat → UInt8) (size k : Nat) : Prop where
 mid : FMid (txV s'.L bs) f0 s'.f (cutC c size k)
 slot : ∀ l, s'.f.slot l = if size ≤ l * 56 ∧ l < k then -1 else s.f.slot l
 idx : s'.f.n.index = s.f.n.index
 sz : s'.f.n.size = s.f.n.size
 len : s'.L.length ≤ s.L.length + (if size < k * 56 then 1 else 0)
 lk : LK s.L → LK s'.L
theorem cuts_succ (bs : List Blk) (size k : Nat) (s : Ws) : cuts bs size (k + 1) s = cutF bs size (cuts bs size k s) k := by
 unfold cuts
 rw [List.range_succ, List.foldl_append]; rfl
theorem cuts_spec {bs : List Blk} {s : Ws} {f0 : Fl} {c : Nat → UInt8} (h : FMid (txV s.L bs) f0 s.f c) (hi : f0.n.index = -1 ∨ f0.n.index = s.f.n.index) (size : Nat) : ∀ k, k ≤ 20 → CutS bs s (cuts bs size k s) f0 c size k
 | 0, _ => ⟨h.to (h.cur.congr fun i _ => by unfold cutC; rw [if_neg (by omega)]), fun l => by rw [if_neg (by omega)]; rfl, rfl, rfl, by show s.L.length ≤ _; omega, id⟩
 | k + 1, hk => by
   have ih := cuts_spec h hi size k (by omega)
   rw [cuts_succ]
   obtain ⟨q, hq⟩ : ∃ q, q = cuts bs size k s := ⟨_, rfl⟩
   rw [← hq] at ih ⊢
   have h16 := ih.mid.cur.l16
   unfold cutF
   by_cases h0 : size - k * 56 = 0
   · rw [if_pos h0]
     refine ⟨ih.mid.to ((ih.mid.cur.drop (show k < 20 by omega)).congr fun i _ => ?_), fun l => ?_, by rw [← ih.idx]; exact Fl.put_index _ _ _, by rw [← ih.sz]; exact Fl.put_size _ _ _, ?_, ih.lk⟩
     · unfold cutC
       by_cases e : k * 56 ≤ i ∧ i < k * 56 + 56
       · rw [if_pos e, if_pos (by omega)]
       · rw [if_neg e]
         by_cases e2 : size ≤ i ∧ i < k * 56
         · rw [if_pos e2, if_pos (by omega)]
         · rw [if_neg e2, if_neg (by omega)]
     · show (q.f.put k (-1)).slot l = _
       rw [Fl.put_slot _ h16 (by omega), ih.slot l]
       by_cases e : l = k
       · subst e; rw [if_pos rfl, if_pos (by omega)]
       · rw [if_neg e]
         by_cases e2 : size ≤ l * 56 ∧ l < k
         · rw [if_pos e2, if_pos (by omega)]
         · rw [if_neg e2, if_neg (by omega)]
     · have := ih.len
       show q.L.length ≤ _
       split at this <;> split <;> omega
   · rw [if_neg h0]
     have hsl : q.f.slot k = s.f.slot k := by rw [ih.slot k, if_neg (by omega)]
     have hsame : ∀ l, (if size ≤ l * 56 ∧ l < k then (-1 : Int) else s.f.slot l) = if size ≤ l * 56 ∧ l < k + 1 then -1 else s.f.slot l := fun l => by
      by_cases e2 : size ≤ l * 56 ∧ l < k
      · rw [if_pos e2, if_pos (by omega)]
      · rw [if_neg e2, if_neg (by omega)]
     by_cases h1 : size - k * 56 < 56 ∧ q.f.slot k ≠ -1
     · rw [if_pos h1]
       obtain ⟨j, hj, j3, jl, jk⟩ := (ih.mid.cur.slot k (by omega)).resolve_left h1.2
       have jl' : j < bs.length := by rwa [txV_length] at jl
       have hcv := ih.mid.cur.cover (show k < 20 by omega) hj (size - k * 56) (List.replicate (56 - (size - k * 56)) 0) (by rw [List.length_replicate]; omega)
       have hne : f0.n.index ≠ (j : Int) := fun e => by
        rcases hi with e' | e'
        · rw [e'] at e; omega
        · exact ih.mid.cur.ine k (by omega) h1.2 (by rw [hj, ih.idx, ← e', e])
       have hkd : ((getB (txV q.L bs) (j : Int)).cover (size - k * 56) (List.replicate (56 - (size - k * 56)) 0)).kind = 4 := by show (getB _ _).kind = 4; rw [getB_at jl]; exact jk
       refine ⟨?_, fun l => ?_, ih.idx, ih.sz, ?_, fun hL => ?_⟩
       · show FMid (txV (putL q.L bs (q.f.slot k) ((getB (txV q.L bs) (q.f.slot k)).cover _ _)) bs) f0 q.f _
         rw [hj, txV_putL jl']
         refine ih.mid.set j3 hne hkd (hcv.congr fun i _ => ?_)
         rw [List.length_replicate]
         unfold cutC
         by_cases e : k * 56 + (size - k * 56) ≤ i ∧ i < k * 56 + (size - k * 56) + (56 - (size - k * 56))
         · rw [if_pos e, if_pos (by omega), List.getD_eq_getElem?_getD, List.getElem?_replicate]
           split <;> rfl
         · rw [if_neg e, if_neg (by omega), if_neg (by omega)]
       · show q.f.slot l = _
         rw [ih.slot l]; exact hsame l
       · have a1 := ih.len
         rw [if_neg (by omega)] at a1
         have a2 : (putL q.L bs (q.f.slot k) ((getB (txV q.L bs) (q.f.slot k)).cover (size - k * 56) (List.replicate (56 - (size - k * 56)) 0))).length ≤ q.L.length + 1 := putL_len _ _ _ _
         rw [if_pos (by omega)]
         show (putL q.L bs (q.f.slot k) _).length ≤ _
         omega
       · show LK (putL q.L bs (q.f.slot k) _)
         exact putL_LK (ih.lk hL) (by rw [hj, hkd]; omega)
     · rw [if_neg h1]
       refine ⟨ih.mid.to ?_, fun l => by rw [ih.slot l]; exact hsame l, ih.idx, ih.sz, ?_, ih.lk⟩
       · refine ih.mid.cur.congr fun i hi' => ?_
         unfold cutC
         by_cases e : size ≤ i ∧ i < (k + 1) * 56
         · rw [if_pos e, if_neg (by omega)]
           have hz : q.f.slot k = -1 := Classical.byContradiction fun e2 => h1 ⟨by omega, e2⟩
           have := ih.mid.cur.hole (show k < 20 by omega) hz (i := i - k * 56) (by omega)
           unfold cutC at this
           rw [show k * 56 + (i - k * 56) = i by omega, if_neg (by omega)] at this
           exact this
         · rw [if_neg e, if_neg (by omega)]
       · have := ih.len
         split at this <;> split <;> omega
theorem Fl.lean_slot (f : Fl) (k : Nat) : f.lean.slot k = f.slot k := by
 unfold Fl.lean; split <;> rfl
theorem Fl.lean_index (f : Fl) (h16 : f.li.length = 16) : (f.lean.n.index = -1 ∨ f.lean.n.index = f.n.index) ∧ (f.lean.n.index = -1 ↔ f.n.index = -1 ∨ ∀ l, 4 ≤ l → l < 20 → f.slot l = -1) := by
 have hall : f.li.all (· == -1) = true ↔ ∀ l, 4 ≤ l → l < 20 → f.slot l = -1 := by
  rw [List.all_eq_true]
  constructor
  · intro h l h4 hl
    rw [f.slot_hi (by omega), List.getD_eq_getElem?_getD, List.getElem?_eq_getElem (by omega)]
    have := h _ (List.getElem_mem (show l - 4 < f.li.length by omega))
    simpa using this
  · intro h x hx
    obtain ⟨k, hk, e⟩ := List.getElem_of_mem hx
    have := h (k + 4) (by omega) (by omega)
    rw [f.slot_hi (by omega), Nat.add_sub_cancel, List.getD_eq_getElem?_getD, List.getElem?_eq_getElem hk] at this
    have this' : f.li[k] = -1 := this
    rw [← e, this']; rfl
 unfold Fl.lean
 split
 · rename_i e
   exact ⟨.inl rfl, fun _ => .inr (hall.1 e), fun _ => rfl⟩
 · rename_i e
   exact ⟨.inr rfl, .inl, fun h => h.elim id fun h => absurd (hall.2 h) e⟩
theorem FS.lean {B : List Blk} {f : Fl} {c : Nat → UInt8} (h : FS B f c) : FS B f.lean c := by
 unfold Fl.lean
 split
 · rename_i e
   have hli : f.li = holes := by
    rw [List.all_eq_true] at e
    unfold holes
    exact List.eq_replicate_iff.2 ⟨h.l16, fun b hb => by have := e b hb; simpa using this⟩
   refine { h with may := mayNode_index h.may (placesOk_unset (mayNode_fileP.1 h.may).2.2.2.1 (by show 4 < 5; omega)), wf := ⟨h.wf.1, h.wf.2, h.wf.3⟩, hol := fun _ => hli, idx := .inl rfl, ine := fun k hk hn => hn }
 · exact h
structure CutR (bs : List Blk) (L L' : PL) (f f' : Fl) (c : Nat → UInt8) (size : Nat) : Prop where
 rest : FRest (txV L' bs) f' (cutC c size 20)
 slot : ∀ l, l < 20 → f'.slot l = if size ≤ l * 56 then -1 else f.slot l
 same : f'.n.index = -1 ∨ f'.n.index = f.n.index
 idx : f'.n.index = -1 ↔ f.n.index = -1 ∨ ∀ l, 4 ≤ l → l < 20 → f'.slot l = -1
 sz : f'.n.size = size
 len : L'.length ≤ L.length + 3
 lk : LK L → LK L'
theorem trunc_spec {bs : List Blk} {L : PL} (T : ML) {f : Fl} {c : Nat → UInt8} (h : FRest (txV L bs) f c) {size : Nat} (hs : size ≤ 1120) :
 ∃ (L' : PL) (f' : Fl), truncF bs L T 1 (size : Int) = (0, L') ∧ CutR bs L L' f f' c size := by
 have h1 : FMid (txV L bs) f (f.sized size) c := h.to (h.cur.sized (by omega) (by omega))
 have hC := cuts_spec (s := ⟨L, T, f.sized size⟩) h1 (.inr rfl) size 20 (Nat.le_refl _)
 obtain ⟨q, hq⟩ : ∃ q, q = cuts bs size 20 ⟨L, T, f.sized size⟩ := ⟨_, rfl⟩
 rw [← hq] at hC
 have h16 := hC.mid.cur.l16
 have hli := q.f.lean_index h16
 have hM : FMid (txV q.L bs) f q.f.lean (cutC c size 20) := hC.mid.to hC.mid.cur.lean
 have hsl : ∀ l, l < 20 → q.f.lean.slot l = if size ≤ l * 56 then -1 else f.slot l := fun l hl => by
  rw [Fl.lean_slot, hC.slot l]
  by_cases e : size ≤ l * 56
  · rw [if_pos e, if_pos ⟨e, hl⟩]
  · rw [if_neg e, if_neg (fun h => e h.1)]; rfl
 have hix : q.f.n.index = f.n.index := hC.idx
 refine ⟨keepF bs 1 ⟨q.L, q.T, q.f.lean⟩, q.f.lean, ?_, ⟨?_, hsl, ?_, ?_, ?_, ?_, fun hL => keepF_LK (hC.lk hL)⟩⟩
 · unfold truncF
   rw [FRest.flOf h]
   dsimp only
   rw [if_neg (by omega), if_neg (by omega), Int.toNat_natCast, ← hq]
 · have e : txV (keepF bs 1 ⟨q.L, q.T, q.f.lean⟩) bs = _ := keepF_V (s := ⟨q.L, q.T, q.f.lean⟩) hM
   rw [e]
   exact keep_rest hM
 · rw [← hix]; exact hli.1
 · rw [hli.2, hix]
   refine or_congr_right (forall_congr' fun l => ?_)
   rw [Fl.lean_slot]
 · have : q.f.lean.n.size = q.f.n.size := by unfold Fl.lean; split <;> rfl
   rw [this, hC.sz]; rfl
 · have a1 := keepF_len bs 1 ⟨q.L, q.T, q.f.lean⟩
   have a2 := hC.len
   have a3 : (keepF bs 1 ⟨q.L, q.T, q.f.lean⟩).length ≤ q.L.length + 2 := a1
   have a4 : q.L.length ≤ L.length + 1 := by
    have : (⟨L, T, f.sized size⟩ : Ws).L.length = L.length := rfl
    rw [this] at a2
    split at a2 <;> omega
   omega
theorem leftT_congr {B B' : List Blk} {T T' : ML} (h0 : ∀ k ∈ keysL T, 0 ≤ k) (h0' : ∀ k ∈ keysL T', 0 ≤ k) (hl : B.length = B'.length) (hu : ∀ j, j < B.length → (inUse B T (j : Int) ↔ inUse B' T' (j : Int))) : leftT B T = leftT B' T' := by
 unfold leftT
 rw [(used_setsT B T h0).eq (((hl ▸ used_setsT B' T' h0') : Sets (usedT B' T') B.length (inUse B' T')).iff fun j hj => (hu j hj).symm)]
end
end Go.Proofs.YtbbnejehglonjaaGreat
