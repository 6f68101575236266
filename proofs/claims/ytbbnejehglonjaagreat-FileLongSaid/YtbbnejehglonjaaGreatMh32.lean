/- DERIVED. Contracts and laws that the proofs of this seat share, part 32 of 36: FiF FiO FiP. -/
import Derived.Test.YtbbnejehglonjaaGreatMh00
import Derived.Test.YtbbnejehglonjaaGreatMh26
import Derived.Test.YtbbnejehglonjaaGreatMh27
import Derived.Test.YtbbnejehglonjaaGreatMh30
import Derived.Test.YtbbnejehglonjaaGreatMh31
namespace Go.Proofs.YtbbnejehglonjaaGreat
set_option maxHeartbeats 8000000
set_option maxRecDepth 100000
set_option linter.unusedSimpArgs false
set_option linter.unusedVariables false
section
open Go.RowKit

theorem holes_set (i : Nat) : holes.set i (-1) = holes := by
 unfold holes
 apply List.ext_getElem?
 intro j
 rw [List.getElem?_set, List.getElem?_replicate]
 by_cases e : i = j
 · subst e
   rw [if_pos rfl, List.length_replicate]
 · rw [if_neg e]
theorem FS.drop {B : List Blk} {f : Fl} {c : Nat → UInt8} (h : FS B f c) {k : Nat} (hk : k < 20) : FS B (f.put k (-1)) (fun i => if k * 56 ≤ i ∧ i < k * 56 + 56 then 0 else c i) := by
 have hps := fun l => f.put_slot (l := l) h.l16 hk (-1)
 refine ⟨?_, ?_, by rw [f.put_16]; exact h.l16, ?_, fun e => ?_, fun l hl => ?_, by rw [f.put_index]; exact h.idx, fun a b ha hb e hn => ?_, fun l hl hn => ?_, fun l hl i hi => ?_⟩
 · by_cases k4 : k < 4
   · rw [f.put_lo k4]
     exact mayNode_direct h.may k4 (placesOk_unset (mayNode_fileP.1 h.may).2.2.2.1 (by show k < 5; omega))
   · rw [f.put_hi k4]; exact h.may
 · by_cases k4 : k < 4
   · rw [f.put_lo k4]; exact Nd.setDirect_wf h.wf _ _
   · rw [f.put_hi k4]; exact h.wf
 · by_cases k4 : k < 4
   · rw [f.put_lo k4]; exact h.lok
   · rw [f.put_hi k4]; exact placesOk_unset h.lok (by rw [h.l16]; omega)
 · rw [f.put_index] at e
   by_cases k4 : k < 4
   · rw [f.put_lo k4]; exact h.hol e
   · rw [f.put_hi k4]
     show f.li.set (k - 4) (-1) = holes
     rw [h.hol e]; exact holes_set _
 · rw [hps l]
   split
   · exact .inl rfl
   · exact h.slot l hl
 · rw [hps a, hps b] at e
   rw [hps a] at hn
   by_cases ea : a = k
   · rw [if_pos ea] at hn; exact absurd rfl hn
   · rw [if_neg ea] at e hn
     by_cases eb : b = k
     · rw [if_pos eb] at e; exact absurd e hn
     · rw [if_neg eb] at e; exact h.inj a b ha hb e hn
 · rw [hps l] at hn ⊢
   rw [f.put_index]
   by_cases e : l = k
   · rw [if_pos e] at hn; exact absurd rfl hn
   · rw [if_neg e] at hn ⊢; exact h.ine l hl hn
 · rw [hps l]
   by_cases e : l = k
   · subst e
     rw [if_pos rfl, getB_no, zero_at, if_pos (by omega)]
   · rw [if_neg e, h.data l hl i hi, if_neg (by omega)]
def cutC (c : Nat → UInt8) (size k : Nat) : Nat → UInt8 := fun i => if size ≤ i ∧ i < k * 56 then 0 else c i
structure CutS (bs : List Blk) (s s' : Ws) (f0 : Fl) (c : Nat → UInt8) (size k : Nat) : Prop where
 mid : FMid (txV s'.L bs) f0 s'.f (cutC c size k)
 slot : ∀ l, s'.f.slot l = if size ≤ l * 56 ∧ l < k then -1 else s.f.slot l
 idx : s'.f.n.index = s.f.n.index
 sz : s'.f.n.size = s.f.n.size
 len : s'.L.length ≤ s.L.length + (if size < k * 56 then 1 else 0)
 lk : LK s.L → LK s'.L
theorem cuts_succ (bs : List Blk) (size k : Nat) (s : Ws) : cuts bs size (k + 1) s = cutF bs size (cuts bs size k s) k := by
 unfold cuts
 rw [List.range_succ, List.foldl_append]; rfl
theorem cuts_spec {bs : List Blk} {s : Ws} {f0 : Fl} {c : Nat → UInt8} (h : FMid (txV s.L bs) f0 s.f c) (hi : f0.n.index = -1 ∨ f0.n.index = s.f.n.index) (size : Nat) : ∀ k, k ≤ 20 → CutS bs s (cuts bs size k s) f0 c size k
 | 0, _ => ⟨h.to (h.cur.congr fun i _ => by unfold cutC; rw [if_neg (by omega)]), fun l => by rw [if_neg (by omega)]; rfl, rfl, rfl, by show s.L.length ≤ _; omega, id⟩
 | k + 1, hk => by
   have ih := cuts_spec h hi size k (by omega)
   rw [cuts_succ]
   obtain ⟨q, hq⟩ : ∃ q, q = cuts bs size k s := ⟨_, rfl⟩
   rw [← hq] at ih ⊢
   have h16 := ih.mid.cur.l16
   unfold cutF
   by_cases h0 : size - k * 56 = 0
   · rw [if_pos h0]
     refine ⟨ih.mid.to ((ih.mid.cur.drop (show k < 20 by omega)).congr fun i _ => ?_), fun l => ?_, by rw [← ih.idx]; exact Fl.put_index _ _ _, by rw [← ih.sz]; exact Fl.put_size _ _ _, ?_, ih.lk⟩
     · unfold cutC
       by_cases e : k * 56 ≤ i ∧ i < k * 56 + 56
       · rw [if_pos e, if_pos (by omega)]
       · rw [if_neg e]
         by_cases e2 : size ≤ i ∧ i < k * 56
         · rw [if_pos e2, if_pos (by omega)]
         · rw [if_neg e2, if_neg (by omega)]
     · show (q.f.put k (-1)).slot l = _
       rw [Fl.put_slot _ h16 (by omega), ih.slot l]
       by_cases e : l = k
       · subst e; rw [if_pos rfl, if_pos (by omega)]
       · rw [if_neg e]
         by_cases e2 : size ≤ l * 56 ∧ l < k
         · rw [if_pos e2, if_pos (by omega)]
         · rw [if_neg e2, if_neg (by omega)]
     · have := ih.len
       show q.L.length ≤ _
       split at this <;> split <;> omega
   · rw [if_neg h0]
     have hsl : q.f.slot k = s.f.slot k := by rw [ih.slot k, if_neg (by omega)]
     have hsame : ∀ l, (if size ≤ l * 56 ∧ l < k then (-1 : Int) else s.f.slot l) = if size ≤ l * 56 ∧ l < k + 1 then -1 else s.f.slot l := fun l => by
      by_cases e2 : size ≤ l * 56 ∧ l < k
      · rw [if_pos e2, if_pos (by omega)]
      · rw [if_neg e2, if_neg (by omega)]
     by_cases h1 : size - k * 56 < 56 ∧ q.f.slot k ≠ -1
     · rw [if_pos h1]
       obtain ⟨j, hj, j3, jl, jk⟩ := (ih.mid.cur.slot k (by omega)).resolve_left h1.2
       have jl' : j < bs.length := by rwa [txV_length] at jl
       have hcv := ih.mid.cur.cover (show k < 20 by omega) hj (size - k * 56) (List.replicate (56 - (size - k * 56)) 0) (by rw [List.length_replicate]; omega)
       have hne : f0.n.index ≠ (j : Int) := fun e => by
        rcases hi with e' | e'
        · rw [e'] at e; omega
        · exact ih.mid.cur.ine k (by omega) h1.2 (by rw [hj, ih.idx, ← e', e])
       have hkd : ((getB (txV q.L bs) (j : Int)).cover (size - k * 56) (List.replicate (56 - (size - k * 56)) 0)).kind = 4 := by show (getB _ _).kind = 4; rw [getB_at jl]; exact jk
       refine ⟨?_, fun l => ?_, ih.idx, ih.sz, ?_, fun hL => ?_⟩
       · show FMid (txV (putL q.L bs (q.f.slot k) ((getB (txV q.L bs) (q.f.slot k)).cover _ _)) bs) f0 q.f _
         rw [hj, txV_putL jl']
         refine ih.mid.set j3 hne hkd (hcv.congr fun i _ => ?_)
         rw [List.length_replicate]
         unfold cutC
         by_cases e : k * 56 + (size - k * 56) ≤ i ∧ i < k * 56 + (size - k * 56) + (56 - (size - k * 56))
         · rw [if_pos e, if_pos (by omega), List.getD_eq_getElem?_getD, List.getElem?_replicate]
           split <;> rfl
         · rw [if_neg e, if_neg (by omega), if_neg (by omega)]
       · show q.f.slot l = _
         rw [ih.slot l]; exact hsame l
       · have a1 := ih.len
         rw [if_neg (by omega)] at a1
         have a2 : (putL q.L bs (q.f.slot k) ((getB (txV q.L bs) (q.f.slot k)).cover (size - k * 56) (List.replicate (56 - (size - k * 56)) 0))).length ≤ q.L.length + 1 := putL_len _ _ _ _
         rw [if_pos (by omega)]
         show (putL q.L bs (q.f.slot k) _).length ≤ _
         omega
       · show LK (putL q.L bs (q.f.slot k) _)
         exact putL_LK (ih.lk hL) (by rw [hj, hkd]; omega)
     · rw [if_neg h1]
       refine ⟨ih.mid.to ?_, fun l => by rw [ih.slot l]; exact hsame l, ih.idx, ih.sz, ?_, ih.lk⟩
       · refine ih.mid.cur.congr fun i hi' => ?_
         unfold cutC
         by_cases e : size ≤ i ∧ i < (k + 1) * 56
         · rw [if_pos e, if_neg (by omega)]
           have hz : q.f.slot k = -1 := Classical.byContradiction fun e2 => h1 ⟨by omega, e2⟩
           have := ih.mid.cur.hole (show k < 20 by omega) hz (i := i - k * 56) (by omega)
           unfold cutC at this
           rw [show k * 56 + (i - k * 56) = i by omega, if_neg (by omega)] at this
           exact this
         · rw [if_neg e, if_neg (by omega)]
       · have := ih.len
         split at this <;> split <;> omega
theorem Fl.lean_slot (f : Fl) (k : Nat) : f.lean.slot k = f.slot k := by
 unfold Fl.lean; split <;> rfl
theorem Fl.lean_index (f : Fl) (h16 : f.li.length = 16) : (f.lean.n.index = -1 ∨ f.lean.n.index = f.n.index) ∧ (f.lean.n.index = -1 ↔ f.n.index = -1 ∨ ∀ l, 4 ≤ l → l < 20 → f.slot l = -1) := by
 have hall : f.li.all (· == -1) = true ↔ ∀ l, 4 ≤ l → l < 20 → f.slot l = -1 := by
  rw [List.all_eq_true]
  constructor
  · intro h l h4 hl
    rw [f.slot_hi (by omega), List.getD_eq_getElem?_getD, List.getElem?_eq_getElem (by omega)]
    have := h _ (List.getElem_mem (show l - 4 < f.li.length by omega))
    simpa using this
  · intro h x hx
    obtain ⟨k, hk, e⟩ := List.getElem_of_mem hx
    have := h (k + 4) (by omega) (by omega)
    rw [f.slot_hi (by omega), Nat.add_sub_cancel, List.getD_eq_getElem?_getD, List.getElem?_eq_getElem hk] at this
    have this' : f.li[k] = -1 := this
    rw [← e, this']; rfl
 unfold Fl.lean
 split
 · rename_i e
   exact ⟨.inl rfl, fun _ => .inr (hall.1 e), fun _ => rfl⟩
 · rename_i e
   exact ⟨.inr rfl, .inl, fun h => h.elim id fun h => absurd (hall.2 h) e⟩
theorem FS.lean {B : List Blk} {f : Fl} {c : Nat → UInt8} (h : FS B f c) : FS B f.lean c := by
 unfold Fl.lean
 split
 · rename_i e
   have hli : f.li = holes := by
    rw [List.all_eq_true] at e
    unfold holes
    exact List.eq_replicate_iff.2 ⟨h.l16, fun b hb => by have := e b hb; simpa using this⟩
   refine { h with may := mayNode_index h.may (placesOk_unset (mayNode_fileP.1 h.may).2.2.2.1 (by show 4 < 5; omega)), wf := ⟨h.wf.1, h.wf.2, h.wf.3⟩, hol := fun _ => hli, idx := .inl rfl, ine := fun k hk hn => hn }
 · exact h
structure CutR (bs : List Blk) (L L' : PL) (f f' : Fl) (c : Nat → UInt8) (size : Nat) : Prop where
 rest : FRest (txV L' bs) f' (cutC c size 20)
 slot : ∀ l, l < 20 → f'.slot l = if size ≤ l * 56 then -1 else f.slot l
 same : f'.n.index = -1 ∨ f'.n.index = f.n.index
 idx : f'.n.index = -1 ↔ f.n.index = -1 ∨ ∀ l, 4 ≤ l → l < 20 → f'.slot l = -1
 sz : f'.n.size = size
 len : L'.length ≤ L.length + 3
 lk : LK L → LK L'
theorem trunc_spec {bs : List Blk} {L : PL} (T : ML) {f : Fl} {c : Nat → UInt8} (h : FRest (txV L bs) f c) {size : Nat} (hs : size ≤ 1120) :
 ∃ (L' : PL) (f' : Fl), truncF bs L T 1 (size : Int) = (0, L') ∧ CutR bs L L' f f' c size := by
 have h1 : FMid (txV L bs) f (f.sized size) c := h.to (h.cur.sized (by omega) (by omega))
 have hC := cuts_spec (s := ⟨L, T, f.sized size⟩) h1 (.inr rfl) size 20 (Nat.le_refl _)
 obtain ⟨q, hq⟩ : ∃ q, q = cuts bs size 20 ⟨L, T, f.sized size⟩ := ⟨_, rfl⟩
 rw [← hq] at hC
 have h16 := hC.mid.cur.l16
 have hli := q.f.lean_index h16
 have hM : FMid (txV q.L bs) f q.f.lean (cutC c size 20) := hC.mid.to hC.mid.cur.lean
 have hsl : ∀ l, l < 20 → q.f.lean.slot l = if size ≤ l * 56 then -1 else f.slot l := fun l hl => by
  rw [Fl.lean_slot, hC.slot l]
  by_cases e : size ≤ l * 56
  · rw [if_pos e, if_pos ⟨e, hl⟩]
  · rw [if_neg e, if_neg (fun h => e h.1)]; rfl
 have hix : q.f.n.index = f.n.index := hC.idx
 refine ⟨keepF bs 1 ⟨q.L, q.T, q.f.lean⟩, q.f.lean, ?_, ⟨?_, hsl, ?_, ?_, ?_, ?_, fun hL => keepF_LK (hC.lk hL)⟩⟩
 · unfold truncF
   rw [FRest.flOf h]
   dsimp only
   rw [if_neg (by omega), if_neg (by omega), Int.toNat_natCast, ← hq]
 · have e : txV (keepF bs 1 ⟨q.L, q.T, q.f.lean⟩) bs = _ := keepF_V (s := ⟨q.L, q.T, q.f.lean⟩) hM
   rw [e]
   exact keep_rest hM
 · rw [← hix]; exact hli.1
 · rw [hli.2, hix]
   refine or_congr_right (forall_congr' fun l => ?_)
   rw [Fl.lean_slot]
 · have : q.f.lean.n.size = q.f.n.size := by unfold Fl.lean; split <;> rfl
   rw [this, hC.sz]; rfl
 · have a1 := keepF_len bs 1 ⟨q.L, q.T, q.f.lean⟩
   have a2 := hC.len
   have a3 : (keepF bs 1 ⟨q.L, q.T, q.f.lean⟩).length ≤ q.L.length + 2 := a1
   have a4 : q.L.length ≤ L.length + 1 := by
    have : (⟨L, T, f.sized size⟩ : Ws).L.length = L.length := rfl
    rw [this] at a2
    split at a2 <;> omega
   omega
end
section
open Go.RowKit
attribute [local irreducible] Calls

theorem trunc1_any (x : Int) (w : World) : Calls Tryz.prog 90 #[.int .i64 x] w fun e w' => e = .returned (.bool (x != -1)) ∧ w' = w := by
 go_enter Tryz.func90, Tryz.ntmps90
 go_wp2_with fail
 go_ret
 exact ⟨rfl, rfl⟩
theorem idxInt_any {w : World} {B : Nat} {g cap : Nat} {l : List Int} (h : IRow w B (.slice (some ⟨g, 0, none⟩) l.length cap) l) (hl : l.length ≤ 1000) :
 Calls Tryz.prog 150 #[.slice (some ⟨g, 0, none⟩) l.length cap, .func (.func 90) #[] #[]] w fun e w' => ∃ r : Int, e = .returned (.int .i64 r) ∧ ((0 ≤ r) ↔ l.all (· == -1) = false) ∧ w' = w := by
 have H0 := Lib.hid h
 clear h
 go_enter Tryz.func150, Tryz.ntmps150
 go_wp2_with fail
 go_loopw [8] (fun q wr => ∃ k : Nat, k ≤ l.length ∧ q = .int .i64 k ∧ (l.take k).all (· == -1) = true ∧ wr = w) (fun q _ => l.length - (Go.RowKit.intOf q).toNat)
 case atStart => exact ⟨0, Nat.zero_le _, rfl, rfl, rfl⟩
 case round =>
  obtain ⟨k, hk, rfl, hno, hwr⟩ := hrel
  subst hwr
  by_cases hlt : k < l.length
  · have hc := IRow.get H0.out k hlt
    have hlti : (k : Int) < (l.length : Int) := by omega
    have hk2 : (k : Int) < 1000 := by omega
    obtain ⟨x, hx⟩ : ∃ x, x = l.getD k 0 := ⟨_, rfl⟩
    rw [← hx] at hc
    have ht : l.take (k + 1) = l.take k ++ [x] := by
     rw [List.take_succ_eq_append_getElem hlt, hx, List.getD_eq_getElem?_getD, List.getElem?_eq_getElem hlt]; rfl
    have HX := Lib.hid (And.intro hno (And.intro hx ht))
    clear hno hx ht
    by_cases hp : x = -1
    · have hp' : (x != -1) = false := by simpa using hp
      have Hp := Lib.hid hp
      clear hp
      go_wp2_with (go_at_call 90; refine (trunc1_any x _).mono ?_; rintro e w2 ⟨rfl, hw2⟩; obtain rfl := hw2.symm)
      go_roundw
      case rel => exact ⟨k + 1, by omega, by go_num, by rw [HX.out.2.2, List.all_append, HX.out.1, Hp.out]; rfl, trivial⟩
      case measure => simp [Go.RowKit.intOf]; omega
    · have hp' : (x != -1) = true := by simpa using hp
      have Hp := Lib.hid hp
      clear hp
      go_wp2_with (go_at_call 90; refine (trunc1_any x _).mono ?_; rintro e w2 ⟨rfl, hw2⟩; obtain rfl := hw2.symm)
      refine bodyPost_ret (results_one rfl (resOne_tmp _ _ _)) rfl ?_
      refine ⟨(k : Int), rfl, ⟨fun _ => ?_, fun _ => by omega⟩, rfl⟩
      rw [List.all_eq_false]
      refine ⟨x, ?_, by have := Hp.out; simpa using this⟩
      rw [HX.out.2.1, List.getD_eq_getElem?_getD, List.getElem?_eq_getElem hlt]
      exact List.getElem_mem _
  · obtain rfl : k = l.length := by omega
    have HX := Lib.hid hno
    clear hno
    go_wp2_with fail
    refine bodyPost_ret (results_one rfl (resOne_tmp _ _ _)) rfl ?_
    refine ⟨-1, rfl, ⟨fun e => by omega, fun e => ?_⟩, rfl⟩
    have := HX.out
    rw [List.take_of_length_le (Nat.le_refl _), e] at this
    cases this
theorem hasInt_any {w : World} {B : Nat} {g cap : Nat} {l : List Int} (h : IRow w B (.slice (some ⟨g, 0, none⟩) l.length cap) l) (hl : l.length ≤ 1000) :
 Calls Tryz.prog 89 #[.slice (some ⟨g, 0, none⟩) l.length cap, .func (.func 90) #[] #[]] w fun e w' => e = .returned (.bool (!l.all (· == -1))) ∧ w' = w := by
 have HI := Lib.hid (idxInt_any h hl)
 clear h
 cases hall : l.all (· == -1) with
 | true =>
   rw [hall] at HI
   clear hall
   go_enter Tryz.func89, Tryz.ntmps89
   go_wp2_with (go_at_call 150; refine HI.out.mono ?_; rintro e w2 ⟨r, rfl, hr, hw2⟩; obtain rfl := hw2.symm; have hr' : ¬ (0 ≤ r) := fun e => by have := hr.1 e; cases this)
   go_ret
   exact ⟨rfl, rfl⟩
 | false =>
   rw [hall] at HI
   clear hall
   go_enter Tryz.func89, Tryz.ntmps89
   go_wp2_with (go_at_call 150; refine HI.out.mono ?_; rintro e w2 ⟨r, rfl, hr, hw2⟩; obtain rfl := hw2.symm; have hr' : 0 ≤ r := hr.2 rfl)
   go_ret
   exact ⟨rfl, rfl⟩
section
variable {w w' : World} {Sd : Nat → Prop} {t v mp mt : Nat} {L : PL} {T : ML} {d reg : Nat} {s : Sh} {gb cap m : Nat} {st : VSt} {c : Nat}
structure TrS (w wr : World) (Sd : Nat → Prop) (t v mp mt d reg : Nat) (sh : Sh) (gb cap m : Nat) (st : VSt) (c : Nat) (F gi ci : Nat) (a : Int) (T : ML) (q : Ws) : Prop where
 tx : TxV wr Sd t v mp mt q.L T d reg sh gb cap m st c
 fl : FlAt wr w.heap.size F t a q.f gi ci
 kp : Keeps (fun r => r = mp ∨ r = mt) w wr
 wf : q.f.n.wf
theorem fTrunc_any (H : TxV w Sd t v mp mt L T d reg s gb cap m st c) (a size : Int) :
 Calls Tryz.prog 37 #[.pointer (some ⟨t, 0, none⟩), .int .i64 a, .int .i64 size] w fun e w' => e = .returned (.int .i64 (truncF st.bs L T a size).1) ∧
  TxV w' Sd t v mp mt (truncF st.bs L T a size).2 T d reg s gb cap m st c ∧ Keeps (fun q => q = mp ∨ q = mt) w w' := by
 have HO := Lib.hid (fOf_any H a)
 have hS : ∀ q, Sd q → q < w.heap.size := fun q hq => H.vol.dev.lt q hq
 have H0 := Lib.hid (And.intro H hS)
 obtain ⟨o, hf⟩ : ∃ o, o = flOf (txV L st.bs) a := ⟨_, rfl⟩
 rw [← hf] at HO
 unfold truncF
 rw [← hf]
 clear H hS
 cases o with
 | none =>
   dsimp only at HO ⊢
   clear hf
   go_enter Tryz.func37, Tryz.ntmps37
   go_wp2_with (go_at_call 84; refine HO.out.mono ?_; rintro e w1 ⟨b1, rfl⟩)
   refine bodyPost_ret (results_one rfl (resOne_tmp _ _ _)) rfl ?_
   exact ⟨rfl, H0.out.1.below b1, Keeps.of_below b1⟩
 | some f =>
   dsimp only at HO ⊢
   by_cases h1 : size < 0
   · rw [if_pos h1]
     dsimp only
     clear hf
     go_enter Tryz.func37, Tryz.ntmps37
     go_wp2_with (go_at_call 84; refine HO.out.mono ?_; rintro e w1 ⟨b1, F, gi, ci, rfl, hF⟩)
     refine bodyPost_ret (results_one rfl (resOne_tmp _ _ _)) rfl ?_
     exact ⟨rfl, H0.out.1.below b1, Keeps.of_below b1⟩
   · by_cases h2 : 1120 < size
     · rw [if_neg h1, if_pos h2]
       dsimp only
       clear hf
       go_enter Tryz.func37, Tryz.ntmps37
       go_wp2_with (go_at_call 84; refine HO.out.mono ?_; rintro e w1 ⟨b1, F, gi, ci, rfl, hF⟩)
       refine bodyPost_ret (results_one rfl (resOne_tmp _ _ _)) rfl ?_
       exact ⟨rfl, H0.out.1.below b1, Keeps.of_below b1⟩
     · rw [if_neg h1, if_neg h2]
       obtain ⟨z, rfl⟩ : ∃ z : Nat, size = (z : Int) := ⟨size.toNat, by omega⟩
       have hz : (z : Int) ≤ 1120 := by omega
       rw [Int.toNat_natCast]
       have hfw := (flOf_may hf.symm).2
       obtain ⟨s0, hs0⟩ : ∃ s0 : Ws, s0 = ⟨L, T, f.sized (z : Int)⟩ := ⟨_, rfl⟩
       rw [← hs0]
       dsimp only
       have HM := Lib.hid (And.intro hfw hs0)
       clear hf hfw hs0 h1 h2
       go_enter Tryz.func37, Tryz.ntmps37
       go_upto_region 8 with (go_at_call 84; refine HO.out.mono ?_; rintro e w1 ⟨b1, F, gi, ci, rfl, hF⟩)
       have e4 : w1.cell? ⟨F, 4, none⟩ = some (.int .i64 f.n.size) := hF.c 4
       have z4 : w1.frozen? ⟨F, 4, none⟩ = false := free_obj hF.obj 4
       have hF2 := hF.putSize (z : Int)
       have hk2 : Keeps (fun r => r = F ∨ r = gi) w1 (w1.setCell ⟨F, 4, none⟩ (.int .i64 (z : Int))) := Keeps.setCell _ _ _ (.inl rfl)
       have hT2 := (H0.out.1.below b1).fl hF H0.out.2 hk2
       have hK2 := (Keeps.of_below (S := fun q => q = mp ∨ q = mt) b1).fl (hk2.mono (S' := fS F gi mp mt) fun _ _ e => e.elim .inl fun e => .inr (.inl e)) hF.ge hF.gi_ge
       obtain ⟨w2, hw2⟩ : ∃ w2, w2 = w1.setCell ⟨F, 4, none⟩ (.int .i64 (z : Int)) := ⟨_, rfl⟩
       rw [← hw2] at hF2 hk2 hT2 hK2
       have hS0 : TrS w w2 Sd t v mp mt d reg s gb cap m st c F gi ci a T (cuts st.bs z 0 s0) := by
        have : cuts st.bs z 0 s0 = s0 := rfl
        rw [this, HM.out.2]
        exact ⟨hT2, hF2, hK2, ⟨HM.out.1.1, HM.out.1.2, HM.out.1.3⟩⟩
       have H2 := Lib.hid hS0
       go_upto_region 9 with fail
       rw [← hw2]
       clear hS0 hw2 hF2 hk2 hT2 hK2 hF b1 e4 z4
       go_wp2_with fail
       go_loopw [34] (fun s34 wr => ∃ k : Nat, k ≤ 20 ∧ s34 = .int .i64 k ∧ TrS w wr Sd t v mp mt d reg s gb cap m st c F gi ci a T (cuts st.bs z k s0)) (fun q _ => 20 - (Go.RowKit.intOf q).toNat)
       case atStart => exact ⟨0, by decide, rfl, H2.out⟩
       case round =>
        obtain ⟨k, hk, rfl, hst⟩ := hrel
        have HS := Lib.hid hst
        clear hst
        by_cases hlt : k < 20
        · have hlti : (k : Int) < 20 := by omega
          have hcut := cuts_succ st.bs z k s0
          obtain ⟨q, hq⟩ : ∃ q, q = cuts st.bs z k s0 := ⟨_, rfl⟩
          rw [← hq] at HS hcut
          have HSl := Lib.hid (slot_any HS.out.fl hlt)
          obtain ⟨g, o, hA, hgF, hcs⟩ := HS.out.fl.slotL hlt
          rw [hA] at HSl
          have hfz : wr.frozen? ⟨g, o, none⟩ = false := by have := slotA_free HS.out.fl k; rwa [hA] at this
          obtain ⟨r, hr⟩ : ∃ r, r = z - k * 56 := ⟨_, rfl⟩
          have hmax : max ((z : Int) - (k : Int) * 56) 0 = (r : Int) := by omega
          have v1 : IntKind.i64.wrap ((k : Int) * 56) = (k : Int) * 56 := IntWalk.i64_in _ (by omega)
          have v2 : IntKind.i64.wrap ((z : Int) - (k : Int) * 56) = (z : Int) - (k : Int) * 56 := IntWalk.i64_in _ (by omega)
          unfold cutF at hcut
          rw [← hr] at hcut
          have hgk : g = F ∨ g = gi := hgF
          clear hgF
          by_cases hr0 : r = 0
          · rw [if_pos hr0] at hcut
            have hmax0 : max ((z : Int) - (k : Int) * 56) 0 = 0 := by omega
            have hF5 := HS.out.fl.put hlt (-1)
            have hk5 : Keeps (fun q => q = F ∨ q = gi) wr (wr.setCell ⟨g, o, none⟩ (.int .i64 (-1))) := Keeps.setCell _ _ _ hgk
            have hT5 := HS.out.tx.fl HS.out.fl H0.out.2 hk5
            have hK5 := HS.out.kp.fl (hk5.mono (S' := fS F gi mp mt) fun _ _ e => e.elim .inl fun e => .inr (.inl e)) HS.out.fl.ge HS.out.fl.gi_ge
            rw [hA] at hF5
            have H5 := Lib.hid (show TrS w (wr.setCell ⟨g, o, none⟩ (.int .i64 (-1))) Sd t v mp mt d reg s gb cap m st c F gi ci a T (cuts st.bs z (k + 1) s0) by
             rw [hcut]
             exact ⟨hT5, hF5, hK5, Fl.put_wf HS.out.wf _ _⟩)
            clear hF5 hk5 hT5 hK5 hcut hA hgk hr hmax hr0 hq
            go_wp2_with (go_at_call 88; refine HSl.out.mono ?_; rintro e w3 ⟨rfl, hw3⟩; obtain rfl := hw3.symm)
            go_roundw
            case rel => exact ⟨k + 1, by omega, by go_num, H5.out⟩
            case measure => simp [Go.RowKit.intOf]; omega
          · rw [if_neg hr0] at hcut
            have hrn : ¬ ((r : Int) = 0) := by omega
            by_cases hr56 : r < 56
            · have hri : (r : Int) < 56 := by omega
              by_cases hs1 : q.f.slot k = -1
              · rw [if_neg (fun e => e.2 hs1)] at hcut
                have hs1' : (q.f.slot k != -1) = false := by simpa using hs1
                have H5 := Lib.hid (show TrS w wr Sd t v mp mt d reg s gb cap m st c F gi ci a T (cuts st.bs z (k + 1) s0) by rw [hcut]; exact HS.out)
                clear hcut hA hgk hr hr0 hq hs1
                go_wp2_with (go_at_call 88; refine HSl.out.mono ?_; rintro e w3 ⟨rfl, hw3⟩; obtain rfl := hw3.symm)
                go_roundw
                case rel => exact ⟨k + 1, by omega, by go_num, H5.out⟩
                case measure => simp [Go.RowKit.intOf]; omega
              · rw [if_pos ⟨hr56, hs1⟩] at hcut
                have hs1' : (q.f.slot k != -1) = true := by simpa using hs1
                have HG := Lib.hid (HS.out.tx.get (q.f.slot k))
                obtain ⟨sb, hsb⟩ : ∃ sb, sb = getB (txV q.L st.bs) (q.f.slot k) := ⟨_, rfl⟩
                rw [← hsb] at HG
                have HC := Lib.hid (And.intro hcut (And.intro hsb (And.intro hr56 hr0)))
                clear hcut hr hr0 hq hs1 hsb
                go_upto_region 18 with (first
                 | (go_at_call 88; refine HSl.out.mono ?_; rintro e w3 ⟨rfl, hw3⟩; obtain rfl := hw3.symm)
                 | (go_at_call 26; refine HG.out.mono ?_; rintro e w6 ⟨rfl, b6⟩))
                obtain ⟨KB, hKe⟩ : ∃ KB, KB = w6.heap.size := ⟨_, rfl⟩
                obtain ⟨w7, hw7⟩ : ∃ w7, w7 = w6.alloc (.cells sb.cells 37) := ⟨_, rfl⟩
                have hb7 : Below wr.heap.size wr w7 := grow_trans b6 (below_alloc hw7)
                have hX7 : BlkAt w7 KB sb := by rw [hKe]; exact obj_alloc hw7
                have hlt5 : wr.heap.size ≤ KB := by rw [hKe]; exact b6.size
                rw [← hw7, ← hKe]
                have hbody := slice_bodyL KB r hr56
                obtain ⟨cb, hcb⟩ : ∃ cb, cb = sb.cover r (List.replicate (56 - r) 0) := ⟨_, rfl⟩
                have hn0 : 0 < 56 - r := by omega
                have hn1 : r + (56 - r) ≤ 56 := by omega
                have H7 := Lib.hid (And.intro hb7 (And.intro hX7 (And.intro hlt5 (And.intro hcb (And.intro hn0 hn1)))))
                clear hb7 hX7 hlt5 hcb hw7 hKe b6 hn0 hn1 hcs hfz
                have hOnce : True := trivial
                go_upto_region 19 with (clear hOnce; refine list_clearAt rfl _ rfl rfl H7.out.2.1 H7.out.2.2.2.2.1 H7.out.2.2.2.2.2 ?_; intro w8 hw8; rw [← H7.out.2.2.2.1] at hw8; have H8 := Lib.hid (And.intro (show BlkAt w8 KB cb by rw [hw8]; exact H7.out.2.1.setRow cb) (show Below wr.heap.size wr w8 by rw [hw8]; exact H7.out.1.setRow H7.out.2.2.1 _)); clear hw8)
                have i1 := H8.out.1.has
                have i2 := H8.out.1.row
                have hF8 := HS.out.fl.below H8.out.2
                have hT8 := HS.out.tx.below H8.out.2
                have hcs8 : w8.cell? ⟨g, o, none⟩ = some (.int .i64 (q.f.slot k)) := by have := hF8.slotC hlt; rwa [hA] at this
                have H9 := Lib.hid (And.intro hF8 hT8)
                clear hF8 hT8 hbody
                refine wp_region_F [5] (S := fun w' => w'.cell? ⟨g, o, none⟩ = some (.int .i64 (q.f.slot k)) ∧ hasBlk w' KB = true ∧ rowAt w' KB = some cb.cells ∧ True) (by kernel_rfl) (⟨hcs8, i1, i2, trivial⟩) (fun hHeld => ?_)
                show wpAnyF _ _ _ _ _ _ 6 #[false, false, false, false, false, false] _ _
                refine gF 0 [0, 5] ?_; try simp only [Act.put, qs]
                refine gF 1 [1, 2, 3, 5] ?_; try simp only [Act.put, qs]
                refine gF 2 [2, 3, 5] ?_; try simp only [Act.put, qs]
                refine gF 3 [3, 5] ?_; try simp only [Act.put, qs]
                refine gF 4 [4, 5] ?_; try simp only [Act.put, qs]
                refine gV 5 fun K hK => ?_
                try simp only [qs]
                go_simp
                go_at_call 24; refine ((H9.out.2.below (Below.refl w8.heap.size w8).drew).putC (q.f.slot k) cb).mono ?_; rintro e w10 ⟨rfl, hk10, hT10⟩
                refine hK.out _ _ (trivial) (fun hN => ?_); replace hHeld := hN; clear hK K hN
                try simp only [qs]
                refine wpAnyF_done (by kernel_rfl) ?_ _
                have hF10 := (H9.out.1.below (Below.refl w8.heap.size w8).drew).tx (H9.out.2.below (Below.refl w8.heap.size w8).drew) hk10
                have hK10 : Keeps (fun q => q = mp ∨ q = mt) w w10 := (HS.out.kp.trans (Keeps.of_below H8.out.2.drew)).trans hk10
                have H10 := Lib.hid (show TrS w w10 Sd t v mp mt d reg s gb cap m st c F gi ci a T (cuts st.bs z (k + 1) s0) by
                 rw [HC.out.1]
                 unfold cutB
                 rw [← HC.out.2.1, ← H7.out.2.2.2.1]
                 exact ⟨hT10, hF10, hK10, HS.out.wf⟩)
                clear hF10 hK10 hT10 hk10 i1 i2 hcs8 hHeld
                go_wp2_with fail
                go_roundw
                case rel => exact ⟨k + 1, by omega, by go_num, H10.out⟩
                case measure => simp [Go.RowKit.intOf]; omega
            · have hri : ¬ ((r : Int) < 56) := by omega
              rw [if_neg (fun e => hr56 e.1)] at hcut
              have H5 := Lib.hid (show TrS w wr Sd t v mp mt d reg s gb cap m st c F gi ci a T (cuts st.bs z (k + 1) s0) by rw [hcut]; exact HS.out)
              clear hcut hA hgk hr hr0 hq
              go_wp2_with (go_at_call 88; refine HSl.out.mono ?_; rintro e w3 ⟨rfl, hw3⟩; obtain rfl := hw3.symm)
              go_roundw
              case rel => exact ⟨k + 1, by omega, by go_num, H5.out⟩
              case measure => simp [Go.RowKit.intOf]; omega
        · obtain rfl : k = 20 := by omega
          obtain ⟨q, hq⟩ : ∃ q, q = cuts st.bs z 20 s0 := ⟨_, rfl⟩
          rw [← hq] at HS
          have Hq := Lib.hid hq
          clear hq hlt
          have c11 : wr.cell? ⟨F, 11, none⟩ = some (.slice (some ⟨gi, 0, none⟩) 16 ci) := HS.out.fl.c 11
          have l16 := HS.out.fl.l16
          have hrow := HS.out.fl.row
          rw [← l16] at hrow
          have HC := Lib.hid (hasInt_any hrow (by rw [l16]; decide))
          rw [l16] at HC
          clear hrow l16
          cases hall : q.f.li.all (· == -1) with
          | true =>
            rw [hall] at HC
            have hF5 := HS.out.fl.putIdx (-1)
            have hk5 : Keeps (fun q => q = F ∨ q = gi) wr (wr.setCell ⟨F, 9, none⟩ (.int .i64 (-1))) := Keeps.setCell _ _ _ (.inl rfl)
            have hT5 := HS.out.tx.fl HS.out.fl H0.out.2 hk5
            have hK5 := HS.out.kp.fl (hk5.mono (S' := fS F gi mp mt) fun _ _ e => e.elim .inl fun e => .inr (.inl e)) HS.out.fl.ge HS.out.fl.gi_ge
            have e9 : wr.cell? ⟨F, 9, none⟩ = some (.int .i64 q.f.n.index) := HS.out.fl.c 9
            have z9 : wr.frozen? ⟨F, 9, none⟩ = false := free_obj HS.out.fl.obj 9
            have hlean : q.f.lean = ⟨{ q.f.n with index := -1 }, q.f.li⟩ := by unfold Fl.lean; rw [if_pos hall]
            rw [← hlean] at hF5
            have hwf : q.f.lean.n.wf := by rw [hlean]; exact ⟨HS.out.wf.1, HS.out.wf.2, HS.out.wf.3⟩
            obtain ⟨w5, hw5⟩ : ∃ w5, w5 = wr.setCell ⟨F, 9, none⟩ (.int .i64 (-1)) := ⟨_, rfl⟩
            rw [← hw5] at hF5 hT5 hK5
            have HKp := Lib.hid (keep_any hT5 hF5 hwf)
            have H5 := Lib.hid hK5
            clear hF5 hk5 hT5 hK5 hlean hwf hall
            go_upto_region 23 with (go_at_call 89; refine HC.out.mono ?_; rintro e w3 ⟨rfl, hw3⟩; obtain rfl := hw3.symm)
            rw [← hw5]
            clear hw5 e9 z9 c11
            go_wp2_with (go_at_call 87; refine HKp.out.mono ?_; rintro e w6 ⟨rfl, hk6, hT6⟩)
            refine bodyPost_ret (results_one rfl (resOne_tmp _ _ _)) rfl ?_
            rw [← Hq.out]
            exact ⟨rfl, hT6, H5.out.trans hk6⟩
          | false =>
            rw [hall] at HC
            have hlean : q.f.lean = q.f := by unfold Fl.lean; rw [if_neg (by rw [hall]; decide)]
            have HKp := Lib.hid (keep_any HS.out.tx HS.out.fl HS.out.wf)
            have Hl := Lib.hid hlean
            clear hlean hall
            go_wp2_with (first
             | (go_at_call 89; refine HC.out.mono ?_; rintro e w3 ⟨rfl, hw3⟩; obtain rfl := hw3.symm)
             | (go_at_call 87; refine HKp.out.mono ?_; rintro e w6 ⟨rfl, hk6, hT6⟩))
            refine bodyPost_ret (results_one rfl (resOne_tmp _ _ _)) rfl ?_
            rw [← Hq.out, Hl.out]
            exact ⟨rfl, hT6, HS.out.kp.trans hk6⟩
end
end
section
open Go.RowKit

theorem newBlks_len (n : Nat) : (newBlks n).length = n := by simp [newBlks]
theorem zero_kd : Blk.zero.kind = 0 := by unfold Blk.zero; exact Blk.of_kind _ _
theorem newBlks_at {n j : Nat} (hj : j < n) : (newBlks n).getD j Blk.zero = if j = 0 then ⟨7, Blk.zero.body.set 3 1, by rw [List.length_set]; exact Blk.zero.len⟩ else Blk.zero := by
 unfold newBlks
 rw [getD_set (by rw [List.length_replicate]; omega)]
 split
 · rfl
 · rw [List.getD_eq_getElem?_getD, List.getElem?_replicate, if_pos hj]; rfl
theorem newBlks_kind {n j : Nat} (hj : j < n) : ((newBlks n).getD j Blk.zero).kind = if j = 0 then 7 else 0 := by
 rw [newBlks_at hj]
 split
 · rfl
 · exact zero_kd
theorem use_kinds {bs : List Blk} (h : ∀ j, j < bs.length → (bs.getD j Blk.zero).kind ≠ 1 ∧ (bs.getD j Blk.zero).kind ≠ 2 ∧ (bs.getD j Blk.zero).kind ≠ 3 ∧ (bs.getD j Blk.zero).kind ≠ 6) (j : Nat) : inUse bs [] (j : Int) ↔ j = 0 := by
 unfold inUse
 constructor
 · rintro (e | e | ⟨i, hi, e⟩)
   · omega
   · simp [keysL] at e
   · exact absurd e (useBy_none rfl rfl (h i hi))
 · intro e; exact .inl (by omega)
theorem newBlks_use {n : Nat} (j : Nat) : inUse (newBlks n) [] (j : Int) ↔ j = 0 := by
 refine use_kinds (fun i hi => ?_) j
 rw [newBlks_len] at hi
 rw [newBlks_kind hi]
 split <;> decide
theorem first_of {bs : List Blk} {k : Nat} (hk : k < bs.length) (h1 : ∀ j, j < k → inUse bs [] (j : Int)) (h2 : ¬ inUse bs [] (k : Int)) : first bs [] = (k : Int) := by
 unfold first markAll
 rw [List.foldl_nil]
 refine firstOf_at (by rw [used_length]; exact hk) (fun j hj => ?_) ?_
 · rw [used_getD bs j (by omega)]; exact (used_iff (by omega)).2 (h1 j hj)
 · rw [used_getD bs k hk]
   cases hu : usedUpto bs bs.length k with
   | false => rfl
   | true => exact absurd ((used_iff hk).1 hu) h2
theorem newBlks_left {n : Nat} (h : 0 < n) : left (newBlks n) + 1 = n := by
 have hs := used_setsT (newBlks n) [] (fun k hk => by simp [keysL] at hk)
 have hc := count_sets (n := (newBlks n).length) [0] (by simp) (fun j hj => by rw [List.mem_singleton] at hj; subst hj; rw [newBlks_len]; exact h) (hs.iff fun j _ => by
  rw [newBlks_use]; simp; omega)
 have h2 := count_false_true (usedT (newBlks n) [])
 rw [hs.len, newBlks_len, hc] at h2
 have h3 := left_used (U := usedT (newBlks n) []) (bs := newBlks n) hs
 simp only [List.length_singleton] at h2
 omega
theorem newBlks_next {n : Nat} (h : 0 < n) : nextOf (newBlks n) = 1 := by
 unfold nextOf
 rw [newBlks_at h, if_pos rfl]
 unfold Blk.sub
 have hz : Blk.zero.body = List.replicate 56 0 := by unfold Blk.zero; rw [Blk.of_body]; rfl
 dsimp only
 rw [hz]; rfl
def nd0 : Nd := ⟨1, 1, 0, -1, -1, -1, -1, -1, ⟨#[]⟩⟩
def nmA : Nm := ⟨Id.root, ⟨#[97]⟩, 1, 1⟩
def bsA (n : Nat) : List Blk := (newBlks n).set 1 (putNode 1 nd0).1
def bsB (n : Nat) : List Blk := setNextOf (bsA n) 2
def fileBlks (n : Nat) : List Blk := (bsB n).set 2 (putEntry nmA).1
theorem nd0_may : mayNode 1 nd0 = true := by decide +kernel
theorem nd0_wf : nd0.wf := ⟨by decide, by decide, by decide⟩
theorem nmA_may : mayEntry nmA = true := by decide +kernel
theorem nmA_wf : nmA.wf := ⟨⟨by show (0 : Int) ≤ 0; omega, by show (0 : Int) ≤ 4294967295; omega⟩, by show (0 : Int) ≤ 1; omega, by show (1 : Int) ≤ 4294967295; omega, by show 1 ≤ 1000000; decide⟩
theorem bsA_len (n : Nat) : (bsA n).length = n := by unfold bsA; rw [List.length_set, newBlks_len]
theorem bsB_len (n : Nat) : (bsB n).length = n := by
 have := setNextUpto_length (bsA n) 2 4
 rw [bsA_len] at this; exact this
theorem setNextUpto_at (bs : List Blk) (v j : Nat) (hj : j ≠ 0) : ∀ k, (setNextUpto bs v k).getD j Blk.zero = bs.getD j Blk.zero
 | 0 => rfl
 | k + 1 => by rw [setNextUpto_succ, getD_set_ne hj, setNextUpto_at bs v j hj k]
theorem setNextUpto_kind (bs : List Blk) (v : Nat) (h : 0 < bs.length) : ∀ k, ((setNextUpto bs v k).getD 0 Blk.zero).kind = (bs.getD 0 Blk.zero).kind
 | 0 => rfl
 | k + 1 => by
   rw [setNextUpto_succ, getD_set (by rw [setNextUpto_length]; exact h), if_pos rfl]
   exact setNextUpto_kind bs v h k
theorem bsB_kind {n j : Nat} (_ : 4 ≤ n) (hj : j < n) : ((bsB n).getD j Blk.zero).kind = if j = 0 then 7 else if j = 1 then 1 else 0 := by
 have e : bsB n = setNextUpto (bsA n) 2 4 := rfl
 rw [e]
 by_cases h0 : j = 0
 · subst h0
   rw [setNextUpto_kind _ _ (by rw [bsA_len]; omega), if_pos rfl]
   unfold bsA
   rw [getD_set_ne (by decide), newBlks_kind (by omega), if_pos rfl]
 · rw [setNextUpto_at _ _ _ h0, if_neg h0]
   unfold bsA
   by_cases h1 : j = 1
   · subst h1
     rw [getD_set (by rw [newBlks_len]; omega), if_pos rfl, if_pos rfl]; exact putNode_ok nd0_may
   · rw [getD_set_ne h1, newBlks_kind hj, if_neg h0, if_neg h1]
theorem bsB_node {n : Nat} (hn : 4 ≤ n) : (bsB n).getD 1 Blk.zero = (putNode 1 nd0).1 := by
 have e : bsB n = setNextUpto (bsA n) 2 4 := rfl
 rw [e, setNextUpto_at _ _ _ (by decide)]
 unfold bsA
 rw [getD_set (by rw [newBlks_len]; omega), if_pos rfl]
theorem bsB_use {n : Nat} (hn : 4 ≤ n) (j : Nat) : inUse (bsB n) [] (j : Int) ↔ j < 2 := by
 have ht : takeNode ((bsB n).getD 1 Blk.zero) = (nd0, true) := by rw [bsB_node hn]; exact take_putNode nd0_may nd0_wf
 have hk1 : ((bsB n).getD 1 Blk.zero).kind = 1 := by rw [bsB_kind hn (by omega)]; rfl
 have hN : ¬ (j : Int) ∈ namesT (bsB n) ((bsB n).getD 1 Blk.zero) := by
  unfold namesT
  rw [ht, if_pos rfl, if_pos (show nd0.index = -1 from rfl), List.append_nil]
  show ¬ (j : Int) ∈ [(-1 : Int), -1, -1, -1, -1]
  simp
 unfold inUse
 constructor
 · rintro (e | e | ⟨i, hi, e⟩)
   · omega
   · simp [keysL] at e
   · rw [bsB_len] at hi
     by_cases i1 : i = 1
     · subst i1
       rcases (useBy_file rfl hk1).1 e with e | e
       · exact absurd e hN
       · omega
     · exfalso
       refine useBy_none rfl rfl ?_ e
       rw [bsB_kind hn hi]
       by_cases i0 : i = 0
       · rw [if_pos i0]; decide
       · rw [if_neg i0, if_neg i1]; decide
 · intro e
   by_cases j0 : j = 0
   · exact .inl (by omega)
   · obtain rfl : j = 1 := by omega
     exact .inr (.inr ⟨1, by rw [bsB_len]; omega, (useBy_file rfl hk1).2 (.inr rfl)⟩)
theorem find_no6 {bs : List Blk} (h : ∀ j, j < bs.length → (bs.getD j Blk.zero).kind ≠ 6) (d : Id) (m : ByteArray) : find bs d m = (Nm.zero, -1) := find_none fun j hj => hit_kind (h j hj)
theorem newBlks_find {n : Nat} (d : Id) (m : ByteArray) : find (newBlks n) d m = (Nm.zero, -1) := find_no6 (fun j hj => by
 rw [newBlks_len] at hj
 rw [newBlks_kind hj]; split <;> decide) d m
theorem bsB_add {n : Nat} (hn : 4 ≤ n) : addName (bsB n) nmA = (fileBlks n, 0) := by
 have hp : (putEntry nmA).2 = true := by unfold putEntry; rw [if_pos nmA_may]
 have hf : find (bsB n) nmA.dir nmA.name = (Nm.zero, -1) := find_no6 (fun j hj => by
  rw [bsB_len] at hj
  rw [bsB_kind hn hj]
  split
  · decide
  · split <;> decide) _ _
 have h1 : first (bsB n) [] = ((2 : Nat) : Int) := first_of (by rw [bsB_len]; omega) (fun j hj => (bsB_use hn j).2 hj) (fun e => by have := (bsB_use hn 2).1 e; omega)
 unfold addName
 rw [hp, if_pos rfl, hf, if_neg (by decide), h1, if_neg (by decide)]
 rfl
theorem newBlks_first {n : Nat} (hn : 4 ≤ n) : first (newBlks n) [] = ((1 : Nat) : Int) := first_of (by rw [newBlks_len]; omega) (fun j hj => (newBlks_use j).2 (by omega)) (fun e => by have := (newBlks_use 1).1 e; omega)
def fl0 : Fl := ⟨nd0, holes⟩
theorem fl0_slot (k : Nat) (hk : k < 20) : fl0.slot k = -1 := by
 by_cases h4 : k < 4
 · rw [fl0.slot_lo h4]
   match k, h4 with
   | 0, _ => rfl
   | 1, _ => rfl
   | 2, _ => rfl
   | 3, _ => rfl
 · rw [fl0.slot_hi h4]; exact holes_at _ (by omega)
theorem fileBlks_len (n : Nat) : (fileBlks n).length = n := by unfold fileBlks; rw [List.length_set, bsB_len]
theorem fileBlks_rest {n : Nat} (hn : 4 ≤ n) (h2 : n ≤ 200) : FRest (fileBlks n) fl0 (fun _ => 0) := by
 have hne : ∀ j, j ≠ 2 → (fileBlks n).getD j Blk.zero = (bsB n).getD j Blk.zero := fun j hj => by unfold fileBlks; exact getD_set_ne hj
 have hd : ∀ k, k < 20 → fl0.slot k = -1 := fl0_slot
 refine { len := by rw [fileBlks_len]; exact ⟨hn, h2⟩, may0 := nd0_may, wf0 := nd0_wf, l0 := rfl, lok0 := by decide +kernel, hol0 := fun _ => rfl, nodeB := ?_, idxB := .inl rfl, k0 := ?_, k2 := ?_, ks := fun j j3 jl => ?_, cur := ?_ }
 · rw [hne 1 (by decide)]; exact bsB_node hn
 · rw [hne 0 (by decide), bsB_kind hn (by omega), if_pos rfl]
 · unfold fileBlks
   rw [getD_set (by rw [bsB_len]; omega), if_pos rfl]
   have : putEntry nmA = (Blk.of 6 (entryBytes nmA), true) := by unfold putEntry; rw [if_pos nmA_may]
   rw [this]; exact Blk.of_kind _ _
 · rw [fileBlks_len] at jl
   rw [hne j (by omega), bsB_kind hn jl, if_neg (by omega), if_neg (by omega)]
   exact .inl rfl
 · exact { may := nd0_may, wf := nd0_wf, l16 := rfl, lok := by decide +kernel, hol := fun _ => rfl, slot := fun k hk => .inl (hd k hk), idx := .inl rfl, inj := fun k l hk _ _ hn => absurd (hd k hk) hn, ine := fun k hk hn => absurd (hd k hk) hn, data := fun k hk i hi => by rw [hd k hk, getB_no, zero_at] }
theorem fl0_cnt : fl0.cnt = 0 := by decide +kernel
theorem fileBlks_kinds {n : Nat} (hn : 4 ≤ n) (h2 : n ≤ 200) : ∀ j, j < n → 0 ≤ ((fileBlks n).getD j Blk.zero).kind ∧ ((fileBlks n).getD j Blk.zero).kind ≤ 7 := fun j hj => by
 have h := fileBlks_rest hn h2
 by_cases h0 : j = 0
 · subst h0; rw [h.k0]; decide
 · by_cases h1 : j = 1
   · subst h1; rw [h.nodeB]; exact putNode_kinds _
   · by_cases h2 : j = 2
     · subst h2; rw [h.k2]; decide
     · rcases h.ks j (by omega) (by rw [fileBlks_len]; exact hj) with e | e | e <;> rw [e] <;> decide
end
end Go.Proofs.YtbbnejehglonjaaGreat
