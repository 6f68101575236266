/- DERIVED. Contracts and laws that the proofs of this seat share, part 29 of 36: FiD FiJ FiK. -/
import Derived.Test.YtbbnejehglonjaaGreatMh00
import Derived.Test.YtbbnejehglonjaaGreatMh27
import Derived.Test.YtbbnejehglonjaaGreatMh28
namespace Go.Proofs.YtbbnejehglonjaaGreat
set_option maxHeartbeats 8000000
set_option maxRecDepth 100000
set_option linter.unusedSimpArgs false
set_option linter.unusedVariables false
section
open Go.RowKit

theorem FMid.set {B : List Blk} {f0 f f' : Fl} {c c' : Nat → UInt8} (h : FMid B f0 f c) {j : Nat} (h3 : 3 ≤ j) (hj : f0.n.index ≠ (j : Int)) {b : Blk} (hb : b.kind = 4) (hc : FS (B.set j b) f' c') : FMid (B.set j b) f0 f' c' :=
 { len := by rw [List.length_set]; exact h.len, may0 := h.may0, wf0 := h.wf0, l0 := h.l0, lok0 := h.lok0, hol0 := h.hol0,
   nodeB := by rw [getD_set_ne (by omega)]; exact h.nodeB,
   idxB := by
    refine h.idxB.imp id ?_
    rintro ⟨q, hq, q3, ql, qb⟩
    exact ⟨q, hq, q3, by rw [List.length_set]; exact ql, by rw [getD_set_ne (fun e => hj (by rw [hq, e]))]; exact qb⟩,
   k0 := by rw [getD_set_ne (by omega)]; exact h.k0, k2 := by rw [getD_set_ne (by omega)]; exact h.k2,
   ks := fun q q3 ql => by
    rw [List.length_set] at ql
    by_cases e : q = j
    · subst e; rw [getD_set ql, if_pos rfl]; exact .inr (.inl hb)
    · rw [getD_set_ne e]; exact h.ks q q3 ql,
   cur := hc }
theorem FMid.to {B : List Blk} {f0 f f' : Fl} {c c' : Nat → UInt8} (h : FMid B f0 f c) (hc : FS B f' c') : FMid B f0 f' c' := { h with cur := hc }
structure WI (B : List Blk) (T : ML) (f0 f : Fl) (c : Nat → UInt8) : Prop where
 mid : FMid B f0 f c
 own : ∀ j : Nat, f.own j ↔ ((j : Int) ∈ keysL T ∨ f0.own j)
 oi : f0.n.index = -1 ∨ f0.n.index = f.n.index
 pos : ∀ k ∈ keysL T, 0 ≤ k
section
variable {B : List Blk} {T : ML} {f0 f : Fl} {c : Nat → UInt8} {j : Nat}
theorem WI.use (h : WI B T f0 f c) {j : Nat} (hj : j < B.length) : inUse B T (j : Int) ↔ j < 3 ∨ f.own j := by
 rw [h.mid.use T hj, h.own j]
theorem WI.left (h : WI B T f0 f c) : leftT B T + f.cnt + 3 = B.length := left_of h.mid.cur h.mid.len.1 h.pos fun _ hj => h.use hj
theorem WI.pick (h : WI B T f0 f c) {j : Nat} (hp : pickT B T = some j) : 3 ≤ j ∧ j < B.length ∧ ¬ f.own j := by
 obtain ⟨h1, h2, _⟩ := pick_some hp h.pos
 rw [h.use h1] at h2
 exact ⟨by omega, h1, fun e => h2 (.inr e)⟩
theorem own_slot (h : ¬ f.own j) : ∀ l, l < 20 → f.slot l ≠ (j : Int) := fun l hl e => h (.inr ⟨l, hl, e⟩)
theorem own_index (h : ¬ f.own j) : f.n.index ≠ (j : Int) := fun e => h (.inl e)
theorem pos_up (h : ∀ k ∈ keysL T, 0 ≤ k) (j : Nat) (v : Value) : ∀ k ∈ keysL (up T (j : Int) v), 0 ≤ k := fun k hk => by
 rcases (keys_up v k).1 hk with rfl | hk
 · omega
 · exact h k hk
theorem WI.index (h : WI B T f0 f c) (hi : f.n.index = -1) {j : Nat} (hp : pickT B T = some j) (v : Value) : WI B (up T (j : Int) v) f0 ⟨{ f.n with index := (j : Int) }, f.li⟩ c := by
 obtain ⟨h3, hj, ho⟩ := h.pick hp
 have hw : ∀ q : Nat, Fl.own ⟨{ f.n with index := (j : Int) }, f.li⟩ q ↔ (q = j ∨ f.own q) := fun q => by
  constructor
  · rintro (e | e)
    · left; have e' : (j : Int) = (q : Int) := e; omega
    · exact .inr (.inr e)
  · rintro (e | e | e)
    · subst e; exact .inl rfl
    · rw [hi] at e; omega
    · exact .inr e
 refine ⟨h.mid.to (h.mid.cur.index h.mid.len.2 h3 hj (own_slot ho)), fun q => ?_, ?_, pos_up h.pos j v⟩
 · rw [hw q, h.own q, keys_up]
   constructor
   · rintro (e | e | e)
     · exact .inl (.inl (by omega))
     · exact .inl (.inr e)
     · exact .inr e
   · rintro ((e | e) | e)
     · exact .inl (by omega)
     · exact .inr (.inl e)
     · exact .inr (.inr e)
 · rcases h.oi with e | e
   · exact .inl e
   · rw [hi] at e; exact .inl e
theorem WI.data (h : WI B T f0 f c) {k : Nat} (hk : k < 20) (h0 : f.slot k = -1) (h4 : ¬ k < 4 → f.n.index ≠ -1) {j : Nat} (hp : pickT B T = some j) (v : Value) : WI (B.set j dataBlk) (up T (j : Int) v) f0 (f.put k (j : Int)) c := by
 obtain ⟨h3, hj, ho⟩ := h.pick hp
 have hs := own_slot ho
 have hi := own_index ho
 have hps := fun l => f.put_slot (l := l) h.mid.cur.l16 hk (j : Int)
 have hw : ∀ q : Nat, (f.put k (j : Int)).own q ↔ (q = j ∨ f.own q) := fun q => by
  unfold Fl.own
  rw [f.put_index]
  constructor
  · rintro (e | ⟨l, hl, e⟩)
    · exact .inr (.inl e)
    · rw [hps l] at e
      by_cases hlk : l = k
      · rw [if_pos hlk] at e; exact .inl (by omega)
      · rw [if_neg hlk] at e; exact .inr (.inr ⟨l, hl, e⟩)
  · rintro (e | e | ⟨l, hl, e⟩)
    · subst e; exact .inr ⟨k, hk, by rw [hps k, if_pos rfl]⟩
    · exact .inl e
    · refine .inr ⟨l, hl, ?_⟩
      rw [hps l, if_neg (fun e' => by subst e'; rw [h0] at e; omega)]; exact e
 refine ⟨h.mid.set h3 (fun e => ho ((h.own j).2 (.inr (.inl e)))) dataBlk_kind (h.mid.cur.add h.mid.len.2 hk h3 hj hs hi h0 h4), fun q => ?_, ?_, pos_up h.pos j v⟩
 · rw [hw q, h.own q, keys_up]
   constructor
   · rintro (e | e | e)
     · exact .inl (.inl (by omega))
     · exact .inl (.inr e)
     · exact .inr e
   · rintro ((e | e) | e)
     · exact .inl (by omega)
     · exact .inr (.inl e)
     · exact .inr (.inr e)
 · rw [f.put_index]; exact h.oi
def ov (c : Nat → UInt8) (data : List UInt8) (off a e : Nat) : Nat → UInt8 := fun i => if a ≤ i ∧ i < e then data.getD (i - off) 0 else c i
theorem WI.cover (h : WI B T f0 f c) {k j : Nat} (hk : k < 20) (hs : f.slot k = (j : Int)) (a : Nat) (l : List UInt8) (ha : a + l.length ≤ 56) :
 WI (B.set j ((getB B (j : Int)).cover a l)) T f0 f (fun i => if k * 56 + a ≤ i ∧ i < k * 56 + a + l.length then l.getD (i - (k * 56 + a)) 0 else c i) := by
 have hn : f.slot k ≠ -1 := by rw [hs]; omega
 obtain ⟨q, hq, q3, ql, qk⟩ := (h.mid.cur.slot k hk).resolve_left hn
 obtain rfl : j = q := by omega
 refine ⟨h.mid.set q3 (fun e => ?_) (by show (getB B (j : Int)).kind = 4; rw [getB_at ql]; exact qk) (h.mid.cur.cover hk hs a l ha), h.own, h.oi, h.pos⟩
 rcases h.oi with e' | e'
 · rw [e'] at e; omega
 · exact h.mid.cur.ine k hk hn (by rw [hs, ← e', e])
end
theorem filter_flip (n k : Nat) (p p' : Nat → Bool) (hk : k < n) (h1 : p k = false) (h2 : p' k = true) (h3 : ∀ l, l ≠ k → p' l = p l) : ((List.range n).filter p').length = ((List.range n).filter p).length + 1 := by
 induction n with
 | zero => omega
 | succ n ih =>
   rw [List.range_succ, List.filter_append, List.filter_append, List.length_append, List.length_append]
   by_cases e : k = n
   · subst e
     have : (List.range k).filter p' = (List.range k).filter p := List.filter_congr fun l hl => h3 l (by rw [List.mem_range] at hl; omega)
     rw [this, List.filter_cons, List.filter_cons, h1, h2]; simp
   · rw [ih (by omega), List.filter_cons, List.filter_cons, h3 n (fun e' => e e'.symm)]; cases p n <;> simp <;> omega
theorem Fl.cnt_put {f : Fl} (h16 : f.li.length = 16) {k : Nat} (hk : k < 20) (h0 : f.slot k = -1) {x : Int} (hx : x ≠ -1) : (f.put k x).cnt = f.cnt + 1 := by
 unfold Fl.cnt
 rw [f.put_index, filter_flip 20 k (fun l => f.slot l != -1) (fun l => (f.put k x).slot l != -1) hk (eq_bne h0) (by rw [f.put_slot h16 hk, if_pos rfl]; exact ne_bne hx) (fun l hl => by rw [f.put_slot h16 hk, if_neg hl])]
 omega
def LK (L : PL) : Prop := ∀ p ∈ L, 0 ≤ p.1 ∧ 0 ≤ p.2.kind ∧ p.2.kind ≤ 7
theorem upB_LK : ∀ {L : PL}, LK L → ∀ {k : Int} {b : Blk}, 0 ≤ k → 0 ≤ b.kind ∧ b.kind ≤ 7 → LK (upB L k b)
 | [], _, k, b, hk, hb => fun p hp => by
   have hp' : p ∈ [(k, b)] := hp
   rw [List.mem_singleton] at hp'; subst hp'; exact ⟨hk, hb⟩
 | q :: L, h, k, b, hk, hb => fun p hp => by
   rw [upB_cons] at hp
   split at hp
   · rcases List.mem_cons.1 hp with e | e
     · subst e; exact ⟨hk, hb⟩
     · exact h p (List.mem_cons_of_mem _ e)
   · rcases List.mem_cons.1 hp with e | e
     · subst e; exact h _ List.mem_cons_self
     · exact upB_LK (fun r hr => h r (List.mem_cons_of_mem _ hr)) hk hb p e
theorem upB_len (k : Int) (b : Blk) : ∀ L : PL, (upB L k b).length ≤ L.length + 1
 | [] => Nat.le_refl _
 | p :: L => by
   rw [upB_cons]
   split
   · simp
   · have := upB_len k b L; simp only [List.length_cons]; omega
theorem putL_at {L : PL} {bs : List Blk} {j : Nat} (hj : j < bs.length) (b : Blk) : putL L bs (j : Int) b = upB L (j : Int) b := by unfold putL; rw [inB_nat hj, if_pos rfl]
theorem txV_putL {L : PL} {bs : List Blk} {j : Nat} (hj : j < bs.length) (b : Blk) : txV (putL L bs (j : Int) b) bs = (txV L bs).set j b := by rw [putL_at hj, txV_up]
theorem putL_len (L : PL) (bs : List Blk) (k : Int) (b : Blk) : (putL L bs k b).length ≤ L.length + 1 := by
 unfold putL; split
 · exact upB_len _ _ _
 · omega
theorem putL_LK {L : PL} (h : LK L) {bs : List Blk} {k : Int} {b : Blk} (hb : 0 ≤ b.kind ∧ b.kind ≤ 7) : LK (putL L bs k b) := by
 unfold putL; split
 · rename_i hi
   refine upB_LK h ?_ hb
   unfold inB at hi; simp at hi; exact hi.1
 · exact h
section
variable {bs : List Blk} {s : Ws} {f0 : Fl} {c : Nat → UInt8}
def Fl.want (f : Fl) (k : Nat) : Nat := if f.slot k ≠ -1 then 0 else if 4 ≤ k ∧ f.n.index = -1 then 2 else 1
structure Got (bs : List Blk) (s s1 : Ws) (f0 : Fl) (c : Nat → UInt8) (k j : Nat) : Prop where
 wi : WI (txV s1.L bs) s1.T f0 s1.f c
 at_ : s1.f.slot k = (j : Int)
 oth : ∀ l, l ≠ k → s1.f.slot l = s.f.slot l
 idx : s1.f.n.index = -1 ↔ s.f.n.index = -1 ∧ k < 4
 size : s1.f.n.size = s.f.n.size
 len : s1.L.length ≤ s.L.length + 1
 lk : LK s.L → LK s1.L
 left : leftT (txV s1.L bs) s1.T + s.f.want k = leftT (txV s.L bs) s.T
theorem blkF_spec (h : WI (txV s.L bs) s.T f0 s.f c) {k : Nat} (hk : k < 20) :
 (leftT (txV s.L bs) s.T < s.f.want k ∧ ∃ s1, blkF bs s k = (none, s1)) ∨ ∃ (j : Nat) (s1 : Ws), blkF bs s k = (some (j : Int), s1) ∧ Got bs s s1 f0 c k j := by
 have h16 := h.mid.cur.l16
 unfold blkF
 by_cases h0 : s.f.slot k = -1
 · rw [if_neg (fun e => e h0)]
   have hstep : ∀ s1 : Ws, s1.L = s.L → WI (txV s1.L bs) s1.T f0 s1.f c → (∀ l, s1.f.slot l = s.f.slot l) → (s1.f.n.index = -1 ↔ s.f.n.index = -1 ∧ k < 4) → (¬ k < 4 → s1.f.n.index ≠ -1) → s1.f.n.size = s.f.n.size → (leftT (txV s1.L bs) s1.T + (s.f.want k - 1) = leftT (txV s.L bs) s.T) →
    (leftT (txV s.L bs) s.T < s.f.want k ∧ ∃ s2, (match pickT (txV s1.L bs) s1.T with | none => (none, s1) | some i => (some (i : Int), (⟨putL s1.L bs (i : Int) dataBlk, up s1.T (i : Int) (.bool true), s1.f.put k (i : Int)⟩ : Ws))) = ((none : Option Int), s2)) ∨
    ∃ (j : Nat) (s2 : Ws), (match pickT (txV s1.L bs) s1.T with | none => (none, s1) | some i => (some (i : Int), (⟨putL s1.L bs (i : Int) dataBlk, up s1.T (i : Int) (.bool true), s1.f.put k (i : Int)⟩ : Ws))) = (some (j : Int), s2) ∧ Got bs s s2 f0 c k j := by
    intro s1 eL hw hsl hix h4 hz hl
    have hwant : 1 ≤ s.f.want k := by unfold Fl.want; rw [if_neg (fun e => e h0)]; split <;> omega
    cases hp : pickT (txV s1.L bs) s1.T with
    | none =>
      left
      have := pick_none hp
      exact ⟨by omega, s1, rfl⟩
    | some i =>
      right
      obtain ⟨p3, pl, po⟩ := hw.pick hp
      have pl' : i < bs.length := by rwa [txV_length] at pl
      have h01 : s1.f.slot k = -1 := by rw [hsl]; exact h0
      have hw2 := hw.data hk h01 h4 hp (.bool true)
      have e2 : txV (putL s1.L bs (i : Int) dataBlk) bs = (txV s1.L bs).set i dataBlk := txV_putL pl' _
      have h161 := hw.mid.cur.l16
      refine ⟨i, _, rfl, ⟨?_, ?_, fun l hl' => ?_, ?_, ?_, ?_, fun hL => ?_, ?_⟩⟩
      · show WI (txV (putL s1.L bs (i : Int) dataBlk) bs) _ _ _ _
        rw [e2]; exact hw2
      · show (s1.f.put k (i : Int)).slot k = _
        rw [Fl.put_slot _ h161 hk, if_pos rfl]
      · show (s1.f.put k (i : Int)).slot l = _
        rw [Fl.put_slot _ h161 hk, if_neg hl', hsl]
      · show (s1.f.put k (i : Int)).n.index = -1 ↔ _
        rw [Fl.put_index]; exact hix
      · show (s1.f.put k (i : Int)).n.size = _
        rw [Fl.put_size, hz]
      · show (putL s1.L bs (i : Int) dataBlk).length ≤ _
        rw [← eL]; exact putL_len _ _ _ _
      · show LK (putL s1.L bs (i : Int) dataBlk)
        exact putL_LK (by rw [eL]; exact hL) (by rw [dataBlk_kind]; omega)
      · show leftT (txV (putL s1.L bs (i : Int) dataBlk) bs) (up s1.T (i : Int) (.bool true)) + _ = _
        rw [e2]
        have a1 := hw2.left
        have a2 := hw.left
        rw [Fl.cnt_put h161 hk h01 (show (i : Int) ≠ -1 by omega), List.length_set] at a1
        omega
   unfold takeIx
   by_cases h4 : 4 ≤ k ∧ s.f.n.index = -1
   · rw [if_pos h4]
     have hwant : s.f.want k = 2 := by unfold Fl.want; rw [if_neg (fun e => e h0), if_pos h4]
     cases hp : pickT (txV s.L bs) s.T with
     | none =>
       left
       have := pick_none hp
       exact ⟨by omega, s, rfl⟩
     | some i =>
       rw [Option.map_some]
       have hw1 := h.index h4.2 hp (.bool true)
       refine hstep ⟨s.L, up s.T (i : Int) (.bool true), ⟨{ s.f.n with index := (i : Int) }, s.f.li⟩⟩ rfl hw1 (fun _ => rfl) ?_ ?_ rfl ?_
       · constructor
         · intro e
           have e' : (i : Int) = -1 := e
           omega
         · intro e; omega
       · intro _ e
         have e' : (i : Int) = -1 := e
         omega
       · have a1 := hw1.left
         have a2 := h.left
         have hc : Fl.cnt ⟨{ s.f.n with index := (i : Int) }, s.f.li⟩ = s.f.cnt + 1 := by
          unfold Fl.cnt
          rw [if_pos h4.2, if_neg (show ¬ ((i : Int) = -1) by omega)]
          show 1 + _ = 0 + _ + 1
          rw [Nat.zero_add, Nat.add_comm]; rfl
         rw [hc] at a1
         rw [hwant]
         show leftT (txV s.L bs) (up s.T (i : Int) (.bool true)) + (2 - 1) = _
         omega
   · rw [if_neg h4]
     have hwant : s.f.want k = 1 := by unfold Fl.want; rw [if_neg (fun e => e h0), if_neg h4]
     refine hstep s rfl h (fun _ => rfl) ?_ ?_ rfl (by rw [hwant]; omega)
     · constructor
       · intro e; exact ⟨e, Classical.byContradiction fun hn => h4 ⟨by omega, e⟩⟩
       · exact fun e => e.1
     · intro hn e; exact h4 ⟨by omega, e⟩
 · rw [if_pos h0]
   right
   obtain ⟨q, hq, q3, ql, qk⟩ := (h.mid.cur.slot k hk).resolve_left h0
   refine ⟨q, s, by rw [hq], ⟨h, hq, fun _ _ => rfl, ?_, rfl, by omega, id, by unfold Fl.want; rw [if_pos h0]; rfl⟩⟩
   constructor
   · intro e
     exact ⟨e, Classical.byContradiction fun hn => h.mid.cur.hi hk hn h0 e⟩
   · exact fun e => e.1
end
end
section
open Go.RowKit
attribute [local irreducible] Calls

section
variable {w w' : World} {Sd : Nat → Prop} {t v mp mt : Nat} {L : PL} {T : ML} {d reg : Nat} {s : Sh} {gb cap m : Nat} {st : VSt} {c : Nat}
variable {B F gi ci : Nat} {a : Int} {f : Fl}
theorem TxV.fl (H : TxV w Sd t v mp mt L T d reg s gb cap m st c) (hf : FlAt w B F t a f gi ci) (hS : ∀ q, Sd q → q < B) (hk : Keeps (fun q => q = F ∨ q = gi) w w') : TxV w' Sd t v mp mt L T d reg s gb cap m st c := by
 obtain ⟨cg, hg⟩ := hf.gi_obj
 obtain ⟨cs, hcs⟩ := VolP.neRow H.vol
 have hge := hf.gi_ge
 have hgF := hf.ge
 refine ⟨H.tx.keeps hk (fun e => ?_) (fun e => ?_) (fun e => ?_), VolP.keeps H.vol hk (fun q hq e => ?_) (fun e => ?_) (fun e => ?_) (fun e => ?_), H.ap⟩
 · rcases e with e | e
   · exact ne_of_obj H.tx.obj hf.obj (by decide) e
   · exact ne_of_obj H.tx.obj hg (by decide) e
 · rcases e with e | e
   · exact H.tx.put.neObj hf.obj e
   · exact H.tx.put.neObj hg e
 · rcases e with e | e
   · exact H.tx.tk.neObj hf.obj e
   · exact H.tx.tk.neObj hg e
 · have := hS q hq
   rcases e with e | e <;> omega
 · rcases e with e | e
   · exact ne_of_obj H.vol.o hf.obj (by decide) e
   · exact ne_of_obj H.vol.o hg (by decide) e
 · rcases e with e | e
   · exact H.vol.map.neObj hf.obj e
   · exact H.vol.map.neObj hg e
 · rcases e with e | e
   · exact ne_of_obj hcs hf.obj (by decide) e
   · exact ne_of_obj hcs hg (by decide) e
theorem FlAt.tx (hf : FlAt w B F t a f gi ci) (H : TxV w Sd t v mp mt L T d reg s gb cap m st c) (hk : Keeps (fun q => q = mp ∨ q = mt) w w') : FlAt w' B F t a f gi ci := by
 obtain ⟨cg, hg⟩ := hf.gi_obj
 refine hf.keeps hk (fun e => ?_) (fun e => ?_)
 · rcases e with e | e
   · exact H.tx.put.neObj hf.obj e.symm
   · exact H.tx.tk.neObj hf.obj e.symm
 · rcases e with e | e
   · exact H.tx.put.neObj hg e.symm
   · exact H.tx.tk.neObj hg e.symm
theorem TxV.putC (H : TxV w Sd t v mp mt L T d reg s gb cap m st c) (a : Int) (b : Blk) :
 Calls Tryz.prog 24 #[.pointer (some ⟨t, 0, none⟩), .int .i64 a, .agg b.cells] w fun e w' => e = .returned (.bool (inB st.bs a)) ∧ Keeps (fun q => q = mp ∨ q = mt) w w' ∧ TxV w' Sd t v mp mt (putL L st.bs a b) T d reg s gb cap m st c :=
 (txPut_any H.tx H.vol a b).mono fun _ _ ⟨h1, h2, h3⟩ => by
  have hk := h2.mono (S' := fun q => q = mp ∨ q = mt) fun _ _ e => .inl e
  exact ⟨h1, hk, H.turn h3 hk⟩
theorem load_ndAt {w : World} {g off : Nat} {cs : Array Value} {ty : TypeId} (h : objAt w g = some (.cells cs ty (0, 0))) (_ : off + 9 ≤ cs.size) {n : Nd} (he : cs.extract off (off + 9) = n.cells) : ndLoad (.pointer (some ⟨g, off, none⟩)) w = .ok (.agg n.cells) w := by
 obtain ⟨d, hd, hd2⟩ := aggNd.desc
 have hs : (sizeOf 165).run Tryz.prog w = .ok 9 w := by kernel_rfl
 have hag : (isAgg 165).run Tryz.prog w = .ok true w := by
  simp only [isAgg, Sem.run_bind, run_underlying hd, Result.andThen_ok]
  cases d <;> simp_all
 have hl := run_loadCells_list (P := Tryz.prog) w ⟨g, off, none⟩ n.cells.toList (fun j v hv => by
  have hadd : (⟨g, off, none⟩ : Addr).add j = ⟨g, off + j, none⟩ := by unfold Addr.add; split <;> simp_all
  rw [hadd, cell_obj h]
  rw [← he] at hv
  simp only [Array.toList_extract, List.extract_eq_take_drop, List.getElem?_take, List.getElem?_drop] at hv
  split at hv
  · simpa using hv
  · cases hv)
 rw [show n.cells.toList.length = 9 from rfl] at hl
 unfold ndLoad
 simp only [Instr.loadAt, Instr.sureAddr, Sem.run_bind, Sem.run_pure, Result.andThen_ok, loadVar, hag, if_true, hs, hl]
theorem FlAt.nd (hf : FlAt w B F t a f gi ci) : ndLoad (.pointer (some ⟨F, 2, none⟩)) w = .ok (.agg f.n.cells) w := load_ndAt hf.obj (by show 2 + 9 ≤ 12; decide) rfl
theorem keep_any (H : TxV w Sd t v mp mt L T d reg s gb cap m st c) (hf : FlAt w B F t a f gi ci) (hw : f.n.wf) :
 Calls Tryz.prog 87 #[.pointer (some ⟨F, 0, none⟩)] w fun e w' => e = .returned (.tuple #[]) ∧ Keeps (fun q => q = mp ∨ q = mt) w w' ∧ TxV w' Sd t v mp mt (keepF st.bs a ⟨L, T, f⟩) T d reg s gb cap m st c := by
 have HN := Lib.hid (fun w => nPut_any 1 f.n w hw)
 have HI := Lib.hid (fun (w' : World) (hr : IntsAt w' (some ⟨gi, 0, none⟩) f.li) => xPut_any (some ⟨gi, 0, none⟩) f.li ci w' hr (by rw [hf.l16]; decide))
 rw [hf.l16] at HI
 have c0 : w.cell? ⟨F, 0, none⟩ = some (.pointer (some ⟨t, 0, none⟩)) := hf.c 0
 have c9 : w.cell? ⟨F, 9, none⟩ = some (.int .i64 f.n.index) := hf.c 9
 have c11 : w.cell? ⟨F, 11, none⟩ = some (.slice (some ⟨gi, 0, none⟩) 16 ci) := hf.c 11
 have H0 := Lib.hid (And.intro H hf)
 unfold keepF
 obtain ⟨NB, hNB⟩ : ∃ NB, NB = (putNode 1 f.n).1 := ⟨_, rfl⟩
 obtain ⟨IB, hIB⟩ : ∃ IB, IB = (putIndex f.li).1 := ⟨_, rfl⟩
 dsimp only
 rw [← hNB, ← hIB]
 rw [← hNB] at HN
 rw [← hIB] at HI
 clear H hf hw hNB hIB
 by_cases hx : f.n.index = -1
 · rw [if_pos hx]
   have hx' : (f.n.index != -1) = false := by simpa using hx
   clear hx
   have hl := H0.out.2.nd
   go_enter Tryz.func87, Tryz.ntmps87
   go_upto_region 4 with (go_at_call 149; refine (HN.out _).mono ?_; rintro e w1 ⟨rfl, b1⟩)
   obtain ⟨K, hK⟩ : ∃ K, K = w1.heap.size := ⟨_, rfl⟩
   obtain ⟨w2, hw2⟩ : ∃ w2, w2 = w1.alloc (.cells NB.cells 37) := ⟨_, rfl⟩
   have hb2 : Below w.heap.size w w2 := grow_trans b1 (below_alloc hw2)
   have hX2 : BlkAt w2 K NB := by rw [hK]; exact obj_alloc hw2
   rw [← hw2, ← hK]
   have k1 := hX2.has
   have k2 := hX2.row
   have d0 : w2.cell? ⟨F, 0, none⟩ = some (.pointer (some ⟨t, 0, none⟩)) := grow_cell hb2 c0
   have d1 : w2.cell? ⟨F, 1, none⟩ = some (.int .i64 a) := grow_cell hb2 (H0.out.2.c 1)
   have H2 := Lib.hid hb2
   clear hw2 hK hb2 hX2 b1 hl c0 c9 c11
   refine wp_region_F [9] (S := fun w' => w'.cell? ⟨F, 0, none⟩ = some (.pointer (some ⟨t, 0, none⟩)) ∧ w'.cell? ⟨F, 1, none⟩ = some (.int .i64 a) ∧ hasBlk w' K = true ∧ rowAt w' K = some NB.cells ∧ True) (by kernel_rfl) (⟨d0, d1, k1, k2, trivial⟩) (fun hHeld => ?_)
   show wpAnyF _ _ _ _ _ _ 10 #[false, false, false, false, false, false, false, false, false, false] _ _
   refine gF 0 [0, 1, 2, 3, 9] ?_; try simp only [Act.put, qs]
   refine gF 1 [1, 2, 3, 9] ?_; try simp only [Act.put, qs]
   refine gF 2 [2, 3, 9] ?_; try simp only [Act.put, qs]
   refine gF 3 [3, 9] ?_; try simp only [Act.put, qs]
   refine gF 4 [4, 5, 6, 7, 9] ?_; try simp only [Act.put, qs]
   refine gF 5 [5, 6, 7, 9] ?_; try simp only [Act.put, qs]
   refine gF 6 [6, 7, 9] ?_; try simp only [Act.put, qs]
   refine gF 7 [7, 9] ?_; try simp only [Act.put, qs]
   refine gF 8 [8, 9] ?_; try simp only [Act.put, qs]
   refine gV 9 fun K hK => ?_
   try simp only [qs]
   go_simp
   go_at_call 24; refine ((H0.out.1.below H2.out.drew).putC a NB).mono ?_; rintro e w3 ⟨rfl, hk3, hT3⟩
   refine hK.out _ _ (trivial) (fun hN => ?_); replace hHeld := hN; clear hK K hN
   try simp only [qs]
   refine wpAnyF_done (by kernel_rfl) ?_ _
   have H3 := Lib.hid (And.intro ((Keeps.of_below H2.out.drew).trans hk3) hT3)
   clear hk3 hT3
   go_wp2_with fail
   first | go_end0 | refine bodyPost_end (results_none rfl _ _ _) rfl ?_
   exact ⟨rfl, H3.out.1, H3.out.2⟩
 · rw [if_neg hx]
   have hx' : (f.n.index != -1) = true := by simpa using hx
   clear hx
   have hri := H0.out.2.row.intsAt
   go_enter Tryz.func87, Tryz.ntmps87
   go_upto_region 2 with (go_at_call 148; refine (HI.out _ hri).mono ?_; rintro e w1 ⟨rfl, b1⟩)
   obtain ⟨K, hK⟩ : ∃ K, K = w1.heap.size := ⟨_, rfl⟩
   obtain ⟨w2, hw2⟩ : ∃ w2, w2 = w1.alloc (.cells IB.cells 37) := ⟨_, rfl⟩
   have hb2 : Below w.heap.size w w2 := grow_trans b1 (below_alloc hw2)
   have hX2 : BlkAt w2 K IB := by rw [hK]; exact obj_alloc hw2
   rw [← hw2, ← hK]
   have k1 := hX2.has
   have k2 := hX2.row
   have d0 : w2.cell? ⟨F, 0, none⟩ = some (.pointer (some ⟨t, 0, none⟩)) := grow_cell hb2 c0
   have d1 : w2.cell? ⟨F, 9, none⟩ = some (.int .i64 f.n.index) := grow_cell hb2 c9
   have H2 := Lib.hid hb2
   clear hw2 hK hb2 hX2 b1 c0 c9 c11 hri
   refine wp_region_F [10] (S := fun w' => w'.cell? ⟨F, 0, none⟩ = some (.pointer (some ⟨t, 0, none⟩)) ∧ w'.cell? ⟨F, 9, none⟩ = some (.int .i64 f.n.index) ∧ hasBlk w' K = true ∧ rowAt w' K = some IB.cells ∧ True) (by kernel_rfl) (⟨d0, d1, k1, k2, trivial⟩) (fun hHeld => ?_)
   show wpAnyF _ _ _ _ _ _ 11 #[false, false, false, false, false, false, false, false, false, false, false] _ _
   refine gF 0 [0, 1, 2, 3, 10] ?_; try simp only [Act.put, qs]
   refine gF 1 [1, 2, 3, 10] ?_; try simp only [Act.put, qs]
   refine gF 2 [2, 3, 10] ?_; try simp only [Act.put, qs]
   refine gF 3 [3, 10] ?_; try simp only [Act.put, qs]
   refine gF 4 [4, 5, 6, 7, 8, 10] ?_; try simp only [Act.put, qs]
   refine gF 5 [5, 6, 7, 8, 10] ?_; try simp only [Act.put, qs]
   refine gF 6 [6, 7, 8, 10] ?_; try simp only [Act.put, qs]
   refine gF 7 [7, 8, 10] ?_; try simp only [Act.put, qs]
   refine gF 8 [8, 10] ?_; try simp only [Act.put, qs]
   refine gF 9 [9, 10] ?_; try simp only [Act.put, qs]
   refine gV 10 fun K hK => ?_
   try simp only [qs]
   go_simp
   go_at_call 24; refine ((H0.out.1.below H2.out.drew).putC f.n.index IB).mono ?_; rintro e w3 ⟨rfl, hk3, hT3⟩
   refine hK.out _ _ (trivial) (fun hN => ?_); replace hHeld := hN; clear hK K hN
   try simp only [qs]
   refine wpAnyF_done (by kernel_rfl) ?_ _
   have hF3 := (H0.out.2.below H2.out.drew).tx (H0.out.1.below H2.out.drew) hk3
   have H3 := Lib.hid (And.intro ((Keeps.of_below H2.out.drew).trans hk3) (And.intro hT3 hF3))
   have hl := hF3.nd
   clear hk3 hT3 hF3 d0 d1 k1 k2 hHeld
   go_upto_region 4 with (go_at_call 149; refine (HN.out _).mono ?_; rintro e w4 ⟨rfl, b4⟩)
   obtain ⟨J, hJ⟩ : ∃ J, J = w4.heap.size := ⟨_, rfl⟩
   obtain ⟨w5, hw5⟩ : ∃ w5, w5 = w4.alloc (.cells NB.cells 37) := ⟨_, rfl⟩
   have hb5 : Below w3.heap.size w3 w5 := grow_trans b4 (below_alloc hw5)
   have hX5 : BlkAt w5 J NB := by rw [hJ]; exact obj_alloc hw5
   rw [← hw5, ← hJ]
   have k1 := hX5.has
   have k2 := hX5.row
   have d0 : w5.cell? ⟨F, 0, none⟩ = some (.pointer (some ⟨t, 0, none⟩)) := grow_cell hb5 (H3.out.2.2.c 0)
   have d1 : w5.cell? ⟨F, 1, none⟩ = some (.int .i64 a) := grow_cell hb5 (H3.out.2.2.c 1)
   have H5 := Lib.hid hb5
   clear hw5 hJ hb5 hX5 b4 hl
   refine wp_region_F [9] (S := fun w' => w'.cell? ⟨F, 0, none⟩ = some (.pointer (some ⟨t, 0, none⟩)) ∧ w'.cell? ⟨F, 1, none⟩ = some (.int .i64 a) ∧ hasBlk w' J = true ∧ rowAt w' J = some NB.cells ∧ True) (by kernel_rfl) (⟨d0, d1, k1, k2, trivial⟩) (fun hHeld => ?_)
   show wpAnyF _ _ _ _ _ _ 10 #[false, false, false, false, false, false, false, false, false, false] _ _
   refine gF 0 [0, 1, 2, 3, 9] ?_; try simp only [Act.put, qs]
   refine gF 1 [1, 2, 3, 9] ?_; try simp only [Act.put, qs]
   refine gF 2 [2, 3, 9] ?_; try simp only [Act.put, qs]
   refine gF 3 [3, 9] ?_; try simp only [Act.put, qs]
   refine gF 4 [4, 5, 6, 7, 9] ?_; try simp only [Act.put, qs]
   refine gF 5 [5, 6, 7, 9] ?_; try simp only [Act.put, qs]
   refine gF 6 [6, 7, 9] ?_; try simp only [Act.put, qs]
   refine gF 7 [7, 9] ?_; try simp only [Act.put, qs]
   refine gF 8 [8, 9] ?_; try simp only [Act.put, qs]
   refine gV 9 fun K hK => ?_
   try simp only [qs]
   go_simp
   go_at_call 24; refine ((H3.out.2.1.below H5.out.drew).putC a NB).mono ?_; rintro e w6 ⟨rfl, hk6, hT6⟩
   refine hK.out _ _ (trivial) (fun hN => ?_); replace hHeld := hN; clear hK K hN
   try simp only [qs]
   refine wpAnyF_done (by kernel_rfl) ?_ _
   have H6 := Lib.hid (And.intro (H3.out.1.trans (((Keeps.of_below H5.out.drew).trans hk6))) hT6)
   clear hk6 hT6
   go_wp2_with fail
   first | go_end0 | refine bodyPost_end (results_none rfl _ _ _) rfl ?_
   exact ⟨rfl, H6.out.1, H6.out.2⟩
end
end
section
open Go.RowKit
attribute [local irreducible] Calls

section
variable {w w' : World} {Sd : Nat → Prop} {t v mp mt : Nat} {L : PL} {T : ML} {d reg : Nat} {s : Sh} {gb cap m : Nat} {st : VSt} {c : Nat}
variable {B F gi ci : Nat} {a : Int} {f : Fl}
theorem TxV.pos (H : TxV w Sd t v mp mt L T d reg s gb cap m st c) : ∀ k ∈ keysL T, 0 ≤ k := fun k hk => (H.tx.tk.range k hk).1
theorem TxV.takeC (H : TxV w Sd t v mp mt L T d reg s gb cap m st c) :
 Calls Tryz.prog 21 #[.pointer (some ⟨t, 0, none⟩)] w fun e w' => e = .returned (.tuple #[.int .i64 (((pickT (txV L st.bs) T).getD 0 : Nat) : Int), .bool (pickT (txV L st.bs) T).isSome]) ∧ Keeps (fun q => q = mp ∨ q = mt) w w' ∧ TxV w' Sd t v mp mt L (takeT T (pickT (txV L st.bs) T)) d reg s gb cap m st c :=
 (txTake_any H.tx H.vol).mono fun e w' ⟨U, hs, he, ht, hk⟩ => by
  have hl := txV_length L st.bs
  have hU : U = usedT (txV L st.bs) T := sets_taken (hl ▸ hs) H.pos
  have hk' := hk.mono (S' := fun q => q = mp ∨ q = mt) fun _ _ e => .inr e
  unfold pickT
  rw [← hU]
  exact ⟨by rw [he, firstVal_eq], hk', H.turn ht hk'⟩
theorem FlAt.slotL (hf : FlAt w B F t a f gi ci) {k : Nat} (hk : k < 20) : ∃ g o, slotA F gi k = ⟨g, o, none⟩ ∧ (g = F ∨ g = gi) ∧ w.cell? ⟨g, o, none⟩ = some (.int .i64 (f.slot k)) := by
 have h := hf.slotC hk
 have hb := slotA_block F gi k
 have e : slotA F gi k = ⟨(slotA F gi k).block, (slotA F gi k).off, none⟩ := by unfold slotA; split <;> rfl
 rw [e] at h
 exact ⟨_, _, e, hb, h⟩
def fS (F gi mp mt : Nat) (q : Nat) : Prop := q = F ∨ q = gi ∨ q = mp ∨ q = mt
theorem block_any (H : TxV w Sd t v mp mt L T d reg s gb cap m st c) (hf : FlAt w B F t a f gi ci) (hS : ∀ q, Sd q → q < B) {k : Nat} (hk : k < 20) :
 Calls Tryz.prog 86 #[.pointer (some ⟨F, 0, none⟩), .int .i64 (k : Int)] w fun e w' => e = .returned (.tuple #[.int .i64 ((blkF st.bs ⟨L, T, f⟩ k).1.getD 0), .bool (blkF st.bs ⟨L, T, f⟩ k).1.isSome]) ∧
  TxV w' Sd t v mp mt (blkF st.bs ⟨L, T, f⟩ k).2.L (blkF st.bs ⟨L, T, f⟩ k).2.T d reg s gb cap m st c ∧ FlAt w' B F t a (blkF st.bs ⟨L, T, f⟩ k).2.f gi ci ∧ Keeps (fS F gi mp mt) w w' := by
 have HSl := Lib.hid (slot_any hf hk)
 have HX := Lib.hid (fun w => xWhere_any (k : Int) w)
 obtain ⟨g, o, hA, hgF, hc⟩ := hf.slotL hk
 rw [hA] at HSl
 have c0 : w.cell? ⟨F, 0, none⟩ = some (.pointer (some ⟨t, 0, none⟩)) := hf.c 0
 have c9 : w.cell? ⟨F, 9, none⟩ = some (.int .i64 f.n.index) := hf.c 9
 have H0 := Lib.hid (And.intro H (And.intro hf (And.intro hS (And.intro hA hk))))
 clear H hf hS hA hgF
 unfold blkF
 by_cases h0 : f.slot k = -1
 · rw [if_neg (fun e => e h0)]
   have h0' : (f.slot k != -1) = false := by simpa using h0
   have H00 := Lib.hid h0
   clear h0
   by_cases h4 : 4 ≤ k ∧ f.n.index = -1
   · obtain ⟨hk4, hx⟩ := h4
     have htk : takeIx st.bs ⟨L, T, f⟩ k = (pickT (txV L st.bs) T).map fun (i : Nat) => (⟨L, up T (i : Int) (.bool true), ⟨{ f.n with index := (i : Int) }, f.li⟩⟩ : Ws) := by unfold takeIx; rw [if_pos ⟨hk4, hx⟩]
     rw [htk]
     have hw : whereT (k : Int) = (-1, (k : Int) - 4, true) := by
      unfold whereT
      rw [if_neg (by omega), if_neg (by omega)]
     have hcc : ((k : Int) - 4 != -1) = true := ne_bne (by omega)
     obtain ⟨ii, hii⟩ : ∃ ii, ii = (k : Int) - 4 := ⟨_, rfl⟩
     rw [← hii] at hw hcc
     rw [hw] at HX
     dsimp only at HX
     have hx' : (f.n.index == -1) = true := by simpa using hx
     have HTk := Lib.hid H0.out.1.takeC
     obtain ⟨p, hp⟩ : ∃ p, p = pickT (txV L st.bs) T := ⟨_, rfl⟩
     rw [← hp] at HTk ⊢
     have Hp := Lib.hid hp
     clear hw htk hk4 hx hp hk hii
     cases p with
     | none =>
       rw [Option.map_none]
       dsimp only
       go_enter Tryz.func86, Tryz.ntmps86
       go_wp2_with (first
        | (go_at_call 88; refine HSl.out.mono ?_; rintro e w1 ⟨rfl, hw1⟩; obtain rfl := hw1.symm)
        | (go_at_call 147; refine (HX.out _).mono ?_; rintro e w1 ⟨rfl, hw1⟩; obtain rfl := hw1.symm)
        | (go_at_call 21; refine HTk.out.mono ?_; rintro e w2 ⟨rfl, hk2, hT2⟩))
       refine bodyPost_ret (results_two rfl (resOne_tmp _ _ _) (resOne_tmp _ _ _)) rfl ?_
       exact ⟨rfl, hT2, H0.out.2.1.tx H0.out.1 hk2, hk2.mono fun _ _ e => .inr (.inr e)⟩
     | some i =>
       rw [Option.map_some]
       dsimp only
       obtain ⟨q, hq⟩ : ∃ q, q = pickT (txV L st.bs) (up T (i : Int) (.bool true)) := ⟨_, rfl⟩
       rw [← hq]
       have Hq := Lib.hid hq
       clear hq
       cases q with
       | none =>
         dsimp only
         go_enter Tryz.func86, Tryz.ntmps86
         go_upto_region 9 with (first
          | (go_at_call 88; refine HSl.out.mono ?_; rintro e w1 ⟨rfl, hw1⟩; obtain rfl := hw1.symm)
          | (go_at_call 147; refine (HX.out _).mono ?_; rintro e w1 ⟨rfl, hw1⟩; obtain rfl := hw1.symm)
          | (go_at_call 21; refine HTk.out.mono ?_; rintro e w2 ⟨rfl, hk2, hT2⟩))
         have hF2 := H0.out.2.1.tx H0.out.1 hk2
         have e1 : w2.cell? ⟨F, 9, none⟩ = some (.int .i64 f.n.index) := hF2.c 9
         have e2 : w2.frozen? ⟨F, 9, none⟩ = false := free_obj hF2.obj 9
         have hF3 := hF2.putIdx (i : Int)
         have hk3 : Keeps (fun q => q = F ∨ q = gi) w2 (w2.setCell ⟨F, 9, none⟩ (.int .i64 (i : Int))) := Keeps.setCell _ _ _ (.inl rfl)
         have hT3 := hT2.fl hF2 H0.out.2.2.1 hk3
         obtain ⟨w3, hw3⟩ : ∃ w3, w3 = w2.setCell ⟨F, 9, none⟩ (.int .i64 (i : Int)) := ⟨_, rfl⟩
         rw [← hw3] at hF3 hk3 hT3
         have HTk2 := Lib.hid hT3.takeC
         rw [show takeT T (some i) = up T (i : Int) (.bool true) from rfl, ← Hq.out] at HTk2
         have d0' : w3.cell? ⟨F, 0, none⟩ = some (.pointer (some ⟨t, 0, none⟩)) := hF3.c 0
         have H3 := Lib.hid (And.intro hF3 (And.intro hT3 ((hk2.mono (S' := fS F gi mp mt) fun _ _ e => .inr (.inr e)).trans (hk3.mono fun _ _ e => e.elim .inl fun e => .inr (.inl e)))))
         clear hF3 hk3 hT3 hF2 hk2 hT2
         go_upto_region 10 with fail
         rw [← hw3]
         clear hw3 e1 e2
         go_wp2_with (go_at_call 21; refine HTk2.out.mono ?_; rintro e w4 ⟨rfl, hk4, hT4⟩)
         refine bodyPost_ret (results_two rfl (resOne_tmp _ _ _) (resOne_tmp _ _ _)) rfl ?_
         exact ⟨rfl, hT4, H3.out.1.tx H3.out.2.1 hk4, H3.out.2.2.trans (hk4.mono fun _ _ e => .inr (.inr e))⟩
       | some j =>
         dsimp only
         have hj := (pick_some Hq.out.symm (pos_up H0.out.1.pos i (.bool true))).1
         rw [txV_length] at hj
         go_enter Tryz.func86, Tryz.ntmps86
         go_upto_region 9 with (first
          | (go_at_call 88; refine HSl.out.mono ?_; rintro e w1 ⟨rfl, hw1⟩; obtain rfl := hw1.symm)
          | (go_at_call 147; refine (HX.out _).mono ?_; rintro e w1 ⟨rfl, hw1⟩; obtain rfl := hw1.symm)
          | (go_at_call 21; refine HTk.out.mono ?_; rintro e w2 ⟨rfl, hk2, hT2⟩))
         have hF2 := H0.out.2.1.tx H0.out.1 hk2
         have e1 : w2.cell? ⟨F, 9, none⟩ = some (.int .i64 f.n.index) := hF2.c 9
         have e2 : w2.frozen? ⟨F, 9, none⟩ = false := free_obj hF2.obj 9
         have hF3 := hF2.putIdx (i : Int)
         have hk3 : Keeps (fun q => q = F ∨ q = gi) w2 (w2.setCell ⟨F, 9, none⟩ (.int .i64 (i : Int))) := Keeps.setCell _ _ _ (.inl rfl)
         have hT3 := hT2.fl hF2 H0.out.2.2.1 hk3
         obtain ⟨w3, hw3⟩ : ∃ w3, w3 = w2.setCell ⟨F, 9, none⟩ (.int .i64 (i : Int)) := ⟨_, rfl⟩
         rw [← hw3] at hF3 hk3 hT3
         have HTk2 := Lib.hid hT3.takeC
         rw [show takeT T (some i) = up T (i : Int) (.bool true) from rfl, ← Hq.out] at HTk2
         have d0' : w3.cell? ⟨F, 0, none⟩ = some (.pointer (some ⟨t, 0, none⟩)) := hF3.c 0
         have H3 := Lib.hid (And.intro hF3 (And.intro hT3 ((hk2.mono (S' := fS F gi mp mt) fun _ _ e => .inr (.inr e)).trans (hk3.mono fun _ _ e => e.elim .inl fun e => .inr (.inl e)))))
         clear hF3 hk3 hT3 hF2 hk2 hT2
         go_upto_region 10 with fail
         rw [← hw3]
         clear hw3 e1 e2
         go_upto_region 13 with (go_at_call 21; refine HTk2.out.mono ?_; rintro e w4 ⟨rfl, hk4', hT4⟩)
         have hF4 := H3.out.1.tx H3.out.2.1 hk4'
         have hk4 := H3.out.2.2.trans (hk4'.mono fun _ _ e => .inr (.inr e))
         have e1 : w4.cell? ⟨g, o, none⟩ = some (.int .i64 (f.slot k)) := by have := hF4.slotC H0.out.2.2.2.2; rwa [H0.out.2.2.2.1] at this
         have e2 : w4.frozen? ⟨g, o, none⟩ = false := by have := slotA_free hF4 k; rwa [H0.out.2.2.2.1] at this
         have hF5 := hF4.put H0.out.2.2.2.2 (j : Int)
         have hk5 : Keeps (fun q => q = F ∨ q = gi) w4 (w4.setCell (slotA F gi k) (.int .i64 (j : Int))) := Keeps.setCell _ _ _ (slotA_block F gi k)
         have hT5 := hT4.fl hF4 H0.out.2.2.1 hk5
         rw [H0.out.2.2.2.1] at hF5 hk5 hT5
         obtain ⟨w5, hw5⟩ : ∃ w5, w5 = w4.setCell ⟨g, o, none⟩ (.int .i64 (j : Int)) := ⟨_, rfl⟩
         rw [← hw5] at hF5 hk5 hT5
         have d0 : w5.cell? ⟨F, 0, none⟩ = some (.pointer (some ⟨t, 0, none⟩)) := hF5.c 0
         have HP := Lib.hid (hT5.putC (j : Int) dataBlk)
         rw [inB_nat hj] at HP
         unfold dataBlk at HP
         have H5 := Lib.hid (And.intro hF5 (And.intro hT5 (hk4.trans (hk5.mono fun _ _ e => e.elim .inl fun e => .inr (.inl e)))))
         clear hF5 hk5 hT5
         go_upto_region 14 with fail
         rw [← hw5]
         clear hw5 e1 e2
         go_wp2_with (go_at_call 24; refine HP.out.mono ?_; rintro e w6 ⟨rfl, hk6, hT6⟩)
         refine bodyPost_ret (results_two rfl (resOne_tmp _ _ _) (resOne_tmp _ _ _)) rfl ?_
         exact ⟨rfl, hT6, H5.out.1.tx H5.out.2.1 hk6, H5.out.2.2.trans (hk6.mono fun _ _ e => .inr (.inr e))⟩
   · have htk : takeIx st.bs ⟨L, T, f⟩ k = some ⟨L, T, f⟩ := by unfold takeIx; rw [if_neg h4]
     rw [htk]
     dsimp only
     have hcond : ∃ dd ii, whereT (k : Int) = (dd, ii, true) ∧ ((ii != -1) = false ∨ ((ii != -1) = true ∧ (f.n.index == -1) = false)) := by
      unfold whereT
      rw [if_neg (by omega)]
      by_cases hk4 : k < 4
      · exact ⟨_, _, by rw [if_pos (by omega)], .inl rfl⟩
      · exact ⟨_, _, by rw [if_neg (by omega)], .inr ⟨ne_bne (by omega), ne_beq (fun e => h4 ⟨by omega, e⟩)⟩⟩
     obtain ⟨dd, ii, hw, hcc⟩ := hcond
     rw [hw] at HX
     dsimp only at HX
     have HTk := Lib.hid H0.out.1.takeC
     obtain ⟨p, hp⟩ : ∃ p, p = pickT (txV L st.bs) T := ⟨_, rfl⟩
     rw [← hp] at HTk ⊢
     have Hp := Lib.hid hp
     clear hw htk h4 hp hk
     cases p with
     | none =>
       dsimp only
       rcases hcc with hc1 | ⟨hc1, hc2⟩
       all_goals
        go_enter Tryz.func86, Tryz.ntmps86
        go_wp2_with (first
         | (go_at_call 88; refine HSl.out.mono ?_; rintro e w1 ⟨rfl, hw1⟩; obtain rfl := hw1.symm)
         | (go_at_call 147; refine (HX.out _).mono ?_; rintro e w1 ⟨rfl, hw1⟩; obtain rfl := hw1.symm)
         | (go_at_call 21; refine HTk.out.mono ?_; rintro e w2 ⟨rfl, hk2, hT2⟩))
        refine bodyPost_ret (results_two rfl (resOne_tmp _ _ _) (resOne_tmp _ _ _)) rfl ?_
        exact ⟨rfl, hT2, H0.out.2.1.tx H0.out.1 hk2, hk2.mono fun _ _ e => .inr (.inr e)⟩
     | some i =>
       dsimp only
       have hi := (pick_some Hp.out.symm H0.out.1.pos).1
       rw [txV_length] at hi
       have hin := inB_nat hi
       rcases hcc with hc1 | ⟨hc1, hc2⟩
       all_goals
        go_enter Tryz.func86, Tryz.ntmps86
        go_upto_region 13 with (first
         | (go_at_call 88; refine HSl.out.mono ?_; rintro e w1 ⟨rfl, hw1⟩; obtain rfl := hw1.symm)
         | (go_at_call 147; refine (HX.out _).mono ?_; rintro e w1 ⟨rfl, hw1⟩; obtain rfl := hw1.symm)
         | (go_at_call 21; refine HTk.out.mono ?_; rintro e w2 ⟨rfl, hk2, hT2⟩))
        have hF2 := H0.out.2.1.tx H0.out.1 hk2
        have e1 : w2.cell? ⟨g, o, none⟩ = some (.int .i64 (f.slot k)) := by have := hF2.slotC H0.out.2.2.2.2; rwa [H0.out.2.2.2.1] at this
        have e2 : w2.frozen? ⟨g, o, none⟩ = false := by have := slotA_free hF2 k; rwa [H0.out.2.2.2.1] at this
        have hF5 := hF2.put H0.out.2.2.2.2 (i : Int)
        have hk5 : Keeps (fun q => q = F ∨ q = gi) w2 (w2.setCell (slotA F gi k) (.int .i64 (i : Int))) := Keeps.setCell _ _ _ (slotA_block F gi k)
        have hT5 := hT2.fl hF2 H0.out.2.2.1 hk5
        rw [H0.out.2.2.2.1] at hF5 hk5 hT5
        obtain ⟨w5, hw5⟩ : ∃ w5, w5 = w2.setCell ⟨g, o, none⟩ (.int .i64 (i : Int)) := ⟨_, rfl⟩
        rw [← hw5] at hF5 hk5 hT5
        have d0 : w5.cell? ⟨F, 0, none⟩ = some (.pointer (some ⟨t, 0, none⟩)) := hF5.c 0
        have HP := Lib.hid (hT5.putC (i : Int) dataBlk)
        rw [inB_nat hi] at HP
        unfold dataBlk at HP
        have H5 := Lib.hid (And.intro hF5 (And.intro hT5 ((hk2.mono (S' := fS F gi mp mt) fun _ _ e => .inr (.inr e)).trans (hk5.mono fun _ _ e => e.elim .inl fun e => .inr (.inl e)))))
        clear hF5 hk5 hT5
        go_upto_region 14 with fail
        rw [← hw5]
        clear hw5 e1 e2
        go_wp2_with (go_at_call 24; refine HP.out.mono ?_; rintro e w6 ⟨rfl, hk6, hT6⟩)
        refine bodyPost_ret (results_two rfl (resOne_tmp _ _ _) (resOne_tmp _ _ _)) rfl ?_
        exact ⟨rfl, hT6, H5.out.1.tx H5.out.2.1 hk6, H5.out.2.2.trans (hk6.mono fun _ _ e => .inr (.inr e))⟩
 · rw [if_pos h0]
   have h0' : (f.slot k != -1) = true := by simpa using h0
   clear h0 hk
   go_enter Tryz.func86, Tryz.ntmps86
   go_wp2_with (go_at_call 88; refine HSl.out.mono ?_; rintro e w1 ⟨rfl, hw1⟩; obtain rfl := hw1.symm)
   refine bodyPost_ret (results_two rfl (resOne_tmp _ _ _) (resOne_tmp _ _ _)) rfl ?_
   exact ⟨rfl, H0.out.1, H0.out.2.1, Keeps.refl _ _⟩
end
end
end Go.Proofs.YtbbnejehglonjaaGreat
