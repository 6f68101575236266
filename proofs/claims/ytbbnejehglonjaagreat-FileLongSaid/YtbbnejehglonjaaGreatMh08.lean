/- DERIVED. Contracts and laws that the proofs of this seat share, part 8 of 36: LibH DvA. -/
import Derived.Test.YtbbnejehglonjaaGreatMh00
import Derived.Test.YtbbnejehglonjaaGreatMh07
namespace Go.Proofs.YtbbnejehglonjaaGreat
set_option maxHeartbeats 8000000
set_option maxRecDepth 100000
set_option linter.unusedSimpArgs false
set_option linter.unusedVariables false
section
open Go.RowKit
section
variable {P : Program} {ops : Array Oper} {Q : Exit → Act → World → Prop} {md : Region.Mode} {S : World → Prop} {F : List Nat}

def noneYet (F : List Nat) (listed : Array Bool) : Bool := F.all fun j => !listed.getD j true
def wpAnyF (P : Program) (md : Region.Mode) (ops : Array Oper) (Q : Exit → Act → World → Prop) (S : World → Prop) (F : List Nat) : Nat → Array Bool → Act → World → Prop
 | 0, listed, a, w => Region.ready md ops listed = [] ∧ Q .normal a w
 | fuel + 1, listed, a, w =>
   (Region.ready md ops listed = [] → Q .normal a w) ∧
   ∀ i ∈ Region.ready md ops listed, wpOp P ops Q i (fun a' w' => (noneYet F (listed.setIfInBounds i true) = true → S w') ∧ wpAnyF P md ops Q S F fuel (listed.setIfInBounds i true) a' w') a w
theorem wpAny_of_F : ∀ (fuel : Nat) (listed : Array Bool) (a : Act) (w : World), wpAnyF P md ops Q S F fuel listed a w → wpAny P md ops Q fuel listed a w
 | 0, _, _, _, h => h
 | fuel + 1, _, _, _, h => ⟨h.1, fun i hi => wpOp_mono (fun a' w' h' => wpAny_of_F fuel _ a' w' h'.2) (h.2 i hi)⟩

def behindD (md : Region.Mode) (ops : Array Oper) (F D : List Nat) (listed : Array Bool) (i : Nat) : Bool :=
 !F.contains i && D.all (fun d => !listed.getD d true && (d == i || ((ops[d]?).map fun o => o.after.any fun e => Region.binds md e && D.contains e.on).getD false)) &&
  F.all (fun j => D.contains j)

theorem hfree_step {i j : Nat} {oi : Oper} {listed : Array Bool} (hjun : listed.getD j true = false)
 (hfree : ∀ j oj, ops[j]? = some oj → j ≠ i → listed.getD j true = false → (∀ e ∈ oj.after, Region.binds md e = true → e.on ≠ i) → oi.apart ops oj = true) :
 ∀ k ok, ops[k]? = some ok → k ≠ i → (listed.setIfInBounds j true).getD k true = false → (∀ e ∈ ok.after, Region.binds md e = true → e.on ≠ i) → oi.apart ops ok = true := fun k ok hk hki hun hno => by
 refine hfree k ok hk hki ?_ hno
 by_cases hjk : j = k
 · subst hjk; exact hjun
 · rw [getD_set_ne true hjk] at hun; exact hun
theorem hnot_step {i : Nat} {oj : Oper} {listed : Array Bool} (hi : listed.getD i true = false) (hall : ∀ e ∈ oj.after, Region.binds md e = true → listed.getD e.on false = true) : ∀ e ∈ oj.after, Region.binds md e = true → e.on ≠ i := fun e he hb heq => by
 have h1 := hall e he hb
 rw [heq] at h1
 rcases Nat.lt_or_ge i listed.size with h' | h'
 · simp [h'] at hi h1; rw [hi] at h1; cases h1
 · simp [Array.getElem?_eq_none h'] at h1
theorem noneYet_set {listed : Array Bool} {j : Nat} (h : noneYet F (listed.setIfInBounds j true) = true) : noneYet F listed = true := by
 unfold noneYet at *
 rw [List.all_eq_true] at *
 intro k hk
 have := h k hk
 by_cases e : j = k
 · subst e
   rcases Nat.lt_or_ge j listed.size with h' | h'
   · simp [h'] at this
   · simp [] at this ⊢
 · rw [getD_set_ne true e] at this; exact this

theorem wpAnyF_first {D : List Nat} {i : Nat} {oi : Oper} {v : Value} (hi : ops[i]? = some oi) (hsel : ∀ (j : Nat) (o : Oper) cs b, ops[j]? = some o → o.op ≠ .select cs b)
 (hQ : ∀ c a w, Q (.panic c) (a.put oi.dst v) w → Q (.panic c) a w)
 (hDe : ∀ d, D.contains d = true → d ≠ i → ∃ o, ops[d]? = some o ∧ ∃ e ∈ o.after, Region.binds md e = true ∧ D.contains e.on = true) (hF : ∀ j, F.contains j = true → D.contains j = true) (hiF : F.contains i = false) :
 ∀ (fuel : Nat) (listed : Array Bool) (a : Act) (w : World),
   (∀ d, D.contains d = true → listed.getD d true = false) →
   (∀ j oj, ops[j]? = some oj → j ≠ i → listed.getD j true = false → (∀ e ∈ oj.after, Region.binds md e = true → e.on ≠ i) → oi.apart ops oj = true) →
   i ∈ Region.ready md ops listed → YieldsIf P ops S oi v a → S w →
   wpAnyF P md ops Q S F fuel (listed.setIfInBounds i true) (a.put oi.dst v) w → wpAnyF P md ops Q S F (fuel + 1) listed a w := by
 have hnotD : ∀ (listed : Array Bool) (j : Nat), (∀ d, D.contains d = true → listed.getD d true = false) → j ∈ Region.ready md ops listed → j ≠ i → D.contains j = false := by
  intro listed j hD hj hji
  cases hc : D.contains j with
  | false => rfl
  | true =>
    obtain ⟨o, ho, e, he, hb, hon⟩ := hDe j hc hji
    obtain ⟨_, oj, hoj, hall⟩ := mem_ready.1 hj
    rw [ho] at hoj
    obtain rfl := Option.some.inj hoj
    have h1 := hall e he hb
    have h2 := hD _ hon
    rcases Nat.lt_or_ge e.on listed.size with h' | h'
    · simp [h'] at h1 h2; rw [h1] at h2; cases h2
    · simp [Array.getElem?_eq_none h'] at h1
 intro fuel
 induction fuel with
 | zero =>
   intro listed a w hD _ hr hy hS H
   refine ⟨fun h => (by rw [h] at hr; cases hr), fun j hj => ?_⟩
   by_cases hji : j = i
   · subst hji; exact hy.wpOp hi hS ⟨fun _ => hS, H⟩
   · have := ready_mono hj hji
     rw [H.1] at this
     cases this
 | succ fuel ih =>
   intro listed a w hD hfree hr hy hS H
   refine ⟨fun h => (by rw [h] at hr; cases hr), fun j hj => ?_⟩
   by_cases hji : j = i
   · subst hji; exact hy.wpOp hi hS ⟨fun _ => hS, H⟩
   · have h1 := H.2 j (ready_mono hj hji)
     have hjD := hnotD listed j hD hj hji
     obtain ⟨hjun, oj, hoj, hall⟩ := mem_ready.1 hj
     have hnot := hnot_step (mem_ready.1 hr).1 hall
     have h2 := wpOp_putIf hoj (hfree j oj hoj hji hjun hnot) (fun cs b => hsel i oi cs b hi) (fun cs b => hsel j oj cs b hoj) hQ hy h1
     have hD' : ∀ d, D.contains d = true → (listed.setIfInBounds j true).getD d true = false := fun d hd => by
      have hne : j ≠ d := fun e => by subst e; rw [hjD] at hd; cases hd
      rw [getD_set_ne true hne]; exact hD d hd
     have hnone : noneYet F ((listed.setIfInBounds i true).setIfInBounds j true) = true := by
      unfold noneYet
      rw [List.all_eq_true]
      intro k hk
      have hkc : F.contains k = true := by simpa using hk
      have hki : i ≠ k := fun e => by subst e; rw [hiF] at hkc; cases hkc
      have hkj : j ≠ k := fun e => by subst e; rw [hF j hkc] at hjD; cases hjD
      rw [getD_set_ne true hkj, getD_set_ne true hki, hD k (hF k hkc)]; rfl
     refine wpOp_mono (fun a' w' h3 => ?_) h2
     exact ⟨fun _ => h3.2.1 hnone, ih (listed.setIfInBounds j true) a' w' hD' (hfree_step hjun hfree) (ready_mono hr (Ne.symm hji)) h3.1 (h3.2.1 hnone) (by rw [Array.setIfInBounds_comm _ _ hji]; exact h3.2.2)⟩

theorem wpAnyF_take (D : List Nat) {i : Nat} {oi : Oper} {v : Value} {fuel : Nat} {listed : Array Bool} {a : Act} {w : World} (hi : ops[i]? = some oi)
 (hs : Region.noSelect ops = true) (hf : Region.free md ops listed i = true) (hr : (Region.ready md ops listed).contains i = true) (hD : behindD md ops F D listed i = true)
 (hQ : ∀ c a w, Q (.panic c) (a.put oi.dst v) w → Q (.panic c) a w) (hy : YieldsIf P ops S oi v a) (hS : S w)
 (h : wpAnyF P md ops Q S F fuel (listed.setIfInBounds i true) (a.put oi.dst v) w) : wpAnyF P md ops Q S F (fuel + 1) listed a w := by
 unfold behindD at hD
 rw [Bool.and_eq_true, Bool.and_eq_true] at hD
 obtain ⟨⟨h1, h2⟩, h3⟩ := hD
 rw [List.all_eq_true] at h2 h3
 refine wpAnyF_first (D := D) hi (Region.noSelect_spec hs) hQ (fun d hd hne => ?_) (fun j hj => ?_) (by simpa using h1) fuel listed a w (fun d hd => ?_) (Region.free_spec hi hf) (by simpa using hr) hy hS h
 · have := h2 d (by simpa using hd)
   rw [Bool.and_eq_true, Bool.or_eq_true] at this
   rcases this.2 with h | h
   · exact absurd (by simpa using h) hne
   · cases ho : ops[d]? with
     | none => rw [ho] at h; simp at h
     | some o =>
       rw [ho] at h
       simp only [Option.map_some, Option.getD_some] at h
       obtain ⟨e, he, hb⟩ := Array.any_eq_true'.1 h
       rw [Bool.and_eq_true] at hb
       exact ⟨o, rfl, e, he, hb.1, hb.2⟩
 · exact h3 j (by simpa using hj)
 · have := h2 d (by simpa using hd)
   rw [Bool.and_eq_true] at this
   simpa using this.1

theorem wpAnyF_firstY {i : Nat} {oi : Oper} {v : Value} (hi : ops[i]? = some oi) (hsel : ∀ (j : Nat) (o : Oper) cs b, ops[j]? = some o → o.op ≠ .select cs b)
 (hQ : ∀ c a w, Q (.panic c) (a.put oi.dst v) w → Q (.panic c) a w) (hiF : F.contains i = false) :
 ∀ (fuel : Nat) (listed : Array Bool) (a : Act) (w : World),
   (∀ j oj, ops[j]? = some oj → j ≠ i → listed.getD j true = false → (∀ e ∈ oj.after, Region.binds md e = true → e.on ≠ i) → oi.apart ops oj = true) →
   i ∈ Region.ready md ops listed → YieldsIf P ops (fun _ => True) oi v a → (noneYet F listed = true → S w) →
   wpAnyF P md ops Q S F fuel (listed.setIfInBounds i true) (a.put oi.dst v) w → wpAnyF P md ops Q S F (fuel + 1) listed a w := by
 intro fuel
 induction fuel with
 | zero =>
   intro listed a w _ hr hy hS H
   refine ⟨fun h => (by rw [h] at hr; cases hr), fun j hj => ?_⟩
   by_cases hji : j = i
   · subst hji; exact hy.wpOp hi trivial ⟨fun h => hS (noneYet_set h), H⟩
   · have := ready_mono hj hji
     rw [H.1] at this
     cases this
 | succ fuel ih =>
   intro listed a w hfree hr hy hS H
   refine ⟨fun h => (by rw [h] at hr; cases hr), fun j hj => ?_⟩
   by_cases hji : j = i
   · subst hji; exact hy.wpOp hi trivial ⟨fun h => hS (noneYet_set h), H⟩
   · have h1 := H.2 j (ready_mono hj hji)
     obtain ⟨hjun, oj, hoj, hall⟩ := mem_ready.1 hj
     have hnot := hnot_step (mem_ready.1 hr).1 hall
     have h2 := wpOp_putIf hoj (hfree j oj hoj hji hjun hnot) (fun cs b => hsel i oi cs b hi) (fun cs b => hsel j oj cs b hoj) hQ hy h1
     have hnone : noneYet F (listed.setIfInBounds j true) = true → noneYet F ((listed.setIfInBounds i true).setIfInBounds j true) = true := by
      intro h
      unfold noneYet at *
      rw [List.all_eq_true] at *
      intro k hk
      have hkc : F.contains k = true := by simpa using hk
      have hki : i ≠ k := fun e => by subst e; rw [hiF] at hkc; cases hkc
      rw [Array.setIfInBounds_comm _ _ (Ne.symm hji), getD_set_ne true hki]
      exact h k hk
     refine wpOp_mono (fun a' w' h3 => ?_) h2
     exact ⟨fun h => h3.2.1 (hnone h), ih (listed.setIfInBounds j true) a' w' (hfree_step hjun hfree) (ready_mono hr (Ne.symm hji)) h3.1 (fun h => h3.2.1 (hnone h)) (by rw [Array.setIfInBounds_comm _ _ hji]; exact h3.2.2)⟩
theorem wpAnyF_pure {i : Nat} {oi : Oper} {v : Value} {fuel : Nat} {listed : Array Bool} {a : Act} {w : World} (hi : ops[i]? = some oi)
 (hs : Region.noSelect ops = true) (hf : Region.free md ops listed i = true) (hr : (Region.ready md ops listed).contains i = true) (hF : F.contains i = false)
 (hQ : ∀ c a w, Q (.panic c) (a.put oi.dst v) w → Q (.panic c) a w) (hy : YieldsIf P ops (fun _ => True) oi v a) (hS : noneYet F listed = true → S w)
 (h : wpAnyF P md ops Q S F fuel (listed.setIfInBounds i true) (a.put oi.dst v) w) : wpAnyF P md ops Q S F (fuel + 1) listed a w :=
 wpAnyF_firstY hi (Region.noSelect_spec hs) hQ hF fuel listed a w (Region.free_spec hi hf) (by simpa using hr) hy hS h

def AllReadyF (P : Program) (md : Region.Mode) (ops : Array Oper) (Q : Exit → Act → World → Prop) (S : World → Prop) (F : List Nat) (fuel : Nat) (listed : Array Bool) (a : Act) (w : World) (rs : List Nat) : Prop :=
 ∀ i ∈ rs, wpOp P ops Q i (fun a' w' => (noneYet F (listed.setIfInBounds i true) = true → S w') ∧ wpAnyF P md ops Q S F fuel (listed.setIfInBounds i true) a' w') a w
theorem AllReadyF.nil {fuel : Nat} {listed : Array Bool} {a : Act} {w : World} : AllReadyF P md ops Q S F fuel listed a w [] := fun _ h => by cases h
theorem AllReadyF.cons {fuel : Nat} {listed : Array Bool} {a : Act} {w : World} {i : Nat} {o : Oper} {rs : List Nat} (ho : ops[i]? = some o)
 (h : ∀ K' : Act → World → Prop, Shut (∀ a w, S w → (S w → wpAnyF P md ops Q S F fuel (listed.setIfInBounds i true) a w) → K' a w) → if Region.wanted o (yielded ops a.tmps) = true then Oper.wp P o a w K' Q else K' (a.put o.dst undef) w)
 (hs : AllReadyF P md ops Q S F fuel listed a w rs) : AllReadyF P md ops Q S F fuel listed a w (i :: rs) := fun j hj => by
 rcases List.mem_cons.1 hj with rfl | hj
 · exact wpOp_step ho (fun K' hK => h K' (fun a w hS hW => hK a w ⟨fun _ => hS, hW hS⟩))
 · exact hs j hj
theorem AllReadyF.last {fuel : Nat} {listed : Array Bool} {a : Act} {w : World} {i : Nat} {o : Oper} {rs : List Nat} (ho : ops[i]? = some o) (hF : noneYet F (listed.setIfInBounds i true) = false)
 (h : ∀ K' : Act → World → Prop, Shut (∀ a w, True → (True → wpAnyF P md ops Q S F fuel (listed.setIfInBounds i true) a w) → K' a w) → if Region.wanted o (yielded ops a.tmps) = true then Oper.wp P o a w K' Q else K' (a.put o.dst undef) w)
 (hs : AllReadyF P md ops Q S F fuel listed a w rs) : AllReadyF P md ops Q S F fuel listed a w (i :: rs) := fun j hj => by
 rcases List.mem_cons.1 hj with rfl | hj
 · exact wpOp_step ho (fun K' hK => h K' (fun a w hS hW => hK a w ⟨(fun h => by rw [hF] at h; cases h), hW hS⟩))
 · exact hs j hj
theorem wpAnyF_ready {rs : List Nat} {fuel : Nat} {listed : Array Bool} {a : Act} {w : World} (hr : Region.ready md ops listed = rs) (hne : rs ≠ [])
 (h : AllReadyF P md ops Q S F fuel listed a w rs) : wpAnyF P md ops Q S F (fuel + 1) listed a w :=
 ⟨fun h0 => absurd (hr ▸ h0) hne, hr ▸ h⟩
theorem wpAnyF_done {listed : Array Bool} {a : Act} {w : World} (hr : Region.ready md ops listed = []) (h : Q .normal a w) :
 ∀ fuel, wpAnyF P md ops Q S F fuel listed a w
 | 0 => ⟨hr, h⟩
 | _ + 1 => ⟨fun _ => h, by rw [hr]; simp⟩
theorem wp_region_F (F : List Nat) {id : Nat} {a : Act} {w : World} (hm : P.follows .mixedOrders = true) (hS : S w.drew)
 (h : S w.drew → wpAnyF P .any ops Q S F ops.size (Array.replicate ops.size false) a w.drew) : (Code.region id ops true).wp P Q a w :=
 wp_region_any hm (wpAny_of_F _ _ _ _ (h hS))
end
theorem gF {P : Program} {ops : Array Oper} {Q : Exit → Act → World → Prop} {md : Region.Mode} {S : World → Prop} {F : List Nat} (i : Nat) (D : List Nat) {oi : Oper} {v : Value} {fuel : Nat} {listed : Array Bool} {a : Act} {w : World}
 (h : wpAnyF P md ops Q S F fuel (listed.setIfInBounds i true) (a.put oi.dst v) w)
 (hi : ops[i]? = some oi := by rfl) (hs : Region.noSelect ops = true := by kernel_rfl) (hf : Region.free md ops listed i = true := by kernel_rfl) (hr : (Region.ready md ops listed).contains i = true := by kernel_rfl) (hD : behindD md ops F D listed i = true := by kernel_rfl) (hw : Region.wanted oi (yielded ops a.tmps) = true := by rfl) (hS : S w := by assumption) (hQ : ∀ c a w, Q (.panic c) (a.put oi.dst v) w → Q (.panic c) a w := by exact fun _ _ _ h => h) (hy : ∀ w, S w → (execOp a.eval oi).run P w = .ok (.value v) w := by (intro w hSw; (try dsimp only at hSw); go_split_ands; (try simp only [qA, qB, qC]); go_simp; (try with_reducible rfl))) : wpAnyF P md ops Q S F (fuel + 1) listed a w :=
 wpAnyF_take D hi hs hf hr hD hQ (Or.inl ⟨hw, hy⟩) hS h
theorem gP {P : Program} {ops : Array Oper} {Q : Exit → Act → World → Prop} {md : Region.Mode} {S : World → Prop} {F : List Nat} (i : Nat) {oi : Oper} {v : Value} {fuel : Nat} {listed : Array Bool} {a : Act} {w : World}
 (h : wpAnyF P md ops Q S F fuel (listed.setIfInBounds i true) (a.put oi.dst v) w)
 (hi : ops[i]? = some oi := by rfl) (hs : Region.noSelect ops = true := by kernel_rfl) (hf : Region.free md ops listed i = true := by kernel_rfl) (hr : (Region.ready md ops listed).contains i = true := by kernel_rfl) (hF : F.contains i = false := by kernel_rfl) (hw : Region.wanted oi (yielded ops a.tmps) = true := by rfl) (hS : noneYet F listed = true → S w := by first | (intro _; assumption) | (intro h; exact absurd h (by decide))) (hQ : ∀ c a w, Q (.panic c) (a.put oi.dst v) w → Q (.panic c) a w := by exact fun _ _ _ h => h) (hy : ∀ w, True → (execOp a.eval oi).run P w = .ok (.value v) w := by (intro w hSw; clear hSw; (try simp only [qA, qB, qC]); go_simp; (try with_reducible rfl))) : wpAnyF P md ops Q S F (fuel + 1) listed a w :=
 wpAnyF_pure hi hs hf hr hF hQ (Or.inl ⟨hw, hy⟩) hS h
theorem gW {P : Program} {ops : Array Oper} {Q : Exit → Act → World → Prop} {md : Region.Mode} {S : World → Prop} {F : List Nat} {fuel : Nat} {listed : Array Bool} {a : Act} {w : World} (i : Nat) {oi : Oper} 
 (h : ∀ K' : Act → World → Prop, Shut (∀ a w, S w → (S w → wpAnyF P md ops Q S F fuel (listed.setIfInBounds i true) a w) → K' a w) → if Region.wanted oi (yielded ops a.tmps) = true then Oper.wp P oi a w K' Q else K' (a.put oi.dst undef) w)
 (hi : ops[i]? = some oi := by rfl) (hr : Region.ready md ops listed = [i] := by kernel_rfl) : wpAnyF P md ops Q S F (fuel + 1) listed a w :=
 wpAnyF_ready hr (by simp) (AllReadyF.cons hi h AllReadyF.nil)
theorem gV {P : Program} {ops : Array Oper} {Q : Exit → Act → World → Prop} {md : Region.Mode} {S : World → Prop} {F : List Nat} {fuel : Nat} {listed : Array Bool} {a : Act} {w : World} (i : Nat) {oi : Oper} 
 (h : ∀ K' : Act → World → Prop, Shut (∀ a w, True → (True → wpAnyF P md ops Q S F fuel (listed.setIfInBounds i true) a w) → K' a w) → if Region.wanted oi (yielded ops a.tmps) = true then Oper.wp P oi a w K' Q else K' (a.put oi.dst undef) w)
 (hi : ops[i]? = some oi := by rfl) (hr : Region.ready md ops listed = [i] := by kernel_rfl) (hF : noneYet F (listed.setIfInBounds i true) = false := by kernel_rfl) : wpAnyF P md ops Q S F (fuel + 1) listed a w :=
 wpAnyF_ready hr (by simp) (AllReadyF.last hi hF h AllReadyF.nil)
end
section
open Go.RowKit
attribute [local go_sem] hasBlk
attribute [local irreducible] Calls

theorem BytesAt.congr {w w' : World} {a : Addr} {l : List UInt8} (h : BytesAt w (some a) l) (e : objAt w' a.block = objAt w a.block) : BytesAt w' (some a) l := by
 obtain ⟨b, off, h1, h2⟩ := h
 refine ⟨b, off, h1, fun i hi => ?_⟩
 obtain rfl := Option.some.inj (h1 (by omega))
 rw [← h2 i hi]
 exact World.cell?_of_block e
theorem cell_obj {w : World} {g : Nat} {c : Array Value} {t : TypeId} (h : objAt w g = some (.cells c t (0, 0))) (i : Nat) : w.cell? ⟨g, i, none⟩ = c[i]? := by
 have h' : w.heap[g]? = _ := h
 simp only [World.cell?, h']; rfl
theorem free_obj {w : World} {g : Nat} {c : Array Value} {t : TypeId} (h : objAt w g = some (.cells c t (0, 0))) (i : Nat) : w.frozen? ⟨g, i, none⟩ = false := by
 have h' : w.heap[g]? = _ := h
 simp [World.frozen?, h']
theorem objAt_setCell {w : World} {g : Nat} {c : Array Value} {t : TypeId} (h : objAt w g = some (.cells c t (0, 0))) (i : Nat) (v : Value) : objAt (w.setCell ⟨g, i, none⟩ v) g = some (.cells (c.setIfInBounds i v) t (0, 0)) := heap_setCell_same h i v
theorem Keeps.obj {T : Nat → Prop} {w w' : World} (h : Keeps T w w') {g : Nat} {o : Obj} (hg : objAt w g = some o) (hT : ¬ T g) : objAt w' g = some o := (h.block g (block_lt hg) hT).trans hg
theorem Keeps.of_below_size {w w' : World} (hb : Below w.heap.size w w') : Keeps (fun k => w.heap.size ≤ k) w w' := ⟨hb.os, hb.tape, hb.output, hb.size, fun k hk _ => hb.block k hk⟩
theorem ne_of_obj {w : World} {g g' : Nat} {c c' : Array Value} {t t' : TypeId} {f f' : Nat × Nat} (h : objAt w g = some (.cells c t f)) (h' : objAt w g' = some (.cells c' t' f')) (ht : t ≠ t') : g ≠ g' := by
 intro e
 subst e
 rw [h] at h'
 simp only [Option.some.injEq, Obj.cells.injEq] at h'
 exact ht h'.2.1
def grownS (S : Nat → Prop) (w w' : World) : Nat → Prop := fun k => k < w'.heap.size ∧ (S k ∨ w.heap.size ≤ k)
theorem grownS_of {S : Nat → Prop} {w w' : World} (hS : ∀ k, S k → k < w.heap.size) (h : w.heap.size ≤ w'.heap.size) : ∀ k, S k → grownS S w w' k := fun k hk => ⟨Nat.lt_of_lt_of_le (hS k hk) h, .inl hk⟩
theorem BRow.obj {w : World} {B g n cap : Nat} {l : List UInt8} (h : BRow w B (.slice (some ⟨g, 0, none⟩) n cap) l) : ∃ q, objAt w g = some (.cells q 5 (0, 0)) := by
 rcases h.2 with ⟨h', _⟩ | ⟨g', cap', cur, h', hb, hg, _⟩
 · cases h'
 · simp only [Value.slice.injEq, Option.some.injEq, Addr.mk.injEq] at h'
   obtain ⟨⟨rfl, _⟩, _, _⟩ := h'
   exact ⟨cur, hg⟩
theorem BRow.ge {w : World} {B g n cap : Nat} {l : List UInt8} (h : BRow w B (.slice (some ⟨g, 0, none⟩) n cap) l) : B ≤ g := by
 rcases h.2 with ⟨h', _⟩ | ⟨g', cap', cur, h', hb, hg, _⟩
 · cases h'
 · simp only [Value.slice.injEq, Option.some.injEq, Addr.mk.injEq] at h'
   obtain ⟨⟨rfl, _⟩, _, _⟩ := h'
   exact hb
theorem BRow.keepsNe {w w' : World} {B g n cap : Nat} {l : List UInt8} (h : BRow w B (.slice (some ⟨g, 0, none⟩) n cap) l) {T : Nat → Prop} (hk : Keeps T w w') (hT : ¬ T g) : BRow w' B (.slice (some ⟨g, 0, none⟩) n cap) l := by
 rcases h.2 with ⟨h', _⟩ | ⟨g', cap', cur, h', hb, hg, hnc, hcm, hcs, htake⟩
 · cases h'
 · have e : g = g' := by
    simp only [Value.slice.injEq, Option.some.injEq, Addr.mk.injEq] at h'
    exact h'.1.1
   subst e
   exact ⟨h.1, .inr ⟨g, cap', cur, h', hb, (hk.block g (block_lt hg) hT).trans hg, hnc, hcm, hcs, htake⟩⟩
theorem BRow.cap {w : World} {B g n cap : Nat} {l : List UInt8} (h : BRow w B (.slice (some ⟨g, 0, none⟩) n cap) l) : l.length ≤ cap := by
 rcases h.2 with ⟨h', _⟩ | ⟨g', cap', cur, h', hb, hg, hnc, _⟩
 · cases h'
 · simp only [Value.slice.injEq] at h'
   obtain ⟨_, _, rfl⟩ := h'
   exact hnc
/-! Rows. -/
theorem flat_getG {k : Nat} : ∀ {xs : List (List Value)}, (∀ c ∈ xs, c.length = k) → ∀ {i j : Nat} {c : List Value} {u : Value}, xs[i]? = some c → c[j]? = some u → xs.flatten[i * k + j]? = some u
 | [], _, i, j, c, u, h, _ => by simp at h
 | x :: xs, hx, 0, j, c, u, h, hu => by
   simp only [List.getElem?_cons_zero, Option.some.injEq] at h
   subst h
   have hj := (List.getElem?_eq_some_iff.1 hu).1
   rw [List.flatten_cons, Nat.zero_mul, Nat.zero_add, List.getElem?_append_left hj]; exact hu
 | x :: xs, hx, i + 1, j, c, u, h, hu => by
   simp only [List.getElem?_cons_succ] at h
   have hl : x.length = k := hx x (by simp)
   have e : (i + 1) * k + j = x.length + (i * k + j) := by rw [hl, Nat.succ_mul]; omega
   rw [List.flatten_cons, e, List.getElem?_append_right (by omega), Nat.add_sub_cancel_left]
   exact flat_getG (fun c hc => hx c (by simp [hc])) h hu

structure RowG {α : Type} (w : World) (S : Nat → Prop) (e : TypeId) (k : Nat) (R : World → α → List Value → Prop) (v : Value) (al : List α) : Prop where
 ex : ∃ xs : List (List Value), w.ownsRow 0 e k v al.length xs.flatten ∧ xs.length = al.length ∧ (∀ c ∈ xs, c.length = k) ∧ ∀ (i : Nat) (a : α) (c : List Value), al[i]? = some a → xs[i]? = some c → R w a c
 own : ∀ g, v.ownBlock = some g → S g
section
variable {α : Type} {w : World} {S : Nat → Prop} {e : TypeId} {k : Nat} {R : World → α → List Value → Prop} {v : Value} {al : List α}
theorem owns_keeps {T : Nat → Prop} {w w' : World} {e : TypeId} {k n B : Nat} {v : Value} {xs : List Value} (h : w.ownsRow B e k v n xs) (hk : Keeps T w w') (hT : ∀ g, v.ownBlock = some g → ¬ T g) : w'.ownsRow B e k v n xs := by
 rcases h.2 with ⟨h', h0⟩ | ⟨g', cap', cur, h', hb, hg, hnc, hcm, hcs, htake⟩
 · exact ⟨h.1, .inl ⟨h', h0⟩⟩
 · exact ⟨h.1, .inr ⟨g', cap', cur, h', hb, by rw [hk.block g' (block_lt hg) (hT g' (by rw [h']; rfl))]; exact hg, hnc, hcm, hcs, htake⟩⟩
theorem RowG.keeps (h : RowG w S e k R v al) {w' : World} {S' T : Nat → Prop} {R' : World → α → List Value → Prop} (hk : Keeps T w w') (hT : ∀ g, v.ownBlock = some g → ¬ T g) (hS : ∀ g, S g → S' g) (hR : ∀ a c, R w a c → R' w' a c) : RowG w' S' e k R' v al := by
 obtain ⟨xs, h1, h2, h3, h4⟩ := h.ex
 exact ⟨⟨xs, owns_keeps h1 hk hT, h2, h3, fun i a c ha hc => hR a c (h4 i a c ha hc)⟩, fun g hg => hS g (h.own g hg)⟩
theorem RowG.nil (w : World) (S : Nat → Prop) (e : TypeId) (k : Nat) (R : World → α → List Value → Prop) : RowG w S e k R (.slice none 0 0) [] :=
 ⟨⟨[], World.ownsRow_nil w 0 e k, rfl, fun c hc => by simp at hc, fun i a c ha => by simp at ha⟩, fun g hg => by cases hg⟩
theorem RowG.obj (h : RowG w S e k R v al) {g : Nat} (hg : v.ownBlock = some g) : ∃ c, objAt w g = some (.cells c e (0, 0)) := by
 obtain ⟨xs, h1, _⟩ := h.ex
 rcases h1.2 with ⟨h', h0⟩ | ⟨g', cap', cur, h', hb, hg', hnc, hcm, hcs, htake⟩
 · subst h'; cases hg
 · subst h'
   obtain rfl := Option.some.inj hg
   exact ⟨cur, hg'⟩
theorem RowG.lt (h : RowG w S e k R v al) {g : Nat} (hg : v.ownBlock = some g) : g < w.heap.size := by
 obtain ⟨c, hc⟩ := h.obj hg
 exact block_lt hc
theorem RowG.form (h : RowG w S e k R v al) (h0 : 0 < al.length) : ∃ g cap, v = .slice (some ⟨g, 0, none⟩) al.length cap := by
 obtain ⟨xs, h1, _⟩ := h.ex
 obtain ⟨g, cap, h2, _⟩ := World.ownsRow.form h1 h0
 exact ⟨g, cap, h2⟩
theorem RowG.slice (h : RowG w S e k R v al) : ∃ a cap, v = .slice a al.length cap ∧ (a = none → al = []) := by
 obtain ⟨xs, h1, _⟩ := h.ex
 rcases h1.2 with ⟨h', h0⟩ | ⟨g', cap', cur, h', _⟩
 · exact ⟨none, 0, by rw [h', h0], fun _ => List.length_eq_zero_iff.1 h0⟩
 · exact ⟨_, _, h', fun h => by cases h⟩
theorem RowG.cells {g n cap : Nat} (h : RowG w S e k R (.slice (some ⟨g, 0, none⟩) n cap) al) {i : Nat} {a : α} (ha : al[i]? = some a) : ∃ c, c.length = k ∧ R w a c ∧ ∀ j u, c[j]? = some u → w.cell? ⟨g, i * k + j, none⟩ = some u := by
 obtain ⟨xs, h1, h2, h3, h4⟩ := h.ex
 have hi := (List.getElem?_eq_some_iff.1 ha).1
 have hx : xs[i]? = some xs[i] := List.getElem?_eq_getElem (by omega)
 refine ⟨xs[i], h3 _ (List.getElem_mem _), h4 i a _ ha hx, fun j u hu => ?_⟩
 have := World.ownsRow.cells h1 (g := g) rfl _ _ (flat_getG h3 hx hu)
 rwa [add_off', Nat.zero_add] at this
theorem RowG.len {g n cap : Nat} (h : RowG w S e k R (.slice (some ⟨g, 0, none⟩) n cap) al) : n = al.length := by
 obtain ⟨xs, h1, _⟩ := h.ex
 rcases h1.2 with ⟨h', h0⟩ | ⟨g', cap', cur, h', _⟩
 · cases h'
 · simp only [Value.slice.injEq] at h'; exact h'.2.1
theorem RowG.free {g n cap : Nat} (h : RowG w S e k R (.slice (some ⟨g, 0, none⟩) n cap) al) (j : Nat) : w.frozen? ⟨g, j, none⟩ = false := by
 obtain ⟨c, hc⟩ := h.obj (g := g) rfl
 exact free_obj hc j
theorem RowG.set {g n cap : Nat} (h : RowG w S e 1 R (.slice (some ⟨g, 0, none⟩) n cap) al) {i : Nat} (hi : i < al.length) {x : Value} {a : α} {R' : World → α → List Value → Prop} (hx : R' (w.setCell ⟨g, i, none⟩ x) a [x]) (hR : ∀ a c, R w a c → R' (w.setCell ⟨g, i, none⟩ x) a c) :
 RowG (w.setCell ⟨g, i, none⟩ x) S e 1 R' (.slice (some ⟨g, 0, none⟩) n cap) (al.set i a) := by
 obtain ⟨xs, h1, h2, h3, h4⟩ := h.ex
 refine ⟨⟨xs.set i [x], ?_, by rw [List.length_set, List.length_set, h2], fun c hc => ?_, fun j b c hb hc => ?_⟩, h.own⟩
 · rcases h1.2 with ⟨h', h0⟩ | ⟨g', cap', cur, h', hb, hg, hnc, hcm, hcs, htake⟩
   · cases h'
   · simp only [Value.slice.injEq, Option.some.injEq, Addr.mk.injEq] at h'
     obtain ⟨⟨rfl, _⟩, hn, rfl⟩ := h'
     have hfl : (xs.set i [x]).flatten = xs.flatten.set i x := by
      have hone : ∀ (ys : List (List Value)) (i : Nat), (∀ c ∈ ys, c.length = 1) → i < ys.length → (ys.set i [x]).flatten = ys.flatten.set i x := by
       intro ys
       induction ys with
       | nil => intro i _ hi; simp at hi
       | cons y ys ih =>
         intro i hy hi
         obtain ⟨y0, rfl⟩ := List.length_eq_one_iff.1 (hy y (by simp))
         cases i with
         | zero => simp
         | succ i =>
           simp only [qF, List.flatten_cons, List.cons_append, List.nil_append]
           rw [ih i (fun c hc => hy c (by simp [hc])) (by simpa using hi)]
      exact hone xs i h3 (by omega)
     refine ⟨by rw [hfl, List.length_set, List.length_set]; exact h1.1, .inr ⟨g, cap, cur.setIfInBounds i x, by rw [List.length_set, hn], hb, heap_setCell_same hg i x, by rw [List.length_set]; exact hnc, hcm, by simpa using hcs, ?_⟩⟩
     rw [hfl, List.length_set, Array.toList_setIfInBounds, ← htake]
     rw [List.take_set]
 · rcases List.mem_or_eq_of_mem_set hc with hc | rfl
   · exact h3 c hc
   · rfl
 · by_cases e : i = j
   · subst e
     rw [List.getElem?_set_self (by omega)] at hb hc
     obtain rfl := Option.some.inj hb
     obtain rfl := Option.some.inj hc
     exact hx
   · rw [List.getElem?_set_ne e] at hb hc
     exact hR b c (h4 j b c hb hc)
end

structure ElemK (P : Program) (t e : TypeId) (k bytes : Nat) : Prop where
 ht : P.underlying t = some (.slice e)
 info : ∃ i z, P.info? e = some i ∧ i.zero = some z ∧ i.size = k ∧ i.bytes = bytes ∧ z.cells.size = k
 le : bytes ≤ 1024
 pos : 0 < k
theorem ElemK.mk' {P : Program} {t e : TypeId} {z : Value} {k bytes : Nat} (ht : P.underlying t = some (.slice e)) (h : (P.info? e).map (fun i => (i.zero, i.size, i.bytes)) = some (some z, k, bytes)) (hz : z.cells.size = k) (hb : bytes ≤ 1024) (hk : 0 < k) : ElemK P t e k bytes := by
 obtain ⟨i, h1, h2, h3, h4⟩ := info_parts h
 exact ⟨ht, ⟨i, z, h1, h2, h3, h4, hz⟩, hb, hk⟩

theorem wp_appG {α : Type} {t e : TypeId} {k bytes : Nat} (E : ElemK Tryz.prog t e k bytes) {o : Oper} {a : Act} {w : World} {K : Act → World → Prop} {Q : Exit → Act → World → Prop} (s x : Operand) (ho : o.op = .call { callee := .builtin .append, args := #[s, x], argTypes := #[t, t] })
 {S : Nat → Prop} {R : World → α → List Value → Prop} {v : Value} {al : List α} (hs : a.eval s = v) (hown : RowG w S e k R v al) {g : Nat} {c : Array Value} (hx : a.eval x = .slice (some ⟨g, 0, none⟩) 1 1) (hu : objAt w g = some (.cells c e (0, 0))) (hc : c.size = k) (h1 : ∀ u ∈ c.toList, u.oneCell' = true) (hn : al.length < 1000000)
 (R' : World → α → List Value → Prop) (b : α) (hR : ∀ w', Keeps (fun q => v.ownBlock = some q) w w' → (∀ a c, R w a c → R' w' a c) ∧ R' w' b c.toList)
 (h : ∀ g' cap' w', RowG w' (fun q => S q ∨ w.heap.size ≤ q) e k R' (.slice (some ⟨g', 0, none⟩) (al.length + 1) cap') (al ++ [b]) → Keeps (fun q => v.ownBlock = some q) w w' → (v.ownBlock = some g' ∨ g' = w.heap.size) → g' < w'.heap.size → K (a.put o.dst (.slice (some ⟨g', 0, none⟩) (al.length + 1) cap')) w') :
 o.wp Tryz.prog a w K Q := by
 obtain ⟨i, z, hi, hz, hsz, hby, hzs⟩ := E.info
 have hle := E.le
 obtain ⟨xs, hox, hxl, hxk, hxR⟩ := hown.ex
 have hbb : (al.length + 1) * bytes ≤ 1000000 * 1024 := Nat.mul_le_mul (by omega) hle
 refine wp_append_lies w s x t ho 0 e i z k bytes E.ht hi hz hsz hby hzs E.pos v al.length _ hs hox ⟨g, 0, none⟩ 1 1 c.toList hx (by rw [Array.length_toList, hc, Nat.one_mul]) (fun j u hj => by
  rw [add_off', Nat.zero_add, cell_obj hu]; simpa using hj) h1 (by decide) (by unfold maxLen; omega) (by omega) (Nat.zero_le _) w.heap.size rfl ?_
 intro g' cap w' hw' hgr hor hlt
 have hK : Keeps (fun q => v.ownBlock = some q) w w' := ⟨hgr.os, hgr.tape, hgr.output, hgr.size, fun k' hk' hn' => hgr.block k' hk' (fun e => hn' e.symm)⟩
 obtain ⟨hR1, hR2⟩ := hR w' hK
 refine h g' cap w' ⟨⟨xs ++ [c.toList], by rw [List.length_append, List.flatten_append]; simpa using hw', by simp [hxl], fun y hy => ?_, fun j y z hy hz => ?_⟩, fun g2 hg2 => ?_⟩ hK hor hlt
 · rw [List.mem_append, List.mem_singleton] at hy
   rcases hy with hy | rfl
   · exact hxk y hy
   · rw [Array.length_toList, hc]
 · by_cases hj : j < al.length
   · rw [List.getElem?_append_left hj] at hy
     rw [List.getElem?_append_left (by omega)] at hz
     exact hR1 y z (hxR j y z hy hz)
   · rw [List.getElem?_append_right (by omega)] at hy hz
     have hj2 : j - al.length = 0 := by
      have := (List.getElem?_eq_some_iff.1 hy).1
      simp only [List.length_singleton] at this; omega
     rw [hxl, hj2] at hz
     rw [hj2] at hy
     simp only [List.getElem?_cons_zero, Option.some.injEq] at hy hz
     subst hy hz
     exact hR2
 · obtain rfl : g' = g2 := Option.some.inj hg2
   rcases hor with ho | ho
   · exact .inl (hown.own _ ho)
   · exact .inr (by omega)
theorem step_appG {α : Type} {t e : TypeId} {k bytes : Nat} (E : ElemK Tryz.prog t e k bytes) {ops : Array Oper} {o : Oper} {a b0 : Act} {w : World} {K : Act → World → Prop} {Q : Exit → Act → World → Prop} {F : Prop} (hgd : o.guard = none) (s x : Operand) (ho : o.op = .call { callee := .builtin .append, args := #[s, x], argTypes := #[t, t] })
 {S : Nat → Prop} {R : World → α → List Value → Prop} {v : Value} {al : List α} (hs : a.eval s = v) (hown : RowG w S e k R v al) {g : Nat} {c : Array Value} (hx : a.eval x = .slice (some ⟨g, 0, none⟩) 1 1) (hu : objAt w g = some (.cells c e (0, 0))) (hc : c.size = k) (h1 : ∀ u ∈ c.toList, u.oneCell' = true) (hn : al.length < 1000000)
 (R' : World → α → List Value → Prop) (b : α) (hR : ∀ w', Keeps (fun q => v.ownBlock = some q) w w' → (∀ a c, R w a c → R' w' a c) ∧ R' w' b c.toList)
 (h : ∀ g' cap' w', RowG w' (fun q => S q ∨ w.heap.size ≤ q) e k R' (.slice (some ⟨g', 0, none⟩) (al.length + 1) cap') (al ++ [b]) → Keeps (fun q => v.ownBlock = some q) w w' → (v.ownBlock = some g' ∨ g' = w.heap.size) → g' < w'.heap.size → K (a.put o.dst (.slice (some ⟨g', 0, none⟩) (al.length + 1) cap')) w') :
 if Region.wanted o (yielded ops b0.tmps) = true then Oper.wp Tryz.prog o a w K Q else F := by
 have hw : Region.wanted o (yielded ops b0.tmps) = true := by simp [Region.wanted, hgd]
 rw [if_pos hw]
 exact wp_appG E s x ho hs hown hx hu hc h1 hn R' b hR h
theorem list_appG {α : Type} {t e : TypeId} {k bytes : Nat} (E : ElemK Tryz.prog t e k bytes) {ops : Array Oper} {o : Oper} {a : Act} {w : World} {Q : Exit → Act → World → Prop} {rest : List Oper} (hgd : o.guard = none) (s x : Operand) (ho : o.op = .call { callee := .builtin .append, args := #[s, x], argTypes := #[t, t] })
 {S : Nat → Prop} {R : World → α → List Value → Prop} {v : Value} {al : List α} (hs : a.eval s = v) (hown : RowG w S e k R v al) {g : Nat} {c : Array Value} (hx : a.eval x = .slice (some ⟨g, 0, none⟩) 1 1) (hu : objAt w g = some (.cells c e (0, 0))) (hc : c.size = k) (h1 : ∀ u ∈ c.toList, u.oneCell' = true) (hn : al.length < 1000000)
 (R' : World → α → List Value → Prop) (b : α) (hR : ∀ w', Keeps (fun q => v.ownBlock = some q) w w' → (∀ a c, R w a c → R' w' a c) ∧ R' w' b c.toList)
 (h : ∀ g' cap' w', RowG w' (fun q => S q ∨ w.heap.size ≤ q) e k R' (.slice (some ⟨g', 0, none⟩) (al.length + 1) cap') (al ++ [b]) → Keeps (fun q => v.ownBlock = some q) w w' → (v.ownBlock = some g' ∨ g' = w.heap.size) → g' < w'.heap.size → wpList Tryz.prog ops Q rest (a.put o.dst (.slice (some ⟨g', 0, none⟩) (al.length + 1) cap')) w') :
 wpList Tryz.prog ops Q (o :: rest) a w :=
 wpList_plain hgd fun _ hK => wp_appG E s x ho hs hown hx hu hc h1 hn R' b hR fun g' cap' w' h2 h3 h4 h5 => hK _ _ (h g' cap' w' h2 h3 h4 h5)
theorem elemBytesK : ElemK Tryz.prog 204 22 1 24 := ElemK.mk' (z := .slice none 0 0) Tryz.underlying204 (by kernel_rfl) rfl (by decide) (by decide)
theorem elemWriteK : ElemK Tryz.prog 205 269 2 32 := ElemK.mk' (z := .agg #[.int .i64 0, .slice none 0 0]) Tryz.underlying205 (by kernel_rfl) rfl (by decide) (by decide)
theorem elemRegionK : ElemK Tryz.prog 200 203 1 8 := ElemK.mk' (z := .pointer none) Tryz.underlying200 (by kernel_rfl) rfl (by decide) (by decide)

/-! The device. -/
structure Reg where
 seen : List (List UInt8)
 sure : List (List UInt8)
 later : List (Nat × List UInt8)
 trace : List (List UInt8)
structure Dv where
 regs : List Reg
 left : Int
def ByteAt (w : World) (S : Nat → Prop) (x : Value) (l : List UInt8) : Prop := ∃ a q n, x = .slice (some a) l.length n ∧ BytesAt w (some a) l ∧ S a.block ∧ objAt w a.block = some (.cells q 5 (0, 0))
def BEl (S : Nat → Prop) (w : World) (l : List UInt8) (c : List Value) : Prop := ∃ x, c = [x] ∧ ByteAt w S x l
def WEl (S : Nat → Prop) (w : World) (p : Nat × List UInt8) (c : List Value) : Prop := ∃ x, c = [.int .i64 p.1, x] ∧ ByteAt w S x p.2
theorem ByteAt.keeps {w w' : World} {S S' T : Nat → Prop} {x : Value} {l : List UInt8} (h : ByteAt w S x l) (hk : Keeps T w w') (hT : ∀ g q, S g → objAt w g = some (.cells q 5 (0, 0)) → ¬ T g) (hS : ∀ g, S g → g < w.heap.size → S' g) : ByteAt w' S' x l := by
 obtain ⟨a, q, n, h1, h2, h3, h4⟩ := h
 have := hk.obj h4 (hT _ q h3 h4)
 exact ⟨a, q, n, h1, h2.congr (by rw [this, h4]), hS _ h3 (block_lt h4), this⟩
theorem BEl.keeps {w w' : World} {S S' T : Nat → Prop} (hk : Keeps T w w') (hT : ∀ g q, S g → objAt w g = some (.cells q 5 (0, 0)) → ¬ T g) (hS : ∀ g, S g → g < w.heap.size → S' g) (l : List UInt8) (c : List Value) (h : BEl S w l c) : BEl S' w' l c := by
 obtain ⟨x, h1, h2⟩ := h
 exact ⟨x, h1, h2.keeps hk hT hS⟩
theorem WEl.keeps {w w' : World} {S S' T : Nat → Prop} (hk : Keeps T w w') (hT : ∀ g q, S g → objAt w g = some (.cells q 5 (0, 0)) → ¬ T g) (hS : ∀ g, S g → g < w.heap.size → S' g) (p : Nat × List UInt8) (c : List Value) (h : WEl S w p c) : WEl S' w' p c := by
 obtain ⟨x, h1, h2⟩ := h
 exact ⟨x, h1, h2.keeps hk hT hS⟩
abbrev RowB (w : World) (S : Nat → Prop) (v : Value) (ls : List (List UInt8)) : Prop := RowG w S 22 1 (BEl S) v ls
abbrev RowW (w : World) (S : Nat → Prop) (v : Value) (ws : List (Nat × List UInt8)) : Prop := RowG w S 269 2 (WEl S) v ws
theorem RowB.keeps {w w' : World} {S S' T : Nat → Prop} {v : Value} {ls : List (List UInt8)} (h : RowB w S v ls) (hk : Keeps T w w') (h1 : ∀ g, v.ownBlock = some g → ¬ T g) (hT : ∀ g q, S g → objAt w g = some (.cells q 5 (0, 0)) → ¬ T g) (hS : ∀ g, S g → g < w.heap.size → S' g) : RowB w' S' v ls := by
 obtain ⟨xs, h2, h3, h4, h5⟩ := h.ex
 exact ⟨⟨xs, owns_keeps h2 hk h1, h3, h4, fun i a c ha hc => (BEl.keeps hk hT hS a c (h5 i a c ha hc))⟩, fun g hg => hS g (h.own g hg) (h.lt hg)⟩
theorem RowW.keeps {w w' : World} {S S' T : Nat → Prop} {v : Value} {ls : List (Nat × List UInt8)} (h : RowW w S v ls) (hk : Keeps T w w') (h1 : ∀ g, v.ownBlock = some g → ¬ T g) (hT : ∀ g q, S g → objAt w g = some (.cells q 5 (0, 0)) → ¬ T g) (hS : ∀ g, S g → g < w.heap.size → S' g) : RowW w' S' v ls := by
 obtain ⟨xs, h2, h3, h4, h5⟩ := h.ex
 exact ⟨⟨xs, owns_keeps h2 hk h1, h3, h4, fun i a c ha hc => (WEl.keeps hk hT hS a c (h5 i a c ha hc))⟩, fun g hg => hS g (h.own g hg) (h.lt hg)⟩

structure RegV (w : World) (S : Nat → Prop) (r : Nat) (vs vu vl vt : Value) (R : Reg) : Prop where
 obj : objAt w r = some (.cells #[vs, vu, vl, vt] 207 (0, 0))
 seen : RowB w S vs R.seen
 sure : RowB w S vu R.sure
 later : RowW w S vl R.later
 trace : RowB w S vt R.trace
 su : ∀ g, vs.ownBlock = some g → vu.ownBlock ≠ some g
 st : ∀ g, vs.ownBlock = some g → vt.ownBlock ≠ some g
 ut : ∀ g, vu.ownBlock = some g → vt.ownBlock ≠ some g
 sr : S r
def RegAt (w : World) (S : Nat → Prop) (r : Nat) (R : Reg) : Prop := ∃ vs vu vl vt, RegV w S r vs vu vl vt R
section
variable {w w' : World} {S S' T : Nat → Prop} {r : Nat} {vs vu vl vt : Value} {R : Reg}
theorem RegV.keeps (h : RegV w S r vs vu vl vt R) (hk : Keeps T w w') (hT : ∀ g, S g → ¬ T g) (hS : ∀ g, S g → g < w.heap.size → S' g) : RegV w' S' r vs vu vl vt R :=
 ⟨hk.obj h.obj (hT _ h.sr), RowB.keeps h.seen hk (fun g hg => hT g (h.seen.own g hg)) (fun g _ hg _ => hT g hg) hS, RowB.keeps h.sure hk (fun g hg => hT g (h.sure.own g hg)) (fun g _ hg _ => hT g hg) hS,
  RowW.keeps h.later hk (fun g hg => hT g (h.later.own g hg)) (fun g _ hg _ => hT g hg) hS, RowB.keeps h.trace hk (fun g hg => hT g (h.trace.own g hg)) (fun g _ hg _ => hT g hg) hS, h.su, h.st, h.ut, hS _ h.sr (block_lt h.obj)⟩
theorem RegAt.keeps (h : RegAt w S r R) (hk : Keeps T w w') (hT : ∀ g, S g → ¬ T g) (hS : ∀ g, S g → g < w.heap.size → S' g) : RegAt w' S' r R := by
 obtain ⟨vs, vu, vl, vt, h⟩ := h
 exact ⟨vs, vu, vl, vt, h.keeps hk hT hS⟩
end
structure Reg.Ok (R : Reg) : Prop where
 pos : 0 < R.seen.length
 le : R.seen.length ≤ 1000
 sure : R.sure.length = R.seen.length
 l1 : ∀ l ∈ R.seen, l.length = 64
 l2 : ∀ l ∈ R.sure, l.length = 64
 l3 : ∀ p ∈ R.later, p.2.length = 64 ∧ p.1 < R.seen.length
 l4 : ∀ l ∈ R.trace, l.length = 66 ∨ l = [255, 255]
structure DevV (w : World) (S : Nat → Nat → Prop) (d rl rcap : Nat) (rs : List Nat) (D : Dv) : Prop where
 od : objAt w d = some (.cells #[.slice (some ⟨rl, 0, none⟩) D.regs.length rcap, .int .i64 D.left] 202 (0, 0))
 ol : ∃ cur, objAt w rl = some (.cells cur 203 (0, 0)) ∧ ∀ (k : Nat) (r : Nat), rs[k]? = some r → cur[k]? = some (.pointer (some ⟨r, 0, none⟩))
 ln : rs.length = D.regs.length
 reg : ∀ (k : Nat) (r : Nat) (R : Reg), rs[k]? = some r → D.regs[k]? = some R → RegAt w (S (k + 1)) r R
 s0 : S 0 d
 s1 : S 0 rl
 disj : ∀ j k q, S j q → S k q → j = k
 lt : ∀ k q, S k q → q < w.heap.size
structure Dv.Ok (D : Dv) (c : Nat) : Prop where
 pos : 0 < D.regs.length
 le : D.regs.length ≤ 8
 regs : ∀ R ∈ D.regs, R.Ok
 later : ∀ R ∈ D.regs, R.later.length ≤ c
 trace : ∀ R ∈ D.regs, R.trace.length ≤ c
 left : -1 ≤ D.left ∧ D.left ≤ 1000000
structure DevAt (w : World) (Sd : Nat → Prop) (d : Nat) (D : Dv) (c : Nat) : Prop where
 ok : D.Ok c
 lt : ∀ q, Sd q → q < w.heap.size
 ex : ∃ S rl rcap rs, DevV w S d rl rcap rs D ∧ ∀ k q, S k q → Sd q
section
variable {w w' : World} {S : Nat → Nat → Prop} {d rl rcap : Nat} {rs : List Nat} {D : Dv}
theorem DevV.keeps (h : DevV w S d rl rcap rs D) {T : Nat → Prop} (hk : Keeps T w w') (hT : ∀ k g, S k g → ¬ T g) : DevV w' S d rl rcap rs D := by
 obtain ⟨cur, h1, h2⟩ := h.ol
 exact ⟨hk.obj h.od (hT _ _ h.s0), ⟨cur, hk.obj h1 (hT _ _ h.s1), h2⟩, h.ln, fun k r R hr hR => (h.reg k r R hr hR).keeps hk (hT _) (fun _ h _ => h), h.s0, h.s1, h.disj, fun k q hq => Nat.lt_of_lt_of_le (h.lt k q hq) hk.size⟩
theorem DevV.turn (h : DevV w S d rl rcap rs D) {T : Nat → Prop} (hk : Keeps T w w') {k r : Nat} {R' : Reg} (hT : ∀ g, T g → S (k + 1) g ∨ w.heap.size ≤ g) (hr : rs[k]? = some r) (hR' : RegAt w' (grownS (S (k + 1)) w w') r R') :
 DevV w' (fun j => if j = k + 1 then grownS (S (k + 1)) w w' else S j) d rl rcap rs { D with regs := D.regs.set k R' } := by
 obtain ⟨cur, h1, h2⟩ := h.ol
 have hne : ∀ j g, j ≠ k + 1 → S j g → ¬ T g := fun j g hj hg ht => by
  rcases hT g ht with h' | h'
  · exact hj (h.disj _ _ _ hg h')
  · have := h.lt _ _ hg; omega
 refine ⟨?_, ⟨cur, hk.obj h1 (hne 0 _ (by omega) h.s1), h2⟩, by simp [h.ln], fun j r2 R2 hj hR2 => ?_, ?_, ?_, fun i j q hi hj => ?_, fun j q hq => ?_⟩
 · simp only [List.length_set]; exact hk.obj h.od (hne 0 _ (by omega) h.s0)
 · by_cases e : k = j
   · subst e
     rw [hr] at hj
     obtain rfl := Option.some.inj hj
     have hlt : k < D.regs.length := by rw [← h.ln]; exact (List.getElem?_eq_some_iff.1 hr).1
     simp only [List.getElem?_set_self hlt, Option.some.injEq] at hR2
     subst hR2
     rw [if_pos rfl]; exact hR'
   · simp only [List.getElem?_set_ne e] at hR2
     rw [if_neg (by omega)]
     exact (h.reg j r2 R2 hj hR2).keeps hk (fun g hg => hne _ g (by omega) hg) (fun _ h _ => h)
 · rw [if_neg (by omega)]; exact h.s0
 · rw [if_neg (by omega)]; exact h.s1
 · by_cases ei : i = k + 1
   · by_cases ej : j = k + 1
     · omega
     · rw [if_pos ei] at hi
       rw [if_neg ej] at hj
       rcases hi.2 with h' | h'
       · have := h.disj _ _ _ h' hj; omega
       · have := h.lt _ _ hj; omega
   · rw [if_neg ei] at hi
     by_cases ej : j = k + 1
     · rw [if_pos ej] at hj
       rcases hj.2 with h' | h'
       · have := h.disj _ _ _ hi h'; omega
       · have := h.lt _ _ hi; omega
     · rw [if_neg ej] at hj
       exact h.disj _ _ _ hi hj
 · by_cases e : j = k + 1
   · rw [if_pos e] at hq; exact hq.1
   · rw [if_neg e] at hq; exact Nat.lt_of_lt_of_le (h.lt j q hq) hk.size
theorem DevV.setLeft (h : DevV w S d rl rcap rs D) (n : Int) : DevV (w.setCell ⟨d, 1, none⟩ (.int .i64 n)) S d rl rcap rs { D with left := n } := by
 obtain ⟨cur, h1, h2⟩ := h.ol
 have hk : Keeps (fun q => q = d) w (w.setCell ⟨d, 1, none⟩ (.int .i64 n)) := Keeps.setCell _ _ _ rfl
 refine ⟨by rw [objAt_setCell h.od]; rfl, ⟨cur, hk.obj h1 (ne_of_obj h1 h.od (by decide)), h2⟩, h.ln, fun k r R hr hR => (h.reg k r R hr hR).keeps hk (fun g hg e => ?_) (fun _ h _ => h), h.s0, h.s1, h.disj, fun k q hq => by rw [size_setCell]; exact h.lt k q hq⟩
 subst e
 have := h.disj _ _ _ hg h.s0
 omega
theorem DevAt.keeps {Sd T : Nat → Prop} {c : Nat} (h : DevAt w Sd d D c) (hk : Keeps T w w') (hT : ∀ g, Sd g → ¬ T g) : DevAt w' Sd d D c := by
 obtain ⟨h1, h2, S, rl, rcap, rs, h3, h4⟩ := h
 exact ⟨h1, fun q hq => Nat.lt_of_lt_of_le (h2 q hq) hk.size, S, rl, rcap, rs, h3.keeps hk (fun k g hg => hT g (h4 k g hg)), h4⟩
theorem DevAt.below {Sd : Nat → Prop} {c : Nat} (h : DevAt w Sd d D c) (hb : Below w.heap.size w w') : DevAt w' Sd d D c :=
 h.keeps (Keeps.of_below_size hb) (fun g hg => by have := h.lt g hg; omega)
theorem Dv.Ok.mono {D : Dv} {c c' : Nat} (h : D.Ok c) (hc : c ≤ c') : D.Ok c' := ⟨h.pos, h.le, h.regs, fun R hR => Nat.le_trans (h.later R hR) hc, fun R hR => Nat.le_trans (h.trace R hR) hc, h.left⟩
theorem DevAt.mono {S' Sd : Nat → Prop} {c c' : Nat} (h : DevAt w Sd d D c) (hS : ∀ k, Sd k → S' k) (hlt : ∀ k, S' k → k < w.heap.size) (hc : c ≤ c') : DevAt w S' d D c' := by
 obtain ⟨h1, h2, S, rl, rcap, rs, h3, h4⟩ := h
 exact ⟨h1.mono hc, hlt, S, rl, rcap, rs, h3, fun k q hq => hS q (h4 k q hq)⟩
end
def Reg.write (R : Reg) (i : Nat) (l : List UInt8) : Reg := ⟨R.seen.set i l, R.sure, R.later ++ [(i, l)], R.trace ++ [[UInt8.ofNat (i / 256), UInt8.ofNat i] ++ l]⟩
def Reg.barrier (R : Reg) : Reg := ⟨R.seen, R.seen, [], R.trace ++ [[255, 255]]⟩
def Dv.write (D : Dv) (k i : Nat) (l : List UInt8) : Dv :=
 if D.left = 0 then D else ⟨match D.regs[k]? with | some R => D.regs.set k (R.write i l) | none => D.regs, if 0 < D.left then D.left - 1 else D.left⟩
def Dv.barrier (D : Dv) (k : Nat) : Dv :=
 if D.left = 0 then D else ⟨match D.regs[k]? with | some R => D.regs.set k R.barrier | none => D.regs, D.left⟩
end
end Go.Proofs.YtbbnejehglonjaaGreat
