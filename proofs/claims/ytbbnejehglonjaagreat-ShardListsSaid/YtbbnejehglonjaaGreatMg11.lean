/- DERIVED. Contracts and laws that the proofs of this seat share, part 11 of 40: NoC DvB RcB DvC. -/
import Derived.Test.YtbbnejehglonjaaGreatMg00
import Derived.Test.YtbbnejehglonjaaGreatMg07
import Derived.Test.YtbbnejehglonjaaGreatMg10
/- DERIVED. Contracts of node's sign, May. -/
namespace Go.Proofs.YtbbnejehglonjaaGreat
open Go.RowKit
attribute [local irreducible] Calls
set_option maxRecDepth 100000

theorem sign_pred (w : World) : PredAt Tryz.prog 234 #[] encR badSign w := fun W r _ => by
  unfold FnGives
  by_cases h1 : r < 33
  · have z1 : (r : Int) < 33 := by omega
    go_enter Tryz.func234, Tryz.ntmps234
    go_wp2
    go_ret
    exact ⟨by simp [badSign, h1], 0, rfl⟩
  · have z1 : ¬ (r : Int) < 33 := by omega
    by_cases h2 : 126 < r
    · have z2 : (126 : Int) < (r : Int) := by omega
      go_enter Tryz.func234, Tryz.ntmps234
      go_wp2
      go_ret
      exact ⟨by simp [badSign, h1, h2], 0, rfl⟩
    · have z2 : ¬ (126 : Int) < (r : Int) := by omega
      go_enter Tryz.func234, Tryz.ntmps234
      go_wp2
      go_ret
      exact ⟨by simp [badSign, h1, h2], 0, rfl⟩
theorem badSign_high : ∀ r, 128 ≤ r → badSign r = true := fun r h => by simp [badSign]; omega
theorem sign_any (s : ByteArray) (w : World) (hs : s.size ≤ 1000000) : Calls Tryz.prog 220 #[.string s] w fun e w' => e = .returned (.bool (mayTarget s.data.toList)) ∧ Below w.heap.size w w' := by
  have hlen : s.data.toList.length = s.size := by simp
  by_cases h1 : 1 ≤ s.size
  · by_cases h2 : s.size ≤ 32
    · have hr : mayTarget s.data.toList = !(s.data.toList.any fun c => badSign c.toNat) := by
        unfold mayTarget; rw [decide_eq_true (by omega), decide_eq_true (by omega)]; simp
      have Hr := Lib.hid hr
      clear hr hlen
      go_enter Tryz.func220, Tryz.ntmps220
      go_wp2_with fail
      refine (Tryz.strings_ContainsFunc 234 #[] (fun _ _ => by kernel_rfl) badSign s _ (sign_pred _)).mono ?_
      rintro e w1 ⟨rfl, b1⟩
      rw [idxFunc_bytes badSign badSign_high s]
      generalize (s.data.toList.any fun c => badSign c.toNat) = bb at *
      go_wp2_with fail
      go_ret
      exact ⟨by rw [Hr.out]; rfl, b1⟩
    · have hr : mayTarget s.data.toList = false := by
        unfold mayTarget; rw [decide_eq_false (p := s.data.toList.length ≤ 32) (by omega)]; simp
      have Hr := Lib.hid hr
      clear hr hlen
      go_enter Tryz.func220, Tryz.ntmps220
      go_wp2_with fail
      go_ret
      exact ⟨by rw [Hr.out]; rfl, Below.refl _ _⟩
  · have hr : mayTarget s.data.toList = false := by
      unfold mayTarget; rw [decide_eq_false (p := 1 ≤ s.data.toList.length) (by omega)]; simp
    have Hr := Lib.hid hr
    clear hr hlen
    go_enter Tryz.func220, Tryz.ntmps220
    go_wp2_with fail
    go_ret
    exact ⟨by rw [Hr.out]; rfl, Below.refl _ _⟩
theorem none5_ok {l : List Int} (h : none5 l = true) : placesOk l = true := placesOk_iff.2 fun k hk => by
  have : l.getD k 0 = -1 := by
    rw [List.getD_eq_getElem?_getD, List.getElem?_eq_getElem hk, Option.getD_some]
    simpa using List.all_eq_true.1 h _ (List.getElem_mem hk)
  rw [this]; rfl
/-- What a node may be, by kinds. -/
theorem mayNode_file {kind : Int} {n : Nd} (h : 1 ≤ n.gen ∧ 0 ≤ n.links ∧ n.links ≤ 1000) (hk : kind = 1) : mayNode kind n = fileOk n := by
  unfold mayNode kindOk fileOk
  rw [decide_eq_true h.1, decide_eq_true h.2.1, decide_eq_true h.2.2, if_pos hk]; rfl
theorem mayNode_dir {kind : Int} {n : Nd} (h : 1 ≤ n.gen ∧ 0 ≤ n.links ∧ n.links ≤ 1000) (hk : kind = 2) : mayNode kind n = (decide (n.size = 0) && none5 n.places && n.target.data.toList.isEmpty && decide (n.links ≤ 1)) := by
  unfold mayNode kindOk
  rw [decide_eq_true h.1, decide_eq_true h.2.1, decide_eq_true h.2.2, if_neg (by omega), if_pos hk]
  cases hn : none5 n.places with
  | true => rw [none5_ok hn]; simp
  | false => simp
theorem mayNode_sign {kind : Int} {n : Nd} (h : 1 ≤ n.gen ∧ 0 ≤ n.links ∧ n.links ≤ 1000) (hk : kind = 3) : mayNode kind n = (mayTarget n.target.data.toList && decide (n.size = n.target.size) && none5 n.places) := by
  unfold mayNode kindOk
  rw [decide_eq_true h.1, decide_eq_true h.2.1, decide_eq_true h.2.2, if_neg (by omega), if_neg (by omega), if_pos hk]
  cases hn : none5 n.places with
  | true => rw [none5_ok hn]; simp
  | false => simp
theorem mayNode_no {kind : Int} {n : Nd} (h : n.gen < 1 ∨ n.links < 0 ∨ 1000 < n.links ∨ (kind ≠ 1 ∧ kind ≠ 2 ∧ kind ≠ 3)) : mayNode kind n = false := by
  unfold mayNode kindOk
  rcases h with h | h | h | ⟨h1, h2, h3⟩
  · rw [decide_eq_false (by omega)]; simp
  · rw [decide_eq_false (p := 0 ≤ n.links) (by omega)]; simp
  · rw [decide_eq_false (p := n.links ≤ 1000) (by omega)]; simp
  · rw [if_neg h1, if_neg h2, if_neg h3]; simp
end Go.Proofs.YtbbnejehglonjaaGreat

/- DERIVED. A device as it lies: what a store turns; contracts of dev.of, Read, Regions. -/
namespace Go.Proofs.YtbbnejehglonjaaGreat
open Go.RowKit
attribute [local go_sem] hasBlk
attribute [local irreducible] Calls
set_option maxRecDepth 100000

section
variable {w w' : World} {S S2 : Nat → Prop} {r : Nat} {vs vu vl vt : Value} {R : Reg}
theorem RowB.setR {v : Value} {ls : List (List UInt8)} (h : RowB w S v ls) {c : Array Value} (hr : objAt w r = some (.cells c 207 (0, 0))) (i : Nat) (x : Value) : RowB (w.setCell ⟨r, i, none⟩ x) S v ls :=
  RowB.keeps h (Keeps.setCell (S := (· = r)) _ _ _ rfl) (fun g hg e => by obtain ⟨c', hc⟩ := h.obj hg; exact ne_of_obj hc hr (by decide) e) (fun g q _ hq e => ne_of_obj hq hr (by decide) e) (fun _ h _ => h)
theorem RowW.setR {v : Value} {ls : List (Nat × List UInt8)} (h : RowW w S v ls) {c : Array Value} (hr : objAt w r = some (.cells c 207 (0, 0))) (i : Nat) (x : Value) : RowW (w.setCell ⟨r, i, none⟩ x) S v ls :=
  RowW.keeps h (Keeps.setCell (S := (· = r)) _ _ _ rfl) (fun g hg e => by obtain ⟨c', hc⟩ := h.obj hg; exact ne_of_obj hc hr (by decide) e) (fun g q _ hq e => ne_of_obj hq hr (by decide) e) (fun _ h _ => h)
theorem RegV.setSure (h : RegV w S r vs vu vl vt R) {vu' : Value} {ls : List (List UInt8)} (hrow : RowB w S vu' ls) (h1 : ∀ g, vs.ownBlock = some g → vu'.ownBlock ≠ some g) (h2 : ∀ g, vu'.ownBlock = some g → vt.ownBlock ≠ some g) :
    RegV (w.setCell ⟨r, 1, none⟩ vu') S r vs vu' vl vt { R with sure := ls } :=
  ⟨by rw [objAt_setCell h.obj]; rfl, h.seen.setR h.obj _ _, hrow.setR h.obj _ _, h.later.setR h.obj _ _, h.trace.setR h.obj _ _, h1, h.st, h2, h.sr⟩
theorem RegV.noLater (h : RegV w S r vs vu vl vt R) : RegV (w.setCell ⟨r, 2, none⟩ (.slice none 0 0)) S r vs vu (.slice none 0 0) vt { R with later := [] } :=
  ⟨by rw [objAt_setCell h.obj]; rfl, h.seen.setR h.obj _ _, h.sure.setR h.obj _ _, RowG.nil _ _ _ _ _, h.trace.setR h.obj _ _, h.su, h.st, h.ut, h.sr⟩
theorem BEl.own {v : Value} {e : TypeId} {α : Type} {k : Nat} {Q : World → α → List Value → Prop} {al : List α} (hrow : RowG w S2 e k Q v al) (he : e ≠ 5) (hk : Keeps (fun q => v.ownBlock = some q) w w') (l : List UInt8) (c : List Value) (h : BEl S w l c) : BEl S w' l c :=
  h.keeps hk (fun g q _ hq e' => by obtain ⟨c, hc⟩ := hrow.obj e'; exact ne_of_obj hc hq he rfl) (fun _ h _ => h)
theorem WEl.own {v : Value} {e : TypeId} {α : Type} {k : Nat} {Q : World → α → List Value → Prop} {al : List α} (hrow : RowG w S2 e k Q v al) (he : e ≠ 5) (hk : Keeps (fun q => v.ownBlock = some q) w w') (l : Nat × List UInt8) (c : List Value) (h : WEl S w l c) : WEl S w' l c :=
  h.keeps hk (fun g q _ hq e' => by obtain ⟨c, hc⟩ := hrow.obj e'; exact ne_of_obj hc hq he rfl) (fun _ h _ => h)
/-- A row, while another one is appended to. -/
theorem RowB.other {v v2 : Value} {ls : List (List UInt8)} (h : RowB w S v ls) {e : TypeId} {α : Type} {k : Nat} {Q : World → α → List Value → Prop} {al : List α} (hrow : RowG w S2 e k Q v2 al) (he : e ≠ 5) (hk : Keeps (fun q => v2.ownBlock = some q) w w') (hne : ∀ g, v.ownBlock = some g → v2.ownBlock ≠ some g) : RowB w' S v ls :=
  RowB.keeps h hk hne (fun g q _ hq e' => by obtain ⟨c, hc⟩ := hrow.obj e'; exact ne_of_obj hc hq he rfl) (fun _ h _ => h)
theorem RowW.other {v v2 : Value} {ls : List (Nat × List UInt8)} (h : RowW w S v ls) {e : TypeId} {α : Type} {k : Nat} {Q : World → α → List Value → Prop} {al : List α} (hrow : RowG w S2 e k Q v2 al) (he : e ≠ 5) (hk : Keeps (fun q => v2.ownBlock = some q) w w') (hne : ∀ g, v.ownBlock = some g → v2.ownBlock ≠ some g) : RowW w' S v ls :=
  RowW.keeps h hk hne (fun g q _ hq e' => by obtain ⟨c, hc⟩ := hrow.obj e'; exact ne_of_obj hc hq he rfl) (fun _ h _ => h)
theorem RowG.mono {α : Type} {e : TypeId} {k : Nat} {Q : World → α → List Value → Prop} {v : Value} {al : List α} (h : RowG w S e k Q v al) (hS : ∀ g, S g → S2 g) : RowG w S2 e k Q v al := ⟨h.ex, fun g hg => hS g (h.own g hg)⟩
theorem RowG.ne {α β : Type} {e e2 : TypeId} {k k2 : Nat} {Q : World → α → List Value → Prop} {Q2 : World → β → List Value → Prop} {v v2 : Value} {al : List α} {bs : List β} (h : RowG w S e k Q v al) (h2 : RowG w S2 e2 k2 Q2 v2 bs) (he : e ≠ e2) : ∀ g, v.ownBlock = some g → v2.ownBlock ≠ some g := fun g hg e' => by
  obtain ⟨c, hc⟩ := h.obj hg
  obtain ⟨c2, hc2⟩ := h2.obj e'
  exact ne_of_obj hc hc2 he rfl
/-- What was written is noted. -/
theorem RegV.pushTrace (h : RegV w S r vs vu vl vt R) {g' n' cap' : Nat} {l : List UInt8} (hrow : RowG w' S2 22 1 (BEl S) (.slice (some ⟨g', 0, none⟩) n' cap') (R.trace ++ [l])) (hS2 : ∀ q, S2 q → S q) (hk : Keeps (fun q => vt.ownBlock = some q) w w') (ho : vt.ownBlock = some g' ∨ g' = w.heap.size) :
    objAt w' r = some (.cells #[vs, vu, vl, vt] 207 (0, 0)) ∧ RegV (w'.setCell ⟨r, 3, none⟩ (.slice (some ⟨g', 0, none⟩) n' cap')) S r vs vu vl (.slice (some ⟨g', 0, none⟩) n' cap') { R with trace := R.trace ++ [l] } := by
  have hr : objAt w' r = some (.cells #[vs, vu, vl, vt] 207 (0, 0)) := hk.obj h.obj (fun e => by obtain ⟨c, hc⟩ := h.trace.obj e; exact ne_of_obj hc h.obj (by decide) rfl)
  have hfar : ∀ (v : Value) (al : List (List UInt8)), RowB w S v al → (∀ g, v.ownBlock = some g → vt.ownBlock ≠ some g) → ∀ g, v.ownBlock = some g → (Value.slice (some ⟨g', 0, none⟩) n' cap').ownBlock ≠ some g := fun v al hv hne g hg e => by
    obtain rfl : g' = g := Option.some.inj e
    rcases ho with ho | ho
    · exact hne _ hg ho
    · have := hv.lt hg; omega
  exact ⟨hr, by rw [objAt_setCell hr]; rfl, (RowB.other h.seen h.trace (by decide) hk h.st).setR hr _ _, (RowB.other h.sure h.trace (by decide) hk h.ut).setR hr _ _, (RowW.other h.later h.trace (by decide) hk (h.later.ne h.trace (by decide))).setR hr _ _,
    RowB.setR (hrow.mono hS2) hr _ _, h.su, hfar vs _ h.seen h.st, hfar vu _ h.sure h.ut, h.sr⟩
/-- What is not sure is noted. -/
theorem RegV.pushLater (h : RegV w S r vs vu vl vt R) {g' n' cap' : Nat} {p : Nat × List UInt8} (hrow : RowG w' S2 269 2 (WEl S) (.slice (some ⟨g', 0, none⟩) n' cap') (R.later ++ [p])) (hS2 : ∀ q, S2 q → S q) (hk : Keeps (fun q => vl.ownBlock = some q) w w') :
    objAt w' r = some (.cells #[vs, vu, vl, vt] 207 (0, 0)) ∧ RowB w' S vs R.seen ∧ RegV (w'.setCell ⟨r, 2, none⟩ (.slice (some ⟨g', 0, none⟩) n' cap')) S r vs vu (.slice (some ⟨g', 0, none⟩) n' cap') vt { R with later := R.later ++ [p] } := by
  have hr : objAt w' r = some (.cells #[vs, vu, vl, vt] 207 (0, 0)) := hk.obj h.obj (fun e => by obtain ⟨c, hc⟩ := h.later.obj e; exact ne_of_obj hc h.obj (by decide) rfl)
  have h1 := RowB.other h.seen h.later (by decide) hk (h.seen.ne h.later (by decide))
  exact ⟨hr, h1, by rw [objAt_setCell hr]; rfl, h1.setR hr _ _, (RowB.other h.sure h.later (by decide) hk (h.sure.ne h.later (by decide))).setR hr _ _, RowW.setR (hrow.mono hS2) hr _ _,
    (RowB.other h.trace h.later (by decide) hk (h.trace.ne h.later (by decide))).setR hr _ _, h.su, h.st, h.ut, h.sr⟩
/-- A block that is seen becomes another one. -/
theorem RegV.turnSeen {gs n cs : Nat} (h : RegV w S r (.slice (some ⟨gs, 0, none⟩) n cs) vu vl vt R) {i : Nat} (hi : i < R.seen.length) {x : Value} {l : List UInt8} (hx : ByteAt w S x l) :
    RegV (w.setCell ⟨gs, i, none⟩ x) S r (.slice (some ⟨gs, 0, none⟩) n cs) vu vl vt { R with seen := R.seen.set i l } := by
  obtain ⟨cg, hg⟩ := h.seen.obj (g := gs) rfl
  have hk : Keeps (· = gs) w (w.setCell ⟨gs, i, none⟩ x) := Keeps.setCell _ _ _ rfl
  have hby : ∀ g q, S g → objAt w g = some (.cells q 5 (0, 0)) → ¬ g = gs := fun g q _ hq e => ne_of_obj hq hg (by decide) e
  refine ⟨hk.obj h.obj (fun e => ne_of_obj h.obj hg (by decide) e), h.seen.set hi ⟨x, rfl, hx.keeps hk hby (fun _ h _ => h)⟩ (fun a c hc => hc.keeps hk hby (fun _ h _ => h)), RowB.keeps h.sure hk (fun g hg' e => ?_) hby (fun _ h _ => h), RowW.keeps h.later hk (fun g hg' e => ?_) hby (fun _ h _ => h), RowB.keeps h.trace hk (fun g hg' e => ?_) hby (fun _ h _ => h), h.su, h.st, h.ut, h.sr⟩
  · subst e; exact h.su g rfl hg'
  · subst e; exact h.seen.ne h.later (by decide) g rfl hg'
  · subst e; exact h.st g rfl hg'
theorem RegV.below (h : RegV w S r vs vu vl vt R) (hb : Below w.heap.size w w') : RegV w' S r vs vu vl vt R := by
  have hk := Keeps.of_below_size hb
  have hby : ∀ g q, S g → objAt w g = some (.cells q 5 (0, 0)) → ¬ w.heap.size ≤ g := fun g q _ hq e => by have := block_lt hq; omega
  exact ⟨hk.obj h.obj (fun e => by have := block_lt h.obj; omega), RowB.keeps h.seen hk (fun g hg e => by have := h.seen.lt hg; omega) hby (fun _ h _ => h), RowB.keeps h.sure hk (fun g hg e => by have := h.sure.lt hg; omega) hby (fun _ h _ => h),
    RowW.keeps h.later hk (fun g hg e => by have := h.later.lt hg; omega) hby (fun _ h _ => h), RowB.keeps h.trace hk (fun g hg e => by have := h.trace.lt hg; omega) hby (fun _ h _ => h), h.su, h.st, h.ut, h.sr⟩
theorem RegV.foot (h : RegV w S r vs vu vl vt R) (hS : ∀ g, S g → g < w.heap.size → S2 g) : RegV w S2 r vs vu vl vt R := h.keeps (Keeps.refl (fun _ => False) w) (fun _ _ h => h) hS
end

section
variable {w : World} {S : Nat → Nat → Prop} {d rl rcap : Nat} {rs : List Nat} {D : Dv}
theorem of_in (h : DevV w S d rl rcap rs D) {k r : Nat} {R : Reg} (hr : rs[k]? = some r) (hR : D.regs[k]? = some R) (hok : R.Ok) (i : Nat) (hi : i < R.seen.length) :
    Calls Tryz.prog 163 #[.pointer (some ⟨d, 0, none⟩), .int .i64 k, .int .i64 i] w fun e w' => e = .returned (.pointer (some ⟨r, 0, none⟩)) ∧ w' = w := by
  obtain ⟨cur, h2, h3⟩ := h.ol
  have h2' := h3 k r hr
  obtain ⟨vs, vu, vl, vt, hV⟩ := h.reg k r R hr hR
  obtain ⟨gs, cs, rfl⟩ := hV.seen.form hok.pos
  have c0 := cell_obj h.od 0
  have c1 := (cell_obj h2 k).trans h2'
  have c2 := cell_obj hV.obj 0
  have i0 : ¬ ((i : Int) < 0) := by omega
  have i1 : ¬ ((R.seen.length : Int) ≤ (i : Int)) := by omega
  have k0 : ¬ ((k : Int) < 0) := by omega
  have hkl := (List.getElem?_eq_some_iff.1 hR).1
  have k1 : ¬ ((D.regs.length : Int) ≤ (k : Int)) := by omega
  have k2 : (k : Int) < (D.regs.length : Int) := by omega
  generalize D.regs.length = n at *
  clear h h2 h2' h3 hV hR
  go_enter Tryz.func163, Tryz.ntmps163
  go_wp2_with fail
  go_ret
  exact ⟨rfl, rfl⟩
theorem Clone_len (ad : Addr) (l : List UInt8) (n cap : Nat) (w : World) (hn : n = l.length) (h : BytesAt w (some ad) l) (h0 : 0 < n) (hl : n ≤ 100000) :
    Calls Tryz.prog 164 #[.slice (some ad) n cap] w fun e w' => ∃ g cap', e = .returned (.slice (some ⟨g, 0, none⟩) n cap') ∧ BRow w' w.heap.size (.slice (some ⟨g, 0, none⟩) n cap') l ∧ Below w.heap.size w w' := by
  subst hn; exact Clone_any ad l cap w h h0 hl

theorem Read_in (h : DevV w S d rl rcap rs D) {k : Nat} {R : Reg} (hR : D.regs[k]? = some R) (hok : R.Ok) (i : Nat) {l : List UInt8} (hi : R.seen[i]? = some l) :
    Calls Tryz.prog 107 #[.pointer (some ⟨d, 0, none⟩), .int .i64 k, .int .i64 i] w fun e w' => ∃ g cap, e = .returned (.tuple #[.slice (some ⟨g, 0, none⟩) 64 cap, .bool true]) ∧ BRow w' w.heap.size (.slice (some ⟨g, 0, none⟩) 64 cap) l ∧ 64 ≤ cap ∧ Below w.heap.size w w' := by
  have hil := (List.getElem?_eq_some_iff.1 hi).1
  have hl64 : l.length = 64 := by
    obtain ⟨hlt, rfl⟩ := List.getElem?_eq_some_iff.1 hi
    exact hok.l1 _ (List.getElem_mem hlt)
  have hkl := (List.getElem?_eq_some_iff.1 hR).1
  have hr : rs[k]? = some (rs[k]'(by rw [h.ln]; exact hkl)) := List.getElem?_eq_getElem _
  generalize rs[k]'(by rw [h.ln]; exact hkl) = r at hr
  have hof := of_in h hr hR hok i hil
  obtain ⟨vs, vu, vl, vt, hV⟩ := h.reg k r R hr hR
  obtain ⟨gs, cs, rfl⟩ := hV.seen.form hok.pos
  obtain ⟨c, hc1, ⟨x, rfl, a, q, n, rfl, hb, _, _⟩, hc3⟩ := hV.seen.cells hi
  have c3 := hc3 0 _ rfl
  rw [Nat.mul_one, Nat.add_zero, hl64] at c3
  have c2 := cell_obj hV.obj 0
  have Hc := Lib.hid (Clone_len a l 64 n w hl64.symm hb (by decide) (by decide))
  have HL := Lib.hid hl64
  have i0 : (i : Int) < (R.seen.length : Int) := by omega
  have Hof := Lib.hid hof
  clear h hV hR hi hc1 hc3 hof hl64 hb
  go_enter Tryz.func107, Tryz.ntmps107
  go_wp2_with (first | (go_at_call 163; refine Hof.out.mono ?_; rintro e w1 ⟨rfl, rfl⟩) | (go_at_call 164; refine Hc.out.mono ?_; rintro e w2 ⟨g, cap, rfl, hB, b1⟩))
  go_ret2
  have := hB.cap
  rw [HL.out] at this
  exact ⟨g, cap, rfl, hB, this, b1⟩
theorem Regions_in (h : DevV w S d rl rcap rs D) :
    Calls Tryz.prog 112 #[.pointer (some ⟨d, 0, none⟩)] w fun e w' => e = .returned (.int .i64 D.regs.length) ∧ w' = w := by
  have c0 := cell_obj h.od 0
  clear h
  go_enter Tryz.func112, Tryz.ntmps112
  go_wp2_with fail
  go_ret
  exact ⟨rfl, rfl⟩

/-- A row of bytes, copied. -/
theorem CloneRow {w : World} {S : Nat → Prop} {g n cap : Nat} {ls : List (List UInt8)} (h : RowB w S (.slice (some ⟨g, 0, none⟩) n cap) ls) (h0 : 0 < ls.length) (hl : ls.length ≤ 100000) :
    Calls Tryz.prog 168 #[.slice (some ⟨g, 0, none⟩) n cap] w fun e w' => ∃ g' cap', e = .returned (.slice (some ⟨g', 0, none⟩) n cap') ∧ w.heap.size ≤ g' ∧ Below w.heap.size w w' ∧
      ∀ S', (∀ q, S q → q < w.heap.size → S' q) → S' g' → RowB w' S' (.slice (some ⟨g', 0, none⟩) n cap') ls := by
  obtain rfl := h.len
  obtain ⟨xs, h1, h2, h3, h4⟩ := h.ex
  have hfl : xs.flatten.length = ls.length := by have := h1.1; omega
  have hel : ∀ c ∈ xs, ∃ x l, c = [x] ∧ ByteAt w S x l := fun c hc => by
    obtain ⟨i, hi, rfl⟩ := List.getElem_of_mem hc
    obtain ⟨x, hx, hy⟩ := h4 i _ _ (List.getElem?_eq_getElem (by omega)) (List.getElem?_eq_getElem hi)
    exact ⟨x, _, hx, hy⟩
  have := CloneV_any ⟨g, 0, none⟩ xs.flatten cap w (World.ownsRow.cells h1 (g := g) rfl) (fun u hu => by
    obtain ⟨c, hc, hu⟩ := List.mem_flatten.1 hu
    obtain ⟨x, l, rfl, a, q, n, rfl, _⟩ := hel c hc
    simp only [List.mem_singleton] at hu
    subst hu; rfl) (by omega) (by omega)
  rw [hfl] at this
  refine this.mono ?_
  rintro e w' ⟨g', cap', rfl, hrow, hb⟩
  have hg' : w.heap.size ≤ g' := by
    have := World.ownsRow.lt hrow g' rfl
    exact this.1
  refine ⟨g', cap', rfl, hg', hb, fun S' hS hg2 => ⟨⟨xs, World.ownsRow.mono hrow (Nat.zero_le _), h2, h3, fun i a c ha hc => ?_⟩, fun q hq => by obtain rfl : g' = q := Option.some.inj hq; exact hg2⟩⟩
  obtain ⟨x, rfl, hx⟩ := h4 i a c ha hc
  exact ⟨x, rfl, hx.keeps (Keeps.of_below_size hb) (fun g q _ hq e => by have := block_lt hq; omega) hS⟩
end
end Go.Proofs.YtbbnejehglonjaaGreat

/- DERIVED. Contracts of rec.head, image, Put. -/
namespace Go.Proofs.YtbbnejehglonjaaGreat
open Go.RowKit
attribute [local irreducible] Calls
set_option maxRecDepth 100000

/-- A record's blocks. -/
def imageB (epoch seq : Nat) (b : Blk) : List UInt8 := sealR (b.body ++ high epoch 2 ++ high seq 2)
def placeB (x : Wr) : List UInt8 := high x.at_.toNat 2 ++ high x.b.kind.toNat 1
def placesB (ws : List Wr) : List UInt8 := ws.flatMap placeB
def headL (lb : UInt8) (epoch seq n : Nat) : List UInt8 := [72, lb] ++ high epoch 4 ++ high seq 4 ++ [UInt8.ofNat n]
def headB (lb : UInt8) (epoch seq : Nat) (ws : List Wr) : List UInt8 := sealR (headL lb epoch seq ws.length ++ placesB ws)
def putRec (lb : UInt8) (epoch seq : Nat) (ws : List Wr) : List (List UInt8) := headB lb epoch seq ws :: ws.map fun x => imageB epoch seq x.b
theorem placeB_length (x : Wr) : (placeB x).length = 3 := by simp [placeB, high_length]
theorem placesB_length (ws : List Wr) : (placesB ws).length = 3 * ws.length := by
  induction ws with
  | nil => rfl
  | cons x ws ih => simp only [placesB, List.flatMap_cons, List.length_append, List.length_cons] at ih ⊢; rw [ih, placeB_length]; omega
theorem placesB_succ {ws : List Wr} {k : Nat} {x : Wr} (h : ws[k]? = some x) : placesB (ws.take (k + 1)) = placesB (ws.take k) ++ placeB x := by
  obtain ⟨hk, rfl⟩ := List.getElem?_eq_some_iff.1 h
  unfold placesB
  rw [List.take_succ_eq_append_getElem hk, List.flatMap_append]
  simp only [List.flatMap_cons, List.flatMap_nil, List.append_nil]
theorem headL_length (lb : UInt8) (epoch seq n : Nat) : (headL lb epoch seq n).length = 11 := by simp [headL, high_length]
theorem imageB_length (epoch seq : Nat) (b : Blk) : (imageB epoch seq b).length = 64 := sealR_length (by simp [high_length, b.len])
theorem mayRec_iff {ws : List Wr} : mayRec ws = true ↔ wrsOk ws = true ∧ 1 ≤ ws.length ∧ ws.length ≤ 12 := by simp [mayRec, and_assoc]
theorem headB_length {lb : UInt8} {epoch seq : Nat} {ws : List Wr} (h : mayRec ws = true) : (headB lb epoch seq ws).length = 64 := by
  have := (mayRec_iff.1 h).2.2
  exact sealR_length (by rw [List.length_append, headL_length, placesB_length]; omega)

set_option maxHeartbeats 2000000 in
theorem image_any (epoch seq : Nat) (x : Wr) (w : World) (he : epoch < 4294967296) (hs : seq < 4294967296) :
    Calls Tryz.prog 177 #[.int .u32 epoch, .int .u32 seq, .agg x.cells] w fun e w' => ∃ v, e = .returned v ∧ BRow w' w.heap.size v (imageB epoch seq x.b) ∧ Below w.heap.size w w' := by
  have hx := WrAt.new w x
  have hB0 : Below w.heap.size w (w.alloc (.cells x.cells 52)) := grow_alloc (Below.refl _ _) _
  obtain ⟨G, hG⟩ : ∃ G, G = w.heap.size := ⟨_, rfl⟩
  obtain ⟨w1, hw1⟩ : ∃ w1, w1 = w.alloc (.cells x.cells 52) := ⟨_, rfl⟩
  rw [← hG, ← hw1] at hx
  rw [← hw1] at hB0
  have H1 := Lib.hid (And.intro hx (And.intro hB0 (And.intro hw1 hG)))
  have Hc := Lib.hid (Clone_len ⟨G, 2, none⟩ x.b.body 56 56 w1 x.b.len.symm hx.bytes (by decide) (by decide))
  have Hl := Lib.hid x.b.len
  clear hx hB0 hw1 hG
  go_enter Tryz.func177, Tryz.ntmps177
  go_upto_region 1 with fail
  rw [← H1.out.2.2.1, ← H1.out.2.2.2]
  go_wp2_with (first | (go_at_call 164; refine Hc.out.mono ?_; rintro e w2 ⟨g2, cap2, rfl, hb2, b2⟩; have hr2 := BRow.mono hb2 H1.out.2.1.size) | (go_at_call 201; first | (refine (number_any _ _ epoch 2 w.heap.size _ (Nat.le_trans H1.out.2.1.size b2.size) hr2 he (by decide) (by rw [Hl.out]; decide)).mono ?_; rintro e w3 ⟨v3, rfl, hr3, b3⟩) | (refine (number_any _ _ seq 2 w.heap.size _ (Nat.le_trans (Nat.le_trans H1.out.2.1.size b2.size) b3.size) hr3 hs (by decide) (by simp [high_length, Hl.out])).mono ?_; rintro e w4 ⟨v4, rfl, hr4, b4⟩)) | (go_at_call 200; refine (Sealed_any _ _ w.heap.size _ (Nat.le_trans (Nat.le_trans (Nat.le_trans H1.out.2.1.size b2.size) b3.size) b4.size) hr4 (by simp [high_length, Hl.out]) (by simp [high_length, Hl.out])).mono ?_; rintro e w5 ⟨v5, rfl, hr5, b5⟩))
  go_ret
  exact ⟨v5, rfl, hr5, ((((H1.out.2.1.trans (b2.mono H1.out.2.1.size)).trans b3).trans b4).trans b5)⟩
end Go.Proofs.YtbbnejehglonjaaGreat

/- DERIVED. A device as it lies: one region is turned; contract of dev.Barrier. -/
namespace Go.Proofs.YtbbnejehglonjaaGreat
open Go.RowKit
attribute [local go_sem] hasBlk
attribute [local irreducible] Calls
set_option maxRecDepth 100000

theorem Dv.Ok.set {D : Dv} {c c' k : Nat} {R' : Reg} (h : D.Ok c) (hc : c ≤ c') (h1 : R'.Ok) (h2 : R'.later.length ≤ c') (h3 : R'.trace.length ≤ c') : Dv.Ok { D with regs := D.regs.set k R' } c' := by
  have hm : ∀ R ∈ D.regs.set k R', R = R' ∨ R ∈ D.regs := fun R hR => (List.mem_or_eq_of_mem_set hR).symm
  refine ⟨by simpa using h.pos, by simpa using h.le, fun R hR => ?_, fun R hR => ?_, fun R hR => ?_, h.left⟩
  · rcases hm R hR with rfl | hR
    · exact h1
    · exact h.regs R hR
  · rcases hm R hR with rfl | hR
    · exact h2
    · exact Nat.le_trans (h.later R hR) hc
  · rcases hm R hR with rfl | hR
    · exact h3
    · exact Nat.le_trans (h.trace R hR) hc
/-- One region was turned, as a whole. -/
theorem DevV.done {w w' : World} {S : Nat → Nat → Prop} {S' : Nat → Prop} {d rl rcap k r c c' : Nat} {rs : List Nat} {D : Dv} {Sd : Nat → Prop} {R' : Reg} {vs vu vl vt : Value} (hok : D.Ok c) (hlt : ∀ q, Sd q → q < w.heap.size) (hD : DevV w S d rl rcap rs D) (hSd : ∀ k q, S k q → Sd q)
    (hr : rs[k]? = some r) (hk : Keeps (fun q => S (k + 1) q ∨ w.heap.size ≤ q) w w') (hV : RegV w' S' r vs vu vl vt R') (hS' : ∀ q, S' q → S (k + 1) q ∨ w.heap.size ≤ q) (h1 : R'.Ok) (h2 : R'.later.length ≤ c') (h3 : R'.trace.length ≤ c') (hc : c ≤ c') :
    Keeps Sd w w' ∧ DevAt w' (grownS Sd w w') d { D with regs := D.regs.set k R' } c' := by
  have hT := hD.turn (R' := R') hk (fun g hg => hg) hr ⟨vs, vu, vl, vt, hV.foot (fun g hg hl => ⟨hl, hS' g hg⟩)⟩
  refine ⟨hk.mono (fun q hq h => h.elim (hSd _ q) (fun h => by omega)), hok.set hc h1 h2 h3, fun q hq => hq.1, _, rl, rcap, rs, hT, fun j q hq => ?_⟩
  by_cases e : j = k + 1
  · rw [if_pos e] at hq
    exact ⟨hq.1, hq.2.imp (hSd _ q) id⟩
  · rw [if_neg e] at hq
    exact ⟨Nat.lt_of_lt_of_le (hlt q (hSd _ q hq)) hk.size, .inl (hSd _ q hq)⟩
theorem DevAt.stay {w w' : World} {Sd : Nat → Prop} {d c c' : Nat} {D : Dv} (h : DevAt w Sd d D c) (hb : Below w.heap.size w w') (hc : c ≤ c') : Keeps Sd w w' ∧ DevAt w' (grownS Sd w w') d D c' :=
  ⟨Keeps.of_below hb, (h.below hb).mono (grownS_of h.lt hb.size) (fun _ hk => hk.1) hc⟩
theorem Reg.Ok.barrier {R : Reg} (h : R.Ok) : R.barrier.Ok :=
  ⟨h.pos, h.le, rfl, h.l1, h.l1, fun p hp => by simp [Reg.barrier] at hp, fun l hl => by
    simp only [Reg.barrier, List.mem_append, List.mem_singleton] at hl
    rcases hl with hl | rfl
    · exact h.l4 l hl
    · exact .inr rfl⟩
theorem Dv.barrier_off {D : Dv} {k : Nat} (h : D.left = 0) : D.barrier k = D := by unfold Dv.barrier; rw [if_pos h]
theorem Dv.barrier_on {D : Dv} {k : Nat} {R : Reg} (h : D.left ≠ 0) (hR : D.regs[k]? = some R) : D.barrier k = { D with regs := D.regs.set k R.barrier } := by unfold Dv.barrier; rw [if_neg h, hR]
set_option maxHeartbeats 2000000 in
theorem Barrier_in {w : World} {Sd : Nat → Prop} {d : Nat} {D : Dv} {c : Nat} (h : DevAt w Sd d D c) (hc : c < 900000) {k : Nat} (hk : k < D.regs.length) :
    Calls Tryz.prog 110 #[.pointer (some ⟨d, 0, none⟩), .int .i64 k] w fun e w' => e = .returned (.bool true) ∧ Keeps Sd w w' ∧ DevAt w' (grownS Sd w w') d (D.barrier k) (c + 1) := by
  have h0 := h
  obtain ⟨hok, hlt, S, rl, rcap, rs, hD, hSd⟩ := h
  obtain ⟨R, hR⟩ : ∃ R, D.regs[k]? = some R := ⟨_, List.getElem?_eq_getElem hk⟩
  obtain ⟨r, hr⟩ : ∃ r, rs[k]? = some r := ⟨_, List.getElem?_eq_getElem (by rw [hD.ln]; exact hk)⟩
  have hRm : R ∈ D.regs := List.mem_of_getElem? hR
  have hRok := hok.regs R hRm
  have Hof := Lib.hid (of_in hD hr hR hRok 0 hRok.pos)
  obtain ⟨vs, vu, vl, vt, hV⟩ := hD.reg k r R hr hR
  obtain ⟨gs, cs, rfl⟩ := hV.seen.form hRok.pos
  have Hcl := Lib.hid (CloneRow hV.seen hRok.pos (by have := hRok.le; omega))
  have c0 := cell_obj hD.od 1
  have c2 := cell_obj hV.obj 0
  have HV := Lib.hid hV
  have HD := Lib.hid (And.intro hD (And.intro hR (And.intro hr hRm)))
  have HL := Lib.hid (And.intro hok (And.intro hlt (And.intro hSd h0)))
  have HR := Lib.hid hRok
  by_cases hz : D.left = 0
  · rw [Dv.barrier_off hz]
    rw [hz] at c0
    clear hD hV hok hlt hSd h0 hR hr hRm hRok
    go_enter Tryz.func110, Tryz.ntmps110
    go_wp2_with (go_at_call 163; refine Hof.out.mono ?_; rintro e w1 ⟨rfl, rfl⟩)
    go_ret
    exact ⟨rfl, HL.out.2.2.2.stay (Below.refl _ _) (Nat.le_succ _)⟩
  · rw [Dv.barrier_on hz hR]
    have z0 : (D.left == 0) = false := by simpa using hz
    have z1 : (D.left != 0) = true := by rw [bne, z0]; rfl
    obtain ⟨dl, hdl⟩ : ∃ dl, dl = D.left := ⟨_, rfl⟩
    rw [← hdl] at z0 z1 c0
    clear hD hV hok hlt hSd h0 hR hr hRm hRok hz hdl
    go_enter Tryz.func110, Tryz.ntmps110
    go_upto_region 6 with (first | (go_at_call 163; refine Hof.out.mono ?_; rintro e w1 ⟨rfl, hw1⟩; obtain rfl := hw1.symm) | (go_at_call 168; refine Hcl.out.mono ?_; rintro e w2 ⟨g2, cap2, rfl, hg2, b1, hrow2⟩; have hV2 := (HV.out.below b1).foot (S2 := fun q => S (k + 1) q ∨ w.heap.size ≤ q) (fun g hg _ => .inl hg); have k1 := cell_obj hV2.obj 1; have k2 := cell_obj hV2.obj 2; have f1 := free_obj hV2.obj 1; have f2 := free_obj hV2.obj 2))
    have hu2 := hrow2 (fun q => S (k + 1) q ∨ w.heap.size ≤ q) (fun q hq _ => .inl hq) (.inr hg2)
    have hV3 := (hV2.setSure hu2 (fun g hg e => by obtain rfl : g2 = g := Option.some.inj e; have := HV.out.seen.lt hg; omega) (fun g hg e => by obtain rfl : g2 = g := Option.some.inj hg; have := HV.out.trace.lt e; omega)).noLater
    obtain ⟨w3, hw3⟩ : ∃ w3, w3 = (w2.setCell ⟨r, 1, none⟩ (.slice (some ⟨g2, 0, none⟩) R.seen.length cap2)).setCell ⟨r, 2, none⟩ (.slice none 0 0) := ⟨_, rfl⟩
    have hK3 : Keeps (fun q => S (k + 1) q ∨ w.heap.size ≤ q) w w3 := by
      rw [hw3]
      exact ((Keeps.of_below_size b1).mono (fun _ _ h => .inr h)).trans ((Keeps.setCell _ _ _ (.inl HV.out.sr)).trans (Keeps.setCell _ _ _ (.inl HV.out.sr)))
    rw [← hw3] at hV3 ⊢
    clear hw3 c0 c2 k1 k2 f1 f2 hu2 hV2 hrow2 b1
    have k3 := cell_obj hV3.obj 3
    have hB4 : Below w3.heap.size w3 ((w3.alloc (.cells #[.int .u8 255, .int .u8 255] 5)).alloc (.cells #[.slice (some ⟨w3.heap.size, 0, none⟩) 2 2] 22)) := grow_alloc (grow_alloc (Below.refl _ _) _) _
    have hV4 := hV3.below hB4
    have ho4 : objAt ((w3.alloc (.cells #[.int .u8 255, .int .u8 255] 5)).alloc (.cells #[.slice (some ⟨w3.heap.size, 0, none⟩) 2 2] 22)) (w3.heap.size + 1) = some (.cells #[.slice (some ⟨w3.heap.size, 0, none⟩) 2 2] 22 (0, 0)) := by rw [objAt_alloc, size_alloc, if_pos rfl]
    have hby4 : ByteAt ((w3.alloc (.cells #[.int .u8 255, .int .u8 255] 5)).alloc (.cells #[.slice (some ⟨w3.heap.size, 0, none⟩) 2 2] 22)) (fun q => S (k + 1) q ∨ w.heap.size ≤ q) (.slice (some ⟨w3.heap.size, 0, none⟩) 2 2) [255, 255] := by
      have ho : objAt ((w3.alloc (.cells #[.int .u8 255, .int .u8 255] 5)).alloc (.cells #[.slice (some ⟨w3.heap.size, 0, none⟩) 2 2] 22)) w3.heap.size = some (.cells #[.int .u8 255, .int .u8 255] 5 (0, 0)) := by rw [objAt_alloc, size_alloc, if_neg (by omega), objAt_alloc, if_pos rfl]
      refine ⟨⟨w3.heap.size, 0, none⟩, _, 2, rfl, ⟨w3.heap.size, 0, fun _ => rfl, fun i hi => ?_⟩, .inr hK3.size, ho⟩
      rw [cell_obj ho]
      match i, hi with
      | 0, _ => rfl
      | 1, _ => rfl
    have H4 := Lib.hid (And.intro hV4 (And.intro ho4 (And.intro hby4 (And.intro hK3 hB4))))
    have Ht := Lib.hid (HL.out.1.trace R HD.out.2.2.2)
    clear hV3 hV4 ho4 hby4 hB4 hK3
    go_wp2_with (at_builtin; refine list_appG elemBytesK (v := vt) rfl _ _ rfl rfl H4.out.1.trace rfl H4.out.2.1 rfl (by simp [Value.oneCell']) (by have := Ht.out; show R.trace.length < _; omega) (BEl (fun q => S (k + 1) q ∨ w.heap.size ≤ q)) [255, 255] (fun w5 hk5 => ⟨fun a c h => BEl.own H4.out.1.trace (by decide) hk5 a c h, BEl.own H4.out.1.trace (by decide) hk5 _ _ ⟨_, rfl, H4.out.2.2.1⟩⟩) ?_; intro g5 cap5 w5 hv5 hk5 ho5 hl5; obtain ⟨hr5, hV6⟩ := H4.out.1.pushTrace hv5 (fun q hq => hq.elim id (fun h => .inr (Nat.le_trans (Nat.le_trans H4.out.2.2.2.1.size H4.out.2.2.2.2.size) h))) hk5 ho5; have k5 := cell_obj hr5 3; have f5 := free_obj hr5 3)
    go_ret
    have hK6 := ((H4.out.2.2.2.1.trans ((Keeps.of_below_size H4.out.2.2.2.2).mono (fun k _ h => .inr (Nat.le_trans H4.out.2.2.2.1.size h)))).trans (hk5.mono (fun q _ h => H4.out.1.trace.own q h))).trans (Keeps.setCell w5 ⟨r, 3, none⟩ (.slice (some ⟨g5, 0, none⟩) (R.trace.length + 1) cap5) (.inl HV.out.sr))
    exact ⟨rfl, HD.out.1.done HL.out.1 HL.out.2.1 HL.out.2.2.1 HD.out.2.2.1 hK6 hV6 (fun _ h => h) HR.out.barrier (by simp [Reg.barrier]) (by have := Ht.out; simp [Reg.barrier]; omega) (Nat.le_succ _)⟩
end Go.Proofs.YtbbnejehglonjaaGreat
