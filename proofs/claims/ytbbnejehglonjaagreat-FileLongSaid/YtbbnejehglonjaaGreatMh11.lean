/- DERIVED. Contracts and laws that the proofs of this seat share, part 11 of 36: DvB RcB DvC DvD. -/
import Derived.Test.YtbbnejehglonjaaGreatMh00
import Derived.Test.YtbbnejehglonjaaGreatMh08
import Derived.Test.YtbbnejehglonjaaGreatMh10
namespace Go.Proofs.YtbbnejehglonjaaGreat
set_option maxHeartbeats 8000000
set_option maxRecDepth 100000
set_option linter.unusedSimpArgs false
set_option linter.unusedVariables false
section
open Go.RowKit
attribute [local go_sem] hasBlk
attribute [local irreducible] Calls

section
variable {w w' : World} {S S2 : Nat → Prop} {r : Nat} {vs vu vl vt : Value} {R : Reg}
theorem RowB.setR {v : Value} {ls : List (List UInt8)} (h : RowB w S v ls) {c : Array Value} (hr : objAt w r = some (.cells c 207 (0, 0))) (i : Nat) (x : Value) : RowB (w.setCell ⟨r, i, none⟩ x) S v ls :=
 RowB.keeps h (Keeps.setCell (S := (· = r)) _ _ _ rfl) (fun g hg e => by obtain ⟨c', hc⟩ := h.obj hg; exact ne_of_obj hc hr (by decide) e) (fun g q _ hq e => ne_of_obj hq hr (by decide) e) (fun _ h _ => h)
theorem RowW.setR {v : Value} {ls : List (Nat × List UInt8)} (h : RowW w S v ls) {c : Array Value} (hr : objAt w r = some (.cells c 207 (0, 0))) (i : Nat) (x : Value) : RowW (w.setCell ⟨r, i, none⟩ x) S v ls :=
 RowW.keeps h (Keeps.setCell (S := (· = r)) _ _ _ rfl) (fun g hg e => by obtain ⟨c', hc⟩ := h.obj hg; exact ne_of_obj hc hr (by decide) e) (fun g q _ hq e => ne_of_obj hq hr (by decide) e) (fun _ h _ => h)
theorem RegV.setSure (h : RegV w S r vs vu vl vt R) {vu' : Value} {ls : List (List UInt8)} (hrow : RowB w S vu' ls) (h1 : ∀ g, vs.ownBlock = some g → vu'.ownBlock ≠ some g) (h2 : ∀ g, vu'.ownBlock = some g → vt.ownBlock ≠ some g) :
 RegV (w.setCell ⟨r, 1, none⟩ vu') S r vs vu' vl vt { R with sure := ls } :=
 ⟨by rw [objAt_setCell h.obj]; rfl, h.seen.setR h.obj _ _, hrow.setR h.obj _ _, h.later.setR h.obj _ _, h.trace.setR h.obj _ _, h1, h.st, h2, h.sr⟩
theorem RegV.noLater (h : RegV w S r vs vu vl vt R) : RegV (w.setCell ⟨r, 2, none⟩ (.slice none 0 0)) S r vs vu (.slice none 0 0) vt { R with later := [] } :=
 ⟨by rw [objAt_setCell h.obj]; rfl, h.seen.setR h.obj _ _, h.sure.setR h.obj _ _, RowG.nil _ _ _ _ _, h.trace.setR h.obj _ _, h.su, h.st, h.ut, h.sr⟩
theorem BEl.own {v : Value} {e : TypeId} {α : Type} {k : Nat} {Q : World → α → List Value → Prop} {al : List α} (hrow : RowG w S2 e k Q v al) (he : e ≠ 5) (hk : Keeps (fun q => v.ownBlock = some q) w w') (l : List UInt8) (c : List Value) (h : BEl S w l c) : BEl S w' l c :=
 h.keeps hk (fun g q _ hq e' => by obtain ⟨c, hc⟩ := hrow.obj e'; exact ne_of_obj hc hq he rfl) (fun _ h _ => h)
theorem WEl.own {v : Value} {e : TypeId} {α : Type} {k : Nat} {Q : World → α → List Value → Prop} {al : List α} (hrow : RowG w S2 e k Q v al) (he : e ≠ 5) (hk : Keeps (fun q => v.ownBlock = some q) w w') (l : Nat × List UInt8) (c : List Value) (h : WEl S w l c) : WEl S w' l c :=
 h.keeps hk (fun g q _ hq e' => by obtain ⟨c, hc⟩ := hrow.obj e'; exact ne_of_obj hc hq he rfl) (fun _ h _ => h)
theorem RowB.other {v v2 : Value} {ls : List (List UInt8)} (h : RowB w S v ls) {e : TypeId} {α : Type} {k : Nat} {Q : World → α → List Value → Prop} {al : List α} (hrow : RowG w S2 e k Q v2 al) (he : e ≠ 5) (hk : Keeps (fun q => v2.ownBlock = some q) w w') (hne : ∀ g, v.ownBlock = some g → v2.ownBlock ≠ some g) : RowB w' S v ls :=
 RowB.keeps h hk hne (fun g q _ hq e' => by obtain ⟨c, hc⟩ := hrow.obj e'; exact ne_of_obj hc hq he rfl) (fun _ h _ => h)
theorem RowW.other {v v2 : Value} {ls : List (Nat × List UInt8)} (h : RowW w S v ls) {e : TypeId} {α : Type} {k : Nat} {Q : World → α → List Value → Prop} {al : List α} (hrow : RowG w S2 e k Q v2 al) (he : e ≠ 5) (hk : Keeps (fun q => v2.ownBlock = some q) w w') (hne : ∀ g, v.ownBlock = some g → v2.ownBlock ≠ some g) : RowW w' S v ls :=
 RowW.keeps h hk hne (fun g q _ hq e' => by obtain ⟨c, hc⟩ := hrow.obj e'; exact ne_of_obj hc hq he rfl) (fun _ h _ => h)
theorem RowG.mono {α : Type} {e : TypeId} {k : Nat} {Q : World → α → List Value → Prop} {v : Value} {al : List α} (h : RowG w S e k Q v al) (hS : ∀ g, S g → S2 g) : RowG w S2 e k Q v al := ⟨h.ex, fun g hg => hS g (h.own g hg)⟩
theorem RowG.ne {α β : Type} {e e2 : TypeId} {k k2 : Nat} {Q : World → α → List Value → Prop} {Q2 : World → β → List Value → Prop} {v v2 : Value} {al : List α} {bs : List β} (h : RowG w S e k Q v al) (h2 : RowG w S2 e2 k2 Q2 v2 bs) (he : e ≠ e2) : ∀ g, v.ownBlock = some g → v2.ownBlock ≠ some g := fun g hg e' => by
 obtain ⟨c, hc⟩ := h.obj hg
 obtain ⟨c2, hc2⟩ := h2.obj e'
 exact ne_of_obj hc hc2 he rfl
theorem RegV.pushTrace (h : RegV w S r vs vu vl vt R) {g' n' cap' : Nat} {l : List UInt8} (hrow : RowG w' S2 22 1 (BEl S) (.slice (some ⟨g', 0, none⟩) n' cap') (R.trace ++ [l])) (hS2 : ∀ q, S2 q → S q) (hk : Keeps (fun q => vt.ownBlock = some q) w w') (ho : vt.ownBlock = some g' ∨ g' = w.heap.size) :
 objAt w' r = some (.cells #[vs, vu, vl, vt] 207 (0, 0)) ∧ RegV (w'.setCell ⟨r, 3, none⟩ (.slice (some ⟨g', 0, none⟩) n' cap')) S r vs vu vl (.slice (some ⟨g', 0, none⟩) n' cap') { R with trace := R.trace ++ [l] } := by
 have hr : objAt w' r = some (.cells #[vs, vu, vl, vt] 207 (0, 0)) := hk.obj h.obj (fun e => by obtain ⟨c, hc⟩ := h.trace.obj e; exact ne_of_obj hc h.obj (by decide) rfl)
 have hfar : ∀ (v : Value) (al : List (List UInt8)), RowB w S v al → (∀ g, v.ownBlock = some g → vt.ownBlock ≠ some g) → ∀ g, v.ownBlock = some g → (Value.slice (some ⟨g', 0, none⟩) n' cap').ownBlock ≠ some g := fun v al hv hne g hg e => by
  obtain rfl : g' = g := Option.some.inj e
  rcases ho with ho | ho
  · exact hne _ hg ho
  · have := hv.lt hg; omega
 exact ⟨hr, by rw [objAt_setCell hr]; rfl, (RowB.other h.seen h.trace (by decide) hk h.st).setR hr _ _, (RowB.other h.sure h.trace (by decide) hk h.ut).setR hr _ _, (RowW.other h.later h.trace (by decide) hk (h.later.ne h.trace (by decide))).setR hr _ _,
  RowB.setR (hrow.mono hS2) hr _ _, h.su, hfar vs _ h.seen h.st, hfar vu _ h.sure h.ut, h.sr⟩
theorem RegV.pushLater (h : RegV w S r vs vu vl vt R) {g' n' cap' : Nat} {p : Nat × List UInt8} (hrow : RowG w' S2 269 2 (WEl S) (.slice (some ⟨g', 0, none⟩) n' cap') (R.later ++ [p])) (hS2 : ∀ q, S2 q → S q) (hk : Keeps (fun q => vl.ownBlock = some q) w w') :
 objAt w' r = some (.cells #[vs, vu, vl, vt] 207 (0, 0)) ∧ RowB w' S vs R.seen ∧ RegV (w'.setCell ⟨r, 2, none⟩ (.slice (some ⟨g', 0, none⟩) n' cap')) S r vs vu (.slice (some ⟨g', 0, none⟩) n' cap') vt { R with later := R.later ++ [p] } := by
 have hr : objAt w' r = some (.cells #[vs, vu, vl, vt] 207 (0, 0)) := hk.obj h.obj (fun e => by obtain ⟨c, hc⟩ := h.later.obj e; exact ne_of_obj hc h.obj (by decide) rfl)
 have h1 := RowB.other h.seen h.later (by decide) hk (h.seen.ne h.later (by decide))
 exact ⟨hr, h1, by rw [objAt_setCell hr]; rfl, h1.setR hr _ _, (RowB.other h.sure h.later (by decide) hk (h.sure.ne h.later (by decide))).setR hr _ _, RowW.setR (hrow.mono hS2) hr _ _,
  (RowB.other h.trace h.later (by decide) hk (h.trace.ne h.later (by decide))).setR hr _ _, h.su, h.st, h.ut, h.sr⟩
theorem RegV.turnSeen {gs n cs : Nat} (h : RegV w S r (.slice (some ⟨gs, 0, none⟩) n cs) vu vl vt R) {i : Nat} (hi : i < R.seen.length) {x : Value} {l : List UInt8} (hx : ByteAt w S x l) :
 RegV (w.setCell ⟨gs, i, none⟩ x) S r (.slice (some ⟨gs, 0, none⟩) n cs) vu vl vt { R with seen := R.seen.set i l } := by
 obtain ⟨cg, hg⟩ := h.seen.obj (g := gs) rfl
 have hk : Keeps (· = gs) w (w.setCell ⟨gs, i, none⟩ x) := Keeps.setCell _ _ _ rfl
 have hby : ∀ g q, S g → objAt w g = some (.cells q 5 (0, 0)) → ¬ g = gs := fun g q _ hq e => ne_of_obj hq hg (by decide) e
 refine ⟨hk.obj h.obj (fun e => ne_of_obj h.obj hg (by decide) e), h.seen.set hi ⟨x, rfl, hx.keeps hk hby (fun _ h _ => h)⟩ (fun a c hc => hc.keeps hk hby (fun _ h _ => h)), RowB.keeps h.sure hk (fun g hg' e => ?_) hby (fun _ h _ => h), RowW.keeps h.later hk (fun g hg' e => ?_) hby (fun _ h _ => h), RowB.keeps h.trace hk (fun g hg' e => ?_) hby (fun _ h _ => h), h.su, h.st, h.ut, h.sr⟩
 · subst e; exact h.su g rfl hg'
 · subst e; exact h.seen.ne h.later (by decide) g rfl hg'
 · subst e; exact h.st g rfl hg'
theorem RegV.below (h : RegV w S r vs vu vl vt R) (hb : Below w.heap.size w w') : RegV w' S r vs vu vl vt R := by
 have hk := Keeps.of_below_size hb
 have hby : ∀ g q, S g → objAt w g = some (.cells q 5 (0, 0)) → ¬ w.heap.size ≤ g := fun g q _ hq e => by have := block_lt hq; omega
 exact ⟨hk.obj h.obj (fun e => by have := block_lt h.obj; omega), RowB.keeps h.seen hk (fun g hg e => by have := h.seen.lt hg; omega) hby (fun _ h _ => h), RowB.keeps h.sure hk (fun g hg e => by have := h.sure.lt hg; omega) hby (fun _ h _ => h),
  RowW.keeps h.later hk (fun g hg e => by have := h.later.lt hg; omega) hby (fun _ h _ => h), RowB.keeps h.trace hk (fun g hg e => by have := h.trace.lt hg; omega) hby (fun _ h _ => h), h.su, h.st, h.ut, h.sr⟩
theorem RegV.foot (h : RegV w S r vs vu vl vt R) (hS : ∀ g, S g → g < w.heap.size → S2 g) : RegV w S2 r vs vu vl vt R := h.keeps (Keeps.refl (fun _ => False) w) (fun _ _ h => h) hS
end

section
variable {w : World} {S : Nat → Nat → Prop} {d rl rcap : Nat} {rs : List Nat} {D : Dv}
theorem of_in (h : DevV w S d rl rcap rs D) {k r : Nat} {R : Reg} (hr : rs[k]? = some r) (hR : D.regs[k]? = some R) (hok : R.Ok) (i : Nat) (hi : i < R.seen.length) :
 Calls Tryz.prog 163 #[.pointer (some ⟨d, 0, none⟩), .int .i64 k, .int .i64 i] w fun e w' => e = .returned (.pointer (some ⟨r, 0, none⟩)) ∧ w' = w := by
 obtain ⟨cur, h2, h3⟩ := h.ol
 have h2' := h3 k r hr
 obtain ⟨vs, vu, vl, vt, hV⟩ := h.reg k r R hr hR
 obtain ⟨gs, cs, rfl⟩ := hV.seen.form hok.pos
 have c0 := cell_obj h.od 0
 have c1 := (cell_obj h2 k).trans h2'
 have c2 := cell_obj hV.obj 0
 have i0 : ¬ ((i : Int) < 0) := by omega
 have i1 : ¬ ((R.seen.length : Int) ≤ (i : Int)) := by omega
 have k0 : ¬ ((k : Int) < 0) := by omega
 have hkl := (List.getElem?_eq_some_iff.1 hR).1
 have k1 : ¬ ((D.regs.length : Int) ≤ (k : Int)) := by omega
 have k2 : (k : Int) < (D.regs.length : Int) := by omega
 generalize D.regs.length = n at *
 clear h h2 h2' h3 hV hR
 go_enter Tryz.func163, Tryz.ntmps163
 go_wp2_with fail
 go_ret
 exact ⟨rfl, rfl⟩
theorem Clone_len (ad : Addr) (l : List UInt8) (n cap : Nat) (w : World) (hn : n = l.length) (h : BytesAt w (some ad) l) (h0 : 0 < n) (hl : n ≤ 100000) :
 Calls Tryz.prog 164 #[.slice (some ad) n cap] w fun e w' => ∃ g cap', e = .returned (.slice (some ⟨g, 0, none⟩) n cap') ∧ BRow w' w.heap.size (.slice (some ⟨g, 0, none⟩) n cap') l ∧ Below w.heap.size w w' := by
 subst hn; exact Clone_any ad l cap w h h0 hl

theorem Read_in (h : DevV w S d rl rcap rs D) {k : Nat} {R : Reg} (hR : D.regs[k]? = some R) (hok : R.Ok) (i : Nat) {l : List UInt8} (hi : R.seen[i]? = some l) :
 Calls Tryz.prog 107 #[.pointer (some ⟨d, 0, none⟩), .int .i64 k, .int .i64 i] w fun e w' => ∃ g cap, e = .returned (.tuple #[.slice (some ⟨g, 0, none⟩) 64 cap, .bool true]) ∧ BRow w' w.heap.size (.slice (some ⟨g, 0, none⟩) 64 cap) l ∧ 64 ≤ cap ∧ Below w.heap.size w w' := by
 have hil := (List.getElem?_eq_some_iff.1 hi).1
 have hl64 : l.length = 64 := by
  obtain ⟨hlt, rfl⟩ := List.getElem?_eq_some_iff.1 hi
  exact hok.l1 _ (List.getElem_mem hlt)
 have hkl := (List.getElem?_eq_some_iff.1 hR).1
 have hr : rs[k]? = some (rs[k]'(by rw [h.ln]; exact hkl)) := List.getElem?_eq_getElem _
 generalize rs[k]'(by rw [h.ln]; exact hkl) = r at hr
 have hof := of_in h hr hR hok i hil
 obtain ⟨vs, vu, vl, vt, hV⟩ := h.reg k r R hr hR
 obtain ⟨gs, cs, rfl⟩ := hV.seen.form hok.pos
 obtain ⟨c, hc1, ⟨x, rfl, a, q, n, rfl, hb, _, _⟩, hc3⟩ := hV.seen.cells hi
 have c3 := hc3 0 _ rfl
 rw [Nat.mul_one, Nat.add_zero, hl64] at c3
 have c2 := cell_obj hV.obj 0
 have Hc := Lib.hid (Clone_len a l 64 n w hl64.symm hb (by decide) (by decide))
 have HL := Lib.hid hl64
 have i0 : (i : Int) < (R.seen.length : Int) := by omega
 have Hof := Lib.hid hof
 clear h hV hR hi hc1 hc3 hof hl64 hb
 go_enter Tryz.func107, Tryz.ntmps107
 go_wp2_with (first | (go_at_call 163; refine Hof.out.mono ?_; rintro e w1 ⟨rfl, rfl⟩) | (go_at_call 164; refine Hc.out.mono ?_; rintro e w2 ⟨g, cap, rfl, hB, b1⟩))
 go_ret2
 have := hB.cap
 rw [HL.out] at this
 exact ⟨g, cap, rfl, hB, this, b1⟩
theorem Regions_in (h : DevV w S d rl rcap rs D) :
 Calls Tryz.prog 112 #[.pointer (some ⟨d, 0, none⟩)] w fun e w' => e = .returned (.int .i64 D.regs.length) ∧ w' = w := by
 have c0 := cell_obj h.od 0
 clear h
 go_enter Tryz.func112, Tryz.ntmps112
 go_wp2_with fail
 go_ret
 exact ⟨rfl, rfl⟩

theorem CloneRow {w : World} {S : Nat → Prop} {g n cap : Nat} {ls : List (List UInt8)} (h : RowB w S (.slice (some ⟨g, 0, none⟩) n cap) ls) (h0 : 0 < ls.length) (hl : ls.length ≤ 100000) :
 Calls Tryz.prog 168 #[.slice (some ⟨g, 0, none⟩) n cap] w fun e w' => ∃ g' cap', e = .returned (.slice (some ⟨g', 0, none⟩) n cap') ∧ w.heap.size ≤ g' ∧ Below w.heap.size w w' ∧
  ∀ S', (∀ q, S q → q < w.heap.size → S' q) → S' g' → RowB w' S' (.slice (some ⟨g', 0, none⟩) n cap') ls := by
 obtain rfl := h.len
 obtain ⟨xs, h1, h2, h3, h4⟩ := h.ex
 have hfl : xs.flatten.length = ls.length := by have := h1.1; omega
 have hel : ∀ c ∈ xs, ∃ x l, c = [x] ∧ ByteAt w S x l := fun c hc => by
  obtain ⟨i, hi, rfl⟩ := List.getElem_of_mem hc
  obtain ⟨x, hx, hy⟩ := h4 i _ _ (List.getElem?_eq_getElem (by omega)) (List.getElem?_eq_getElem hi)
  exact ⟨x, _, hx, hy⟩
 have := CloneV_any ⟨g, 0, none⟩ xs.flatten cap w (World.ownsRow.cells h1 (g := g) rfl) (fun u hu => by
  obtain ⟨c, hc, hu⟩ := List.mem_flatten.1 hu
  obtain ⟨x, l, rfl, a, q, n, rfl, _⟩ := hel c hc
  simp only [List.mem_singleton] at hu
  subst hu; rfl) (by omega) (by omega)
 rw [hfl] at this
 refine this.mono ?_
 rintro e w' ⟨g', cap', rfl, hrow, hb⟩
 have hg' : w.heap.size ≤ g' := by
  have := World.ownsRow.lt hrow g' rfl
  exact this.1
 refine ⟨g', cap', rfl, hg', hb, fun S' hS hg2 => ⟨⟨xs, World.ownsRow.mono hrow (Nat.zero_le _), h2, h3, fun i a c ha hc => ?_⟩, fun q hq => by obtain rfl : g' = q := Option.some.inj hq; exact hg2⟩⟩
 obtain ⟨x, rfl, hx⟩ := h4 i a c ha hc
 exact ⟨x, rfl, hx.keeps (Keeps.of_below_size hb) (fun g q _ hq e => by have := block_lt hq; omega) hS⟩
end
end
section
open Go.RowKit
attribute [local irreducible] Calls

def imageB (epoch seq : Nat) (b : Blk) : List UInt8 := sealR (b.body ++ high epoch 2 ++ high seq 2)
def placeB (x : Wr) : List UInt8 := high x.at_.toNat 2 ++ high x.b.kind.toNat 1
def placesB (ws : List Wr) : List UInt8 := ws.flatMap placeB
def headL (lb : UInt8) (epoch seq n : Nat) : List UInt8 := [72, lb] ++ high epoch 4 ++ high seq 4 ++ [UInt8.ofNat n]
def headB (lb : UInt8) (epoch seq : Nat) (ws : List Wr) : List UInt8 := sealR (headL lb epoch seq ws.length ++ placesB ws)
def putRec (lb : UInt8) (epoch seq : Nat) (ws : List Wr) : List (List UInt8) := headB lb epoch seq ws :: ws.map fun x => imageB epoch seq x.b
theorem placeB_length (x : Wr) : (placeB x).length = 3 := by simp [placeB, high_length]
theorem placesB_length (ws : List Wr) : (placesB ws).length = 3 * ws.length := by
 induction ws with
 | nil => rfl
 | cons x ws ih => simp only [placesB, List.flatMap_cons, List.length_append, List.length_cons] at ih ⊢; rw [ih, placeB_length]; omega
theorem placesB_succ {ws : List Wr} {k : Nat} {x : Wr} (h : ws[k]? = some x) : placesB (ws.take (k + 1)) = placesB (ws.take k) ++ placeB x := by
 obtain ⟨hk, rfl⟩ := List.getElem?_eq_some_iff.1 h
 unfold placesB
 rw [List.take_succ_eq_append_getElem hk, List.flatMap_append]
 simp only [List.flatMap_cons, List.flatMap_nil, List.append_nil]
theorem headL_length (lb : UInt8) (epoch seq n : Nat) : (headL lb epoch seq n).length = 11 := by simp [headL, high_length]
theorem imageB_length (epoch seq : Nat) (b : Blk) : (imageB epoch seq b).length = 64 := sealR_length (by simp [high_length, b.len])
theorem mayRec_iff {ws : List Wr} : mayRec ws = true ↔ wrsOk ws = true ∧ 1 ≤ ws.length ∧ ws.length ≤ 12 := by simp [mayRec, and_assoc]
theorem headB_length {lb : UInt8} {epoch seq : Nat} {ws : List Wr} (h : mayRec ws = true) : (headB lb epoch seq ws).length = 64 := by
 have := (mayRec_iff.1 h).2.2
 exact sealR_length (by rw [List.length_append, headL_length, placesB_length]; omega)

theorem image_any (epoch seq : Nat) (x : Wr) (w : World) (he : epoch < 4294967296) (hs : seq < 4294967296) :
 Calls Tryz.prog 177 #[.int .u32 epoch, .int .u32 seq, .agg x.cells] w fun e w' => ∃ v, e = .returned v ∧ BRow w' w.heap.size v (imageB epoch seq x.b) ∧ Below w.heap.size w w' := by
 have hx := WrAt.new w x
 have hB0 : Below w.heap.size w (w.alloc (.cells x.cells 52)) := grow_alloc (Below.refl _ _) _
 obtain ⟨G, hG⟩ : ∃ G, G = w.heap.size := ⟨_, rfl⟩
 obtain ⟨w1, hw1⟩ : ∃ w1, w1 = w.alloc (.cells x.cells 52) := ⟨_, rfl⟩
 rw [← hG, ← hw1] at hx
 rw [← hw1] at hB0
 have H1 := Lib.hid (And.intro hx (And.intro hB0 (And.intro hw1 hG)))
 have Hc := Lib.hid (Clone_len ⟨G, 2, none⟩ x.b.body 56 56 w1 x.b.len.symm hx.bytes (by decide) (by decide))
 have Hl := Lib.hid x.b.len
 clear hx hB0 hw1 hG
 go_enter Tryz.func177, Tryz.ntmps177
 go_upto_region 1 with fail
 rw [← H1.out.2.2.1, ← H1.out.2.2.2]
 go_wp2_with (first | (go_at_call 164; refine Hc.out.mono ?_; rintro e w2 ⟨g2, cap2, rfl, hb2, b2⟩; have hr2 := BRow.mono hb2 H1.out.2.1.size) | (go_at_call 201; first | (refine (number_any _ _ epoch 2 w.heap.size _ (Nat.le_trans H1.out.2.1.size b2.size) hr2 he (by decide) (by rw [Hl.out]; decide)).mono ?_; rintro e w3 ⟨v3, rfl, hr3, b3⟩) | (refine (number_any _ _ seq 2 w.heap.size _ (Nat.le_trans (Nat.le_trans H1.out.2.1.size b2.size) b3.size) hr3 hs (by decide) (by simp [high_length, Hl.out])).mono ?_; rintro e w4 ⟨v4, rfl, hr4, b4⟩)) | (go_at_call 200; refine (Sealed_any _ _ w.heap.size _ (Nat.le_trans (Nat.le_trans (Nat.le_trans H1.out.2.1.size b2.size) b3.size) b4.size) hr4 (by simp [high_length, Hl.out]) (by simp [high_length, Hl.out])).mono ?_; rintro e w5 ⟨v5, rfl, hr5, b5⟩))
 go_ret
 exact ⟨v5, rfl, hr5, ((((H1.out.2.1.trans (b2.mono H1.out.2.1.size)).trans b3).trans b4).trans b5)⟩
end
section
open Go.RowKit
attribute [local go_sem] hasBlk
attribute [local irreducible] Calls

theorem Dv.Ok.set {D : Dv} {c c' k : Nat} {R' : Reg} (h : D.Ok c) (hc : c ≤ c') (h1 : R'.Ok) (h2 : R'.later.length ≤ c') (h3 : R'.trace.length ≤ c') : Dv.Ok { D with regs := D.regs.set k R' } c' := by
 have hm : ∀ R ∈ D.regs.set k R', R = R' ∨ R ∈ D.regs := fun R hR => (List.mem_or_eq_of_mem_set hR).symm
 refine ⟨by simpa using h.pos, by simpa using h.le, fun R hR => ?_, fun R hR => ?_, fun R hR => ?_, h.left⟩
 · rcases hm R hR with rfl | hR
   · exact h1
   · exact h.regs R hR
 · rcases hm R hR with rfl | hR
   · exact h2
   · exact Nat.le_trans (h.later R hR) hc
 · rcases hm R hR with rfl | hR
   · exact h3
   · exact Nat.le_trans (h.trace R hR) hc
theorem DevV.done {w w' : World} {S : Nat → Nat → Prop} {S' : Nat → Prop} {d rl rcap k r c c' : Nat} {rs : List Nat} {D : Dv} {Sd : Nat → Prop} {R' : Reg} {vs vu vl vt : Value} (hok : D.Ok c) (hlt : ∀ q, Sd q → q < w.heap.size) (hD : DevV w S d rl rcap rs D) (hSd : ∀ k q, S k q → Sd q)
 (hr : rs[k]? = some r) (hk : Keeps (fun q => S (k + 1) q ∨ w.heap.size ≤ q) w w') (hV : RegV w' S' r vs vu vl vt R') (hS' : ∀ q, S' q → S (k + 1) q ∨ w.heap.size ≤ q) (h1 : R'.Ok) (h2 : R'.later.length ≤ c') (h3 : R'.trace.length ≤ c') (hc : c ≤ c') :
 Keeps Sd w w' ∧ DevAt w' (grownS Sd w w') d { D with regs := D.regs.set k R' } c' := by
 have hT := hD.turn (R' := R') hk (fun g hg => hg) hr ⟨vs, vu, vl, vt, hV.foot (fun g hg hl => ⟨hl, hS' g hg⟩)⟩
 refine ⟨hk.mono (fun q hq h => h.elim (hSd _ q) (fun h => by omega)), hok.set hc h1 h2 h3, fun q hq => hq.1, _, rl, rcap, rs, hT, fun j q hq => ?_⟩
 by_cases e : j = k + 1
 · rw [if_pos e] at hq
   exact ⟨hq.1, hq.2.imp (hSd _ q) id⟩
 · rw [if_neg e] at hq
   exact ⟨Nat.lt_of_lt_of_le (hlt q (hSd _ q hq)) hk.size, .inl (hSd _ q hq)⟩
theorem DevAt.stay {w w' : World} {Sd : Nat → Prop} {d c c' : Nat} {D : Dv} (h : DevAt w Sd d D c) (hb : Below w.heap.size w w') (hc : c ≤ c') : Keeps Sd w w' ∧ DevAt w' (grownS Sd w w') d D c' :=
 ⟨Keeps.of_below hb, (h.below hb).mono (grownS_of h.lt hb.size) (fun _ hk => hk.1) hc⟩
theorem Reg.Ok.barrier {R : Reg} (h : R.Ok) : R.barrier.Ok :=
 ⟨h.pos, h.le, rfl, h.l1, h.l1, fun p hp => by simp [Reg.barrier] at hp, fun l hl => by
  simp only [Reg.barrier, List.mem_append, List.mem_singleton] at hl
  rcases hl with hl | rfl
  · exact h.l4 l hl
  · exact .inr rfl⟩
theorem Dv.barrier_off {D : Dv} {k : Nat} (h : D.left = 0) : D.barrier k = D := by unfold Dv.barrier; rw [if_pos h]
theorem Dv.barrier_on {D : Dv} {k : Nat} {R : Reg} (h : D.left ≠ 0) (hR : D.regs[k]? = some R) : D.barrier k = { D with regs := D.regs.set k R.barrier } := by unfold Dv.barrier; rw [if_neg h, hR]
theorem Barrier_in {w : World} {Sd : Nat → Prop} {d : Nat} {D : Dv} {c : Nat} (h : DevAt w Sd d D c) (hc : c < 900000) {k : Nat} (hk : k < D.regs.length) :
 Calls Tryz.prog 110 #[.pointer (some ⟨d, 0, none⟩), .int .i64 k] w fun e w' => e = .returned (.bool true) ∧ Keeps Sd w w' ∧ DevAt w' (grownS Sd w w') d (D.barrier k) (c + 1) := by
 have h0 := h
 obtain ⟨hok, hlt, S, rl, rcap, rs, hD, hSd⟩ := h
 obtain ⟨R, hR⟩ : ∃ R, D.regs[k]? = some R := ⟨_, List.getElem?_eq_getElem hk⟩
 obtain ⟨r, hr⟩ : ∃ r, rs[k]? = some r := ⟨_, List.getElem?_eq_getElem (by rw [hD.ln]; exact hk)⟩
 have hRm : R ∈ D.regs := List.mem_of_getElem? hR
 have hRok := hok.regs R hRm
 have Hof := Lib.hid (of_in hD hr hR hRok 0 hRok.pos)
 obtain ⟨vs, vu, vl, vt, hV⟩ := hD.reg k r R hr hR
 obtain ⟨gs, cs, rfl⟩ := hV.seen.form hRok.pos
 have Hcl := Lib.hid (CloneRow hV.seen hRok.pos (by have := hRok.le; omega))
 have c0 := cell_obj hD.od 1
 have c2 := cell_obj hV.obj 0
 have HV := Lib.hid hV
 have HD := Lib.hid (And.intro hD (And.intro hR (And.intro hr hRm)))
 have HL := Lib.hid (And.intro hok (And.intro hlt (And.intro hSd h0)))
 have HR := Lib.hid hRok
 by_cases hz : D.left = 0
 · rw [Dv.barrier_off hz]
   rw [hz] at c0
   clear hD hV hok hlt hSd h0 hR hr hRm hRok
   go_enter Tryz.func110, Tryz.ntmps110
   go_wp2_with (go_at_call 163; refine Hof.out.mono ?_; rintro e w1 ⟨rfl, rfl⟩)
   go_ret
   exact ⟨rfl, HL.out.2.2.2.stay (Below.refl _ _) (Nat.le_succ _)⟩
 · rw [Dv.barrier_on hz hR]
   have z0 : (D.left == 0) = false := by simpa using hz
   have z1 : (D.left != 0) = true := by rw [bne, z0]; rfl
   obtain ⟨dl, hdl⟩ : ∃ dl, dl = D.left := ⟨_, rfl⟩
   rw [← hdl] at z0 z1 c0
   clear hD hV hok hlt hSd h0 hR hr hRm hRok hz hdl
   go_enter Tryz.func110, Tryz.ntmps110
   go_upto_region 6 with (first | (go_at_call 163; refine Hof.out.mono ?_; rintro e w1 ⟨rfl, hw1⟩; obtain rfl := hw1.symm) | (go_at_call 168; refine Hcl.out.mono ?_; rintro e w2 ⟨g2, cap2, rfl, hg2, b1, hrow2⟩; have hV2 := (HV.out.below b1).foot (S2 := fun q => S (k + 1) q ∨ w.heap.size ≤ q) (fun g hg _ => .inl hg); have k1 := cell_obj hV2.obj 1; have k2 := cell_obj hV2.obj 2; have f1 := free_obj hV2.obj 1; have f2 := free_obj hV2.obj 2))
   have hu2 := hrow2 (fun q => S (k + 1) q ∨ w.heap.size ≤ q) (fun q hq _ => .inl hq) (.inr hg2)
   have hV3 := (hV2.setSure hu2 (fun g hg e => by obtain rfl : g2 = g := Option.some.inj e; have := HV.out.seen.lt hg; omega) (fun g hg e => by obtain rfl : g2 = g := Option.some.inj hg; have := HV.out.trace.lt e; omega)).noLater
   obtain ⟨w3, hw3⟩ : ∃ w3, w3 = (w2.setCell ⟨r, 1, none⟩ (.slice (some ⟨g2, 0, none⟩) R.seen.length cap2)).setCell ⟨r, 2, none⟩ (.slice none 0 0) := ⟨_, rfl⟩
   have hK3 : Keeps (fun q => S (k + 1) q ∨ w.heap.size ≤ q) w w3 := by
    rw [hw3]
    exact ((Keeps.of_below_size b1).mono (fun _ _ h => .inr h)).trans ((Keeps.setCell _ _ _ (.inl HV.out.sr)).trans (Keeps.setCell _ _ _ (.inl HV.out.sr)))
   rw [← hw3] at hV3 ⊢
   clear hw3 c0 c2 k1 k2 f1 f2 hu2 hV2 hrow2 b1
   have k3 := cell_obj hV3.obj 3
   have hB4 : Below w3.heap.size w3 ((w3.alloc (.cells #[.int .u8 255, .int .u8 255] 5)).alloc (.cells #[.slice (some ⟨w3.heap.size, 0, none⟩) 2 2] 22)) := grow_alloc (grow_alloc (Below.refl _ _) _) _
   have hV4 := hV3.below hB4
   have ho4 : objAt ((w3.alloc (.cells #[.int .u8 255, .int .u8 255] 5)).alloc (.cells #[.slice (some ⟨w3.heap.size, 0, none⟩) 2 2] 22)) (w3.heap.size + 1) = some (.cells #[.slice (some ⟨w3.heap.size, 0, none⟩) 2 2] 22 (0, 0)) := by rw [objAt_alloc, size_alloc, if_pos rfl]
   have hby4 : ByteAt ((w3.alloc (.cells #[.int .u8 255, .int .u8 255] 5)).alloc (.cells #[.slice (some ⟨w3.heap.size, 0, none⟩) 2 2] 22)) (fun q => S (k + 1) q ∨ w.heap.size ≤ q) (.slice (some ⟨w3.heap.size, 0, none⟩) 2 2) [255, 255] := by
    have ho : objAt ((w3.alloc (.cells #[.int .u8 255, .int .u8 255] 5)).alloc (.cells #[.slice (some ⟨w3.heap.size, 0, none⟩) 2 2] 22)) w3.heap.size = some (.cells #[.int .u8 255, .int .u8 255] 5 (0, 0)) := by rw [objAt_alloc, size_alloc, if_neg (by omega), objAt_alloc, if_pos rfl]
    refine ⟨⟨w3.heap.size, 0, none⟩, _, 2, rfl, ⟨w3.heap.size, 0, fun _ => rfl, fun i hi => ?_⟩, .inr hK3.size, ho⟩
    rw [cell_obj ho]
    match i, hi with
    | 0, _ => rfl
    | 1, _ => rfl
   have H4 := Lib.hid (And.intro hV4 (And.intro ho4 (And.intro hby4 (And.intro hK3 hB4))))
   have Ht := Lib.hid (HL.out.1.trace R HD.out.2.2.2)
   clear hV3 hV4 ho4 hby4 hB4 hK3
   go_wp2_with (at_builtin; refine list_appG elemBytesK (v := vt) rfl _ _ rfl rfl H4.out.1.trace rfl H4.out.2.1 rfl (by simp [Value.oneCell']) (by have := Ht.out; show R.trace.length < _; omega) (BEl (fun q => S (k + 1) q ∨ w.heap.size ≤ q)) [255, 255] (fun w5 hk5 => ⟨fun a c h => BEl.own H4.out.1.trace (by decide) hk5 a c h, BEl.own H4.out.1.trace (by decide) hk5 _ _ ⟨_, rfl, H4.out.2.2.1⟩⟩) ?_; intro g5 cap5 w5 hv5 hk5 ho5 hl5; obtain ⟨hr5, hV6⟩ := H4.out.1.pushTrace hv5 (fun q hq => hq.elim id (fun h => .inr (Nat.le_trans (Nat.le_trans H4.out.2.2.2.1.size H4.out.2.2.2.2.size) h))) hk5 ho5; have k5 := cell_obj hr5 3; have f5 := free_obj hr5 3)
   go_ret
   have hK6 := ((H4.out.2.2.2.1.trans ((Keeps.of_below_size H4.out.2.2.2.2).mono (fun k _ h => .inr (Nat.le_trans H4.out.2.2.2.1.size h)))).trans (hk5.mono (fun q _ h => H4.out.1.trace.own q h))).trans (Keeps.setCell w5 ⟨r, 3, none⟩ (.slice (some ⟨g5, 0, none⟩) (R.trace.length + 1) cap5) (.inl HV.out.sr))
   exact ⟨rfl, HD.out.1.done HL.out.1 HL.out.2.1 HL.out.2.2.1 HD.out.2.2.1 hK6 hV6 (fun _ h => h) HR.out.barrier (by simp [Reg.barrier]) (by have := Ht.out; simp [Reg.barrier]; omega) (Nat.le_succ _)⟩
end
section
open Go.RowKit
attribute [local go_sem] hasBlk
attribute [local irreducible] Calls

structure BAt (w : World) (ad : Addr) (l : List UInt8) : Prop where
 bytes : BytesAt w (some ad) l
 obj : ∃ q, objAt w ad.block = some (.cells q 5 (0, 0))
theorem BAt.keepsNe {w w' : World} {ad : Addr} {l : List UInt8} (h : BAt w ad l) {T : Nat → Prop} (hk : Keeps T w w') (hT : ¬ T ad.block) : BAt w' ad l := by
 obtain ⟨q, hq⟩ := h.obj
 have := hk.obj hq hT
 exact ⟨h.bytes.congr (by rw [this, hq]), q, this⟩
theorem BAt.below {w w' : World} {ad : Addr} {l : List UInt8} (h : BAt w ad l) (hb : Below w.heap.size w w') : BAt w' ad l := h.keepsNe (Keeps.of_below_size hb) (fun e => by obtain ⟨q, hq⟩ := h.obj; have := block_lt hq; omega)
theorem BAt.of {w : World} {B g n cap : Nat} {l : List UInt8} (h : BRow w B (.slice (some ⟨g, 0, none⟩) n cap) l) : BAt w ⟨g, 0, none⟩ l := ⟨(BRow.bytesAt h).1, BRow.obj h⟩
theorem trace_lists (w0 : World) (ad : Addr) (cap : Nat) (l : List UInt8) (hl : l.length = 64) (hb : BAt w0 ad l) (x0 x1 : Int) (c0 c1 : UInt8) (h0 : x0 = c0.toNat) (h1 : x1 = c1.toNat) :
 ListsAt (World.drew (World.alloc (World.alloc w0 (.cells #[.int .u8 x0, .int .u8 x1] 5)) (.cells #[.slice (some ⟨w0.heap.size, 0, none⟩) 2 2, .slice (some ad) 64 cap] 22))) (w0.heap.size + 1) [[c0, c1], l] := by
 subst h0 h1
 have hsz := size_alloc w0
 have ho1 := objAt_drew (World.alloc (World.alloc w0 (.cells #[.int .u8 (c0.toNat : Int), .int .u8 (c1.toNat : Int)] 5)) (.cells #[.slice (some ⟨w0.heap.size, 0, none⟩) 2 2, .slice (some ad) 64 cap] 22)) w0.heap.size
 rw [objAt_alloc, hsz, if_neg (by omega), objAt_alloc, if_pos rfl] at ho1
 have ho2 := objAt_drew (World.alloc (World.alloc w0 (.cells #[.int .u8 (c0.toNat : Int), .int .u8 (c1.toNat : Int)] 5)) (.cells #[.slice (some ⟨w0.heap.size, 0, none⟩) 2 2, .slice (some ad) 64 cap] 22)) (w0.heap.size + 1)
 rw [objAt_alloc, hsz, if_pos rfl] at ho2
 have hb1 : BRow (World.drew (World.alloc (World.alloc w0 (.cells #[.int .u8 (c0.toNat : Int), .int .u8 (c1.toNat : Int)] 5)) (.cells #[.slice (some ⟨w0.heap.size, 0, none⟩) 2 2, .slice (some ad) 64 cap] 22))) 0 (.slice (some ⟨w0.heap.size, 0, none⟩) 2 2) [c0, c1] :=
  ⟨rfl, .inr ⟨w0.heap.size, 2, _, rfl, Nat.zero_le _, ho1, Nat.le_refl _, by decide, rfl, rfl⟩⟩
 exact lists2 ho2 rfl hl.symm (BRow.bytesAt hb1).1 (hb.bytes.below (grow_alloc (grow_alloc (Below.refl _ _) _) _).drew)
theorem BRow.byteAt {w : World} {S : Nat → Prop} {B g cap : Nat} {l : List UInt8} {n : Nat} (hb : BRow w B (.slice (some ⟨g, 0, none⟩) n cap) l) (hn : n = l.length) (hS : S g) : ByteAt w S (.slice (some ⟨g, 0, none⟩) n cap) l := by
 obtain ⟨q, hq⟩ := BRow.obj hb
 subst hn
 exact ⟨⟨g, 0, none⟩, q, cap, rfl, (BRow.bytesAt hb).1, hS, hq⟩
theorem Reg.Ok.write {R : Reg} (h : R.Ok) {i : Nat} {l : List UInt8} (hi : i < R.seen.length) (hl : l.length = 64) : (R.write i l).Ok := by
 refine ⟨by simp [Reg.write, h.pos], by simp [Reg.write, h.le], by simp [Reg.write, h.sure], fun x hx => ?_, h.l2, fun p hp => ?_, fun x hx => ?_⟩
 · rcases List.mem_or_eq_of_mem_set hx with hx | rfl
   · exact h.l1 x hx
   · exact hl
 · simp only [Reg.write, List.mem_append, List.mem_singleton] at hp
   simp only [Reg.write, List.length_set]
   rcases hp with hp | rfl
   · exact h.l3 p hp
   · exact ⟨hl, hi⟩
 · simp only [Reg.write, List.mem_append, List.mem_singleton] at hx
   rcases hx with hx | rfl
   · exact h.l4 x hx
   · left; simp [hl]
theorem Dv.write_off {D : Dv} {k i : Nat} {l : List UInt8} (h : D.left = 0) : D.write k i l = D := by unfold Dv.write; rw [if_pos h]
theorem Dv.write_on {D : Dv} {k i : Nat} {l : List UInt8} {R : Reg} (h : D.left ≠ 0) (hR : D.regs[k]? = some R) : D.write k i l = ⟨D.regs.set k (R.write i l), if 0 < D.left then D.left - 1 else D.left⟩ := by unfold Dv.write; rw [if_neg h, hR]
theorem Write_at {w : World} {Sd : Nat → Prop} {d : Nat} {D : Dv} {c : Nat} (h : DevAt w Sd d D c) (hc : c < 900000) {reg n : Nat} (hL : ∃ R, D.regs[reg]? = some R ∧ R.seen.length = n) (i : Nat) (hi : i < n) {ad : Addr} {cap : Nat} {l : List UInt8} (hl : l.length = 64) (hb : BAt w ad l) :
 Calls Tryz.prog 122 #[.pointer (some ⟨d, 0, none⟩), .int .i64 reg, .int .i64 i, .slice (some ad) 64 cap] w fun e w' => e = .returned (.bool true) ∧ Keeps Sd w w' ∧ DevAt w' (grownS Sd w w') d (D.write reg i l) (c + 1) := by
 have h0 := h
 obtain ⟨hok, hlt, S, rl, rcap, rs, hD, hSd⟩ := h
 obtain ⟨R, hR, rfl⟩ := hL
 have hk := (List.getElem?_eq_some_iff.1 hR).1
 obtain ⟨r, hr⟩ : ∃ r, rs[reg]? = some r := ⟨_, List.getElem?_eq_getElem (by rw [hD.ln]; exact hk)⟩
 have hRm : R ∈ D.regs := List.mem_of_getElem? hR
 have hRok := hok.regs R hRm
 have Hof := Lib.hid (of_in hD hr hR hRok i hi)
 have c0 := cell_obj hD.od 1
 have f0 := free_obj hD.od 1
 by_cases hz : D.left = 0
 · rw [Dv.write_off hz]
   have c01 : w.cell? ⟨d, 1, none⟩ = some (.int .i64 0) := by rw [c0]; simp [hz]
   have HL := Lib.hid h0
   clear hD hok hlt hSd h0 hR hr hRm hRok hb hz c0
   go_enter Tryz.func122, Tryz.ntmps122
   go_wp2_with (go_at_call 163; refine Hof.out.mono ?_; rintro e w1 ⟨rfl, rfl⟩)
   go_ret
   exact ⟨rfl, HL.out.stay (Below.refl _ _) (Nat.le_succ _)⟩
 · rw [Dv.write_on hz hR]
   have z0 : (D.left == 0) = false := by simpa using hz
   obtain ⟨dl, hdl⟩ : ∃ dl, dl = D.left := ⟨_, rfl⟩
   obtain ⟨dn, hdn⟩ : ∃ dn, dn = if 0 < D.left then D.left - 1 else D.left := ⟨_, rfl⟩
   obtain ⟨w1, hw1⟩ : ∃ w1, w1 = if 0 < D.left then w.setCell ⟨d, 1, none⟩ (.int .i64 (D.left - 1)) else w := ⟨_, rfl⟩
   have hleft := hok.left
   have hD1 : DevV w1 S d rl rcap rs ⟨D.regs, dn⟩ := by
    rw [hw1, hdn]
    by_cases hp : 0 < D.left
    · rw [if_pos hp, if_pos hp]; exact hD.setLeft _
    · rw [if_neg hp, if_neg hp]; exact hD
   have hK1 : Keeps (fun q => q = d) w w1 := by
    rw [hw1]
    by_cases hp : 0 < D.left
    · rw [if_pos hp]; exact Keeps.setCell _ _ _ rfl
    · rw [if_neg hp]; exact Keeps.refl _ _
   have hs1 : w1.heap.size = w.heap.size := by
    rw [hw1]
    by_cases hp : 0 < D.left
    · rw [if_pos hp]; exact size_setCell _ _ _
    · rw [if_neg hp]
   obtain ⟨q, hq⟩ := hb.obj
   have hb1 : BAt w1 ad l := hb.keepsNe hK1 (fun e => ne_of_obj hq hD.od (by decide) e)
   have hok1 : Dv.Ok ⟨D.regs, dn⟩ c := ⟨hok.pos, hok.le, hok.regs, hok.later, hok.trace, by rw [hdn]; dsimp only; constructor <;> split <;> omega⟩
   obtain ⟨vs, vu, vl, vt, hV⟩ := hD1.reg reg r R hr hR
   obtain ⟨gs, cs, rfl⟩ := hV.seen.form hRok.pos
   have c2 := cell_obj hV.obj 0
   rw [← hdn]
   rw [← hdl] at z0 c0 hw1 hleft
   have hgt : 0 < dl ∨ dl < 0 := by rcases Int.lt_trichotomy dl 0 with h | h | h; exact .inr h; exact absurd (hdl.symm.trans h) hz; exact .inl h
   have Hcl := Lib.hid (Clone_len ad l 64 cap w1.drew hl.symm (show BytesAt w1.drew (some ad) l from hb1.bytes) (by decide) (by decide))
   have HV := Lib.hid hV
   have HD := Lib.hid (And.intro hD1 (And.intro hR (And.intro hr (And.intro hK1 (And.intro hs1 (And.intro hSd hlt))))))
   have HL := Lib.hid (And.intro hok1 (And.intro hRok (And.intro (hok.later R hRm) (And.intro (hok.trace R hRm) (And.intro hl (And.intro hb1 (hSd 0 d hD.s0)))))))
   have Hw1 := Lib.hid (And.intro hw1 hgt)
   have i1 : (i : Int) < (R.seen.length : Int) := by omega
   clear hD hok hlt hSd h0 hR hr hRm hRok hb hz hV hD1 hK1 hs1 hok1 hb1 hw1 hdl hdn hq hl
   go_enter Tryz.func122, Tryz.ntmps122
   go_upto_if 30 with (go_at_call 163; refine Hof.out.mono ?_; rintro e w2 ⟨rfl, hw2⟩; obtain rfl := hw2.symm)
   go_cut [] (fun wx => wx = w1)
   case first =>
    rcases Hw1.out.2 with hp | hp
    · have hn : ¬ (dl ≤ 0) := by omega
      go_wp2_with fail
      go_meet
      rw [Hw1.out.1, if_pos hp]
    · have hn : ¬ (0 < dl) := by omega
      go_wp2_with fail
      go_meet
      rw [Hw1.out.1, if_neg (by omega)]
   case rest =>
    obtain rfl := hcut
    clear c0 f0 z0 hleft hgt
    go_upto_region 8 with fail
    refine wp_region_F [8] (S := fun w' => w'.cell? ⟨r, 0, none⟩ = some (.slice (some ⟨gs, 0, none⟩) R.seen.length cs) ∧ True) (by kernel_rfl) (And.intro c2 trivial) (fun hHeld => ?_)
    show wpAnyF _ _ _ _ _ _ 9 #[false, false, false, false, false, false, false, false, false] _ _
    refine gF 0 [0, 1, 2, 3, 7, 8] ?_; try simp only [Act.put, qs]
    refine gF 1 [1, 2, 3, 7, 8] ?_; try simp only [Act.put, qs]
    refine gF 2 [2, 3, 7, 8] ?_; try simp only [Act.put, qs]
    refine gF 3 [3, 7, 8] ?_; try simp only [Act.put, qs]
    refine gF 4 [4, 7, 8] ?_; try simp only [Act.put, qs]
    refine gF 5 [5, 6, 7, 8] ?_; try simp only [Act.put, qs]
    refine gW 6 fun K hK => ?_
    try simp only [qs]
    go_simp
    go_at_call 164; refine Hcl.out.mono ?_; rintro e x1 ⟨g1, cap1, rfl, hB1, b0⟩; have b1 : Below wc.heap.size wc x1 := (Below.refl _ wc).drew.trans b0; have HV1 := Lib.hid ((HV.out.below b1).foot (S2 := fun q => S (reg + 1) q ∨ wc.heap.size ≤ q) (fun q hq _ => .inl hq)); have c2b := cell_obj HV1.out.obj 0; obtain ⟨cc, hcc1, ⟨xx, rfl, _⟩, hcc3⟩ := HV1.out.seen.cells (List.getElem?_eq_getElem hi); have ks := hcc3 0 _ rfl; rw [Nat.mul_one, Nat.add_zero] at ks; have fs := HV1.out.seen.free i; clear hcc3 hcc1
    refine hK.out _ _ (by exact ⟨c2b, trivial⟩) (fun hN => ?_); replace hHeld := hN; clear hK K hN
    try simp only [qs]
    refine gF 7 [7, 8] ?_; try simp only [Act.put, qs]
    refine gV 8 fun K hK => ?_
    try simp only [qs]
    go_simp
    refine hK.out _ _ (trivial) (fun hN => ?_); replace hHeld := hN; clear hK K hN
    try simp only [qs]
    refine wpAnyF_done (by kernel_rfl) ?_ _
    have hby1 := BRow.byteAt (S := fun q => S (reg + 1) q ∨ wc.heap.size ≤ q) hB1 HL.out.2.2.2.2.1.symm (.inr (BRow.ge hB1))
    have hV2 := HV1.out.turnSeen hi hby1
    obtain ⟨w2, hw2⟩ : ∃ w2, w2 = x1.setCell ⟨gs, i, none⟩ (.slice (some ⟨g1, 0, none⟩) 64 cap1) := ⟨_, rfl⟩
    obtain ⟨cg, hcg⟩ := HV1.out.seen.obj (g := gs) rfl
    have hkg : Keeps (· = gs) x1 w2 := by rw [hw2]; exact Keeps.setCell _ _ _ rfl
    obtain ⟨q1, hq1⟩ := BRow.obj hB1
    have hcs : w2.cell? ⟨gs, i, none⟩ = some (.slice (some ⟨g1, 0, none⟩) 64 cap1) := by
     rw [hw2, cell_obj (objAt_setCell hcg i _)]
     have hks := ks
     rw [cell_obj hcg] at hks
     rw [Array.getElem?_setIfInBounds_self_of_lt (Array.getElem?_eq_some_iff.1 hks).1]
    have hby2 := hby1.keeps (S' := fun q => S (reg + 1) q ∨ wc.heap.size ≤ q) hkg (fun q c _ hq e => ne_of_obj hq hcg (by decide) e) (fun _ h _ => h)
    obtain ⟨q0, hq0⟩ := (HL.out.2.2.2.2.2.1.below b1).obj
    have hbr2 : BAt w2 ad l := (HL.out.2.2.2.2.2.1.below b1).keepsNe hkg (fun e => ne_of_obj hq0 hcg (by decide) e)
    have hK2 : Keeps (fun q => S (reg + 1) q ∨ wc.heap.size ≤ q) wc w2 := ((Keeps.of_below_size b1).mono (fun _ _ h => .inr h)).trans (hkg.mono (fun q _ e => by subst e; exact HV1.out.seen.own _ rfl))
    rw [← hw2] at hV2 ⊢
    clear hw2 hHeld c2 c2b ks fs hB1 b0 b1 hcg hkg hq1 hq0 hby1
    have k0 := cell_obj hV2.obj 0
    have k2 := cell_obj hV2.obj 2
    have hB3 : Below w2.heap.size w2 (World.drew (w2.alloc (.cells #[.int .i64 i, .slice (some ⟨g1, 0, none⟩) 64 cap1] 269))) := (grow_alloc (Below.refl _ _) _).drew
    have hV3 := hV2.below hB3
    have ho3 : objAt (World.drew (w2.alloc (.cells #[.int .i64 i, .slice (some ⟨g1, 0, none⟩) 64 cap1] 269))) w2.heap.size = some (.cells #[.int .i64 i, .slice (some ⟨g1, 0, none⟩) 64 cap1] 269 (0, 0)) := by rw [objAt_drew, objAt_alloc, if_pos rfl]
    have hby3 := hby2.keeps (S' := fun q => S (reg + 1) q ∨ wc.heap.size ≤ q) (Keeps.of_below_size hB3) (fun q c _ hq e => by have := block_lt hq; omega) (fun _ h _ => h)
    have HV3 := Lib.hid (And.intro hV3 (And.intro ho3 (And.intro hby3 (And.intro hK2 (And.intro (hbr2.below hB3) hB3)))))
    clear hV2 hV3 ho3 hby3 hby2 hK2 hbr2
    go_upto_region 9 with fail
    refine wp_region_F [18] (S := fun w' => w'.cell? ⟨r, 0, none⟩ = some (.slice (some ⟨gs, 0, none⟩) R.seen.length cs) ∧ w'.cell? ⟨r, 2, none⟩ = some vl ∧ w'.cell? ⟨gs, i, none⟩ = some (.slice (some ⟨g1, 0, none⟩) 64 cap1) ∧ True) (by kernel_rfl) (And.intro k0 (And.intro k2 (And.intro hcs trivial))) (fun hHeld => ?_)
    show wpAnyF _ _ _ _ _ _ 19 #[false, false, false, false, false, false, false, false, false, false, false, false, false, false, false, false, false, false, false] _ _
    refine gF 0 [0, 16, 17, 18] ?_; try simp only [Act.put, qs]
    refine gF 1 [1, 2, 3, 4, 15, 16, 17, 18] ?_; try simp only [Act.put, qs]
    refine gF 2 [2, 3, 4, 15, 16, 17, 18] ?_; try simp only [Act.put, qs]
    refine gF 3 [3, 4, 15, 16, 17, 18] ?_; try simp only [Act.put, qs]
    refine gF 4 [4, 15, 16, 17, 18] ?_; try simp only [Act.put, qs]
    refine gF 5 [5, 13, 14, 15, 16, 17, 18] ?_; try simp only [Act.put, qs]
    refine gF 6 [6, 7, 8, 9, 11, 12, 13, 14, 15, 16, 17, 18] ?_; try simp only [Act.put, qs]
    refine gF 7 [7, 8, 9, 11, 12, 13, 14, 15, 16, 17, 18] ?_; try simp only [Act.put, qs]
    refine gF 8 [8, 9, 11, 12, 13, 14, 15, 16, 17, 18] ?_; try simp only [Act.put, qs]
    refine gF 9 [9, 11, 12, 13, 14, 15, 16, 17, 18] ?_; try simp only [Act.put, qs]
    refine gF 10 [10, 11, 12, 13, 14, 15, 16, 17, 18] ?_; try simp only [Act.put, qs]
    refine gF 11 [11, 12, 13, 14, 15, 16, 17, 18] ?_; try simp only [Act.put, qs]
    refine gF 12 [12, 13, 14, 15, 16, 17, 18] ?_; try simp only [Act.put, qs]
    refine gF 13 [13, 14, 15, 16, 17, 18] ?_; try simp only [Act.put, qs]
    refine gW 14 fun K hK => ?_
    try simp only [qs]
    go_simp
    refine hK.out _ _ (by exact ⟨grow_cell (grow_alloc (Below.refl _ _) _) hHeld.1, grow_cell (grow_alloc (Below.refl _ _) _) hHeld.2.1, grow_cell (grow_alloc (Below.refl _ _) _) hHeld.2.2.1, trivial⟩) (fun hN => ?_); replace hHeld := hN; clear hK K hN
    try simp only [qs]
    refine gW 15 fun K hK => ?_
    refine step_appG elemWriteK (v := vl) rfl _ _ rfl rfl HV3.out.1.later rfl HV3.out.2.1 rfl (by simp [Value.oneCell']) (by have := HL.out.2.2.1; show R.later.length < _; omega) (WEl (fun q => S (reg + 1) q ∨ wc.heap.size ≤ q)) (i, l) (fun w5 hk5 => ⟨fun a c h => WEl.own HV3.out.1.later (by decide) hk5 a c h, WEl.own HV3.out.1.later (by decide) hk5 _ _ ⟨_, rfl, HV3.out.2.2.1⟩⟩) ?_; intro g5 cap5 w5 hv5 hk5 ho5 hl5; obtain ⟨hr5, hs5, hV6⟩ := HV3.out.1.pushLater hv5 (fun q hq => hq.elim id (fun h => .inr (Nat.le_trans HV3.out.2.2.2.1.size (Nat.le_trans HV3.out.2.2.2.2.2.size h)))) hk5; have k5 := cell_obj hr5 2; have f5 := free_obj hr5 2; have k5a := cell_obj hr5 0; have HV6 := Lib.hid (And.intro hV6 (And.intro hk5 hr5)); clear hV6
    refine hK.out _ _ (by exact ⟨k5a, k5, (by obtain ⟨q, hq⟩ := HV3.out.1.seen.obj (g := gs) rfl; have h1 := hk5.obj hq (fun e => HV3.out.1.seen.ne HV3.out.1.later (by decide) gs rfl e); have h2 := grow_cell HV3.out.2.2.2.2.2 hcs; rw [cell_obj hq] at h2; rw [cell_obj h1]; exact h2), trivial⟩) (fun hN => ?_); replace hHeld := hN; clear hK K hN
    try simp only [Act.put, qs]
    refine gF 16 [16, 17, 18] ?_; try simp only [Act.put, qs]
    refine gF 17 [17, 18] ?_; try simp only [Act.put, qs]
    refine gV 18 fun K hK => ?_
    try simp only [qs]
    go_simp
    refine hK.out _ _ (trivial) (fun hN => ?_); replace hHeld := hN; clear hK K hN
    try simp only [qs]
    refine wpAnyF_done (by kernel_rfl) ?_ _
    obtain ⟨w6, hw6⟩ : ∃ w6, w6 = w5.setCell ⟨r, 2, none⟩ (.slice (some ⟨g5, 0, none⟩) (R.later.length + 1) cap5) := ⟨_, rfl⟩
    have hkr : Keeps (· = r) w5 w6 := by rw [hw6]; exact Keeps.setCell _ _ _ rfl
    obtain ⟨q0, hq0⟩ := HV3.out.2.2.2.2.1.obj
    have hbr5 : BAt w5 ad l := HV3.out.2.2.2.2.1.keepsNe HV6.out.2.1 (fun e => by obtain ⟨c, hc⟩ := HV3.out.1.later.obj e; exact ne_of_obj hc hq0 (by decide) rfl)
    obtain ⟨q5, hq5⟩ := hbr5.obj
    have hbr6 : BAt w6 ad l := hbr5.keepsNe hkr (fun e => ne_of_obj hq5 HV6.out.2.2 (by decide) e)
    have hK6 : Keeps (fun q => S (reg + 1) q ∨ wc.heap.size ≤ q) wc w6 := ((HV3.out.2.2.2.1.trans ((Keeps.of_below_size HV3.out.2.2.2.2.2).mono (fun q _ h => .inr (Nat.le_trans HV3.out.2.2.2.1.size h)))).trans (HV6.out.2.1.mono (fun q _ h => HV3.out.1.later.own q h))).trans (hkr.mono (fun q _ e => by subst e; exact HV3.out.1.sr))
    rw [← hw6] at HV6 ⊢
    have H6 := Lib.hid (And.intro HV6.out.1 (And.intro hbr6 hK6))
    clear hw6 k5 f5 k5a hr5 hs5 hv5 hk5 ho5 hl5 hcs k0 k2 hHeld HV3 HV6 hkr hq0 hbr5 hq5 hbr6 hK6 HV1 hB3
    have k3 := cell_obj H6.out.1.obj 3
    have HLs := Lib.hid (trace_lists w6 ad cap l HL.out.2.2.2.2.1 H6.out.2.1 (IntKind.u8.wrap ((i : Int) / 256)) (IntKind.u8.wrap (i : Int)) _ _ (wrap_byte (i / 256)) (wrap_byte i))
    have hfl : ([[UInt8.ofNat (i / 256), UInt8.ofNat i], l] : List (List UInt8)).flatten.length = 66 := by simp [HL.out.2.2.2.2.1]
    have Hfl := Lib.hid hfl
    clear hfl
    go_upto_region 10 with fail
    refine wp_region_F [18] (S := fun w' => w'.cell? ⟨r, 3, none⟩ = some vt ∧ True) (by kernel_rfl) (And.intro k3 trivial) (fun hHeld => ?_)
    show wpAnyF _ _ _ _ _ _ 19 #[false, false, false, false, false, false, false, false, false, false, false, false, false, false, false, false, false, false, false] _ _
    refine gF 0 [0, 16, 17, 18] ?_; try simp only [Act.put, qs]
    refine gF 1 [1, 2, 3, 4, 15, 16, 17, 18] ?_; try simp only [Act.put, qs]
    refine gF 2 [2, 3, 4, 15, 16, 17, 18] ?_; try simp only [Act.put, qs]
    refine gF 3 [3, 4, 15, 16, 17, 18] ?_; try simp only [Act.put, qs]
    refine gF 4 [4, 15, 16, 17, 18] ?_; try simp only [Act.put, qs]
    refine gF 5 [5, 6, 7, 10, 12, 13, 14, 15, 16, 17, 18] ?_; try simp only [Act.put, qs]
    refine gF 6 [6, 7, 10, 12, 13, 14, 15, 16, 17, 18] ?_; try simp only [Act.put, qs]
    refine gF 7 [7, 10, 12, 13, 14, 15, 16, 17, 18] ?_; try simp only [Act.put, qs]
    refine gF 8 [8, 9, 10, 12, 13, 14, 15, 16, 17, 18] ?_; try simp only [Act.put, qs]
    refine gF 9 [9, 10, 12, 13, 14, 15, 16, 17, 18] ?_; try simp only [Act.put, qs]
    refine gF 11 [11, 12, 13, 14, 15, 16, 17, 18] ?_; try simp only [Act.put, qs]
    refine gW 10 fun K hK => ?_
    try simp only [qs]
    go_simp
    refine hK.out _ _ (by exact ⟨grow_cell (grow_alloc (Below.refl _ _) _) hHeld.1, trivial⟩) (fun hN => ?_); replace hHeld := hN; clear hK K hN
    try simp only [qs]
    refine gW 12 fun K hK => ?_
    try simp only [qs]
    go_simp
    refine hK.out _ _ (by exact ⟨grow_cell (grow_alloc (Below.refl _ _) _) hHeld.1, trivial⟩) (fun hN => ?_); replace hHeld := hN; clear hK K hN
    try simp only [qs]
    refine gW 13 fun K hK => ?_
    try simp only [qs]
    go_simp
    go_at_call 154; refine (Concat_any _ _ _ _ HLs.out (by simp) (by rw [Hfl.out]; decide) (by rw [Hfl.out]; decide)).mono ?_; rintro e x7 ⟨v7, rfl, hv7, b7⟩; have hx7 := grow_trans (grow_alloc (grow_alloc (Below.refl w6.heap.size w6) _) _).drew b7; obtain ⟨g7, cap7, rfl, hg7, _⟩ := hv7.form (by rw [Hfl.out]; decide); rw [Hfl.out] at hv7 ⊢; have HV7 := Lib.hid (And.intro (H6.out.1.below hx7) (And.intro hv7 (And.intro hx7 (show w6.heap.size ≤ g7 from Nat.le_trans (grow_alloc (grow_alloc (Below.refl w6.heap.size w6) _) _).drew.size hg7)))); clear hv7 b7
    refine hK.out _ _ (by exact ⟨cell_obj HV7.out.1.obj 3, trivial⟩) (fun hN => ?_); replace hHeld := hN; clear hK K hN
    try simp only [qs]
    refine gW 14 fun K hK => ?_
    try simp only [qs]
    go_simp
    refine hK.out _ _ (by exact ⟨grow_cell (grow_alloc (Below.refl _ _) _) hHeld.1, trivial⟩) (fun hN => ?_); replace hHeld := hN; clear hK K hN
    try simp only [qs]
    refine gW 15 fun K hK => ?_
    have hB8 := grow_alloc (Below.refl x7.heap.size x7) (.cells #[.slice (some ⟨g7, 0, none⟩) 66 cap7] 22); have HV8 := Lib.hid (HV7.out.1.below hB8); have hby8 := BRow.byteAt (S := fun q => S (reg + 1) q ∨ wc.heap.size ≤ q) (HV7.out.2.1.below hB8) Hfl.out.symm (.inr (Nat.le_trans H6.out.2.2.size HV7.out.2.2.2)); refine step_appG elemBytesK (v := vt) rfl _ _ rfl rfl HV8.out.trace rfl (by rw [objAt_alloc, if_pos rfl]) rfl (by simp [Value.oneCell']) (by have := HL.out.2.2.2.1; show R.trace.length < _; omega) (BEl (fun q => S (reg + 1) q ∨ wc.heap.size ≤ q)) ([UInt8.ofNat (i / 256), UInt8.ofNat i] ++ l) (fun w5 hk5 => ⟨fun a c h => BEl.own HV8.out.trace (by decide) hk5 a c h, BEl.own HV8.out.trace (by decide) hk5 _ _ ⟨_, rfl, by simpa using hby8⟩⟩) ?_; intro g9 cap9 w9 hv9 hk9 ho9 hl9; obtain ⟨hr9, hV9⟩ := HV8.out.pushTrace hv9 (fun q hq => hq.elim id (fun h => .inr (Nat.le_trans H6.out.2.2.size (Nat.le_trans HV7.out.2.2.1.size (Nat.le_trans hB8.size h))))) hk9 ho9; have k9 := cell_obj hr9 3; have f9 := free_obj hr9 3; have HV9 := Lib.hid (And.intro hV9 (And.intro hk9 hB8)); clear hV9
    refine hK.out _ _ (by exact ⟨k9, trivial⟩) (fun hN => ?_); replace hHeld := hN; clear hK K hN
    try simp only [Act.put, qs]
    refine gF 16 [16, 17, 18] ?_; try simp only [Act.put, qs]
    refine gF 17 [17, 18] ?_; try simp only [Act.put, qs]
    refine gV 18 fun K hK => ?_
    try simp only [qs]
    go_simp
    refine hK.out _ _ (trivial) (fun hN => ?_); replace hHeld := hN; clear hK K hN
    try simp only [qs]
    refine wpAnyF_done (by kernel_rfl) ?_ _
    go_wp2_with fail
    go_ret
    have hK9 := (((H6.out.2.2.trans ((Keeps.of_below_size HV7.out.2.2.1).mono (fun q _ h => .inr (Nat.le_trans H6.out.2.2.size h)))).trans ((Keeps.of_below_size HV9.out.2.2).mono (fun q _ h => .inr (Nat.le_trans H6.out.2.2.size (Nat.le_trans HV7.out.2.2.1.size h))))).trans (HV9.out.2.1.mono (fun q _ h => HV8.out.trace.own q h))).trans (Keeps.setCell w9 ⟨r, 3, none⟩ (.slice (some ⟨g9, 0, none⟩) (R.trace.length + 1) cap9) (.inl HV.out.sr))
    have hd := HD.out.1.done HL.out.1 (fun q hq => by rw [HD.out.2.2.2.2.1]; exact HD.out.2.2.2.2.2.2 q hq) HD.out.2.2.2.2.2.1 HD.out.2.2.1 hK9 HV9.out.1 (fun _ h => h) (HL.out.2.1.write hi HL.out.2.2.2.2.1) (by have := HL.out.2.2.1; show (R.later ++ [(i, l)]).length ≤ c + 1; simp; omega) (by have := HL.out.2.2.2.1; show (R.trace ++ [[UInt8.ofNat (i / 256), UInt8.ofNat i] ++ l]).length ≤ c + 1; simp; omega) (Nat.le_succ _)
    refine ⟨rfl, ?_, hd.2.mono (fun q hq => ⟨hq.1, by rw [← HD.out.2.2.2.2.1]; exact hq.2⟩) (fun q hq => hq.1) (Nat.le_refl _)⟩
    exact (HD.out.2.2.2.1.mono (fun q _ e => by subst e; exact HL.out.2.2.2.2.2.2)).trans hd.1
theorem Write_in {w : World} {Sd : Nat → Prop} {d : Nat} {D : Dv} {c : Nat} (h : DevAt w Sd d D c) (hc : c < 900000) {reg n : Nat} (hL : ∃ R, D.regs[reg]? = some R ∧ R.seen.length = n) (i : Nat) (hi : i < n) {B g cap : Nat} {l : List UInt8} (hl : l.length = 64) (hb : BRow w B (.slice (some ⟨g, 0, none⟩) 64 cap) l) :
 Calls Tryz.prog 122 #[.pointer (some ⟨d, 0, none⟩), .int .i64 reg, .int .i64 i, .slice (some ⟨g, 0, none⟩) 64 cap] w fun e w' => e = .returned (.bool true) ∧ Keeps Sd w w' ∧ DevAt w' (grownS Sd w w') d (D.write reg i l) (c + 1) :=
 Write_at h hc hL i hi hl (BAt.of hb)
end
end Go.Proofs.YtbbnejehglonjaaGreat
