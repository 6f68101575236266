/- DERIVED. Contracts and laws that the proofs of this seat share, part 35 of 36: ShR. -/
import Derived.Test.YtbbnejehglonjaaGreatMo00
import Derived.Test.YtbbnejehglonjaaGreatMo34
/- DERIVED. What ShardOnce's calls come to, by the state of its loop. -/
namespace Go.Proofs.YtbbnejehglonjaaGreat
open Go.RowKit
attribute [local irreducible] Calls
set_option maxRecDepth 100000

/-- What is made sure without an error. -/
def LOk (L : PL) : Prop := commitOk (shN 60) L = true ∧ ∀ k ∈ L.map (·.1), 0 ≤ k
theorem LOk.nil : LOk [] := ⟨rfl, fun k hk => by simp at hk⟩
theorem LOk.one {a : Nat} {b : Blk} (ha : a < 60) (hb : 0 ≤ b.kind ∧ b.kind ≤ 7) : LOk [((a : Int), b)] :=
 ⟨commitOk_one (by exact ha) (by decide) hb, fun k hk => by simp only [List.map_cons, List.map_nil, List.mem_singleton] at hk; omega⟩
section
variable {w wr : World} {Sd : Nat → Prop} {N v d gb cap mm TH DG : Nat} {st : VSt} {c : Nat} {L : PL} {T : ML} {th : Nat → Nat → Nat}
theorem nmO_cells (dd k g : Nat) : (nmO dd k g).cells = #[.int .i64 (dirD dd).label, .int .i64 (dirD dd).at_, .int .u32 (dirD dd).gen, .string (nameO k), .int .i64 7, .int .u32 (g : Int)] := rfl
theorem OT.addC1 (h : OT w wr Sd N v d gb cap mm TH DG st c [] [] th) (hB : OB w N v gb mm TH DG) {dd k i : Nat} (hd : dd < 3) (hk : k < 5) (hi : i < 40) (h0 : 0 < th dd k) (G : Int) (hG : G = (i : Int) + 1) :
 Calls Tryz.prog 44 #[.pointer (some ⟨N + 2, 0, none⟩), .agg #[.int .i64 (dirD dd).label, .int .i64 (dirD dd).at_, .int .u32 (dirD dd).gen, .string (nameO k), .int .i64 7, .int .u32 G]] wr fun e w' => e = .returned (.int .i64 4) ∧ OT w w' Sd N v d gb cap mm TH DG st c [] [] th := by
 obtain rfl : G = ((i + 1 : Nat) : Int) := by omega
 rw [← nmO_cells dd k (i + 1)]
 refine (shAdd_any h.tx (nmO dd k (i + 1)) (nmO_wf hd (by omega)) (nmO_fl _ _ _)).mono ?_
 rintro e w' ⟨r, L', T', rfl, har, ht, hkp⟩
 rcases h.so.add h.len hd hk (by omega) (by omega) har with ⟨_, rfl, rfl, rfl⟩ | ⟨h1, _⟩
 · exact ⟨rfl, h.turn hB ht hkp h.so (fun h => h)⟩
 · omega
theorem OT.addC2 (h : OT w wr Sd N v d gb cap mm TH DG st c [] [] th) (hB : OB w N v gb mm TH DG) {dd k i : Nat} (hd : dd < 3) (hk : k < 5) (hi : i < 40) (h0 : th dd k = 0) (G : Int) (hG : G = (i : Int) + 1) :
 Calls Tryz.prog 44 #[.pointer (some ⟨N + 2, 0, none⟩), .agg #[.int .i64 (dirD dd).label, .int .i64 (dirD dd).at_, .int .u32 (dirD dd).gen, .string (nameO k), .int .i64 7, .int .u32 G]] wr fun e w' => e = .returned (.int .i64 0) ∧ GridAt w' TH th ∧ ∃ L T, LOk L ∧ OT w (w'.setCell ⟨TH, dd * 5 + k, none⟩ (.int .i64 ((i : Int) + 1))) Sd N v d gb cap mm TH DG st c L T (setO th dd k (i + 1)) := by
 obtain rfl : G = ((i + 1 : Nat) : Int) := by omega
 rw [← nmO_cells dd k (i + 1)]
 refine (shAdd_any h.tx (nmO dd k (i + 1)) (nmO_wf hd (by omega)) (nmO_fl _ _ _)).mono ?_
 rintro e w' ⟨r, L', T', rfl, har, ht, hkp⟩
 rcases h.so.add h.len hd hk (by omega) (by omega) har with ⟨h1, _⟩ | ⟨_, rfl, hso, a, ha, hL⟩
 · omega
 · refine ⟨rfl, hkp.obj h.grid (fun e => by have := hB.th; omega), L', T', ?_, h.store hB ht hkp hso (fun hg => hg.set hk (i + 1))⟩
   rw [hL]
   have hp : (putEntry (nmO dd k (i + 1))).1.kind = 6 := by
    have : putEntry (nmO dd k (i + 1)) = (Blk.of 6 (entryBytes (nmO dd k (i + 1))), true) := by unfold putEntry; rw [if_pos (nmO_may hd hk (by omega))]
    rw [this]; exact Blk.of_kind _ _
   have hk2 : 0 ≤ (putEntry (nmO dd k (i + 1))).1.kind ∧ (putEntry (nmO dd k (i + 1))).1.kind ≤ 7 := by rw [hp]; decide
   obtain ⟨B, hBk⟩ : ∃ B, B = (putEntry (nmO dd k (i + 1))).1 := ⟨_, rfl⟩
   rw [← hBk] at hk2 ⊢
   exact LOk.one ha hk2
theorem OT.outC1 (h : OT w wr Sd N v d gb cap mm TH DG st c [] [] th) (hB : OB w N v gb mm TH DG) {dd k : Nat} (hd : dd < 3) (hk : k < 5) (h0 : th dd k = 0) :
 Calls Tryz.prog 46 #[.pointer (some ⟨N + 2, 0, none⟩), .agg #[.int .i64 (dirD dd).label, .int .i64 (dirD dd).at_, .int .u32 (dirD dd).gen], .string (nameO k)] wr fun e w' => e = .returned (.int .i64 2) ∧ GridAt w' TH th ∧ ∃ L T, LOk L ∧ OT w (w'.setCell ⟨TH, dd * 5 + k, none⟩ (.int .i64 0)) Sd N v d gb cap mm TH DG st c L T (setO th dd k 0) := by
 refine (shOut_any h.tx (dirD dd) (nameO k)).mono ?_
 have hset : setO th dd k 0 = th := by
  funext a b; unfold setO
  by_cases e : a = dd ∧ b = k
  · rw [if_pos e, e.1, e.2, h0]
  · rw [if_neg e]
 rintro e w' (⟨hf, rfl, ht, hkp⟩ | ⟨p, hp, _⟩)
 · exact ⟨rfl, hkp.obj h.grid (fun e => by have := hB.th; omega), [], [], LOk.nil, h.store hB ht hkp (by rw [hset]; exact h.so) (fun hg => hg.set hk 0)⟩
 · rcases h.so.find hd hk with ⟨_, h1⟩ | ⟨h1, _⟩
   · rw [hp] at h1; cases h1
   · omega
theorem OT.outC2 (h : OT w wr Sd N v d gb cap mm TH DG st c [] [] th) (hB : OB w N v gb mm TH DG) {dd k : Nat} (hd : dd < 3) (hk : k < 5) (h0 : 0 < th dd k) :
 Calls Tryz.prog 46 #[.pointer (some ⟨N + 2, 0, none⟩), .agg #[.int .i64 (dirD dd).label, .int .i64 (dirD dd).at_, .int .u32 (dirD dd).gen], .string (nameO k)] wr fun e w' => e = .returned (.int .i64 0) ∧ GridAt w' TH th ∧ ∃ L T, LOk L ∧ OT w (w'.setCell ⟨TH, dd * 5 + k, none⟩ (.int .i64 0)) Sd N v d gb cap mm TH DG st c L T (setO th dd k 0) := by
 refine (shOut_any h.tx (dirD dd) (nameO k)).mono ?_
 rintro e w' (⟨hf, _⟩ | ⟨p, hp, rfl, ht, hkp⟩)
 · rcases h.so.find hd hk with ⟨h1, _⟩ | ⟨_, i, h1, _⟩
   · omega
   · rw [hf] at h1; cases h1
 · rcases h.so.find hd hk with ⟨h1, _⟩ | ⟨_, i, h1, hi⟩
   · omega
   · rw [hp] at h1
     obtain rfl := Option.some.inj h1
     have z : Blk.zero.kind = 0 := by unfold Blk.zero; exact Blk.of_kind 0 []
     exact ⟨rfl, hkp.obj h.grid (fun e => by have := hB.th; omega), _, _, LOk.one (a := i) (b := Blk.zero) (by rw [h.len] at hi; exact hi) (by rw [z]; decide), h.store hB ht hkp (h.so.out hd hk hp) (fun hg => hg.set hk 0)⟩
theorem OT.commitC (h : OT w wr Sd N v d gb cap mm TH DG st c L T th) (hB : OB w N v gb mm TH DG) (hL : LOk L) (hc : c < 500000) :
 Calls Tryz.prog 22 #[.pointer (some ⟨N + 2, 0, none⟩)] wr fun e w' => e = .returned (.int .i64 0) ∧ ∃ Sd' st' c', c' ≤ c + 300 ∧ OT w w' Sd' N v d gb cap mm TH DG st' c' [] [] th := by
 refine (txCommit_any h.tx.tx h.tx.vol h.tx.ap (by decide) hc).mono ?_
 rintro e w' ⟨_, h2⟩
 obtain ⟨rfl, hk, ht, Sd', c', hc', hs, hv⟩ := h2 hL.1
 exact ⟨rfl, Sd', _, c', hc', h.commit hB hk ht hs hv hL.2⟩
theorem OT.findC (h : OT w wr Sd N v d gb cap mm TH DG st c [] [] th) {a b : Nat} (ha : a < 3) (hb : b < 5) :
 ∃ (X : Nm) (I : Nat), (0 < th a b → X.gen = (th a b : Int)) ∧ ∀ x, Below wr.heap.size wr x → Calls Tryz.prog 48 #[.pointer (some ⟨N + 2, 0, none⟩), .agg #[.int .i64 (dirD a).label, .int .i64 (dirD a).at_, .int .u32 (dirD a).gen], .string (nameO b)] x fun e w' => e = .returned (.tuple #[.agg #[.int .i64 X.dir.label, .int .i64 X.dir.at_, .int .u32 X.dir.gen, .string X.name, .int .i64 X.at_, .int .u32 X.gen], .int .i64 I, .bool (decide (0 < th a b))]) ∧ Below x.heap.size x w' := by
 rcases h.so.find ha hb with ⟨h0, hf⟩ | ⟨h0, i, hf, _⟩
 · refine ⟨Nm.zero, 0, fun e => by omega, fun x hx => ?_⟩
   have hT := h.tx.below hx
   refine (shFind_any hT.tx hT.vol (dirD a) (nameO b)).mono ?_
   rintro e w' ⟨rfl, hbw⟩
   rw [hf, decide_eq_false (by omega)]
   exact ⟨rfl, hbw⟩
 · refine ⟨nmO a b (th a b), i, fun _ => rfl, fun x hx => ?_⟩
   have hT := h.tx.below hx
   refine (shFind_any hT.tx hT.vol (dirD a) (nameO b)).mono ?_
   rintro e w' ⟨rfl, hbw⟩
   rw [hf, decide_eq_true h0]
   exact ⟨rfl, hbw⟩
theorem OT.listC (h : OT w wr Sd N v d gb cap mm TH DG st c [] [] th) {a : Nat} (ha : a < 3) :
 Calls Tryz.prog 47 #[.pointer (some ⟨N + 2, 0, none⟩), .agg #[.int .i64 (dirD a).label, .int .i64 (dirD a).at_, .int .u32 (dirD a).gen]] wr fun e w' => (∃ u cap, e = .returned (.slice u (cntO th a 5) cap)) ∧ Below wr.heap.size wr w' := by
 have hc := h.so.count ha
 have hle := cntO_le th a 5
 refine (shList_any h.tx.tx h.tx.vol (dirD a) (by rw [hc]; omega) (by have := h.so.few; omega)).mono ?_
 rintro e w' ⟨u, l', rfl, hp, _, hr, hb⟩
 obtain ⟨au, cu, rfl, _⟩ := hr.slice
 rw [hp.length_eq, hc]
 exact ⟨⟨au, cu, rfl⟩, hb⟩
end
end Go.Proofs.YtbbnejehglonjaaGreat
