/- DERIVED. Contracts and laws that the proofs of this seat share, part 29 of 36: FiJ FiK FiE. -/
import Derived.Test.YtbbnejehglonjaaGreatMf00
import Derived.Test.YtbbnejehglonjaaGreatMf27
import Derived.Test.YtbbnejehglonjaaGreatMf28
namespace Go.Proofs.YtbbnejehglonjaaGreat
set_option maxHeartbeats 8000000
set_option maxRecDepth 100000
set_option linter.unusedSimpArgs false
set_option linter.unusedVariables false
section
open Go.RowKit
attribute [local irreducible] Calls

section
variable {w w' : World} {Sd : Nat → Prop} {t v mp mt : Nat} {L : PL} {T : ML} {d reg : Nat} {s : Sh} {gb cap m : Nat} {st : VSt} {c : Nat}
variable {B F gi ci : Nat} {a : Int} {f : Fl}
theorem TxV.fl (H : TxV w Sd t v mp mt L T d reg s gb cap m st c) (hf : FlAt w B F t a f gi ci) (hS : ∀ q, Sd q → q < B) (hk : Keeps (fun q => q = F ∨ q = gi) w w') : TxV w' Sd t v mp mt L T d reg s gb cap m st c := by
 obtain ⟨cg, hg⟩ := hf.gi_obj
 obtain ⟨cs, hcs⟩ := VolP.neRow H.vol
 have hge := hf.gi_ge
 have hgF := hf.ge
 refine ⟨H.tx.keeps hk (fun e => ?_) (fun e => ?_) (fun e => ?_), VolP.keeps H.vol hk (fun q hq e => ?_) (fun e => ?_) (fun e => ?_) (fun e => ?_), H.ap⟩
 · rcases e with e | e
   · exact ne_of_obj H.tx.obj hf.obj (by decide) e
   · exact ne_of_obj H.tx.obj hg (by decide) e
 · rcases e with e | e
   · exact H.tx.put.neObj hf.obj e
   · exact H.tx.put.neObj hg e
 · rcases e with e | e
   · exact H.tx.tk.neObj hf.obj e
   · exact H.tx.tk.neObj hg e
 · have := hS q hq
   rcases e with e | e <;> omega
 · rcases e with e | e
   · exact ne_of_obj H.vol.o hf.obj (by decide) e
   · exact ne_of_obj H.vol.o hg (by decide) e
 · rcases e with e | e
   · exact H.vol.map.neObj hf.obj e
   · exact H.vol.map.neObj hg e
 · rcases e with e | e
   · exact ne_of_obj hcs hf.obj (by decide) e
   · exact ne_of_obj hcs hg (by decide) e
theorem FlAt.tx (hf : FlAt w B F t a f gi ci) (H : TxV w Sd t v mp mt L T d reg s gb cap m st c) (hk : Keeps (fun q => q = mp ∨ q = mt) w w') : FlAt w' B F t a f gi ci := by
 obtain ⟨cg, hg⟩ := hf.gi_obj
 refine hf.keeps hk (fun e => ?_) (fun e => ?_)
 · rcases e with e | e
   · exact H.tx.put.neObj hf.obj e.symm
   · exact H.tx.tk.neObj hf.obj e.symm
 · rcases e with e | e
   · exact H.tx.put.neObj hg e.symm
   · exact H.tx.tk.neObj hg e.symm
theorem TxV.putC (H : TxV w Sd t v mp mt L T d reg s gb cap m st c) (a : Int) (b : Blk) :
 Calls Tryz.prog 24 #[.pointer (some ⟨t, 0, none⟩), .int .i64 a, .agg b.cells] w fun e w' => e = .returned (.bool (inB st.bs a)) ∧ Keeps (fun q => q = mp ∨ q = mt) w w' ∧ TxV w' Sd t v mp mt (putL L st.bs a b) T d reg s gb cap m st c :=
 (txPut_any H.tx H.vol a b).mono fun _ _ ⟨h1, h2, h3⟩ => by
  have hk := h2.mono (S' := fun q => q = mp ∨ q = mt) fun _ _ e => .inl e
  exact ⟨h1, hk, H.turn h3 hk⟩
theorem load_ndAt {w : World} {g off : Nat} {cs : Array Value} {ty : TypeId} (h : objAt w g = some (.cells cs ty (0, 0))) (_ : off + 9 ≤ cs.size) {n : Nd} (he : cs.extract off (off + 9) = n.cells) : ndLoad (.pointer (some ⟨g, off, none⟩)) w = .ok (.agg n.cells) w := by
 obtain ⟨d, hd, hd2⟩ := aggNd.desc
 have hs : (sizeOf 165).run Tryz.prog w = .ok 9 w := by kernel_rfl
 have hag : (isAgg 165).run Tryz.prog w = .ok true w := by
  simp only [isAgg, Sem.run_bind, run_underlying hd, Result.andThen_ok]
  cases d <;> simp_all
 have hl := run_loadCells_list (P := Tryz.prog) w ⟨g, off, none⟩ n.cells.toList (fun j v hv => by
  have hadd : (⟨g, off, none⟩ : Addr).add j = ⟨g, off + j, none⟩ := by unfold Addr.add; split <;> simp_all
  rw [hadd, cell_obj h]
  rw [← he] at hv
  simp only [Array.toList_extract, List.extract_eq_take_drop, List.getElem?_take, List.getElem?_drop] at hv
  split at hv
  · simpa using hv
  · cases hv)
 rw [show n.cells.toList.length = 9 from rfl] at hl
 unfold ndLoad
 simp only [Instr.loadAt, Instr.sureAddr, Sem.run_bind, Sem.run_pure, Result.andThen_ok, loadVar, hag, if_true, hs, hl]
theorem FlAt.nd (hf : FlAt w B F t a f gi ci) : ndLoad (.pointer (some ⟨F, 2, none⟩)) w = .ok (.agg f.n.cells) w := load_ndAt hf.obj (by show 2 + 9 ≤ 12; decide) rfl
theorem keep_any (H : TxV w Sd t v mp mt L T d reg s gb cap m st c) (hf : FlAt w B F t a f gi ci) (hw : f.n.wf) :
 Calls Tryz.prog 87 #[.pointer (some ⟨F, 0, none⟩)] w fun e w' => e = .returned (.tuple #[]) ∧ Keeps (fun q => q = mp ∨ q = mt) w w' ∧ TxV w' Sd t v mp mt (keepF st.bs a ⟨L, T, f⟩) T d reg s gb cap m st c := by
 have HN := Lib.hid (fun w => nPut_any 1 f.n w hw)
 have HI := Lib.hid (fun (w' : World) (hr : IntsAt w' (some ⟨gi, 0, none⟩) f.li) => xPut_any (some ⟨gi, 0, none⟩) f.li ci w' hr (by rw [hf.l16]; decide))
 rw [hf.l16] at HI
 have c0 : w.cell? ⟨F, 0, none⟩ = some (.pointer (some ⟨t, 0, none⟩)) := hf.c 0
 have c9 : w.cell? ⟨F, 9, none⟩ = some (.int .i64 f.n.index) := hf.c 9
 have c11 : w.cell? ⟨F, 11, none⟩ = some (.slice (some ⟨gi, 0, none⟩) 16 ci) := hf.c 11
 have H0 := Lib.hid (And.intro H hf)
 unfold keepF
 obtain ⟨NB, hNB⟩ : ∃ NB, NB = (putNode 1 f.n).1 := ⟨_, rfl⟩
 obtain ⟨IB, hIB⟩ : ∃ IB, IB = (putIndex f.li).1 := ⟨_, rfl⟩
 dsimp only
 rw [← hNB, ← hIB]
 rw [← hNB] at HN
 rw [← hIB] at HI
 clear H hf hw hNB hIB
 by_cases hx : f.n.index = -1
 · rw [if_pos hx]
   have hx' : (f.n.index != -1) = false := by simpa using hx
   clear hx
   have hl := H0.out.2.nd
   go_enter Tryz.func87, Tryz.ntmps87
   go_upto_region 4 with (go_at_call 149; refine (HN.out _).mono ?_; rintro e w1 ⟨rfl, b1⟩)
   obtain ⟨K, hK⟩ : ∃ K, K = w1.heap.size := ⟨_, rfl⟩
   obtain ⟨w2, hw2⟩ : ∃ w2, w2 = w1.alloc (.cells NB.cells 37) := ⟨_, rfl⟩
   have hb2 : Below w.heap.size w w2 := grow_trans b1 (below_alloc hw2)
   have hX2 : BlkAt w2 K NB := by rw [hK]; exact obj_alloc hw2
   rw [← hw2, ← hK]
   have k1 := hX2.has
   have k2 := hX2.row
   have d0 : w2.cell? ⟨F, 0, none⟩ = some (.pointer (some ⟨t, 0, none⟩)) := grow_cell hb2 c0
   have d1 : w2.cell? ⟨F, 1, none⟩ = some (.int .i64 a) := grow_cell hb2 (H0.out.2.c 1)
   have H2 := Lib.hid hb2
   clear hw2 hK hb2 hX2 b1 hl c0 c9 c11
   refine wp_region_F [9] (S := fun w' => w'.cell? ⟨F, 0, none⟩ = some (.pointer (some ⟨t, 0, none⟩)) ∧ w'.cell? ⟨F, 1, none⟩ = some (.int .i64 a) ∧ hasBlk w' K = true ∧ rowAt w' K = some NB.cells ∧ True) (by kernel_rfl) (⟨d0, d1, k1, k2, trivial⟩) (fun hHeld => ?_)
   show wpAnyF _ _ _ _ _ _ 10 #[false, false, false, false, false, false, false, false, false, false] _ _
   refine gF 0 [0, 1, 2, 3, 9] ?_; try simp only [Act.put, qs]
   refine gF 1 [1, 2, 3, 9] ?_; try simp only [Act.put, qs]
   refine gF 2 [2, 3, 9] ?_; try simp only [Act.put, qs]
   refine gF 3 [3, 9] ?_; try simp only [Act.put, qs]
   refine gF 4 [4, 5, 6, 7, 9] ?_; try simp only [Act.put, qs]
   refine gF 5 [5, 6, 7, 9] ?_; try simp only [Act.put, qs]
   refine gF 6 [6, 7, 9] ?_; try simp only [Act.put, qs]
   refine gF 7 [7, 9] ?_; try simp only [Act.put, qs]
   refine gF 8 [8, 9] ?_; try simp only [Act.put, qs]
   refine wpAnyF_ready (rs := [9]) (by kernel_rfl) (by simp) ?_
   refine (AllReadyF.last rfl (by kernel_rfl) (fun K hK => ?_) AllReadyF.nil)
   try simp only [qs]
   go_simp
   go_at_call 24; refine ((H0.out.1.below H2.out.drew).putC a NB).mono ?_; rintro e w3 ⟨rfl, hk3, hT3⟩
   refine hK.out _ _ (trivial) (fun hN => ?_); replace hHeld := hN; clear hK K hN
   try simp only [qs]
   refine wpAnyF_done (by kernel_rfl) ?_ _
   have H3 := Lib.hid (And.intro ((Keeps.of_below H2.out.drew).trans hk3) hT3)
   clear hk3 hT3
   go_wp2_with fail
   first | go_end0 | refine bodyPost_end (results_none rfl _ _ _) rfl ?_
   exact ⟨rfl, H3.out.1, H3.out.2⟩
 · rw [if_neg hx]
   have hx' : (f.n.index != -1) = true := by simpa using hx
   clear hx
   have hri := H0.out.2.row.intsAt
   go_enter Tryz.func87, Tryz.ntmps87
   go_upto_region 2 with (go_at_call 148; refine (HI.out _ hri).mono ?_; rintro e w1 ⟨rfl, b1⟩)
   obtain ⟨K, hK⟩ : ∃ K, K = w1.heap.size := ⟨_, rfl⟩
   obtain ⟨w2, hw2⟩ : ∃ w2, w2 = w1.alloc (.cells IB.cells 37) := ⟨_, rfl⟩
   have hb2 : Below w.heap.size w w2 := grow_trans b1 (below_alloc hw2)
   have hX2 : BlkAt w2 K IB := by rw [hK]; exact obj_alloc hw2
   rw [← hw2, ← hK]
   have k1 := hX2.has
   have k2 := hX2.row
   have d0 : w2.cell? ⟨F, 0, none⟩ = some (.pointer (some ⟨t, 0, none⟩)) := grow_cell hb2 c0
   have d1 : w2.cell? ⟨F, 9, none⟩ = some (.int .i64 f.n.index) := grow_cell hb2 c9
   have H2 := Lib.hid hb2
   clear hw2 hK hb2 hX2 b1 c0 c9 c11 hri
   refine wp_region_F [10] (S := fun w' => w'.cell? ⟨F, 0, none⟩ = some (.pointer (some ⟨t, 0, none⟩)) ∧ w'.cell? ⟨F, 9, none⟩ = some (.int .i64 f.n.index) ∧ hasBlk w' K = true ∧ rowAt w' K = some IB.cells ∧ True) (by kernel_rfl) (⟨d0, d1, k1, k2, trivial⟩) (fun hHeld => ?_)
   show wpAnyF _ _ _ _ _ _ 11 #[false, false, false, false, false, false, false, false, false, false, false] _ _
   refine gF 0 [0, 1, 2, 3, 10] ?_; try simp only [Act.put, qs]
   refine gF 1 [1, 2, 3, 10] ?_; try simp only [Act.put, qs]
   refine gF 2 [2, 3, 10] ?_; try simp only [Act.put, qs]
   refine gF 3 [3, 10] ?_; try simp only [Act.put, qs]
   refine gF 4 [4, 5, 6, 7, 8, 10] ?_; try simp only [Act.put, qs]
   refine gF 5 [5, 6, 7, 8, 10] ?_; try simp only [Act.put, qs]
   refine gF 6 [6, 7, 8, 10] ?_; try simp only [Act.put, qs]
   refine gF 7 [7, 8, 10] ?_; try simp only [Act.put, qs]
   refine gF 8 [8, 10] ?_; try simp only [Act.put, qs]
   refine gF 9 [9, 10] ?_; try simp only [Act.put, qs]
   refine wpAnyF_ready (rs := [10]) (by kernel_rfl) (by simp) ?_
   refine (AllReadyF.last rfl (by kernel_rfl) (fun K hK => ?_) AllReadyF.nil)
   try simp only [qs]
   go_simp
   go_at_call 24; refine ((H0.out.1.below H2.out.drew).putC f.n.index IB).mono ?_; rintro e w3 ⟨rfl, hk3, hT3⟩
   refine hK.out _ _ (trivial) (fun hN => ?_); replace hHeld := hN; clear hK K hN
   try simp only [qs]
   refine wpAnyF_done (by kernel_rfl) ?_ _
   have hF3 := (H0.out.2.below H2.out.drew).tx (H0.out.1.below H2.out.drew) hk3
   have H3 := Lib.hid (And.intro ((Keeps.of_below H2.out.drew).trans hk3) (And.intro hT3 hF3))
   have hl := hF3.nd
   clear hk3 hT3 hF3 d0 d1 k1 k2 hHeld
   go_upto_region 4 with (go_at_call 149; refine (HN.out _).mono ?_; rintro e w4 ⟨rfl, b4⟩)
   obtain ⟨J, hJ⟩ : ∃ J, J = w4.heap.size := ⟨_, rfl⟩
   obtain ⟨w5, hw5⟩ : ∃ w5, w5 = w4.alloc (.cells NB.cells 37) := ⟨_, rfl⟩
   have hb5 : Below w3.heap.size w3 w5 := grow_trans b4 (below_alloc hw5)
   have hX5 : BlkAt w5 J NB := by rw [hJ]; exact obj_alloc hw5
   rw [← hw5, ← hJ]
   have k1 := hX5.has
   have k2 := hX5.row
   have d0 : w5.cell? ⟨F, 0, none⟩ = some (.pointer (some ⟨t, 0, none⟩)) := grow_cell hb5 (H3.out.2.2.c 0)
   have d1 : w5.cell? ⟨F, 1, none⟩ = some (.int .i64 a) := grow_cell hb5 (H3.out.2.2.c 1)
   have H5 := Lib.hid hb5
   clear hw5 hJ hb5 hX5 b4 hl
   refine wp_region_F [9] (S := fun w' => w'.cell? ⟨F, 0, none⟩ = some (.pointer (some ⟨t, 0, none⟩)) ∧ w'.cell? ⟨F, 1, none⟩ = some (.int .i64 a) ∧ hasBlk w' J = true ∧ rowAt w' J = some NB.cells ∧ True) (by kernel_rfl) (⟨d0, d1, k1, k2, trivial⟩) (fun hHeld => ?_)
   show wpAnyF _ _ _ _ _ _ 10 #[false, false, false, false, false, false, false, false, false, false] _ _
   refine gF 0 [0, 1, 2, 3, 9] ?_; try simp only [Act.put, qs]
   refine gF 1 [1, 2, 3, 9] ?_; try simp only [Act.put, qs]
   refine gF 2 [2, 3, 9] ?_; try simp only [Act.put, qs]
   refine gF 3 [3, 9] ?_; try simp only [Act.put, qs]
   refine gF 4 [4, 5, 6, 7, 9] ?_; try simp only [Act.put, qs]
   refine gF 5 [5, 6, 7, 9] ?_; try simp only [Act.put, qs]
   refine gF 6 [6, 7, 9] ?_; try simp only [Act.put, qs]
   refine gF 7 [7, 9] ?_; try simp only [Act.put, qs]
   refine gF 8 [8, 9] ?_; try simp only [Act.put, qs]
   refine wpAnyF_ready (rs := [9]) (by kernel_rfl) (by simp) ?_
   refine (AllReadyF.last rfl (by kernel_rfl) (fun K hK => ?_) AllReadyF.nil)
   try simp only [qs]
   go_simp
   go_at_call 24; refine ((H3.out.2.1.below H5.out.drew).putC a NB).mono ?_; rintro e w6 ⟨rfl, hk6, hT6⟩
   refine hK.out _ _ (trivial) (fun hN => ?_); replace hHeld := hN; clear hK K hN
   try simp only [qs]
   refine wpAnyF_done (by kernel_rfl) ?_ _
   have H6 := Lib.hid (And.intro (H3.out.1.trans (((Keeps.of_below H5.out.drew).trans hk6))) hT6)
   clear hk6 hT6
   go_wp2_with fail
   first | go_end0 | refine bodyPost_end (results_none rfl _ _ _) rfl ?_
   exact ⟨rfl, H6.out.1, H6.out.2⟩
end
end
section
open Go.RowKit
attribute [local irreducible] Calls

section
variable {w w' : World} {Sd : Nat → Prop} {t v mp mt : Nat} {L : PL} {T : ML} {d reg : Nat} {s : Sh} {gb cap m : Nat} {st : VSt} {c : Nat}
variable {B F gi ci : Nat} {a : Int} {f : Fl}
theorem TxV.pos (H : TxV w Sd t v mp mt L T d reg s gb cap m st c) : ∀ k ∈ keysL T, 0 ≤ k := fun k hk => (H.tx.tk.range k hk).1
theorem TxV.takeC (H : TxV w Sd t v mp mt L T d reg s gb cap m st c) :
 Calls Tryz.prog 21 #[.pointer (some ⟨t, 0, none⟩)] w fun e w' => e = .returned (.tuple #[.int .i64 (((pickT (txV L st.bs) T).getD 0 : Nat) : Int), .bool (pickT (txV L st.bs) T).isSome]) ∧ Keeps (fun q => q = mp ∨ q = mt) w w' ∧ TxV w' Sd t v mp mt L (takeT T (pickT (txV L st.bs) T)) d reg s gb cap m st c :=
 (txTake_any H.tx H.vol).mono fun e w' ⟨U, hs, he, ht, hk⟩ => by
  have hl := txV_length L st.bs
  have hU : U = usedT (txV L st.bs) T := sets_taken (hl ▸ hs) H.pos
  have hk' := hk.mono (S' := fun q => q = mp ∨ q = mt) fun _ _ e => .inr e
  unfold pickT
  rw [← hU]
  exact ⟨by rw [he, firstVal_eq], hk', H.turn ht hk'⟩
theorem FlAt.slotL (hf : FlAt w B F t a f gi ci) {k : Nat} (hk : k < 20) : ∃ g o, slotA F gi k = ⟨g, o, none⟩ ∧ (g = F ∨ g = gi) ∧ w.cell? ⟨g, o, none⟩ = some (.int .i64 (f.slot k)) := by
 have h := hf.slotC hk
 have hb := slotA_block F gi k
 have e : slotA F gi k = ⟨(slotA F gi k).block, (slotA F gi k).off, none⟩ := by unfold slotA; split <;> rfl
 rw [e] at h
 exact ⟨_, _, e, hb, h⟩
def fS (F gi mp mt : Nat) (q : Nat) : Prop := q = F ∨ q = gi ∨ q = mp ∨ q = mt
theorem block_any (H : TxV w Sd t v mp mt L T d reg s gb cap m st c) (hf : FlAt w B F t a f gi ci) (hS : ∀ q, Sd q → q < B) {k : Nat} (hk : k < 20) :
 Calls Tryz.prog 86 #[.pointer (some ⟨F, 0, none⟩), .int .i64 (k : Int)] w fun e w' => e = .returned (.tuple #[.int .i64 ((blkF st.bs ⟨L, T, f⟩ k).1.getD 0), .bool (blkF st.bs ⟨L, T, f⟩ k).1.isSome]) ∧
  TxV w' Sd t v mp mt (blkF st.bs ⟨L, T, f⟩ k).2.L (blkF st.bs ⟨L, T, f⟩ k).2.T d reg s gb cap m st c ∧ FlAt w' B F t a (blkF st.bs ⟨L, T, f⟩ k).2.f gi ci ∧ Keeps (fS F gi mp mt) w w' := by
 have HSl := Lib.hid (slot_any hf hk)
 have HX := Lib.hid (fun w => xWhere_any (k : Int) w)
 obtain ⟨g, o, hA, hgF, hc⟩ := hf.slotL hk
 rw [hA] at HSl
 have c0 : w.cell? ⟨F, 0, none⟩ = some (.pointer (some ⟨t, 0, none⟩)) := hf.c 0
 have c9 : w.cell? ⟨F, 9, none⟩ = some (.int .i64 f.n.index) := hf.c 9
 have H0 := Lib.hid (And.intro H (And.intro hf (And.intro hS (And.intro hA hk))))
 clear H hf hS hA hgF
 unfold blkF
 by_cases h0 : f.slot k = -1
 · rw [if_neg (fun e => e h0)]
   have h0' : (f.slot k != -1) = false := by simpa using h0
   have H00 := Lib.hid h0
   clear h0
   by_cases h4 : 4 ≤ k ∧ f.n.index = -1
   · obtain ⟨hk4, hx⟩ := h4
     have htk : takeIx st.bs ⟨L, T, f⟩ k = (pickT (txV L st.bs) T).map fun (i : Nat) => (⟨L, up T (i : Int) (.bool true), ⟨{ f.n with index := (i : Int) }, f.li⟩⟩ : Ws) := by unfold takeIx; rw [if_pos ⟨hk4, hx⟩]
     rw [htk]
     have hw : whereT (k : Int) = (-1, (k : Int) - 4, true) := by
      unfold whereT
      rw [if_neg (by omega), if_neg (by omega)]
     have hcc : ((k : Int) - 4 != -1) = true := ne_bne (by omega)
     obtain ⟨ii, hii⟩ : ∃ ii, ii = (k : Int) - 4 := ⟨_, rfl⟩
     rw [← hii] at hw hcc
     rw [hw] at HX
     dsimp only at HX
     have hx' : (f.n.index == -1) = true := by simpa using hx
     have HTk := Lib.hid H0.out.1.takeC
     obtain ⟨p, hp⟩ : ∃ p, p = pickT (txV L st.bs) T := ⟨_, rfl⟩
     rw [← hp] at HTk ⊢
     have Hp := Lib.hid hp
     clear hw htk hk4 hx hp hk hii
     cases p with
     | none =>
       rw [Option.map_none]
       dsimp only
       go_enter Tryz.func86, Tryz.ntmps86
       go_wp2_with (first
        | (go_at_call 88; refine HSl.out.mono ?_; rintro e w1 ⟨rfl, hw1⟩; obtain rfl := hw1.symm)
        | (go_at_call 147; refine (HX.out _).mono ?_; rintro e w1 ⟨rfl, hw1⟩; obtain rfl := hw1.symm)
        | (go_at_call 21; refine HTk.out.mono ?_; rintro e w2 ⟨rfl, hk2, hT2⟩))
       refine bodyPost_ret (results_two rfl (resOne_tmp _ _ _) (resOne_tmp _ _ _)) rfl ?_
       exact ⟨rfl, hT2, H0.out.2.1.tx H0.out.1 hk2, hk2.mono fun _ _ e => .inr (.inr e)⟩
     | some i =>
       rw [Option.map_some]
       dsimp only
       obtain ⟨q, hq⟩ : ∃ q, q = pickT (txV L st.bs) (up T (i : Int) (.bool true)) := ⟨_, rfl⟩
       rw [← hq]
       have Hq := Lib.hid hq
       clear hq
       cases q with
       | none =>
         dsimp only
         go_enter Tryz.func86, Tryz.ntmps86
         go_upto_region 9 with (first
          | (go_at_call 88; refine HSl.out.mono ?_; rintro e w1 ⟨rfl, hw1⟩; obtain rfl := hw1.symm)
          | (go_at_call 147; refine (HX.out _).mono ?_; rintro e w1 ⟨rfl, hw1⟩; obtain rfl := hw1.symm)
          | (go_at_call 21; refine HTk.out.mono ?_; rintro e w2 ⟨rfl, hk2, hT2⟩))
         have hF2 := H0.out.2.1.tx H0.out.1 hk2
         have e1 : w2.cell? ⟨F, 9, none⟩ = some (.int .i64 f.n.index) := hF2.c 9
         have e2 : w2.frozen? ⟨F, 9, none⟩ = false := free_obj hF2.obj 9
         have hF3 := hF2.putIdx (i : Int)
         have hk3 : Keeps (fun q => q = F ∨ q = gi) w2 (w2.setCell ⟨F, 9, none⟩ (.int .i64 (i : Int))) := Keeps.setCell _ _ _ (.inl rfl)
         have hT3 := hT2.fl hF2 H0.out.2.2.1 hk3
         obtain ⟨w3, hw3⟩ : ∃ w3, w3 = w2.setCell ⟨F, 9, none⟩ (.int .i64 (i : Int)) := ⟨_, rfl⟩
         rw [← hw3] at hF3 hk3 hT3
         have HTk2 := Lib.hid hT3.takeC
         rw [show takeT T (some i) = up T (i : Int) (.bool true) from rfl, ← Hq.out] at HTk2
         have d0' : w3.cell? ⟨F, 0, none⟩ = some (.pointer (some ⟨t, 0, none⟩)) := hF3.c 0
         have H3 := Lib.hid (And.intro hF3 (And.intro hT3 ((hk2.mono (S' := fS F gi mp mt) fun _ _ e => .inr (.inr e)).trans (hk3.mono fun _ _ e => e.elim .inl fun e => .inr (.inl e)))))
         clear hF3 hk3 hT3 hF2 hk2 hT2
         go_upto_region 10 with fail
         rw [← hw3]
         clear hw3 e1 e2
         go_wp2_with (go_at_call 21; refine HTk2.out.mono ?_; rintro e w4 ⟨rfl, hk4, hT4⟩)
         refine bodyPost_ret (results_two rfl (resOne_tmp _ _ _) (resOne_tmp _ _ _)) rfl ?_
         exact ⟨rfl, hT4, H3.out.1.tx H3.out.2.1 hk4, H3.out.2.2.trans (hk4.mono fun _ _ e => .inr (.inr e))⟩
       | some j =>
         dsimp only
         have hj := (pick_some Hq.out.symm (pos_up H0.out.1.pos i (.bool true))).1
         rw [txV_length] at hj
         go_enter Tryz.func86, Tryz.ntmps86
         go_upto_region 9 with (first
          | (go_at_call 88; refine HSl.out.mono ?_; rintro e w1 ⟨rfl, hw1⟩; obtain rfl := hw1.symm)
          | (go_at_call 147; refine (HX.out _).mono ?_; rintro e w1 ⟨rfl, hw1⟩; obtain rfl := hw1.symm)
          | (go_at_call 21; refine HTk.out.mono ?_; rintro e w2 ⟨rfl, hk2, hT2⟩))
         have hF2 := H0.out.2.1.tx H0.out.1 hk2
         have e1 : w2.cell? ⟨F, 9, none⟩ = some (.int .i64 f.n.index) := hF2.c 9
         have e2 : w2.frozen? ⟨F, 9, none⟩ = false := free_obj hF2.obj 9
         have hF3 := hF2.putIdx (i : Int)
         have hk3 : Keeps (fun q => q = F ∨ q = gi) w2 (w2.setCell ⟨F, 9, none⟩ (.int .i64 (i : Int))) := Keeps.setCell _ _ _ (.inl rfl)
         have hT3 := hT2.fl hF2 H0.out.2.2.1 hk3
         obtain ⟨w3, hw3⟩ : ∃ w3, w3 = w2.setCell ⟨F, 9, none⟩ (.int .i64 (i : Int)) := ⟨_, rfl⟩
         rw [← hw3] at hF3 hk3 hT3
         have HTk2 := Lib.hid hT3.takeC
         rw [show takeT T (some i) = up T (i : Int) (.bool true) from rfl, ← Hq.out] at HTk2
         have d0' : w3.cell? ⟨F, 0, none⟩ = some (.pointer (some ⟨t, 0, none⟩)) := hF3.c 0
         have H3 := Lib.hid (And.intro hF3 (And.intro hT3 ((hk2.mono (S' := fS F gi mp mt) fun _ _ e => .inr (.inr e)).trans (hk3.mono fun _ _ e => e.elim .inl fun e => .inr (.inl e)))))
         clear hF3 hk3 hT3 hF2 hk2 hT2
         go_upto_region 10 with fail
         rw [← hw3]
         clear hw3 e1 e2
         go_upto_region 13 with (go_at_call 21; refine HTk2.out.mono ?_; rintro e w4 ⟨rfl, hk4', hT4⟩)
         have hF4 := H3.out.1.tx H3.out.2.1 hk4'
         have hk4 := H3.out.2.2.trans (hk4'.mono fun _ _ e => .inr (.inr e))
         have e1 : w4.cell? ⟨g, o, none⟩ = some (.int .i64 (f.slot k)) := by have := hF4.slotC H0.out.2.2.2.2; rwa [H0.out.2.2.2.1] at this
         have e2 : w4.frozen? ⟨g, o, none⟩ = false := by have := slotA_free hF4 k; rwa [H0.out.2.2.2.1] at this
         have hF5 := hF4.put H0.out.2.2.2.2 (j : Int)
         have hk5 : Keeps (fun q => q = F ∨ q = gi) w4 (w4.setCell (slotA F gi k) (.int .i64 (j : Int))) := Keeps.setCell _ _ _ (slotA_block F gi k)
         have hT5 := hT4.fl hF4 H0.out.2.2.1 hk5
         rw [H0.out.2.2.2.1] at hF5 hk5 hT5
         obtain ⟨w5, hw5⟩ : ∃ w5, w5 = w4.setCell ⟨g, o, none⟩ (.int .i64 (j : Int)) := ⟨_, rfl⟩
         rw [← hw5] at hF5 hk5 hT5
         have d0 : w5.cell? ⟨F, 0, none⟩ = some (.pointer (some ⟨t, 0, none⟩)) := hF5.c 0
         have HP := Lib.hid (hT5.putC (j : Int) dataBlk)
         rw [inB_nat hj] at HP
         unfold dataBlk at HP
         have H5 := Lib.hid (And.intro hF5 (And.intro hT5 (hk4.trans (hk5.mono fun _ _ e => e.elim .inl fun e => .inr (.inl e)))))
         clear hF5 hk5 hT5
         go_upto_region 14 with fail
         rw [← hw5]
         clear hw5 e1 e2
         go_wp2_with (go_at_call 24; refine HP.out.mono ?_; rintro e w6 ⟨rfl, hk6, hT6⟩)
         refine bodyPost_ret (results_two rfl (resOne_tmp _ _ _) (resOne_tmp _ _ _)) rfl ?_
         exact ⟨rfl, hT6, H5.out.1.tx H5.out.2.1 hk6, H5.out.2.2.trans (hk6.mono fun _ _ e => .inr (.inr e))⟩
   · have htk : takeIx st.bs ⟨L, T, f⟩ k = some ⟨L, T, f⟩ := by unfold takeIx; rw [if_neg h4]
     rw [htk]
     dsimp only
     have hcond : ∃ dd ii, whereT (k : Int) = (dd, ii, true) ∧ ((ii != -1) = false ∨ ((ii != -1) = true ∧ (f.n.index == -1) = false)) := by
      unfold whereT
      rw [if_neg (by omega)]
      by_cases hk4 : k < 4
      · exact ⟨_, _, by rw [if_pos (by omega)], .inl rfl⟩
      · exact ⟨_, _, by rw [if_neg (by omega)], .inr ⟨ne_bne (by omega), ne_beq (fun e => h4 ⟨by omega, e⟩)⟩⟩
     obtain ⟨dd, ii, hw, hcc⟩ := hcond
     rw [hw] at HX
     dsimp only at HX
     have HTk := Lib.hid H0.out.1.takeC
     obtain ⟨p, hp⟩ : ∃ p, p = pickT (txV L st.bs) T := ⟨_, rfl⟩
     rw [← hp] at HTk ⊢
     have Hp := Lib.hid hp
     clear hw htk h4 hp hk
     cases p with
     | none =>
       dsimp only
       rcases hcc with hc1 | ⟨hc1, hc2⟩
       all_goals
        go_enter Tryz.func86, Tryz.ntmps86
        go_wp2_with (first
         | (go_at_call 88; refine HSl.out.mono ?_; rintro e w1 ⟨rfl, hw1⟩; obtain rfl := hw1.symm)
         | (go_at_call 147; refine (HX.out _).mono ?_; rintro e w1 ⟨rfl, hw1⟩; obtain rfl := hw1.symm)
         | (go_at_call 21; refine HTk.out.mono ?_; rintro e w2 ⟨rfl, hk2, hT2⟩))
        refine bodyPost_ret (results_two rfl (resOne_tmp _ _ _) (resOne_tmp _ _ _)) rfl ?_
        exact ⟨rfl, hT2, H0.out.2.1.tx H0.out.1 hk2, hk2.mono fun _ _ e => .inr (.inr e)⟩
     | some i =>
       dsimp only
       have hi := (pick_some Hp.out.symm H0.out.1.pos).1
       rw [txV_length] at hi
       have hin := inB_nat hi
       rcases hcc with hc1 | ⟨hc1, hc2⟩
       all_goals
        go_enter Tryz.func86, Tryz.ntmps86
        go_upto_region 13 with (first
         | (go_at_call 88; refine HSl.out.mono ?_; rintro e w1 ⟨rfl, hw1⟩; obtain rfl := hw1.symm)
         | (go_at_call 147; refine (HX.out _).mono ?_; rintro e w1 ⟨rfl, hw1⟩; obtain rfl := hw1.symm)
         | (go_at_call 21; refine HTk.out.mono ?_; rintro e w2 ⟨rfl, hk2, hT2⟩))
        have hF2 := H0.out.2.1.tx H0.out.1 hk2
        have e1 : w2.cell? ⟨g, o, none⟩ = some (.int .i64 (f.slot k)) := by have := hF2.slotC H0.out.2.2.2.2; rwa [H0.out.2.2.2.1] at this
        have e2 : w2.frozen? ⟨g, o, none⟩ = false := by have := slotA_free hF2 k; rwa [H0.out.2.2.2.1] at this
        have hF5 := hF2.put H0.out.2.2.2.2 (i : Int)
        have hk5 : Keeps (fun q => q = F ∨ q = gi) w2 (w2.setCell (slotA F gi k) (.int .i64 (i : Int))) := Keeps.setCell _ _ _ (slotA_block F gi k)
        have hT5 := hT2.fl hF2 H0.out.2.2.1 hk5
        rw [H0.out.2.2.2.1] at hF5 hk5 hT5
        obtain ⟨w5, hw5⟩ : ∃ w5, w5 = w2.setCell ⟨g, o, none⟩ (.int .i64 (i : Int)) := ⟨_, rfl⟩
        rw [← hw5] at hF5 hk5 hT5
        have d0 : w5.cell? ⟨F, 0, none⟩ = some (.pointer (some ⟨t, 0, none⟩)) := hF5.c 0
        have HP := Lib.hid (hT5.putC (i : Int) dataBlk)
        rw [inB_nat hi] at HP
        unfold dataBlk at HP
        have H5 := Lib.hid (And.intro hF5 (And.intro hT5 ((hk2.mono (S' := fS F gi mp mt) fun _ _ e => .inr (.inr e)).trans (hk5.mono fun _ _ e => e.elim .inl fun e => .inr (.inl e)))))
        clear hF5 hk5 hT5
        go_upto_region 14 with fail
        rw [← hw5]
        clear hw5 e1 e2
        go_wp2_with (go_at_call 24; refine HP.out.mono ?_; rintro e w6 ⟨rfl, hk6, hT6⟩)
        refine bodyPost_ret (results_two rfl (resOne_tmp _ _ _) (resOne_tmp _ _ _)) rfl ?_
        exact ⟨rfl, hT6, H5.out.1.tx H5.out.2.1 hk6, H5.out.2.2.trans (hk6.mono fun _ _ e => .inr (.inr e))⟩
 · rw [if_pos h0]
   have h0' : (f.slot k != -1) = true := by simpa using h0
   clear h0 hk
   go_enter Tryz.func86, Tryz.ntmps86
   go_wp2_with (go_at_call 88; refine HSl.out.mono ?_; rintro e w1 ⟨rfl, hw1⟩; obtain rfl := hw1.symm)
   refine bodyPost_ret (results_two rfl (resOne_tmp _ _ _) (resOne_tmp _ _ _)) rfl ?_
   exact ⟨rfl, H0.out.1, H0.out.2.1, Keeps.refl _ _⟩
end
end
section
open Go.RowKit

theorem WI.congr {B : List Blk} {T : ML} {f0 f : Fl} {c c' : Nat → UInt8} (h : WI B T f0 f c) (e : ∀ i, i < 1120 → c i = c' i) : WI B T f0 f c' := { h with mid := h.mid.to (h.mid.cur.congr e) }
def endAt : Nat → Nat → Nat → Nat
 | 0, a, _ => a
 | m + 1, a, b => if a < b then endAt m (pcEnd a b) b else a
theorem pc_q {a b : Nat} (h : a < b) : ∃ q E, a / 56 = q ∧ pcEnd a b = E ∧ q * 56 ≤ a ∧ a < q * 56 + 56 ∧ a < E ∧ E ≤ b ∧ E ≤ q * 56 + 56 ∧ (E = b ∨ E = q * 56 + 56) ∧ pcOf a b = ⟨q, a - q * 56, E - q * 56⟩ := by
 obtain ⟨q, hq⟩ : ∃ q, q = a / 56 := ⟨_, rfl⟩
 have h1 : q * 56 ≤ a := by omega
 have h2 : a < q * 56 + 56 := by omega
 have h3 : a % 56 = a - q * 56 := by omega
 obtain ⟨E, hE⟩ : ∃ E, E = pcEnd a b := ⟨_, rfl⟩
 have hp : pcOf a b = ⟨q, a - q * 56, E - q * 56⟩ := by rw [hE]; unfold pcOf pcEnd; rw [← hq, h3]
 have h4 : E = if b ≤ q * 56 + 56 then b else q * 56 + 56 := by
  rw [hE]; unfold pcEnd; rw [← hq, Nat.succ_mul, Nat.min_def]
 clear hE h3
 refine ⟨q, E, hq.symm, ?_, h1, h2, ?_, ?_, ?_, ?_, hp⟩
 · rw [h4]; unfold pcEnd; rw [← hq, Nat.succ_mul, Nat.min_def]
 · clear hp; split at h4 <;> omega
 · clear hp; split at h4 <;> omega
 · clear hp; split at h4 <;> omega
 · clear hp; split at h4 <;> omega
theorem endAt_go {a b : Nat} (h : a < b) (m : Nat) : endAt (m + 1) a b = endAt m (pcEnd a b) b := by rw [endAt, if_pos h]
theorem endAt_no {a b : Nat} (h : ¬ a < b) : ∀ m, endAt m a b = a
 | 0 => rfl
 | m + 1 => by rw [endAt, if_neg h]
theorem endAt_bd (b : Nat) (m : Nat) : ∀ a, a ≤ endAt m a b ∧ (a ≤ b → endAt m a b ≤ b) := by
 induction m with
 | zero => intro a; exact ⟨Nat.le_refl _, id⟩
 | succ m ih =>
   intro a
   by_cases h : a < b
   · rw [endAt_go h]
     have h1 := pcEnd_gt h
     have := ih (pcEnd a b)
     exact ⟨by omega, fun _ => this.2 h1.2⟩
   · rw [endAt_no h]
     exact ⟨Nat.le_refl _, id⟩
theorem endAt_eq (b : Nat) (m : Nat) : ∀ a, a < b → endAt (m + 1) a b = if b ≤ (a / 56 + (m + 1)) * 56 then b else (a / 56 + (m + 1)) * 56 := by
 induction m with
 | zero =>
   intro a h
   rw [endAt_go h]
   obtain ⟨q, E, hq, hE, h1, h2, h3, h4, h5, h6, _⟩ := pc_q h
   rw [hq, hE]
   show E = _
   split <;> omega
 | succ m ih =>
   intro a h
   rw [endAt_go h]
   obtain ⟨q, E, hq, hE, h1, h2, h3, h4, h5, h6, _⟩ := pc_q h
   rw [hq, hE]
   by_cases h7 : E < b
   · rw [ih _ h7]
     have e : E = (q + 1) * 56 := by omega
     rw [e, Nat.mul_div_cancel _ (by decide), show q + 1 + (m + 1) = q + (m + 1 + 1) by omega]
   · rw [endAt_no h7, if_pos (by omega)]; omega
theorem wEnd_eq (b : Nat) (m : Nat) : ∀ a, a < b → wEnd ((pieces a b).take (m + 1)) = endAt (m + 1) a b := by
 induction m with
 | zero =>
   intro a h
   obtain ⟨q, E, hq, hE, h1, h2, h3, h4, h5, h6, hp⟩ := pc_q h
   rw [pieces_step h, List.take_succ_cons, List.take_zero, endAt_go h, hp, hE]
   show q * 56 + (E - q * 56) = E
   omega
 | succ m ih =>
   intro a h
   obtain ⟨q, E, hq, hE, h1, h2, h3, h4, h5, h6, hp⟩ := pc_q h
   rw [pieces_step h, List.take_succ_cons, endAt_go h, hE, hp]
   by_cases h7 : E < b
   · rw [← ih _ h7]
     unfold wEnd
     rw [pieces_step h7, List.take_succ_cons, List.getLast?_cons_cons]
   · rw [pieces_done h7, List.take_nil, endAt_no h7]
     show q * 56 + (E - q * 56) = _
     omega
def hitB (a e k : Nat) : Prop := a < e ∧ k * 56 < e ∧ a < (k + 1) * 56
theorem want_le (f : Fl) (k : Nat) : f.want k ≤ 2 := by unfold Fl.want; split; omega; split <;> omega
structure Ran (bs : List Blk) (s s' : Ws) (f0 : Fl) (c : Nat → UInt8) (a e : Nat) (m : Nat) : Prop where
 wi : WI (txV s'.L bs) s'.T f0 s'.f c
 slot : ∀ k, s'.f.slot k = -1 ↔ s.f.slot k = -1 ∧ ¬ hitB a e k
 idx : s'.f.n.index = -1 ↔ s.f.n.index = -1 ∧ (e ≤ 224 ∨ ¬ a < e)
 size : s'.f.n.size = s.f.n.size
 len : s'.L.length ≤ s.L.length + 2 * m
 lk : LK s.L → LK s'.L
theorem wRun_spec {bs : List Blk} {f0 : Fl} {data : List UInt8} {off b : Nat} (hb : b ≤ 1120) (hd : b ≤ off + data.length) (m : Nat) : ∀ (a : Nat) (s : Ws) (c : Nat → UInt8), WI (txV s.L bs) s.T f0 s.f c → off ≤ a → 2 * m ≤ leftT (txV s.L bs) s.T →
 ∃ s', wRun bs off data ((pieces a b).take m) s = (true, s') ∧ Ran bs s s' f0 (ov c data off a (endAt m a b)) a (endAt m a b) m := by
 induction m with
 | zero =>
   intro a s c h ha hl
   refine ⟨s, by rw [List.take_zero]; rfl, ⟨h.congr fun i _ => ?_, fun k => ?_, ?_, rfl, by omega, id⟩⟩
   · show c i = if a ≤ i ∧ i < a then _ else c i
     rw [if_neg (by omega)]
   · show _ ↔ _ ∧ ¬ (a < a ∧ _)
     exact ⟨fun e => ⟨e, fun e' => by omega⟩, fun e => e.1⟩
   · show _ ↔ _ ∧ (a ≤ 224 ∨ ¬ a < a)
     exact ⟨fun e => ⟨e, .inr (by omega)⟩, fun e => e.1⟩
 | succ m ih =>
   intro a s c h ha hl
   by_cases hab : a < b
   · obtain ⟨q, E, hq, hE, q1, q2, q3, q4, q5, q6, hpc⟩ := pc_q hab
     rw [pieces_step hab, List.take_succ_cons, endAt_go hab, hE, hpc]
     obtain ⟨f1, hf1⟩ : ∃ f1, f1 = a - q * 56 := ⟨_, rfl⟩
     rw [← hf1]
     have hk : q < 20 := by omega
     obtain ⟨hlt, _⟩ | ⟨j, s1, h1, hg⟩ := blkF_spec h hk
     · have := want_le s.f q; omega
     · have hlen : ((data.drop (a - off)).take (E - a)).length = E - a := by rw [List.length_take, List.length_drop]; omega
       have hw1 := hg.wi.cover hk hg.at_ f1 ((data.drop (a - off)).take (E - a)) (by rw [hlen]; omega)
       obtain ⟨jj, hjj, _, ql, qk⟩ := (hg.wi.mid.cur.slot q hk).resolve_left (by rw [hg.at_]; omega)
       have hqj : j = jj := by rw [hg.at_] at hjj; omega
       subst hqj
       have ql' : j < bs.length := by rwa [txV_length] at ql
       have hp : putP bs off data s1 ⟨q, f1, E - q * 56⟩ (j : Int) = ⟨putL s1.L bs (j : Int) ((getB (txV s1.L bs) (j : Int)).cover f1 ((data.drop (a - off)).take (E - a))), s1.T, s1.f⟩ := by
        unfold putP
        have e1 : q * 56 + f1 - off = a - off := by omega
        have e2 : E - q * 56 - f1 = E - a := by omega
        dsimp only
        rw [e1, e2]
       have hw2 : WI (txV (putL s1.L bs (j : Int) ((getB (txV s1.L bs) (j : Int)).cover f1 ((data.drop (a - off)).take (E - a)))) bs) s1.T f0 s1.f (ov c data off a E) := by
        rw [txV_putL ql']
        refine hw1.congr fun i _ => ?_
        rw [hlen]
        unfold ov
        by_cases hi : a ≤ i ∧ i < E
        · rw [if_pos (by omega), if_pos hi, List.getD_eq_getElem?_getD, List.getD_eq_getElem?_getD, List.getElem?_take, if_pos (by omega), List.getElem?_drop]
          congr 2; omega
        · rw [if_neg (by omega), if_neg hi]
       have hl2 : 2 * m ≤ leftT (txV (putL s1.L bs (j : Int) ((getB (txV s1.L bs) (j : Int)).cover f1 ((data.drop (a - off)).take (E - a)))) bs) s1.T := by
        have a1 := hw2.left
        have a2 := hg.wi.left
        rw [txV_length] at a1 a2
        have a3 := hg.left
        have a4 := want_le s.f q
        omega
       obtain ⟨s', hr, hR⟩ := ih E ⟨putL s1.L bs (j : Int) ((getB (txV s1.L bs) (j : Int)).cover f1 ((data.drop (a - off)).take (E - a))), s1.T, s1.f⟩ _ hw2 (by omega) hl2
       have heb := endAt_bd b m E
       have hee : endAt m E b ≤ b := heb.2 q4
       obtain ⟨e, he⟩ : ∃ e, e = endAt m E b := ⟨_, rfl⟩
       rw [← he] at hR heb hee ⊢
       refine ⟨s', ?_, ⟨hR.wi.congr fun i _ => ?_, fun k => ?_, ?_, by rw [hR.size, hg.size], ?_, fun hL => hR.lk (putL_LK (hg.lk hL) ?_)⟩⟩
       · show (match blkF bs s q with | (none, s1) => (false, s1) | (some x, s1) => wRun bs off data _ (putP bs off data s1 ⟨q, f1, E - q * 56⟩ x)) = _
         rw [h1]
         show wRun bs off data _ (putP bs off data s1 ⟨q, f1, E - q * 56⟩ (j : Int)) = _
         rw [hp, hr]
       · unfold ov
         by_cases h2 : E ≤ i ∧ i < e
         · rw [if_pos h2, if_pos (by omega)]
         · rw [if_neg h2]
           by_cases h3 : a ≤ i ∧ i < E
           · rw [if_pos h3, if_pos (by omega)]
           · rw [if_neg h3, if_neg (by omega)]
       · rw [hR.slot k]
         show s1.f.slot k = -1 ∧ _ ↔ _
         unfold hitB
         by_cases hkk : k = q
         · subst hkk
           rw [hg.at_]
           constructor
           · rintro ⟨e1, _⟩; omega
           · rintro ⟨_, e2⟩; exact absurd ⟨by omega, by omega, by omega⟩ e2
         · rw [hg.oth k hkk]
           constructor
           · rintro ⟨e1, e2⟩
             refine ⟨e1, fun e3 => e2 ?_⟩
             omega
           · rintro ⟨e1, e2⟩
             exact ⟨e1, fun e3 => e2 (by omega)⟩
       · rw [hR.idx]
         show s1.f.n.index = -1 ∧ _ ↔ _
         rw [hg.idx]
         constructor
         · rintro ⟨⟨e1, e2⟩, e3⟩; exact ⟨e1, by omega⟩
         · rintro ⟨e1, e2⟩; exact ⟨⟨e1, by omega⟩, by omega⟩
       · have b1 := hR.len
         have b2 := hg.len
         have b3 : (putL s1.L bs (j : Int) ((getB (txV s1.L bs) (j : Int)).cover f1 ((data.drop (a - off)).take (E - a)))).length ≤ s1.L.length + 1 := putL_len _ _ _ _
         have b4 : s'.L.length ≤ (putL s1.L bs (j : Int) ((getB (txV s1.L bs) (j : Int)).cover f1 ((data.drop (a - off)).take (E - a)))).length + 2 * m := b1
         omega
       · show 0 ≤ (getB (txV s1.L bs) (j : Int)).kind ∧ (getB (txV s1.L bs) (j : Int)).kind ≤ 7
         rw [getB_at ql, qk]; omega
   · rw [pieces_done hab, List.take_nil, endAt_no hab]
     refine ⟨s, rfl, ⟨h.congr fun i _ => ?_, fun k => ?_, ?_, rfl, by omega, id⟩⟩
     · show c i = if a ≤ i ∧ i < a then _ else c i
       rw [if_neg (by omega)]
     · show _ ↔ _ ∧ ¬ (a < a ∧ _)
       exact ⟨fun e => ⟨e, fun e' => by omega⟩, fun e => e.1⟩
     · show _ ↔ _ ∧ (a ≤ 224 ∨ ¬ a < a)
       exact ⟨fun e => ⟨e, .inr (by omega)⟩, fun e => e.1⟩
/-! What is kept. -/
def keepB (B : List Blk) (f : Fl) : List Blk := (if f.n.index = -1 then B else B.set f.n.index.toNat (putIndex f.li).1).set 1 (putNode 1 f.n).1
theorem keepB_length (B : List Blk) (f : Fl) : (keepB B f).length = B.length := by
 unfold keepB; rw [List.length_set]; split
 · rfl
 · rw [List.length_set]
theorem FS.far {B B' : List Blk} {f : Fl} {c : Nat → UInt8} (h : FS B f c) (hl : B'.length = B.length) (hb : ∀ j : Nat, 3 ≤ j → f.n.index ≠ (j : Int) → B'.getD j Blk.zero = B.getD j Blk.zero) : FS B' f c := by
 refine { h with slot := fun k hk => ?_, idx := by rw [hl]; exact h.idx, data := fun k hk i hi => ?_ }
 · rcases h.slot k hk with e | ⟨j, hj, j3, jl, jk⟩
   · exact .inl e
   · refine .inr ⟨j, hj, j3, by rw [hl]; exact jl, ?_⟩
     rw [hb j j3 (fun e => h.ine k hk (by rw [hj]; omega) (by rw [hj, e]))]; exact jk
 · rw [← h.data k hk i hi]
   rcases h.slot k hk with e | ⟨j, hj, j3, jl, jk⟩
   · rw [e, getB_no, getB_no]
   · rw [hj, getB_at (by rw [hl]; exact jl), getB_at jl, hb j j3 (fun e => h.ine k hk (by rw [hj]; omega) (by rw [hj, e]))]
theorem putIndex_kind {l : List Int} (h : l.length = 16) (h2 : placesOk l = true) : (putIndex l).1.kind = 5 := takeIndex_kind (take_putIndex h h2)
theorem keep_rest {B : List Blk} {f0 f : Fl} {c : Nat → UInt8} (h : FMid B f0 f c) : FRest (keepB B f) f c := by
 have hc := h.cur
 have hgi : ∀ j : Nat, f.n.index = (j : Int) → 3 ≤ j ∧ j < B.length := fun j e => by
  obtain ⟨q, hq, q3, ql⟩ := hc.idx.resolve_left (by rw [e]; omega)
  obtain rfl : j = q := by omega
  exact ⟨q3, ql⟩
 have hg : ∀ j : Nat, j ≠ 1 → f.n.index ≠ (j : Int) → (keepB B f).getD j Blk.zero = B.getD j Blk.zero := fun j j1 ji => by
  unfold keepB
  rw [getD_set_ne j1]
  split
  · rfl
  · rename_i hn
    obtain ⟨q, hq, q3, ql⟩ := hc.idx.resolve_left hn
    rw [getD_set_ne (by rw [hq] at ji ⊢; simp; omega)]
 have h1 : (keepB B f).getD 1 Blk.zero = (putNode 1 f.n).1 := by
  unfold keepB
  rw [getD_set (by have := h.len.1; split; omega; rw [List.length_set]; omega), if_pos rfl]
 have hi : ∀ j : Nat, f.n.index = (j : Int) → (keepB B f).getD j Blk.zero = (putIndex f.li).1 := fun j e => by
  obtain ⟨q3, ql⟩ := hgi j e
  unfold keepB
  rw [getD_set_ne (by omega), if_neg (by rw [e]; omega), e, Int.toNat_natCast, getD_set ql, if_pos rfl]
 refine { len := by rw [keepB_length]; exact h.len, may0 := hc.may, wf0 := hc.wf, l0 := hc.l16, lok0 := hc.lok, hol0 := hc.hol, nodeB := h1, idxB := ?_, k0 := ?_, k2 := ?_, ks := fun j j3 jl => ?_, cur := hc.far (keepB_length B f) (fun j j3 ji => hg j (by omega) ji) }
 · refine hc.idx.imp id ?_
   rintro ⟨j, hj, j3, jl⟩
   exact ⟨j, hj, j3, by rw [keepB_length]; exact jl, hi j hj⟩
 · rw [hg 0 (by omega) (fun e => by have := hgi 0 e; omega)]; exact h.k0
 · rw [hg 2 (by omega) (fun e => by have := hgi 2 e; omega)]; exact h.k2
 · rw [keepB_length] at jl
   by_cases e : f.n.index = (j : Int)
   · rw [hi j e]; exact .inr (.inr (putIndex_kind hc.l16 hc.lok))
   · rw [hg j (by omega) e]; exact h.ks j j3 jl
theorem keepF_V {bs : List Blk} {s : Ws} {f0 : Fl} {c : Nat → UInt8} (h : FMid (txV s.L bs) f0 s.f c) : txV (keepF bs 1 s) bs = keepB (txV s.L bs) s.f := by
 have hl := h.len.1
 rw [txV_length] at hl
 unfold keepF keepB
 show txV (putL _ bs ((1 : Nat) : Int) _) bs = _
 rw [txV_putL (j := 1) (by omega)]
 congr 1
 split
 · rfl
 · rename_i hn
   obtain ⟨q, hq, q3, ql⟩ := h.cur.idx.resolve_left hn
   rw [txV_length] at ql
   rw [hq, txV_putL ql, Int.toNat_natCast]
theorem keepF_len (bs : List Blk) (a : Int) (s : Ws) : (keepF bs a s).length ≤ s.L.length + 2 := by
 unfold keepF
 have h1 := putL_len (if s.f.n.index = -1 then s.L else putL s.L bs s.f.n.index (putIndex s.f.li).1) bs a (putNode 1 s.f.n).1
 have h2 := putL_len s.L bs s.f.n.index (putIndex s.f.li).1
 split at h1 <;> split <;> omega
theorem putNode_kinds (n : Nd) : 0 ≤ (putNode 1 n).1.kind ∧ (putNode 1 n).1.kind ≤ 7 := by
 unfold putNode Blk.zero
 split <;> (rw [Blk.of_kind]; omega)
theorem putIndex_kinds (l : List Int) : 0 ≤ (putIndex l).1.kind ∧ (putIndex l).1.kind ≤ 7 := by
 unfold putIndex Blk.zero
 split <;> (rw [Blk.of_kind]; omega)
theorem keepF_LK {bs : List Blk} {a : Int} {s : Ws} (h : LK s.L) : LK (keepF bs a s) := by
 unfold keepF
 refine putL_LK ?_ (putNode_kinds _)
 split
 · exact h
 · exact putL_LK h (putIndex_kinds _)
theorem FRest.flOf {B : List Blk} {f : Fl} {c : Nat → UInt8} (h : FRest B f c) : flOf B 1 = some f := by
 have hl := h.len.1
 have h1 : getB B 1 = (putNode 1 f.n).1 := by
  have := getB_at (B := B) (j := 1) (by omega)
  rw [h.nodeB] at this; exact this
 have ht : takeNode (putNode 1 f.n).1 = (f.n, true) := take_putNode h.may0 h.wf0
 unfold Go.Proofs.YtbbnejehglonjaaGreat.flOf
 rw [h1, if_pos ⟨putNode_ok h.may0, by rw [ht]⟩, ht]
 have : (takeIndex (getB B f.n.index)).getD holes = f.li := by
  by_cases hi : f.n.index = -1
  · rw [hi, getB_no, takeIndex_zero, h.hol0 hi]; rfl
  · rw [getB_idx hi h.idxB, take_putIndex h.l0 h.lok0]; rfl
 show some _ = some _
 rw [this]
theorem FRest.wi {B : List Blk} {f : Fl} {c : Nat → UInt8} (h : FRest B f c) : WI B [] f f c := ⟨h, fun j => by simp [keysL], .inr rfl, fun k hk => by simp [keysL] at hk⟩
theorem FS.sized {B : List Blk} {f : Fl} {c : Nat → UInt8} (h : FS B f c) {z : Int} (h0 : 0 ≤ z) (h1 : z ≤ 1120) : FS B (f.sized z) c :=
 { h with may := mayNode_size h.may h0 h1, wf := ⟨h.wf.1, h.wf.2, h.wf.3⟩ }
structure Wrote (bs : List Blk) (L L' : PL) (T' : ML) (f f' : Fl) (c : Nat → UInt8) (a e : Nat) : Prop where
 wi : WI (txV L' bs) T' f' f' c
 slot : ∀ k, f'.slot k = -1 ↔ f.slot k = -1 ∧ ¬ hitB a e k
 idx : f'.n.index = -1 ↔ f.n.index = -1 ∧ e ≤ 224
 size : f'.n.size = max f.n.size e
 len : L'.length ≤ L.length + 10
 lk : LK L → LK L'
theorem keep_wi {bs : List Blk} {s : Ws} {f0 : Fl} {c : Nat → UInt8} (h : WI (txV s.L bs) s.T f0 s.f c) : WI (txV (keepF bs 1 s) bs) s.T s.f s.f c := by
 rw [keepF_V h.mid]
 exact ⟨keep_rest h.mid, fun j => ⟨.inr, fun e => e.elim (fun e => (h.own j).2 (.inl e)) id⟩, .inr rfl, h.pos⟩
theorem WI.sized {B : List Blk} {T : ML} {f0 f : Fl} {c : Nat → UInt8} (h : WI B T f0 f c) {z : Int} (h0 : 0 ≤ z) (h1 : z ≤ 1120) : WI B T f0 (f.sized z) c :=
 ⟨h.mid.to (h.mid.cur.sized h0 h1), h.own, h.oi, h.pos⟩
theorem write_spec {bs : List Blk} {L : PL} {T : ML} {f : Fl} {c : Nat → UInt8} {off : Nat} {data : List UInt8} (h : WI (txV L bs) T f f c) (ho : off < 1120) (hd : data ≠ []) (hl : 8 ≤ leftT (txV L bs) T) :
 ∃ (m : Nat) (L' : PL) (T' : ML) (f' : Fl), m = min data.length (min (1120 - off) (224 - off % 56)) ∧ writeF bs L T 1 (off : Int) data = (((m : Int), 0), L', T') ∧ Wrote bs L L' T' f f' (ov c data off off (off + m)) off (off + m) := by
 have hdl : 0 < data.length := List.length_pos_iff.2 hd
 obtain ⟨b, hb⟩ : ∃ b, b = off + min data.length (1120 - off) := ⟨_, rfl⟩
 have hob : off < b := by omega
 obtain ⟨s', hr, hR⟩ := wRun_spec (bs := bs) (f0 := f) (data := data) (off := off) (b := b) (by omega) (by omega) 4 off ⟨L, T, f⟩ c h (Nat.le_refl _) (by show 8 ≤ leftT (txV L bs) T; exact hl)
 have he := endAt_eq b 3 off hob
 have hw := wEnd_eq b 3 off hob
 have hm : endAt 4 off b = off + min data.length (min (1120 - off) (224 - off % 56)) := by rw [he]; split <;> omega
 rw [hm] at hR hw
 obtain ⟨m, hmm⟩ : ∃ m, m = min data.length (min (1120 - off) (224 - off % 56)) := ⟨_, rfl⟩
 rw [← hmm] at hR hw
 have hz := hR.wi.mid.cur.may
 rw [mayNode_fileP] at hz
 have hsz : s'.f.n.size = f.n.size := hR.size
 have hW2 := hR.wi.sized (z := max s'.f.n.size ((off + m : Nat) : Int)) (by omega) (by omega)
 have hk := keep_wi (s := ⟨s'.L, s'.T, s'.f.sized (max s'.f.n.size ((off + m : Nat) : Int))⟩) hW2
 refine ⟨m, keepF bs 1 ⟨s'.L, s'.T, s'.f.sized (max s'.f.n.size ((off + m : Nat) : Int))⟩, s'.T, s'.f.sized (max s'.f.n.size ((off + m : Nat) : Int)), hmm, ?_, ⟨hk, hR.slot, ?_, ?_, ?_, fun hL => keepF_LK (hR.lk hL)⟩⟩
 · unfold writeF
   rw [FRest.flOf h.mid]
   dsimp only
   rw [if_neg (by omega), if_neg hd, if_neg (by omega), Int.toNat_natCast]
   unfold wPcs
   rw [← hb, hr]
   dsimp only
   rw [hw]
   congr 2
   omega
 · show s'.f.n.index = -1 ↔ _
   rw [hR.idx]
   constructor
   · rintro ⟨e1, e2⟩; exact ⟨e1, by omega⟩
   · rintro ⟨e1, e2⟩; exact ⟨e1, .inl e2⟩
 · show max s'.f.n.size _ = _
   rw [hsz]
 · have a1 := keepF_len bs 1 ⟨s'.L, s'.T, s'.f.sized (max s'.f.n.size ((off + m : Nat) : Int))⟩
   have a2 := hR.len
   have a3 : s'.L.length ≤ L.length + 2 * 4 := a2
   have a4 : (keepF bs 1 ⟨s'.L, s'.T, s'.f.sized (max s'.f.n.size ((off + m : Nat) : Int))⟩).length ≤ s'.L.length + 2 := a1
   omega
theorem read_spec {B : List Blk} {f : Fl} {c : Nat → UInt8} (h : FS B f c) {b : Nat} (hb : b ≤ 1120) : ∀ (m a : Nat), b - a = m → readF B f a b = (List.range (b - a)).map fun i => c (a + i) := by
 intro m
 induction m using Nat.strongRecOn with
 | _ m ih =>
   intro a hm
   unfold readF
   by_cases hab : a < b
   · obtain ⟨q, E, hq, hE, q1, q2, q3, q4, q5, q6, hpc⟩ := pc_q hab
     have ih2 := ih (b - E) (by omega) E rfl
     unfold readF at ih2
     rw [pieces_step hab, List.flatMap_cons, hE, ih2, hpc]
     have hk : q < 20 := by omega
     have e1 : ((getB B (f.slot q)).body.drop (a - q * 56)).take (E - q * 56 - (a - q * 56)) = (List.range (E - a)).map fun i => c (a + i) := by
      have hlen := (getB B (f.slot q)).len
      apply List.ext_getElem
      · rw [List.length_take, List.length_drop, hlen, List.length_map, List.length_range]; omega
      · intro i h1 h2
        rw [List.length_map, List.length_range] at h2
        have hd := h.data q hk (a - q * 56 + i) (by omega)
        rw [List.getD_eq_getElem?_getD, List.getElem?_eq_getElem (by rw [hlen]; omega), Option.getD_some] at hd
        rw [List.getElem_take, List.getElem_drop, List.getElem_map, List.getElem_range, hd]
        congr 1; omega
     dsimp only
     rw [e1]
     have e2 : b - a = (E - a) + (b - E) := by omega
     rw [e2, List.range_add, List.map_append, List.map_map]
     congr 1
     apply List.map_congr_left
     intro i _
     show c (E + i) = c (a + (E - a + i))
     congr 1; omega
   · rw [pieces_done hab, show b - a = 0 by omega]; rfl
end
end Go.Proofs.YtbbnejehglonjaaGreat
