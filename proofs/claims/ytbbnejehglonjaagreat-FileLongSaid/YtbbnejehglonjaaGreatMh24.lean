/- DERIVED. Contracts and laws that the proofs of this seat share, part 24 of 36: PvJ PvK. -/
import Derived.Test.YtbbnejehglonjaaGreatMh00
import Derived.Test.YtbbnejehglonjaaGreatMh23
namespace Go.Proofs.YtbbnejehglonjaaGreat
set_option maxHeartbeats 8000000
set_option maxRecDepth 100000
set_option linter.unusedSimpArgs false
set_option linter.unusedVariables false
section
open Go.RowKit
attribute [local irreducible] Calls

def logsD (D : Dv) (reg : Nat) (at_ : Nat) : List (List UInt8) → Dv
 | [] => D
 | l :: ls => logsD (D.write reg at_ l) reg (at_ + 1) ls
theorem logsD_snoc (reg : Nat) (l : List UInt8) : ∀ (ls : List (List UInt8)) (D : Dv) (a : Nat), logsD D reg a (ls ++ [l]) = (logsD D reg a ls).write reg (a + ls.length) l
 | [], D, a => rfl
 | x :: ls, D, a => by
   show logsD (D.write reg a x) reg (a + 1) (ls ++ [l]) = _
   rw [logsD_snoc reg l ls]
   show _ = (logsD (D.write reg a x) reg (a + 1) ls).write reg (a + (ls.length + 1)) l
   congr 1; omega
theorem logsD_take (D : Dv) (reg a : Nat) {ls : List (List UInt8)} {k : Nat} {l : List UInt8} (h : ls[k]? = some l) : logsD D reg a (ls.take (k + 1)) = (logsD D reg a (ls.take k)).write reg (a + k) l := by
 obtain ⟨hk, rfl⟩ := List.getElem?_eq_some_iff.1 h
 rw [List.take_succ_eq_append_getElem hk, logsD_snoc, List.length_take, Nat.min_eq_left (by omega)]
def overlay (bs : List Blk) (ws : List Wr) : List Blk := ws.foldl (fun bs x => bs.set x.at_.toNat x.b) bs
def touch (L : ML) (ws : List Wr) : ML := ws.foldl (fun L x => up L x.at_ (.bool true)) L
theorem overlay_length (ws : List Wr) : ∀ bs : List Blk, (overlay bs ws).length = bs.length := by
 induction ws with
 | nil => intro bs; rfl
 | cons x ws ih => intro bs; show (overlay (bs.set _ _) ws).length = _; rw [ih, List.length_set]
theorem overlay_take (bs : List Blk) {ws : List Wr} {k : Nat} {x : Wr} (h : ws[k]? = some x) : overlay bs (ws.take (k + 1)) = (overlay bs (ws.take k)).set x.at_.toNat x.b := by
 obtain ⟨hk, rfl⟩ := List.getElem?_eq_some_iff.1 h
 unfold overlay
 rw [List.take_succ_eq_append_getElem hk, List.foldl_append]; rfl
theorem touch_take (L : ML) {ws : List Wr} {k : Nat} {x : Wr} (h : ws[k]? = some x) : touch L (ws.take (k + 1)) = up (touch L (ws.take k)) x.at_ (.bool true) := by
 obtain ⟨hk, rfl⟩ := List.getElem?_eq_some_iff.1 h
 unfold touch
 rw [List.take_succ_eq_append_getElem hk, List.foldl_append]; rfl
structure VSt where
 epoch : Nat
 seq : Nat
 used : Int
 bs : List Blk
 dirty : ML
 D : Dv
def roomV (reg : Nat) (s : Sh) (n : Nat) (st : VSt) : VSt :=
 if (s.log : Int) - st.used < (n : Int) + 1 then ⟨(st.epoch + 1) % 4294967296, 0, 0, st.bs, [], tidiesD (st.D.barrier reg) reg s st.bs (sortedKeys st.dirty) ((st.epoch + 1) % 4294967296)⟩ else st
def writeV (reg : Nat) (s : Sh) (ws : List Wr) (st : VSt) : VSt :=
 ⟨st.epoch, (st.seq + 1) % 4294967296, st.used + (ws.length + 1 : Nat), overlay st.bs ws, touch st.dirty ws, logsD st.D reg (2 + st.used.toNat) (putRec s.lb st.epoch st.seq ws)⟩
def changeV (reg : Nat) (s : Sh) (ws : List Wr) (st : VSt) : VSt := writeV reg s ws (roomV reg s ws.length st)
def changeOk (s : Sh) (ws : List Wr) : Bool := mayRec ws && !(ws.any (pastEnd s.blocks))
abbrev VolS (w : World) (Sd : Nat → Prop) (v d reg : Nat) (s : Sh) (gb cap m : Nat) (st : VSt) (c : Nat) : Prop := VolP w Sd v d reg s st.epoch st.seq st.used gb cap m st.bs st.dirty st.D c
end
section
open Go.RowKit
attribute [local irreducible] Calls

/-! Entries, met in a region that draws its order. -/
section
variable {P : Program} {ops : Array Oper} {o : Oper} {a b0 : Act} {w : World} {K : Act → World → Prop} {Q : Exit → Act → World → Prop} {F : Prop}
theorem step_entryI (hgd : o.guard = none) (t kt et : TypeId) (x y : Operand) (ho : o.op = .mapEntry t x y) {m : Nat} {L : ML} (h : MapI w m L) (ht : P.underlying t = some (.map kt et)) (hk : P.underlying kt = some (.int .i64)) {z : Value} (hz : (zeroValue et).run P w = .ok z w) (hx : a.eval x = .map (some m)) {k : Int} (hy : a.eval y = .int .i64 k) (h0 : 0 ≤ k) (h1 : k < 1000000)
 (hl : L.length < 1000000) (hK : ∀ w' v v' stamp, MapI w' m (up L k v') → EntryAt w' m k stamp → Keeps (fun g => g = m) w w' → K (a.put o.dst (.tuple #[v, .int .i64 (stamp : Nat)])) w') :
 if Region.wanted o (yielded ops b0.tmps) = true then Oper.wp P o a w K Q else F := by
 have hw : Region.wanted o (yielded ops b0.tmps) = true := by simp [Region.wanted, hgd]
 rw [if_pos hw]
 exact wp_entryI t kt et x y ho h ht hk hz hx hy h0 h1 hl hK
theorem step_entryStoreI (hgd : o.guard = none) (t : TypeId) (x y u : Operand) (ho : o.op = .entryStore t x y u) {m : Nat} {L : ML} (h : MapI w m L) {k : Int} {stamp : Nat} (he : EntryAt w m k stamp) (hkm : k ∈ keysL L) (hx : a.eval x = .map (some m)) (hy : a.eval y = .int .i64 (stamp : Nat)) {v : Value} (hu : a.eval u = v)
 (hK : ∀ w', MapI w' m (up L k v) → Keeps (fun g => g = m) w w' → K (a.put o.dst undef) w') :
 if Region.wanted o (yielded ops b0.tmps) = true then Oper.wp P o a w K Q else F := by
 have hw : Region.wanted o (yielded ops b0.tmps) = true := by simp [Region.wanted, hgd]
 rw [if_pos hw]
 exact wp_entryStoreI t x y u ho h he hkm hx hy hu hK
end
theorem VolP.setRow {w : World} {Sd : Nat → Prop} {v d reg : Nat} {s : Sh} {epoch seq : Nat} {used : Int} {gb cap m : Nat} {bs : List Blk} {Dm : ML} {D : Dv} {c : Nat} (h : VolP w Sd v d reg s epoch seq used gb cap m bs Dm D c) {i : Nat} (hi : i < bs.length) {b : Blk} (hb : 0 ≤ b.kind ∧ b.kind ≤ 7) :
 VolP (putOff w gb (i * 57) b.cells) Sd v d reg s epoch seq used gb cap m (bs.set i b) Dm D c := by
 have hK := putOff_keeps w gb (i * 57) b.cells
 obtain ⟨cur, hg, _⟩ := h.row.obj
 have hvb : v ≠ gb := fun e => ne_of_obj hg h.o (by decide) e.symm
 have hmb : m ≠ gb := fun e => h.map.neCells hg e.symm
 exact { h with
  slen := by rw [List.length_set]; exact h.slen
  o := by rw [List.length_set]; exact hK.obj h.o hvb
  dev := h.dev.keeps hK (fun g hg e => h.nb (e ▸ hg))
  row := by rw [List.length_set]; exact h.row.put i hi b
  map := h.map.keeps hK hmb
  keys := by rw [List.length_set]; exact h.keys
  kinds := fun x hx => by
   rcases List.mem_or_eq_of_mem_set hx with hx | rfl
   · exact h.kinds x hx
   · exact hb }
theorem mayRec_at {ws : List Wr} (h : mayRec ws = true) {x : Wr} {i : Nat} (hx : ws[i]? = some x) : 0 ≤ x.b.kind ∧ x.b.kind ≤ 7 ∧ 0 ≤ x.at_ ∧ x.at_ < 200 := by
 cases h1 : wrOk x with
 | true => exact wrOk_iff.1 h1
 | false => rw [wrsOk_not hx (.inl h1)] at h; cases h
theorem pastEnd_at {n : Nat} {ws : List Wr} (h : ws.any (pastEnd n) = false) {x : Wr} {i : Nat} (hx : ws[i]? = some x) : x.at_ < (n : Int) := by
 have := List.any_eq_false.1 h x (List.mem_of_getElem? hx)
 unfold pastEnd at this
 simp at this
 exact this

theorem putRec_64 {lb : UInt8} {epoch seq : Nat} {ws : List Wr} (h : mayRec ws = true) : ∀ l ∈ putRec lb epoch seq ws, l.length = 64 := by
 intro l hl
 unfold putRec at hl
 rcases List.mem_cons.1 hl with rfl | hl
 · exact headB_length h
 · obtain ⟨x, _, rfl⟩ := List.mem_map.1 hl
   exact imageB_length _ _ _
theorem putRec_length (lb : UInt8) (epoch seq : Nat) (ws : List Wr) : (putRec lb epoch seq ws).length = ws.length + 1 := by unfold putRec; simp

theorem VolP.grow {w : World} {Sd : Nat → Prop} {v d reg : Nat} {s : Sh} {epoch seq : Nat} {used : Int} {gb cap m : Nat} {bs : List Blk} {Dm : ML} {D : Dv} {c c' : Nat} (h : VolP w Sd v d reg s epoch seq used gb cap m bs Dm D c) (hc : c ≤ c') : VolP w Sd v d reg s epoch seq used gb cap m bs Dm D c' :=
 h.refoot (fun _ h => h) h.dev.lt h.nv h.nm h.nb hc
theorem WRow.keeps {w w' : World} {S T : Nat → Prop} {v : Value} {ws : List Wr} (h : WRow w S v ws) (hk : Keeps T w w') (hT : ∀ g, v.ownBlock = some g → ¬ T g) : WRow w' S v ws := RowG.keeps h hk hT (fun _ h => h) (fun _ _ h => h)
theorem roomV_used {reg n : Nat} {s : Sh} {st : VSt} (hl : n ≤ 12) (hs : 13 ≤ s.log) (h : 0 ≤ st.used ∧ st.used ≤ s.log) : 0 ≤ (roomV reg s n st).used ∧ (roomV reg s n st).used + n + 1 ≤ s.log := by
 unfold roomV
 split
 · dsimp only; omega
 · omega

theorem VolP.change {w : World} {Sd S : Nat → Prop} {v d reg : Nat} {s : Sh} {gb cap m c : Nat} {st : VSt} {l : Value} {ws : List Wr} (h : VolS w Sd v d reg s gb cap m st c) (hw : WRow w S l ws) (hwS : ∀ g, l.ownBlock = some g → ¬ Sd g) (hl : ws.length ≤ 1000) (hlog : 13 ≤ s.log) (hc : c < 500000) :
 Calls Tryz.prog 57 #[.pointer (some ⟨v, 0, none⟩), l] w fun e w' => (changeOk s ws = false → e = .returned (.int .i64 1) ∧ Below w.heap.size w w') ∧
  (changeOk s ws = true → e = .returned (.int .i64 0) ∧ Keeps (fun k => Sd k ∨ k = v ∨ k = m ∨ k = gb) w w' ∧ VolS w' (grownS Sd w w') v d reg s gb cap m (changeV reg s ws st) (c + 300)) := by
 obtain ⟨al, capl, rfl, _⟩ := RowG.slice hw
 have hB0 : Below w.heap.size w (w.alloc (.cells #[.pointer (some ⟨v, 0, none⟩)] 28)) := grow_alloc (Below.refl _ _) _
 have hbx : objAt (w.alloc (.cells #[.pointer (some ⟨v, 0, none⟩)] 28)) w.heap.size = some (.cells #[.pointer (some ⟨v, 0, none⟩)] 28 (0, 0)) := by rw [objAt_alloc, if_pos rfl]
 obtain ⟨B, hB⟩ : ∃ B, B = w.heap.size := ⟨_, rfl⟩
 obtain ⟨w1, hw1⟩ : ∃ w1, w1 = w.alloc (.cells #[.pointer (some ⟨v, 0, none⟩)] 28) := ⟨_, rfl⟩
 rw [← hw1] at hB0 hbx
 rw [← hB] at hbx
 have h1 := h.below hB0
 have hwr1 := WRow.below hw hB0
 have b0 := cell_obj hbx 0
 have c7 := VolO.c7 h1.o
 have c8 := VolO.c8 h1.o
 have c9 := VolO.c9 h1.o
 have hnB : ¬ Sd B := fun e => by have := h.dev.lt B e; omega
 have H1 := Lib.hid (And.intro h1 (And.intro hwr1 (And.intro hbx (And.intro hnB (And.intro hwS (And.intro hB0 (And.intro hB hw1)))))))
 have H0 := Lib.hid h
 have hP := fun w' (hb : Below w1.heap.size w1 w') => recPut_any s.lb st.epoch st.seq (WRow.below hwr1 hb) hl h.e32 h.q32
 have HP := Lib.hid hP
 clear hP h1 hwr1 hbx hnB hwS hB0 hB hw1 h hw
 go_enter Tryz.func57, Tryz.ntmps57
 go_upto_region 3 with fail
 rw [← H1.out.2.2.2.2.2.2.2, ← H1.out.2.2.2.2.2.2.1]
 refine wp_region_F [13] (S := fun w' => w'.cell? ⟨B, 0, none⟩ = some (.pointer (some ⟨v, 0, none⟩)) ∧ w'.cell? ⟨v, 7, none⟩ = some (.int .u8 (s.lb.toNat : Int)) ∧ w'.cell? ⟨v, 8, none⟩ = some (.int .u32 st.epoch) ∧ w'.cell? ⟨v, 9, none⟩ = some (.int .u32 st.seq) ∧ True) (by kernel_rfl) (⟨b0, c7, c8, c9, trivial⟩) (fun hHeld => ?_)
 show wpAnyF _ _ _ _ _ _ 19 #[false, false, false, false, false, false, false, false, false, false, false, false, false, false, false, false, false, false, false] _ _
 refine gF 0 [0, 1, 2, 3, 13, 14, 15, 16, 17, 18] ?_; try simp only [Act.put, qs]
 refine gF 1 [1, 2, 3, 13, 14, 15, 16, 17, 18] ?_; try simp only [Act.put, qs]
 refine gF 2 [2, 3, 13, 14, 15, 16, 17, 18] ?_; try simp only [Act.put, qs]
 refine gF 3 [3, 13, 14, 15, 16, 17, 18] ?_; try simp only [Act.put, qs]
 refine gF 4 [4, 5, 6, 7, 13, 14, 15, 16, 17, 18] ?_; try simp only [Act.put, qs]
 refine gF 5 [5, 6, 7, 13, 14, 15, 16, 17, 18] ?_; try simp only [Act.put, qs]
 refine gF 6 [6, 7, 13, 14, 15, 16, 17, 18] ?_; try simp only [Act.put, qs]
 refine gF 7 [7, 13, 14, 15, 16, 17, 18] ?_; try simp only [Act.put, qs]
 refine gF 8 [8, 9, 10, 11, 13, 14, 15, 16, 17, 18] ?_; try simp only [Act.put, qs]
 refine gF 9 [9, 10, 11, 13, 14, 15, 16, 17, 18] ?_; try simp only [Act.put, qs]
 refine gF 10 [10, 11, 13, 14, 15, 16, 17, 18] ?_; try simp only [Act.put, qs]
 refine gF 11 [11, 13, 14, 15, 16, 17, 18] ?_; try simp only [Act.put, qs]
 refine gF 12 [12, 13, 14, 15, 16, 17, 18] ?_; try simp only [Act.put, qs]
 refine gV 13 fun K hK => ?_
 try simp only [qs]
 go_simp
 go_at_call 117; refine (HP.out _ (Below.refl _ _).drew).mono ?_; rintro e w2 ⟨v2, rfl, _, b2⟩
 refine hK.out _ _ (trivial) (fun hN => ?_); replace hHeld := hN; clear hK K hN
 try simp only [qs]
 refine gP 14 ?_; try simp only [Act.put, qs]
 refine gP 15 ?_; try simp only [Act.put, qs]
 refine gP 16 ?_; try simp only [Act.put, qs]
 refine gP 17 ?_; try simp only [Act.put, qs]
 refine gP 18 ?_; try simp only [Act.put, qs]
 refine wpAnyF_done (by kernel_rfl) ?_ _
 have hB2 : Below w1.heap.size w1 w2 := (Below.refl w1.heap.size w1).drew.trans b2
 have h2 := H1.out.1.below hB2
 have hbx2 := grow_obj hB2 H1.out.2.2.1
 have hwr2 := WRow.below H1.out.2.1 hB2
 have HC := Lib.hid (containsWr_any (cell_obj hbx2 0) h2.o hwr2 hl)
 have d0 := cell_obj hbx2 0
 have H2 := Lib.hid (And.intro h2 (And.intro hbx2 (And.intro hwr2 hB2)))
 clear b2 hB2 h2 hbx2 hwr2 hHeld b0 c7 c8 c9
 cases hm : mayRec ws with
 | false =>
   have hco : changeOk s ws = false := by unfold changeOk; rw [hm]; rfl
   have Hco := Lib.hid hco
   clear hco hm
   go_wp2_with fail
   go_ret
   exact ⟨fun _ => ⟨rfl, H1.out.2.2.2.2.2.1.trans (H2.out.2.2.2.mono H1.out.2.2.2.2.2.1.size)⟩, fun h => by rw [Hco.out] at h; cases h⟩
 | true =>
   obtain ⟨P, hP⟩ : ∃ P, P = ws.any (pastEnd s.blocks) := ⟨_, rfl⟩
   have hco : changeOk s ws = !P := by unfold changeOk; rw [hm, hP]; rfl
   rw [← hP] at HC
   have Hm := Lib.hid (And.intro hm (And.intro hP hco))
   clear hm hco hP
   cases P with
   | true =>
     go_wp2_with (go_at_call 118; refine HC.out.mono ?_; rintro e w3 ⟨rfl, b3⟩)
     go_ret
     exact ⟨fun _ => ⟨rfl, H1.out.2.2.2.2.2.1.trans ((grow_trans H2.out.2.2.2 b3).mono H1.out.2.2.2.2.2.1.size)⟩, fun h => by rw [Hm.out.2.2] at h; cases h⟩
   | false =>
     have hwl : ws.length ≤ 12 := (mayRec_iff.1 Hm.out.1).2.2
     go_upto_region 6 with (go_at_call 118; refine HC.out.mono ?_; rintro e w3 ⟨rfl, b3⟩)
     have hB3 := grow_trans H2.out.2.2.2 b3
     have h3 := H2.out.1.below b3
     have hbx3 := grow_obj b3 H2.out.2.1
     have hwr3 := WRow.below H2.out.2.2.1 b3
     have HR := Lib.hid h3.room
     have e0 := cell_obj hbx3 0
     have hu := h3.ub
     have hlg := h3.sok.log
     have H3 := Lib.hid (And.intro h3 (And.intro hbx3 (And.intro hwr3 hB3)))
     clear b3 hB3 h3 hbx3 hwr3 d0
     have hdr : Below w3.heap.size w3 w3.drew := (Below.refl _ _).drew
     have h3d := H3.out.1.below hdr
     have hbx3d := grow_obj hdr H3.out.2.1
     have e0d := cell_obj hbx3d 0
     have HT := Lib.hid (VolP.tidy h3d (by omega))
     obtain ⟨st1, hst1⟩ : ∃ st1, st1 = roomV reg s ws.length st := ⟨_, rfl⟩
     have hr1 := roomV_used (reg := reg) hwl hlog hu
     rw [← hst1] at hr1
     have hroom : ∀ n : Int, n = (ws.length : Int) + 1 → (((s.log : Int) - st.used < n) = ((s.log : Int) - st.used < (ws.length : Int) + 1)) := fun n hn => by rw [hn]
     have Hst := Lib.hid (And.intro hst1 hr1)
     have hlw : (ws.length : Int) ≤ 12 := by omega
     clear hst1 hr1 hroom hbx3d hdr h3d e0d
     go_upto_if 44 with (go_at_call 120; refine HR.out.mono ?_; rintro e w4 ⟨rfl, rfl⟩)
     go_cut [] (fun wx => ∃ F : Nat → Prop, VolS wx F v d reg s gb cap m st1 (c + 210) ∧ (∀ q, F q → Sd q ∨ w3.heap.size ≤ q) ∧ Keeps (fun k => Sd k ∨ k = v ∨ k = m) w3 wx)
     case first =>
      by_cases hlt : (s.log : Int) - st.used < (ws.length : Int) + 1
      · have Hlt := Lib.hid hlt
        go_wp2_with (go_at_call 121; refine HT.out.mono ?_; rintro e w5 ⟨rfl, k5, hV5⟩)
        go_meet
        refine ⟨grownS Sd w3.drew w5, ?_, fun q hq => hq.2, (Keeps.of_below (Below.refl w3.heap.size w3).drew).trans k5⟩
        rw [Hst.out.1]
        unfold roomV
        rw [if_pos (by have := Hlt.out; omega)]
        exact hV5.grow (by have := H3.out.1.slen; have := H3.out.1.sok.blocks; omega)
      · have Hlt := Lib.hid hlt
        have hlt' : (ws.length : Int) + 1 ≤ (s.log : Int) - st.used := by omega
        go_wp2_with fail
        go_meet
        refine ⟨Sd, ?_, fun q hq => .inl hq, Keeps.of_below (Below.refl w3.heap.size w3).drew⟩
        rw [Hst.out.1]
        unfold roomV
        rw [if_neg (by have := Hlt.out; omega)]
        exact ((H3.out.1.below (Below.refl w3.heap.size w3).drew)).grow (by omega)
     case rest =>
      obtain ⟨F, h4, hF, k4⟩ := hcut
      have hT : ∀ g c, objAt w3 g = some (.cells c 28 (0, 0)) → ¬ Sd g → ¬ (Sd g ∨ g = v ∨ g = m) := fun g c hg hn e => by
       rcases e with e | e | e
       · exact hn e
       · exact ne_of_obj hg H3.out.1.o (by decide) e
       · exact H3.out.1.map.neCells hg e
      have hbx4 := k4.obj H3.out.2.1 (hT B _ H3.out.2.1 H1.out.2.2.2.1)
      have hwr4 := WRow.keeps H3.out.2.2.1 k4 (fun g hg e => by
       obtain ⟨q, hq⟩ := RowG.obj H3.out.2.2.1 hg
       rcases e with e | e | e
       · exact H1.out.2.2.2.2.1 g hg e
       · exact ne_of_obj hq H3.out.1.o (by decide) e
       · exact H3.out.1.map.neCells hq e)
      have b0 := cell_obj hbx4 0
      have c7 := VolO.c7 h4.o
      have c8 := VolO.c8 h4.o
      have c9 := VolO.c9 h4.o
      have hP := fun w' (hb : Below wc.heap.size wc w') => recPut_any s.lb st1.epoch st1.seq (WRow.below hwr4 hb) hl h4.e32 h4.q32
      rw [Hm.out.1] at hP
      have HP := Lib.hid hP
      have hFB : ¬ F B := fun e => by
       rcases hF B e with e | e
       · exact H1.out.2.2.2.1 e
       · have := block_lt H3.out.2.1; omega
      have hFl : ∀ g, (Value.slice al ws.length capl).ownBlock = some g → ¬ F g := fun g hg e => by
       rcases hF g e with e | e
       · exact H1.out.2.2.2.2.1 g hg e
       · have := RowG.lt H3.out.2.2.1 hg; omega
      have H4 := Lib.hid (And.intro h4 (And.intro hF (And.intro k4 (And.intro hbx4 (And.intro hwr4 (And.intro hFB hFl))))))
      clear h4 hF k4 hbx4 hwr4 hP hFB hFl hT
      go_upto_region 8 with fail
      refine wp_region_F [13] (S := fun w' => w'.cell? ⟨B, 0, none⟩ = some (.pointer (some ⟨v, 0, none⟩)) ∧ w'.cell? ⟨v, 7, none⟩ = some (.int .u8 (s.lb.toNat : Int)) ∧ w'.cell? ⟨v, 8, none⟩ = some (.int .u32 st1.epoch) ∧ w'.cell? ⟨v, 9, none⟩ = some (.int .u32 st1.seq) ∧ True) (by kernel_rfl) (⟨b0, c7, c8, c9, trivial⟩) (fun hHeld => ?_)
      show wpAnyF _ _ _ _ _ _ 19 #[false, false, false, false, false, false, false, false, false, false, false, false, false, false, false, false, false, false, false] _ _
      refine gF 0 [0, 1, 2, 3, 13, 14, 15, 16, 17, 18] ?_; try simp only [Act.put, qs]
      refine gF 1 [1, 2, 3, 13, 14, 15, 16, 17, 18] ?_; try simp only [Act.put, qs]
      refine gF 2 [2, 3, 13, 14, 15, 16, 17, 18] ?_; try simp only [Act.put, qs]
      refine gF 3 [3, 13, 14, 15, 16, 17, 18] ?_; try simp only [Act.put, qs]
      refine gF 4 [4, 5, 6, 7, 13, 14, 15, 16, 17, 18] ?_; try simp only [Act.put, qs]
      refine gF 5 [5, 6, 7, 13, 14, 15, 16, 17, 18] ?_; try simp only [Act.put, qs]
      refine gF 6 [6, 7, 13, 14, 15, 16, 17, 18] ?_; try simp only [Act.put, qs]
      refine gF 7 [7, 13, 14, 15, 16, 17, 18] ?_; try simp only [Act.put, qs]
      refine gF 8 [8, 9, 10, 11, 13, 14, 15, 16, 17, 18] ?_; try simp only [Act.put, qs]
      refine gF 9 [9, 10, 11, 13, 14, 15, 16, 17, 18] ?_; try simp only [Act.put, qs]
      refine gF 10 [10, 11, 13, 14, 15, 16, 17, 18] ?_; try simp only [Act.put, qs]
      refine gF 11 [11, 13, 14, 15, 16, 17, 18] ?_; try simp only [Act.put, qs]
      refine gF 12 [12, 13, 14, 15, 16, 17, 18] ?_; try simp only [Act.put, qs]
      refine gV 13 fun K hK => ?_
      try simp only [qs]
      go_simp
      go_at_call 117; refine (HP.out _ (Below.refl _ _).drew).mono ?_; rintro e w5 ⟨v5, rfl, hr5, b5⟩; replace hr5 := hr5 rfl
      refine hK.out _ _ (trivial) (fun hN => ?_); replace hHeld := hN; clear hK K hN
      try simp only [qs]
      refine gP 14 ?_; try simp only [Act.put, qs]
      refine gP 15 ?_; try simp only [Act.put, qs]
      refine gP 16 ?_; try simp only [Act.put, qs]
      refine gP 17 ?_; try simp only [Act.put, qs]
      refine gP 18 ?_; try simp only [Act.put, qs]
      refine wpAnyF_done (by kernel_rfl) ?_ _
      have hB5 : Below wc.heap.size wc w5 := (Below.refl wc.heap.size wc).drew.trans b5
      have h5 := H4.out.1.below hB5
      have hr64 := putRec_64 (lb := s.lb) (epoch := st1.epoch) (seq := st1.seq) Hm.out.1
      obtain ⟨rows, hrows⟩ : ∃ rows, rows = putRec s.lb st1.epoch st1.seq ws := ⟨_, rfl⟩
      have hrl : rows.length = ws.length + 1 := by rw [hrows]; exact putRec_length _ _ _ _
      rw [← hrows] at hr5 hr64
      obtain ⟨g5, cap5, hv5⟩ := RowG.form hr5 (by omega)
      subst hv5
      obtain ⟨un, hun⟩ : ∃ un : Nat, st1.used = un := ⟨st1.used.toNat, by have := Hst.out.2.1; omega⟩
      have hul : un + rows.length ≤ s.log := by have := Hst.out.2.2; omega
      have hFlt : ∀ q, F q → q < wc.heap.size := H4.out.1.dev.lt
      have H5 := Lib.hid (And.intro h5 (And.intro hB5 (And.intro hr5 (And.intro hr64 (And.intro hun (And.intro hrl (And.intro hul (And.intro hrows hFlt))))))))
      clear h5 hB5 hr5 hr64 hun hrl hul hrows hFlt b5 hHeld b0 c7 c8 c9 e0
      go_wp2_with fail
      go_loopw [66] (fun i wr => ∃ (k : Nat) (F' : Nat → Prop), k ≤ rows.length ∧ i = .int .i64 k ∧ VolP wr F' v d reg s st1.epoch st1.seq (st1.used + k) gb cap m st1.bs st1.dirty (logsD st1.D reg (2 + un) (rows.take k)) (c + 210 + k) ∧ (∀ q, F' q → F q ∨ w5.heap.size ≤ q) ∧ Keeps (fun q => F q ∨ q = v) w5 wr) (fun i _ => rows.length - (Go.RowKit.intOf i).toNat)
      case atStart => exact ⟨0, F, Nat.zero_le _, rfl, by rw [Int.natCast_zero, Int.add_zero]; exact H5.out.1, fun q hq => .inl hq, Keeps.refl _ _⟩
      case round =>
       obtain ⟨k, F', hk, rfl, hV, hF', hK⟩ := hrel
       by_cases hlt : k < rows.length
       · have hlt' : (k : Int) < (rows.length : Int) := by omega
         obtain ⟨l, hl⟩ : ∃ l, rows[k]? = some l := ⟨_, List.getElem?_eq_getElem hlt⟩
         have hl64 := H5.out.2.2.2.1 l (List.mem_of_getElem? hl)
         have hnT : ∀ q, wc.drew.heap.size ≤ q → ¬ (F q ∨ q = v) := fun q hq e => by
          have hq : wc.heap.size ≤ q := hq
          rcases e with e | e
          · have := H5.out.2.2.2.2.2.2.2.2 q e; omega
          · have := H4.out.1.lt_v; omega
         have hrr := RowB.keeps H5.out.2.2.1 hK (fun g hg => hnT g (H5.out.2.2.1.own g hg)) (fun g q hg _ => hnT g hg) (S' := fun _ => True) (fun _ _ _ => trivial)
         obtain ⟨cl, hcl1, ⟨x, rfl, hx⟩, hcl⟩ := RowG.cells hrr hl
         have hcx := hcl 0 x rfl
         obtain ⟨a, q, n, rfl, hab, _, haq⟩ := hx
         have hba : BAt wr a l := ⟨hab, q, haq⟩
         rw [hl64] at hcx
         rw [show k * 1 + 0 = k by omega] at hcx
         have HL := Lib.hid (And.intro hl (And.intro hl64 (And.intro hba (And.intro hF' (And.intro hK (And.intro hk hV))))))
         clear hl hl64 hba hab hF' hK hk hcl hcl1 hrr hnT haq
         go_upto_region 12 with fail
         have hbx6 := HL.out.2.2.2.2.1.obj (grow_obj H5.out.2.1 H4.out.2.2.2.1) (fun e => e.elim H4.out.2.2.2.2.2.1 (fun e => ne_of_obj H4.out.2.2.2.1 H4.out.1.o (by decide) e))
         have b0 := cell_obj hbx6 0
         have hO := VolP.o HL.out.2.2.2.2.2.2
         have c0 := VolO.c0 hO
         have c1 := VolO.c1 hO
         have c2 := VolO.c2 hO
         have c3 := VolO.c3 hO
         have c4 := VolO.c4 hO
         have c5 := VolO.c5 hO
         have c6 := VolO.c6 hO
         have c10 := VolO.c10 hO
         rw [show st1.used + (k : Int) = ((un + k : Nat) : Int) by rw [H5.out.2.2.2.2.1]; rfl] at c10
         have hun2 : un + k < s.log := by have := H5.out.2.2.2.2.2.2.1; omega
         have hi : 2 + (un + k) < s.size := by unfold Sh.size; omega
         have hV6 := HL.out.2.2.2.2.2.2
         have Hlg := Lib.hid (fun w' => Log_any s hV6.sok (un + k) hun2 w')
         have Hwr := Lib.hid (fun w' (hb : Below wr.heap.size wr w') => Write_at (hV6.dev.below hb) (by omega) hV6.has (2 + (un + k)) hi HL.out.2.1 (HL.out.2.2.1.below hb) (cap := n))
         have HO := Lib.hid (And.intro hbx6 hO)
         clear hbx6 hO hun2 hi hV6
         refine wp_region_F [18] (S := fun w' => w'.cell? ⟨B, 0, none⟩ = some (.pointer (some ⟨v, 0, none⟩)) ∧ w'.cell? ⟨v, 0, none⟩ = some (.pointer (some ⟨d, 0, none⟩)) ∧ w'.cell? ⟨v, 1, none⟩ = some (.int .i64 reg) ∧ w'.cell? ⟨v, 2, none⟩ = some (.int .i64 s.level) ∧ w'.cell? ⟨v, 3, none⟩ = some (.int .i64 s.cats) ∧ w'.cell? ⟨v, 4, none⟩ = some (.int .i64 s.blocks) ∧ w'.cell? ⟨v, 5, none⟩ = some (.int .i64 s.log) ∧ w'.cell? ⟨v, 6, none⟩ = some (.int .i64 s.frames) ∧ w'.cell? ⟨v, 10, none⟩ = some (.int .i64 (un + k : Nat)) ∧ True) (by kernel_rfl) (⟨b0, c0, c1, c2, c3, c4, c5, c6, c10, trivial⟩) (fun hHeld => ?_)
         show wpAnyF _ _ _ _ _ _ 19 #[false, false, false, false, false, false, false, false, false, false, false, false, false, false, false, false, false, false, false] _ _
         refine gF 0 [0, 1, 2, 3, 18] ?_; try simp only [Act.put, qs]
         refine gF 1 [1, 2, 3, 18] ?_; try simp only [Act.put, qs]
         refine gF 2 [2, 3, 18] ?_; try simp only [Act.put, qs]
         refine gF 3 [3, 18] ?_; try simp only [Act.put, qs]
         refine gF 4 [4, 5, 6, 7, 18] ?_; try simp only [Act.put, qs]
         refine gF 5 [5, 6, 7, 18] ?_; try simp only [Act.put, qs]
         refine gF 6 [6, 7, 18] ?_; try simp only [Act.put, qs]
         refine gF 7 [7, 18] ?_; try simp only [Act.put, qs]
         refine gF 8 [8, 9, 10, 11, 16, 18] ?_; try simp only [Act.put, qs]
         refine gF 9 [9, 10, 11, 16, 18] ?_; try simp only [Act.put, qs]
         refine gF 10 [10, 11, 16, 18] ?_; try simp only [Act.put, qs]
         refine gF 11 [11, 16, 18] ?_; try simp only [Act.put, qs]
         refine gF 12 [12, 13, 14, 15, 16, 18] ?_; try simp only [Act.put, qs]
         refine gF 13 [13, 14, 15, 16, 18] ?_; try simp only [Act.put, qs]
         refine gF 14 [14, 15, 16, 18] ?_; try simp only [Act.put, qs]
         refine gF 15 [15, 16, 18] ?_; try simp only [Act.put, qs]
         refine gF 17 [17, 18] ?_; try simp only [Act.put, qs]
         refine gW 16 fun K hK => ?_
         try simp only [qs]
         go_simp
         go_at_call 123; refine (Hlg.out _).mono ?_; rintro e x3 ⟨rfl, b3⟩; have hx3 : Below wr.heap.size wr x3 := (Below.refl _ _).drew.trans b3
         refine hK.out _ _ (by exact ⟨grow_cell hx3 b0, grow_cell hx3 c0, grow_cell hx3 c1, grow_cell hx3 c2, grow_cell hx3 c3, grow_cell hx3 c4, grow_cell hx3 c5, grow_cell hx3 c6, grow_cell hx3 c10, trivial⟩) (fun hN => ?_); replace hHeld := hN; clear hK K hN
         try simp only [qs]
         refine gV 18 fun K hK => ?_
         try simp only [qs]
         go_simp
         go_at_call 122; refine (Hwr.out _ hx3).mono ?_; rintro e x4 ⟨rfl, k4, d4⟩
         refine hK.out _ _ (trivial) (fun hN => ?_); replace hHeld := hN; clear hK K hN
         try simp only [qs]
         refine wpAnyF_done (by kernel_rfl) ?_ _
         have hst : DevStep F' wr x4 d ((logsD st1.D reg (2 + un) (rows.take k)).write reg (2 + (un + k)) l) (c + 210 + k + 1) := DevStep.pre hx3 ⟨k4, d4⟩
         have h4 := HL.out.2.2.2.2.2.2.step hst (Dv.has_write HL.out.2.2.2.2.2.2.has)
         have hBF' : ¬ F' B := fun e => by
          rcases HL.out.2.2.2.1 B e with e | e
          · exact H4.out.2.2.2.2.2.1 e
          · have := block_lt (grow_obj H5.out.2.1 H4.out.2.2.2.1); omega
         have hbx7 := hst.obj HO.out.1 hBF'
         have c10 := VolO.c10 h4.o
         have f10 := VolO.free h4.o 10
         rw [show st1.used + (k : Int) = ((un + k : Nat) : Int) by rw [H5.out.2.2.2.2.1]; rfl] at c10
         have b0 := cell_obj hbx7 0
         have hkb : k < 13 := by have := H5.out.2.2.2.2.2.1; omega
         have hub : un + k < 100 := by have := H5.out.2.2.2.2.2.2.1; omega
         have h5 := h4.set 10 (.int .i64 (un + k + 1 : Nat)) (used' := st1.used + (k + 1 : Nat)) h4.e32 h4.q32 (by have := H5.out.2.2.2.2.2.2.1; have := H5.out.2.2.2.2.1; omega) (by rw [H5.out.2.2.2.2.1, show (un : Int) + ((k + 1 : Nat) : Int) = ((un + k + 1 : Nat) : Int) by omega]; rfl)
         have H6 := Lib.hid (And.intro h5 (And.intro hst hbx7))
         clear h4 h5 hst hbx7 hBF' hHeld c0 c1 c2 c3 c4 c5 c6 d4 k4 b3 hx3 hcx
         go_wp2_with fail
         go_roundw
         case rel =>
          refine ⟨k + 1, grownS F' wr x4, by omega, by go_num, ?_, fun q hq => ?_, ?_⟩
          · rw [logsD_take _ _ _ HL.out.1, show 2 + un + k = 2 + (un + k) by omega, show c + 210 + (k + 1) = c + 210 + k + 1 by omega]
            exact H6.out.1
          · rcases hq.2 with e | e
            · exact HL.out.2.2.2.1 q e
            · exact .inr (Nat.le_trans HL.out.2.2.2.2.1.size e)
          · exact (HL.out.2.2.2.2.1.chain H6.out.2.1.keeps (fun q e h => (HL.out.2.2.2.1 q h).elim .inl (fun h => absurd e (Nat.not_lt.2 h)))).trans (Keeps.setCell _ _ _ (.inr rfl))
         case measure => simp [Go.RowKit.intOf]; omega
       · obtain rfl : k = rows.length := by omega
         rw [List.take_length] at hV
         have hbx6 := hK.obj (grow_obj H5.out.2.1 H4.out.2.2.2.1) (fun e => e.elim H4.out.2.2.2.2.2.1 (fun e => ne_of_obj H4.out.2.2.2.1 H4.out.1.o (by decide) e))
         have b0 := cell_obj hbx6 0
         have c9 := VolO.c9 hV.o
         have f9 := VolO.free hV.o 9
         obtain ⟨q7, hq7⟩ : ∃ q7, q7 = (st1.seq + 1) % 4294967296 := ⟨_, rfl⟩
         have h7 := hV.set 9 (.int .u32 (q7 : Nat)) (seq' := q7) hV.e32 (by rw [hq7]; exact Nat.mod_lt _ (by decide)) hV.ub rfl
         have hw1 : IntKind.u32.wrap ((st1.seq : Int) + 1) = (q7 : Int) := by rw [hq7]; exact wrap_u32 (st1.seq + 1)
         have Hq7 := Lib.hid hq7
         clear hq7
         have H7 := Lib.hid (And.intro h7 (And.intro hF' (And.intro hK hbx6)))
         clear h7 hV hF' hK hbx6
         go_upto_region 16 with fail
         have hwn := (mayRec_iff.1 Hm.out.1).2.1
         obtain ⟨gl, capl', hvl⟩ := RowG.form H4.out.2.2.2.2.1 (by omega)
         rw [Value.slice.injEq] at hvl
         obtain ⟨hal, _, rfl⟩ := hvl
         subst hal
         obtain ⟨w7, hw7⟩ : ∃ w7, w7 = wr.setCell ⟨v, 9, none⟩ (.int .u32 (q7 : Nat)) := ⟨_, rfl⟩
         have h7 := H7.out.1
         have hk9 : Keeps (fun q => F q ∨ q = v) w5 w7 := by rw [hw7]; exact H7.out.2.2.1.trans (Keeps.setCell _ _ _ (.inr rfl))
         rw [← hw7] at h7
         have hbx7 : objAt w7 B = some (.cells #[.pointer (some ⟨v, 0, none⟩)] 28 (0, 0)) := by
          rw [hw7]; exact (Keeps.setCell (S := fun q => q = v) _ _ _ rfl).obj H7.out.2.2.2 (fun e => ne_of_obj H4.out.2.2.2.1 H4.out.1.o (by decide) e)
         have hwr7 := WRow.keeps (WRow.below H4.out.2.2.2.2.1 H5.out.2.1) hk9 (fun g hg e => by
          obtain ⟨q, hq⟩ := RowG.obj H4.out.2.2.2.2.1 hg
          rcases e with e | e
          · exact H4.out.2.2.2.2.2.2 g hg e
          · exact ne_of_obj hq H4.out.1.o (by decide) e)
         have hgl : gl < w7.heap.size := RowG.lt hwr7 rfl
         have H8 := Lib.hid (And.intro h7 (And.intro H7.out.2.1 (And.intro hk9 (And.intro hbx7 (And.intro hwr7 (And.intro hgl (And.intro hwn hw7)))))))
         obtain ⟨D7, hD7⟩ : ∃ D7, D7 = logsD st1.D reg (2 + un) rows := ⟨_, rfl⟩
         obtain ⟨u7, hu7⟩ : ∃ u7 : Int, u7 = st1.used + (rows.length : Nat) := ⟨_, rfl⟩
         rw [← hD7, ← hu7] at H8
         rw [← hw7]
         have H9 := Lib.hid (And.intro hD7 (And.intro Hq7.out hu7))
         clear h7 hk9 hbx7 hwr7 hgl hwn hw7 H7 b0 c9 f9 hw1 hD7 hu7 hlt hk Hq7
         go_wp2_with fail
         go_loopw [106] (fun i wr => ∃ (k : Nat), k ≤ ws.length ∧ i = .int .i64 k ∧ VolP wr F' v d reg s st1.epoch q7 u7 gb cap m (overlay st1.bs (ws.take k)) (touch st1.dirty (ws.take k)) D7 (c + 210 + rows.length) ∧ Keeps (fun q => q = gb ∨ q = m) w7 wr) (fun i _ => ws.length - (Go.RowKit.intOf i).toNat)
         case atStart => exact ⟨0, Nat.zero_le _, rfl, H8.out.1, Keeps.refl _ _⟩
         case round =>
          obtain ⟨k, hk, rfl, hV, hK⟩ := hrel
          by_cases hlt : k < ws.length
          · have hlt' : (k : Int) < (ws.length : Int) := by omega
            obtain ⟨x, hx⟩ : ∃ x, ws[k]? = some x := ⟨_, List.getElem?_eq_getElem hlt⟩
            have hx1 := mayRec_at Hm.out.1 hx
            have hx2 := pastEnd_at Hm.out.2.1.symm hx
            have hwr8 := WRow.keeps H8.out.2.2.2.2.1 hK (fun g hg e => by
             obtain ⟨q, hq⟩ := RowG.obj H8.out.2.2.2.2.1 hg
             rcases e with e | e
             · obtain ⟨cur, hg2, _⟩ := H8.out.1.row.obj
               exact ne_of_obj hq hg2 (by decide) e
             · exact H8.out.1.map.neCells hq e)
            have hb8 := hK.obj H8.out.2.2.2.1 (fun e => by
             rcases e with e | e
             · obtain ⟨cur, hg2, _⟩ := H8.out.1.row.obj
               exact ne_of_obj H8.out.2.2.2.1 hg2 (by decide) e
             · exact H8.out.1.map.neCells H8.out.2.2.2.1 e)
            have r1 := WRow.row hwr8 hx
            have r2 := WRow.has hwr8 hx
            have hgl2 : gl < wr.heap.size := RowG.lt hwr8 rfl
            have HL := Lib.hid (And.intro hx (And.intro hx1 (And.intro hx2 (And.intro hb8 (And.intro hV (And.intro hK hk))))))
            clear hx hx1 hx2 hwr8 hb8 hV hK hk
            go_upto_region 19 with fail
            obtain ⟨G, hG⟩ : ∃ G, G = wr.heap.size := ⟨_, rfl⟩
            obtain ⟨w8, hw8⟩ : ∃ w8, w8 = wr.alloc (.cells x.cells 52) := ⟨_, rfl⟩
            have hx8 : WrAt w8 G x := by rw [hw8, hG]; exact WrAt.new wr x
            have hb8 : Below wr.heap.size wr w8 := by rw [hw8]; exact grow_alloc (Below.refl _ _) _
            rw [← hw8, ← hG]
            obtain ⟨j, hj⟩ : ∃ j : Nat, x.at_ = j := ⟨x.at_.toNat, by have := HL.out.2.1; omega⟩
            obtain ⟨nb, hnb⟩ : ∃ nb, nb = (overlay st1.bs (ws.take k)).length := ⟨_, rfl⟩
            have hnb2 : nb = s.blocks := by rw [hnb]; exact HL.out.2.2.2.2.1.slen.symm
            have hV8 := HL.out.2.2.2.2.1.below (hb8.drew)
            have hjn : j < nb := by have := HL.out.2.2.1; omega
            have h9 := hV8.setRow (i := j) (b := x.b) (by rw [← hnb]; exact hjn) ⟨HL.out.2.1.1, HL.out.2.1.2.1⟩
            have b0 : w8.drew.cell? ⟨B, 0, none⟩ = some (.pointer (some ⟨v, 0, none⟩)) := cell_obj (grow_obj hb8 HL.out.2.2.2.1) 0
            have c11 := VolO.c11 hV8.o
            have c12 := VolO.c12 hV8.o
            rw [← hnb] at c11
            have g0 : w8.drew.cell? ⟨G, 0, none⟩ = some (.int .i64 (j : Nat)) := by rw [← hj]; exact hx8.c0
            have o1 : hasOff w8.drew G 1 = true := hx8.has
            have o2 : rowOff w8.drew G 1 = some x.b.cells := hx8.off
            have o3 := hV8.row.has j (by rw [← hnb]; exact hjn)
            have hGb : G ≠ gb := by
             obtain ⟨cur, hg2, _⟩ := hV8.row.obj
             exact ne_of_obj (show objAt w8.drew G = _ from hx8) hg2 (by decide)
            have hvb : v ≠ gb := by
             obtain ⟨cur, hg2, _⟩ := hV8.row.obj
             exact ne_of_obj hV8.o hg2 (by decide)
            have hBb : B ≠ gb := by
             obtain ⟨cur, hg2, _⟩ := HL.out.2.2.2.2.1.row.obj
             exact ne_of_obj HL.out.2.2.2.1 hg2 (by decide)
            have hjn' : (j : Int) < (nb : Int) := by omega
            have hj2 : j < 200 := by have := HL.out.2.1.2.2.2; omega
            have hf := h9.map.few h9.keys
            rw [List.length_set, ← hnb] at hf
            have hf2 := Nat.le_trans hf (by rw [hnb2]; exact hV8.sok.blocks)
            have hK9 := putOff_keeps w8.drew gb (j * 57) x.b.cells
            have hx9 : WrAt (putOff w8.drew gb (j * 57) x.b.cells) G x := hK9.obj (show objAt w8.drew G = _ from hx8) hGb
            have p11 := VolO.c11 h9.o
            rw [List.length_set, ← hnb] at p11
            have HP9 := Lib.hid (And.intro (cell_obj (hK9.obj (grow_obj hb8.drew HL.out.2.2.2.1) hBb) 0) (And.intro p11 (And.intro (VolO.c12 h9.o) (And.intro (hj ▸ hx9.c0) (And.intro hx9.has (And.intro hx9.off (And.intro (h9.row.has j (by rw [List.length_set, ← hnb]; exact hjn)) trivial)))))))
            have hkp := (Keeps.of_below (S := fun q => q = gb) hb8.drew).trans hK9
            have HW := Lib.hid (And.intro h9 (And.intro hb8 (And.intro hx8 (And.intro hGb (And.intro hvb (And.intro hBb (And.intro hf2 (And.intro hj (And.intro hnb (And.intro hV8 hkp))))))))))
            clear hK9 hx9 p11 hkp h9 hb8 hx8 hGb hvb hBb hf hf2 hj hnb hnb2 hV8 hw8 hG r1 r2 hgl2
            refine wp_region_F [16, 18] (S := fun w' => w'.cell? ⟨B, 0, none⟩ = some (.pointer (some ⟨v, 0, none⟩)) ∧ w'.cell? ⟨v, 11, none⟩ = some (.slice (some ⟨gb, 0, none⟩) nb cap) ∧ w'.cell? ⟨v, 12, none⟩ = some (.map (some m)) ∧ w'.cell? ⟨G, 0, none⟩ = some (.int .i64 (j : Nat)) ∧ hasOff w' G 1 = true ∧ rowOff w' G 1 = some x.b.cells ∧ hasOff w' gb (j * 57) = true ∧ True) (by kernel_rfl) (⟨b0, c11, c12, g0, o1, o2, o3, trivial⟩) (fun hHeld => ?_)
            show wpAnyF _ _ _ _ _ _ 19 #[false, false, false, false, false, false, false, false, false, false, false, false, false, false, false, false, false, false, false] _ _
            refine gF 0 [0, 1, 2, 3, 14, 15, 16, 17, 18] ?_; try simp only [Act.put, qs]
            refine gF 1 [1, 2, 3, 14, 15, 16, 17, 18] ?_; try simp only [Act.put, qs]
            refine gF 2 [2, 3, 14, 15, 16, 17, 18] ?_; try simp only [Act.put, qs]
            refine gF 3 [3, 14, 15, 16, 17, 18] ?_; try simp only [Act.put, qs]
            refine gF 4 [4, 5, 14, 15, 16, 17, 18] ?_; try simp only [Act.put, qs]
            refine gF 5 [5, 14, 15, 16, 17, 18] ?_; try simp only [Act.put, qs]
            refine gF 6 [6, 7, 8, 9, 14, 15, 16, 17, 18] ?_; try simp only [Act.put, qs]
            refine gF 7 [7, 8, 9, 14, 15, 16, 17, 18] ?_; try simp only [Act.put, qs]
            refine gF 8 [8, 9, 14, 15, 16, 17, 18] ?_; try simp only [Act.put, qs]
            refine gF 9 [9, 14, 15, 16, 17, 18] ?_; try simp only [Act.put, qs]
            refine gF 10 [10, 11, 16, 17, 18] ?_; try simp only [Act.put, qs]
            refine gF 11 [11, 16, 17, 18] ?_; try simp only [Act.put, qs]
            refine gF 12 [12, 13, 14, 15, 16, 17, 18] ?_; try simp only [Act.put, qs]
            refine gF 13 [13, 14, 15, 16, 17, 18] ?_; try simp only [Act.put, qs]
            refine gF 14 [14, 15, 16, 17, 18] ?_; try simp only [Act.put, qs]
            refine gW 15 fun K hK => ?_
            try simp only [qs]
            go_simp
            refine hK.out _ _ (by exact HP9.out) (fun hN => ?_); replace hHeld := hN; clear hK K hN
            try simp only [qs]
            refine gV 16 fun K hK => ?_
            refine step_entryI rfl 34 3 4 _ _ rfl HW.out.1.map Tryz.underlying34 Tryz.underlying3 (zero_bool _) rfl rfl (by omega) (by omega) (by have := HW.out.2.2.2.2.2.2.1; omega) ?_; intro w9 ve ve' stamp hm9 he9 hk9
            refine hK.out _ _ (trivial) (fun hN => ?_); replace hHeld := hN; clear hK K hN
            try simp only [Act.put, qs]
            refine gP 17 ?_; try simp only [Act.put, qs]
            refine gV 18 fun K hK => ?_
            refine step_entryStoreI rfl 34 _ _ _ rfl hm9 he9 ((keys_up _ _).2 (.inl rfl)) rfl rfl rfl ?_; intro w10 hm10 hk10
            refine hK.out _ _ (trivial) (fun hN => ?_); replace hHeld := hN; clear hK K hN
            try simp only [Act.put, qs]
            refine wpAnyF_done (by kernel_rfl) ?_ _
            rw [up_up] at hm10
            have h11 := HW.out.1.setMap hm10 (hk9.trans hk10) (fun q hq => by
             rcases (keys_up _ _).1 hq with rfl | hq
             · rw [List.length_set, ← HW.out.2.2.2.2.2.2.2.2.1]; omega
             · exact HW.out.1.keys q hq)
            have H11 := Lib.hid (And.intro h11 ((HW.out.2.2.2.2.2.2.2.2.2.2.mono (fun _ _ h => Or.inl h)).trans ((hk9.trans hk10).mono (fun _ _ h => Or.inr h))))
            clear h11 hHeld hm9 he9 hk9 hm10 hk10 b0 c11 c12 g0 o1 o2 o3
            go_wp2_with fail
            go_roundw
            case rel => exact ⟨k + 1, by omega, by go_num, by rw [overlay_take _ HL.out.1, touch_take _ HL.out.1, HW.out.2.2.2.2.2.2.2.1]; exact H11.out.1, HL.out.2.2.2.2.2.1.trans H11.out.2⟩
            case measure => simp [Go.RowKit.intOf]; omega
          · obtain rfl : k = ws.length := by omega
            rw [List.take_length] at hV
            have H10 := Lib.hid (And.intro hV hK)
            clear hV hK hk hlt
            go_wp2_with fail
            go_ret
            have hw13 := H1.out.2.2.2.2.2.1.trans (H3.out.2.2.2.mono H1.out.2.2.2.2.2.1.size)
            have hs3 := hw13.size
            have hs4 := H4.out.2.2.1.size
            have hs5 := H5.out.2.1.size
            have hs7 := H8.out.2.2.1.size
            have hs8 := H10.out.2.size
            have hnw : ∀ q, F q → Sd q ∨ w3.heap.size ≤ q := H4.out.2.1
            refine ⟨fun h => (by rw [Hm.out.2.2] at h; cases h), fun _ => ⟨rfl, ?_, ?_⟩⟩
            · refine ((((Keeps.of_below hw13).trans (H4.out.2.2.1.mono fun q _ h => h.imp id (fun h => h.imp id .inl))).trans (Keeps.of_below H5.out.2.1)).chain H8.out.2.2.1 (fun q hq h => ?_)).trans (H10.out.2.mono fun q _ h => .inr (.inr h.symm))
              rcases h with h | h
              · rcases hnw q h with h | h
                · exact .inl h
                · omega
              · exact .inr (.inl h)
            · have hV := H10.out.1
              rw [H9.out.2.1, H9.out.2.2, H9.out.1, H5.out.2.2.2.2.2.2.2.1, putRec_length] at hV
              have hu : st1.used.toNat = un := by rw [H5.out.2.2.2.2.1]; rfl
              unfold changeV
              rw [← Hst.out.1]
              unfold writeV
              rw [← hu] at hV
              refine hV.refoot (fun q hq => ⟨hV.dev.lt q hq, ?_⟩) (fun q hq => hq.1) (fun e => ?_) (fun e => ?_) (fun e => ?_) (by omega)
              · rcases H8.out.2.1 q hq with h | h
                · rcases hnw q h with h | h
                  · exact .inl h
                  · exact .inr (by omega)
                · exact .inr (by omega)
              · have := H0.out.lt_v
                rcases e.2 with h | h
                · exact H0.out.nv h
                · omega
              · have := H0.out.lt_m
                rcases e.2 with h | h
                · exact H0.out.nm h
                · omega
              · have := H0.out.lt_b
                rcases e.2 with h | h
                · exact H0.out.nb h
                · omega
end
end Go.Proofs.YtbbnejehglonjaaGreat
