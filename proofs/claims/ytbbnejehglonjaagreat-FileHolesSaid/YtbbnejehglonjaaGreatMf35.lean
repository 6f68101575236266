/- DERIVED. Contracts and laws that the proofs of this seat share, part 35 of 36: FjA FjC LibB LibBg. -/
import Derived.ProofKit
import Derived.OpenShut
import Derived.Deep.Slices
import Derived.Test.YtbbnejehglonjaaGreatMf00
import Derived.Test.YtbbnejehglonjaaGreatMf02
import Derived.Test.YtbbnejehglonjaaGreatMf34
namespace Go.Proofs.YtbbnejehglonjaaGreat
set_option maxHeartbeats 8000000
set_option maxRecDepth 100000
set_option linter.unusedSimpArgs false
set_option linter.unusedVariables false
section
open Go.RowKit
attribute [local irreducible] Calls

theorem Fl.cnt_le (f : Fl) : f.cnt ≤ 21 := by
 unfold Fl.cnt
 have := List.length_filter_le (fun k => f.slot k != -1) (List.range 20)
 rw [List.length_range] at this
 split <;> omega
theorem WI.room {B : List Blk} {T : ML} {f0 f : Fl} {c : Nat → UInt8} (h : WI B T f0 f c) (hl : 32 ≤ B.length) : 8 ≤ leftT B T := by
 have h1 := h.left
 have h2 := f.cnt_le
 omega
theorem step_mk {t e : TypeId} {n : Nat} {C : Array Value} {ops : Array Oper} {o : Oper} {a b0 : Act} {w : World} {K : Act → World → Prop} {Q : Exit → Act → World → Prop} {F : Prop} (hgd : o.guard = none) (ho : o.op = .makeSlice t (.const (.int .i64 n)) (.const (.int .i64 n)))
 (hr : (Instr.makeSlice t (.int .i64 n) (.int .i64 n)).run Tryz.prog w = .ok (.slice (some ⟨w.heap.size, 0, none⟩) n n) (w.alloc (.cells C e)))
 (h : ∀ g w', g = w.heap.size → w' = w.alloc (.cells C e) → K (a.put o.dst (.slice (some ⟨g, 0, none⟩) n n)) w') :
 if Region.wanted o (yielded ops b0.tmps) = true then Oper.wp Tryz.prog o a w K Q else F := by
 have hw : Region.wanted o (yielded ops b0.tmps) = true := by simp [Region.wanted, hgd]
 rw [if_pos hw]
 unfold Oper.wp execOp
 simp only [ho, Act.eval, Sem.run_bind]
 rw [hr]
 exact h _ _ rfl rfl
def noughts (n : Nat) : Array Value := (List.replicate n (.int .u8 0)).toArray
theorem mkB (n : Nat) (hn : n ≤ 100000) (w : World) : (Instr.makeSlice 22 (.int .i64 (n : Nat)) (.int .i64 (n : Nat))).run Tryz.prog w = .ok (.slice (some ⟨w.heap.size, 0, none⟩) n n) (w.alloc (.cells (noughts n) 5)) := by
 obtain ⟨i, z, hi, hz, hs, hby, hzs⟩ := infoByte
 have hz' : i.zero = some (.int .u8 0) := by
  have : (Tryz.prog.info? 5).map (·.zero) = some (some (.int .u8 0)) := by kernel_rfl
  rw [hi] at this; simpa using this
 have := run_make1 22 5 i (.int .u8 0) Tryz.underlying22 hi hz' rfl hs (by omega) (n : Int) w (by omega) (by omega)
 exact this
theorem noughts_at {w : World} {g n : Nat} {e : TypeId} (h : objAt w g = some (.cells (noughts n) e (0, 0))) : BytesAt w (some ⟨g, 0, none⟩) (List.replicate n 0) := by
 refine ⟨g, 0, fun _ => rfl, fun i hi => ?_⟩
 rw [List.length_replicate] at hi
 rw [cell_of_row w g (0 + i) _ _ _ h, Nat.zero_add]
 unfold noughts
 rw [List.getElem_replicate, List.getElem?_toArray, List.getElem?_replicate, if_pos hi]; rfl

theorem noBytes {w : World} {ad : Option Addr} : BytesAt w ad [] := ⟨0, 0, fun h => absurd h (by simp), fun i hi => absurd hi (by simp)⟩
section
variable {w : World} {Sd : Nat → Prop} {t v mp mt : Nat} {L : PL} {T : ML} {d reg : Nat} {s : Sh} {gb cap m : Nat} {st : VSt} {c : Nat} {f : Fl} {cc : Nat → UInt8}
theorem tWriteR (H : TxV w Sd t v mp mt L T d reg s gb cap m st c) (hw : WI (txV L st.bs) T f f cc) (hn : 32 ≤ st.bs.length) {off : Nat} {data : List UInt8} (ho : off < 1120) (hd : data ≠ []) {ad : Option Addr} {dc : Nat} (hda : BytesAt w ad data) (hdl : data.length ≤ 100000) (hdc : data.length ≤ dc) :
 Calls Tryz.prog 35 #[.pointer (some ⟨t, 0, none⟩), .int .i64 1, .int .i64 (off : Int), .slice ad data.length dc] w fun e w' => e = .returned (.tuple #[.int .i64 (wMany data off : Nat), .int .i64 0]) ∧
  ∃ (L' : PL) (T' : ML) (f' : Fl), TxV w' Sd t v mp mt L' T' d reg s gb cap m st c ∧ Wrote st.bs L L' T' f f' (ov cc data off off (off + wMany data off)) off (off + wMany data off) ∧ Keeps (fun q => q = mp ∨ q = mt) w w' :=
 tWrite H hw ho hd (hw.room (by rw [txV_length]; exact hn)) hda hdl hdc
theorem tWriteN (H : TxV w Sd t v mp mt L T d reg s gb cap m st c) (hw : WI (txV L st.bs) T f f cc) (hn : 32 ≤ st.bs.length) {off : Nat} {data : List UInt8} {ad : Option Addr} {dc dl M : Nat} {offi Mi : Int} (hda : BytesAt w ad data) (ho : off < 1120) (hd : data ≠ []) (hl : data.length = dl) (hdl : dl ≤ 100000) (hdc : dl ≤ dc) (hoi : (off : Int) = offi) (hM : wMany data off = M) (hMi : (M : Int) = Mi) :
 Calls Tryz.prog 35 #[.pointer (some ⟨t, 0, none⟩), .int .i64 1, .int .i64 offi, .slice ad dl dc] w fun e w' => e = .returned (.tuple #[.int .i64 Mi, .int .i64 0]) ∧
  ∃ (L' : PL) (T' : ML) (f' : Fl), TxV w' Sd t v mp mt L' T' d reg s gb cap m st c ∧ Wrote st.bs L L' T' f f' (ov cc data off off (off + M)) off (off + M) ∧ Keeps (fun q => q = mp ∨ q = mt) w w' := by
 subst hl hoi hM hMi
 exact tWriteR H hw hn ho hd hda hdl hdc
theorem tWriteE (H : TxV w Sd t v mp mt L T d reg s gb cap m st c) (hr : FRest (txV L st.bs) f cc) {off : Int} {data : List UInt8} {x : Int} {dl : Nat} (hl : data.length = dl) (h : flOf (txV L st.bs) 1 = some f → writeF st.bs L T 1 off data = ((0, x), L, T)) {ad : Option Addr} {dc : Nat} (hda : BytesAt w ad data) (hdl : dl ≤ 100000) (hdc : dl ≤ dc) :
 Calls Tryz.prog 35 #[.pointer (some ⟨t, 0, none⟩), .int .i64 1, .int .i64 off, .slice ad dl dc] w fun e w' => e = .returned (.tuple #[.int .i64 0, .int .i64 x]) ∧ TxV w' Sd t v mp mt L T d reg s gb cap m st c ∧ Keeps (fun q => q = mp ∨ q = mt) w w' := by
 subst hl
 have := fWrite_any H 1 off hda hdl hdc
 rw [h hr.flOf] at this
 exact this
end
end
section
open Go.RowKit
attribute [local irreducible] Calls
section
variable {w : World} {Sd : Nat → Prop} {t v mp mt : Nat} {L : PL} {T : ML} {d reg : Nat} {s : Sh} {gb cap m : Nat} {st : VSt} {c : Nat} {f : Fl} {cc : Nat → UInt8}
theorem TxV.keepsB {w' : World} {S : Nat → Prop} {K : Nat} (h : TxV w Sd t v mp mt L T d reg s gb cap m st c) (hk : Keeps S w w') (hS : ∀ q, S q → K ≤ q) (hlt : ∀ q, Sd q → q < K) (hv : v < K) (hm : m < K) (hg : gb < K) (h1 : ¬ S t) (h2 : ¬ S mp) (h3 : ¬ S mt) : TxV w' Sd t v mp mt L T d reg s gb cap m st c :=
 ⟨h.tx.keeps hk h1 h2 h3, VolP.keeps h.vol hk (fun g hg e => by have := hlt g hg; have := hS g e; omega) (fun e => by have := hS _ e; omega) (fun e => by have := hS _ e; omega) (fun e => by have := hS _ e; omega), h.ap⟩
structure Puts (bs : List Blk) (L' : PL) (T' : ML) (f f' : Fl) (c : Nat → UInt8) (off : Nat) (data : List UInt8) : Prop where
 wi : WI (txV L' bs) T' f' f' (ov c data off off (off + data.length))
 slot : ∀ k, f'.slot k = -1 ↔ f.slot k = -1 ∧ ¬ hitB off (off + data.length) k
 idx : f'.n.index = -1 ↔ f.n.index = -1 ∧ (data = [] ∨ off + data.length ≤ 224)
 size : f'.n.size = if data = [] then f.n.size else max f.n.size (off + data.length : Nat)
theorem tPut (H : TxV w Sd t v mp mt L T d reg s gb cap m st c) (hw : WI (txV L st.bs) T f f cc) (hn : 32 ≤ st.bs.length) {off : Nat} {data : List UInt8} {ad : Option Addr} {dc dl : Nat} (hda : BytesAt w ad data) (ho : off + 150 < 1120) (hl : data.length = dl) (hdl : dl ≤ 150) (hdc : dl ≤ dc) :
 Calls Tryz.prog 35 #[.pointer (some ⟨t, 0, none⟩), .int .i64 1, .int .i64 (off : Int), .slice ad dl dc] w fun e w' => e = .returned (.tuple #[.int .i64 dl, .int .i64 0]) ∧
  ∃ (L' : PL) (T' : ML) (f' : Fl), TxV w' Sd t v mp mt L' T' d reg s gb cap m st c ∧ Puts st.bs L' T' f f' cc off data ∧ Keeps (fun q => q = mp ∨ q = mt) w w' := by
 by_cases hd : data = []
 · subst hd
   subst hl
   refine (tWriteE (off := (off : Int)) (x := 0) (data := []) (dl := 0) H hw.mid rfl (fun h => ?_) hda (by decide) hdc).mono ?_
   · unfold writeF; rw [h]; dsimp only; rw [if_neg (by omega), if_pos rfl]
   · rintro e w' ⟨he, hT, hk⟩
     refine ⟨he, L, T, f, hT, ⟨?_, fun k => ⟨fun h => ⟨h, fun e => ?_⟩, And.left⟩, ⟨fun h => ⟨h, .inl rfl⟩, And.left⟩, by rw [if_pos rfl]⟩, hk⟩
     · have e : ov cc [] off off (off + ([] : List UInt8).length) = cc := by
        funext i
        unfold ov
        rw [if_neg (by simp only [List.length_nil]; omega)]
       rw [e]; exact hw
     · have := e.1; simp at this
 · have hm : wMany data off = dl := by unfold wMany; omega
   refine (tWriteN (off := off) (M := dl) (Mi := (dl : Int)) H hw hn hda (by omega) hd hl (by omega) hdc rfl hm rfl).mono ?_
   rintro e w' ⟨he, L', T', f', hT, hW, hk⟩
   subst hl
   exact ⟨he, L', T', f', hT, ⟨hW.wi, hW.slot, by rw [hW.idx]; exact and_congr_right fun _ => ⟨.inr, fun e => e.resolve_left hd⟩, by rw [if_neg hd, hW.size]⟩, hk⟩
theorem tLeftP (H : TxV w Sd t v mp mt L T d reg s gb cap m st c) (hp : ∀ k ∈ keysL T, 0 ≤ k) :
 Calls Tryz.prog 28 #[.pointer (some ⟨t, 0, none⟩)] w fun e w' => e = .returned (.int .i64 (leftT (txV L st.bs) T : Nat)) ∧ Below w.heap.size w w' := by
 refine (txLeft_any H.tx H.vol).mono ?_
 rintro e w' ⟨U, hU, rfl, hb⟩
 refine ⟨?_, hb⟩
 have h2 := used_setsT (txV L st.bs) T hp
 rw [txV_length] at h2
 rw [hU.eq h2]; rfl
theorem tLeft (H : TxV w Sd t v mp mt L T d reg s gb cap m st c) (hw : WI (txV L st.bs) T f f cc) :
 Calls Tryz.prog 28 #[.pointer (some ⟨t, 0, none⟩)] w fun e w' => e = .returned (.int .i64 (leftT (txV L st.bs) T : Nat)) ∧ Below w.heap.size w w' := tLeftP H hw.pos
end
theorem puts_order {bs : List Blk} {La Lb Lc Ld : PL} {Ta Tb Tc Td : ML} {f fa fb fc fd : Fl} {c : Nat → UInt8} {o p : Nat} {a b : List UInt8} (hop : o + a.length ≤ p)
 (h1 : Puts bs La Ta f fa c o a) (h2 : Puts bs Lb Tb fa fb (ov c a o o (o + a.length)) p b) (h3 : Puts bs Lc Tc f fc c p b) (h4 : Puts bs Ld Td fc fd (ov c b p p (p + b.length)) o a) (hf : 0 ≤ f.n.size) :
 ov (ov c a o o (o + a.length)) b p p (p + b.length) = ov (ov c b p p (p + b.length)) a o o (o + a.length) ∧ fb.n.size = fd.n.size ∧ leftT (txV Lb bs) Tb = leftT (txV Ld bs) Td := by
 refine ⟨?_, ?_, ?_⟩
 · funext i
   unfold ov
   by_cases e1 : p ≤ i ∧ i < p + b.length
   · rw [if_pos e1, if_neg (by omega), if_pos e1]
   · rw [if_neg e1]
     by_cases e2 : o ≤ i ∧ i < o + a.length
     · rw [if_pos e2, if_pos e2]
     · rw [if_neg e2, if_neg e2, if_neg e1]
 · rw [h2.size, h1.size, h4.size, h3.size]
   split <;> split <;> omega
 · have e : fb.cnt = fd.cnt := Fl.cnt_congr (by rw [h2.idx, h1.idx, h4.idx, h3.idx, and_right_comm]) (fun k _ => by rw [h2.slot, h1.slot, h4.slot, h3.slot, and_right_comm])
   have l1 := h2.wi.left
   have l2 := h4.wi.left
   rw [txV_length] at l1 l2
   omega
theorem cut_long {bs : List Blk} {L1 L2 L3 : PL} {T : ML} {f1 f2 f3 : Fl} {c1 c2 : Nat → UInt8} {k m : Nat} (h1 : CutR bs L1 L2 f1 f2 c1 k) (h2 : CutR bs L2 L3 f2 f3 c2 m) (hkm : k ≤ m) (hp : ∀ x ∈ keysL T, 0 ≤ x) : leftT (txV L2 bs) T = leftT (txV L3 bs) T := by
 have hs : ∀ l, l < 20 → f3.slot l = f2.slot l := fun l hl => by
  rw [h2.slot l hl]
  split
  · rw [h1.slot l hl, if_pos (by omega)]
  · rfl
 have hi : f3.n.index = f2.n.index := by
  rcases h2.same with e | e
  · rcases h2.idx.1 e with e2 | e2
    · rw [e, e2]
    · rw [e, h1.idx.2 (.inr fun l h4 hl => by rw [← hs l hl]; exact e2 l h4 hl)]
  · exact e
 refine leftT_congr hp hp (by rw [txV_length, txV_length]) fun j hj => ?_
 rw [h1.rest.use T hj, h2.rest.use T (by rw [txV_length] at hj ⊢; exact hj)]
 refine or_congr_right (or_congr_right ?_)
 unfold Fl.own
 rw [hi]
 exact or_congr_right ⟨fun ⟨l, hl, e⟩ => ⟨l, hl, by rw [hs l hl]; exact e⟩, fun ⟨l, hl, e⟩ => ⟨l, hl, by rw [← hs l hl]; exact e⟩⟩
end
section
open Go.RowKit Go.ChangeShapes Go.WideShapes Go.Deep

def Flat (k : IntKind) (w : World) (B : Nat) (a : Option Addr) (n : Nat) (f : Nat → Int) : Prop :=
 ∃ b off, (0 < n → a = some ⟨b, off, none⟩ ∧ b < B) ∧ ∀ i, i < n → w.cell? ⟨b, off + i, none⟩ = some (.int k (f i)) ∧ (Lit.int k (f i)).wf = true

theorem Flat.below {k : IntKind} {w w' : World} {B : Nat} {a : Option Addr} {n : Nat} {f : Nat → Int} (h : Flat k w B a n f) (hb : Below B w w') : Flat k w' B a n f := by
 obtain ⟨b, off, h1, h2⟩ := h
 refine ⟨b, off, h1, fun i hi => ⟨?_, (h2 i hi).2⟩⟩
 rw [hb.cell (p := ⟨b, off + i, none⟩) (h1 (by omega)).2]
 exact (h2 i hi).1

theorem spot_of_cell {w : World} {a : Addr} {v : Value} (h : w.cell? a = some v) : a = ⟨a.block, a.off, none⟩ := by
 obtain ⟨b, o, s⟩ := a
 cases s with
 | none => rfl
 | some s => unfold World.cell? at h; split at h <;> simp at h

theorem add_off (b off i : Nat) : (⟨b, off, none⟩ : Addr).add i = ⟨b, off + i, none⟩ := by
 unfold Addr.add; split
 · rename_i h; subst h; rfl
 · rfl

section
variable {H : Type} {enc : TypeId × Value → H} {P : Program} {w : World}

theorem lt_of_cell {a : Addr} {v : Value} (h : w.cell? a = some v) : a.block < w.heap.size := World.block_lt_of_cell? w a h

theorem flat_ints {t e : TypeId} {k : IntKind} {a : Option Addr} {len cap : Nat} {d : DataW H} {p : List MemPlace} (ht : P.underlying t = some (.slice e)) (he : P.underlying e = some (.int k)) (hc : P.cellsOf e = 1)
 (h : DataW.Trod enc P w 0 (fun _ => true) true t (.slice a len cap) d p) : len ≤ maxLen ∧ ∃ f, Flat k w w.heap.size a len f := by
 obtain ⟨fuel, hf⟩ := h
 rcases open_ints ht he hc hf with ⟨hcs, _⟩ | ⟨x, l, c, zs, hcs, _, hl, hm, hz, _, hcell, hwz⟩
 · simp [Value.cells] at hcs
   obtain ⟨rfl, rfl, rfl⟩ := hcs
   exact ⟨Nat.zero_le _, fun _ => 0, 0, 0, fun h => absurd h (Nat.lt_irrefl 0), fun i hi => absurd hi (Nat.not_lt_zero i)⟩
 · simp [Value.cells] at hcs
   obtain ⟨rfl, rfl, rfl⟩ := hcs
   have hz' : zs.length = cap := by simpa using hz
   refine ⟨by omega, fun i => zs.getD i 0, x.block, x.off, fun h0 => ?_, fun i hi => ?_⟩
   · have h1 := hcell 0 (by omega)
     have e0 : x.add 0 = x := rfl
     rw [e0] at h1
     exact ⟨congrArg some (spot_of_cell h1), lt_of_cell h1⟩
   · have h1 := hcell 0 (by omega)
     have e0 : x.add 0 = x := rfl
     rw [e0] at h1
     have hx := spot_of_cell h1
     have h2 := hcell i (by omega)
     rw [hx, add_off] at h2
     refine ⟨h2, hwz _ ?_⟩
     show zs.getD i 0 ∈ zs
     rw [List.getD_eq_getElem?_getD, List.getElem?_eq_getElem (by omega)]
     exact List.getElem_mem _

end
end
section
open Go.RowKit Go.ChangeShapes Go.WideShapes
attribute [local go_sem] hasBlk
attribute [local irreducible] Calls

structure BArg (w : World) (a : Option Addr) (l : List UInt8) (cap : Nat) : Prop where
 bytes : BytesAt w a l
 nil : a = none → l = [] ∧ cap = 0
 le : l.length ≤ cap
 at_ : ∀ ad, a = some ad → (∃ b off, ad = ⟨b, off, none⟩) ∧ ad.block < w.heap.size
theorem BArg.below {w w' : World} {a : Option Addr} {l : List UInt8} {cap : Nat} (h : BArg w a l cap) (hb : Below w.heap.size w w') : BArg w' a l cap :=
 ⟨h.bytes.below hb, h.nil, h.le, fun ad e => ⟨(h.at_ ad e).1, Nat.lt_of_lt_of_le (h.at_ ad e).2 hb.size⟩⟩
theorem shape_lt {w : World} {b : Nat} {x : TypeId × Nat} (h : w.shape? b = some x) : b < w.heap.size := by
 rcases Nat.lt_or_ge b w.heap.size with h' | h'
 · exact h'
 · simp [World.shape?, Array.getElem?_eq_none h'] at h
theorem slice_in {P : Program} {w : World} {r : Reach} {base : Nat} {t e : TypeId} {a : Addr} {len cap : Nat} (ht : P.underlying t = some (.slice e)) (h : Value.okWide P w r base t (.slice (some a) len cap)) : (∃ b off, a = ⟨b, off, none⟩) ∧ a.block < w.heap.size ∧ len ≤ cap := by
 simp only [Value.okWide, ht, Cell.okWide, Cell.ok, World.has] at h
 obtain ⟨h1, _, _, h2, row, cells, h3, _⟩ := h
 obtain ⟨b, o, s⟩ := a
 dsimp only at h2
 subst h2
 exact ⟨⟨b, o, rfl⟩, shape_lt h3, h1⟩
theorem slice_nil {P : Program} {w : World} {r : Reach} {base : Nat} {t e : TypeId} {len cap : Nat} (ht : P.underlying t = some (.slice e)) (h : Value.okWide P w r base t (.slice none len cap)) : len = 0 ∧ cap = 0 := by
 simp only [Value.okWide, ht, Cell.okWide] at h
 cases len <;> cases cap <;> simp_all [Cell.ok]
theorem bytes_of_flat {w : World} {B len : Nat} {a : Option Addr} {f : Nat → Int} (h : Flat .u8 w B a len f) : ∃ l : List UInt8, l.length = len ∧ BytesAt w a l := by
 obtain ⟨b, off, h1, h2⟩ := h
 refine ⟨(List.range len).map fun i => UInt8.ofNat (f i).toNat, by simp, b, off, fun h => (h1 (by simpa using h)).1, fun i hi => ?_⟩
 have hi' : i < len := by simpa using hi
 obtain ⟨h3, h4⟩ := h2 i hi'
 rw [h3]
 have hb : 0 ≤ f i ∧ f i ≤ 255 := by
  have := h4
  simp [Lit.wf, IntKind.min, IntKind.max] at this
  simpa [IntKind.bits, IntKind.signed] using this
 simp only [List.getElem_map, List.getElem_range]
 rw [UInt8.toNat_ofNat']
 congr 2
 omega
theorem barg_of {H : Type} {enc : TypeId × Value → H} {d : DataW H} {p : List MemPlace} {a : Option Addr} {len cap : Nat} {w : World} {base : Nat} (h : DataW.Trod enc Tryz.prog w 0 (fun _ => true) true 22 (.slice a len cap) d p) (hok : Value.okWide Tryz.prog w .any base 22 (.slice a len cap)) :
 ∃ l : List UInt8, l.length = len ∧ BArg w a l cap := by
 obtain ⟨_, f, hf⟩ := flat_ints Tryz.underlying22 Tryz.underlying5 (by kernel_rfl) h
 obtain ⟨l, hl, hb⟩ := bytes_of_flat hf
 cases a with
 | none =>
   obtain ⟨rfl, rfl⟩ := slice_nil Tryz.underlying22 hok
   exact ⟨l, hl, hb, fun _ => ⟨List.length_eq_zero_iff.1 hl, rfl⟩, by omega, fun ad e => by cases e⟩
 | some ad =>
   obtain ⟨h1, h2, h3⟩ := slice_in Tryz.underlying22 hok
   exact ⟨l, hl, hb, fun e => (by cases e), by omega, fun ad' e => by obtain rfl := Option.some.inj e; exact ⟨h1, h2⟩⟩
end
end Go.Proofs.YtbbnejehglonjaaGreat
