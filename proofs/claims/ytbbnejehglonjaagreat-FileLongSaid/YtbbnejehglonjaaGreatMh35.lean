/- DERIVED. Contracts and laws that the proofs of this seat share, part 35 of 36: ShI FiS FjA LibB LibBg. -/
import Derived.Lib.ConvBytes
import Derived.Lib.SlBytesConst
import Derived.ProofKit
import Derived.OpenShut
import Derived.Deep.Slices
import Derived.Test.YtbbnejehglonjaaGreatMh00
import Derived.Test.YtbbnejehglonjaaGreatMh02
import Derived.Test.YtbbnejehglonjaaGreatMh04
import Derived.Test.YtbbnejehglonjaaGreatMh05
import Derived.Test.YtbbnejehglonjaaGreatMh06
import Derived.Test.YtbbnejehglonjaaGreatMh07
import Derived.Test.YtbbnejehglonjaaGreatMh14
import Derived.Test.YtbbnejehglonjaaGreatMh16
import Derived.Test.YtbbnejehglonjaaGreatMh32
import Derived.Test.YtbbnejehglonjaaGreatMh33
import Derived.Test.YtbbnejehglonjaaGreatMh34
namespace Go.Proofs.YtbbnejehglonjaaGreat
set_option maxHeartbeats 8000000
set_option maxRecDepth 100000
set_option linter.unusedSimpArgs false
set_option linter.unusedVariables false
section
open Go.RowKit
attribute [local irreducible] Calls

theorem FillAt.txV {w w' w2 : World} {d v n : Nat} {Sd : Nat → Prop} {s : Sh} {gb cap m c : Nat} {st : VSt} (h : FillAt w w' d v Sd s gb cap m st c) (hn : n = w'.heap.size) (ht : TxAt w2 (n + 2) v n (n + 1) [] [] st.bs.length) (hb : Below w'.heap.size w' w2) :
 TxV w2 Sd (n + 2) v n (n + 1) [] [] d 0 s gb cap m st c := by
 have hl : ∀ q, Sd q → q < n := fun q hq => by rw [hn]; exact h.vol.dev.lt q hq
 have hm := h.vol.lt_m
 refine ⟨ht, VolP.below h.vol hb, ⟨fun e => by have := hl _ e; omega, fun e => by have := hl _ e; omega, fun e => by have := hl _ e; omega, by omega, by omega⟩⟩
end
section
open Go.RowKit
attribute [local irreducible] Calls

section
variable {w : World} {Sd : Nat → Prop} {t v mp mt : Nat} {L : PL} {T : ML} {d reg : Nat} {s : Sh} {gb cap m : Nat} {st : VSt} {c : Nat} {f : Fl} {cc : Nat → UInt8}
def wMany (data : List UInt8) (off : Nat) : Nat := min data.length (min (1120 - off) (224 - off % 56))
theorem tWrite (H : TxV w Sd t v mp mt L T d reg s gb cap m st c) (hw : WI (txV L st.bs) T f f cc) {off : Nat} {data : List UInt8} (ho : off < 1120) (hd : data ≠ []) (hl : 8 ≤ leftT (txV L st.bs) T) {ad : Option Addr} {dc : Nat} (hda : BytesAt w ad data) (hdl : data.length ≤ 100000) (hdc : data.length ≤ dc) :
 Calls Tryz.prog 35 #[.pointer (some ⟨t, 0, none⟩), .int .i64 1, .int .i64 (off : Int), .slice ad data.length dc] w fun e w' => e = .returned (.tuple #[.int .i64 (wMany data off : Nat), .int .i64 0]) ∧
  ∃ (L' : PL) (T' : ML) (f' : Fl), TxV w' Sd t v mp mt L' T' d reg s gb cap m st c ∧ Wrote st.bs L L' T' f f' (ov cc data off off (off + wMany data off)) off (off + wMany data off) ∧ Keeps (fun q => q = mp ∨ q = mt) w w' := by
 obtain ⟨mm, L', T', f', hmm, hwr, hW⟩ := write_spec hw ho hd hl
 have hm : mm = wMany data off := hmm
 subst hm
 refine (fWrite_any H 1 (off : Int) hda hdl hdc).mono ?_
 rintro e w' ⟨he, hT, hk⟩
 rw [hwr] at he hT
 exact ⟨he, L', T', f', hT, hW, hk⟩
theorem tRead (H : TxV w Sd t v mp mt L T d reg s gb cap m st c) (hr : FRest (txV L st.bs) f cc) (off n : Nat) (ho : off < 1000000) :
 Calls Tryz.prog 36 #[.pointer (some ⟨t, 0, none⟩), .int .i64 1, .int .i64 (off : Int), .int .i64 (n : Int)] w fun e w' => ∃ V, e = .returned (.tuple #[V, .int .i64 0]) ∧ BRow w' w.heap.size V ((List.range (min n (f.n.size.toNat - off))).map fun i => cc (off + i)) ∧ Below w.heap.size w w' := by
 have hz := (mayNode_fileP.1 hr.may0).2.2.2.2
 have e1 : readR (txV L st.bs) 1 (off : Int) (n : Int) = ((List.range (min n (f.n.size.toNat - off))).map fun i => cc (off + i), 0) := by
  unfold readR
  rw [FRest.flOf hr]
  dsimp only
  rw [if_neg (by omega), Int.toNat_natCast]
  have e2 : (min (n : Int) (max (f.n.size - (off : Int)) 0)).toNat = min n (f.n.size.toNat - off) := by omega
  rw [e2]
  by_cases hb : off + min n (f.n.size.toNat - off) ≤ 1120
  · rw [read_spec hr.cur hb _ off rfl, Nat.add_sub_cancel_left]
  · have : min n (f.n.size.toNat - off) = 0 := by omega
    rw [this]
    unfold readF
    rw [pieces_done (by omega)]; rfl
 have := fRead_any H 1 (off : Int) (n : Int) (by omega)
 rw [e1] at this
 exact this
theorem tTrunc (H : TxV w Sd t v mp mt L T d reg s gb cap m st c) (hr : FRest (txV L st.bs) f cc) {size : Nat} (hs : size ≤ 1120) :
 Calls Tryz.prog 37 #[.pointer (some ⟨t, 0, none⟩), .int .i64 1, .int .i64 (size : Int)] w fun e w' => e = .returned (.int .i64 0) ∧
  ∃ (L' : PL) (f' : Fl), TxV w' Sd t v mp mt L' T d reg s gb cap m st c ∧ CutR st.bs L L' f f' cc size ∧ Keeps (fun q => q = mp ∨ q = mt) w w' := by
 obtain ⟨L', f', htr, hC⟩ := trunc_spec T hr hs
 refine (fTrunc_any H 1 (size : Int)).mono ?_
 rintro e w' ⟨he, hT, hk⟩
 rw [htr] at he hT
 exact ⟨he, L', f', hT, hC, hk⟩
theorem Wrote.rest {bs : List Blk} {L L' : PL} {T' : ML} {f f' : Fl} {c : Nat → UInt8} {a e : Nat} (h : Wrote bs L L' T' f f' c a e) : FRest (txV L' bs) f' c := h.wi.mid
theorem new_left {n : Nat} (hn : 4 ≤ n) (h2 : n ≤ 200) : WI (fileBlks n) [] fl0 fl0 (fun _ => 0) ∧ leftT (fileBlks n) [] + 3 = n := by
 have hr := fileBlks_rest hn h2
 refine ⟨hr.wi, ?_⟩
 have := hr.wi.left
 rw [fl0_cnt, fileBlks_len] at this
 omega
end
theorem begun16_any (w : World) : Calls Tryz.prog 31 #[] w fun e w' => e = .returned (.bool true) ∧ Below w.heap.size w w' := by
 have HN := Lib.hid (fun w => sNew_any 0 20 w (by decide) (by decide))
 go_enter Tryz.func31, Tryz.ntmps31
 go_upto_region 2 with (go_at_call 32; refine (HN.out _).mono ?_; rintro e w1 ⟨p, g, rfl, hs, b1, hp1, hg1⟩)
 have H1 := Lib.hid (And.intro hs (And.intro b1 (And.intro hp1 hg1)))
 clear hs b1 hp1 hg1
 go_upto_region 3 with (first
  | (go_at_call 34; refine (Root_lit _).mono ?_; rintro e w2 ⟨rfl, b2⟩)
  | (go_at_call 33; refine (sFile_any (H1.out.1.below b2) (by decide) (by decide)).mono ?_; rintro e w3 ⟨g3, cap3, rfl, hs3, hk3, hg3⟩))
 have hb3 : Below w.heap.size w w3 := by
  have h2 := grow_trans H1.out.2.1 b2
  exact h2.trans (hk3.below h2.size (fun q e => by rw [e]; exact H1.out.2.2.1))
 obtain ⟨w4, hw4⟩ : ∃ w4, w4 = w3.alloc (.cells #[.int .i64 0, .int .i64 1, .int .u32 1] 66) := ⟨_, rfl⟩
 obtain ⟨G, hG⟩ : ∃ G, G = w3.heap.size := ⟨_, rfl⟩
 have hs4 := hs3.below (below_alloc hw4)
 have ho4 : objAt w4 G = some (.cells #[.int .i64 0, .int .i64 1, .int .u32 1] 66 (0, 0)) := by rw [hG]; exact obj_alloc hw4
 have hb4 := grow_trans hb3 (below_alloc hw4)
 rw [← hw4, ← hG]
 have c1 := hs4.c1
 have hrow := hs4.row
 rw [fileBlks_len] at c1 hrow
 have HF := Lib.hid (Filled_any (bs := fileBlks 20) (n := 20) (by decide) (by decide) (fileBlks_len 20) hrow (fileBlks_kinds (by decide) (by decide)))
 have H4 := Lib.hid (And.intro hb4 ho4)
 clear hs3 hk3 hg3 hb3 hs4 hb4 ho4 hrow hw4 hG b2
 go_upto_region 4 with (go_at_call 18; refine HF.out.mono ?_; rintro e w5 ⟨d, v, rfl, Sd, gb, cap, m, st, c, hf, hst, hc⟩)
 have HX := Lib.hid (txNew_any v st.bs.length w5)
 obtain ⟨N, hN⟩ : ∃ N, N = w5.heap.size := ⟨_, rfl⟩
 rw [← hN] at HX
 have H5 := Lib.hid (And.intro hf (And.intro hst (And.intro hN hc)))
 clear hf hst hN hc c1
 go_upto_region 7 with (go_at_call 19; refine HX.out.mono ?_; rintro e w6 ⟨rfl, ht, b6⟩)
 have hT6 := H5.out.1.txV H5.out.2.2.1 ht (by rw [← H5.out.2.2.1]; exact b6)
 have hNw : w.heap.size ≤ N := by rw [H5.out.2.2.1]; exact (grow_trans H4.out.1 H5.out.1.below).size
 have hB6 : Below w.heap.size w w6 := (grow_trans H4.out.1 H5.out.1.below).trans (b6.mono hNw)
 have ho6 : objAt w6 G = some (.cells #[.int .i64 0, .int .i64 1, .int .u32 1] 66 (0, 0)) := grow_obj (by rw [← H5.out.2.2.1]; exact b6) (grow_obj H5.out.1.below H4.out.2)
 have hWI := (new_left (n := 20) (by decide) (by decide)).1
 have hlf := (new_left (n := 20) (by decide) (by decide)).2
 rw [← H5.out.2.1] at hWI hlf
 rw [← txV_nil st.bs] at hWI hlf
 obtain ⟨w7, hw7⟩ : ∃ w7, w7 = w6.alloc (.cells #[.int .u8 97, .int .u8 98] 5 (2, 3)) := ⟨_, rfl⟩
 have hb7 : Below w6.heap.size w6 w7 := below_alloc hw7
 have hT7 := hT6.below hb7
 obtain ⟨J, hJ⟩ : ∃ J, J = w6.heap.size := ⟨_, rfl⟩
 have hby : BytesAt w7 (some ⟨J, 0, none⟩) [97, 98] := by
  have ho : w7.heap[J]? = some (.cells #[.int .u8 97, .int .u8 98] 5 (2, 3)) := by rw [hJ, hw7, heap_alloc_if, if_pos rfl]
  refine ⟨J, 0, fun _ => rfl, fun i hi => ?_⟩
  match i, hi with
  | 0, _ => simp only [World.cell?, ho]; rfl
  | 1, _ => simp only [World.cell?, ho]; rfl
 have HW := Lib.hid (tWrite (off := 2) (data := [97, 98]) (dc := 2) hT7 hWI (by decide) (by decide) (by omega) hby (by decide) (by decide))
 rw [show ((2 : Nat) : Int) = 2 from rfl, show wMany [97, 98] 2 = 2 from rfl, show ([97, 98] : List UInt8).length = 2 from rfl, show ((2 : Nat) : Int) = 2 from rfl] at HW
 have q1 : w6.cell? ⟨G, 1, none⟩ = some (.int .i64 1) := cell_obj ho6 1
 have q1' : w7.cell? ⟨G, 1, none⟩ = some (.int .i64 1) := grow_cell hb7 q1
 have H7 := Lib.hid (And.intro (grow_trans hB6 hb7) (And.intro (grow_obj hb7 ho6) (And.intro hNw hT7)))
 have HW7 := Lib.hid hw7
 clear hT6 ht b6 hB6 ho6 hWI hlf hb7 hT7 hby hNw
 have hcv : (Go.convert 22 22 (.slice (some ⟨w6.heap.size, 0, none⟩) 2 2)).run Tryz.prog (w6.alloc (.cells #[.int .u8 97, .int .u8 98] 5)) = .ok (.slice (some ⟨w6.heap.size, 0, none⟩) 2 2) (w6.alloc (.cells #[.int .u8 97, .int .u8 98] 5 (2, 3))) :=
  Go.Lib.run_convert_bytes_const (P := Tryz.prog) w6 22 5 #[.int .u8 97, .int .u8 98] 2 2 Tryz.underlying22 Tryz.underlying5
 go_upto_region 8 with (go_at_call 35; rw [← HW7.out, ← hJ]; refine HW.out.mono ?_; rintro e w8 ⟨rfl, L8, T8, f8, hT8, hR8, hk8⟩)
 have hGN : G < N := by rw [H5.out.2.2.1]; exact Nat.lt_of_lt_of_le (block_lt H4.out.2) H5.out.1.below.size
 have ho8 := hk8.obj H7.out.2.1 (fun e => by omega)
 have hB8 : Below w.heap.size w w8 := H7.out.1.trans (hk8.below H7.out.1.size (fun q e => by have := H7.out.2.2.1; omega))
 have hs8 : f8.n.size = 4 := by rw [hR8.size]; rfl
 have HR8 := Lib.hid (tRead (off := 0) (n := 9) hT8 hR8.rest (by decide))
 rw [hs8, show ((0 : Nat) : Int) = 0 from rfl, show ((9 : Nat) : Int) = 9 from rfl, show (List.range (min 9 ((4 : Int).toNat - 0))).map (fun i => ov (fun _ => 0) [97, 98] 2 2 (2 + 2) (0 + i)) = [0, 0, 97, 98] from rfl] at HR8
 have q8 : w8.cell? ⟨G, 1, none⟩ = some (.int .i64 1) := cell_obj ho8 1
 have H8 := Lib.hid (And.intro hB8 (And.intro ho8 (And.intro hT8 (And.intro hR8 hGN))))
 clear hT8 hR8 hk8 hGN ho8 hB8 hs8 q1 q1' hcv hJ hw7
 go_upto_region 9 with (go_at_call 36; refine HR8.out.mono ?_; rintro e w9 ⟨V9, rfl, hV9, b9⟩)
 have hT9 := H8.out.2.2.1.below b9
 have HT9 := Lib.hid (tTrunc (size := 3) hT9 H8.out.2.2.2.1.rest (by decide))
 rw [show ((3 : Nat) : Int) = 3 from rfl] at HT9
 have q9 : w9.cell? ⟨G, 1, none⟩ = some (.int .i64 1) := grow_cell b9 q8
 obtain ⟨a9, c9, rfl, hby9⟩ := hV9.bytes
 have H9 := Lib.hid (And.intro b9 (And.intro hV9 hT9))
 clear b9 hV9 hT9 hby9 q8
 go_upto_region 10 with (go_at_call 37; refine HT9.out.mono ?_; rintro e w10 ⟨rfl, L10, f10, hT10, hC10, hk10⟩)
 have ho10 := hk10.obj (grow_obj H9.out.1 H8.out.2.1) (fun e => by have := H8.out.2.2.2.2; omega)
 have hV10 : BRow w10 w8.heap.size (.slice a9 4 c9) [0, 0, 97, 98] := owns_keeps H9.out.2.1 hk10 (fun g hg e => by
  have h1 := H8.out.2.2.1.tx.put.lt
  have h2 := H8.out.2.2.1.tx.tk.lt
  have h3 : w8.heap.size ≤ g := by
   rcases H9.out.2.1.2 with ⟨h', _⟩ | ⟨g', cap', cur, h', hb', _⟩
   · rw [show (.slice a9 4 c9 : Value) = .slice none 0 0 from h'] at hg; cases hg
   · rw [show (.slice a9 4 c9 : Value) = _ from h'] at hg; cases hg; exact hb'
  omega)
 have hB10 : Below w.heap.size w w10 := (grow_trans H8.out.1 H9.out.1).trans (hk10.below (grow_trans H8.out.1 H9.out.1).size (fun q e => by have := H7.out.2.2.1; omega))
 have HR10 := Lib.hid (tRead (off := 0) (n := 9) hT10 hC10.rest (by decide))
 rw [hC10.sz, show ((0 : Nat) : Int) = 0 from rfl, show ((9 : Nat) : Int) = 9 from rfl, show (List.range (min 9 (((3 : Nat) : Int).toNat - 0))).map (fun i => cutC (ov (fun _ => 0) [97, 98] 2 2 (2 + 2)) 3 20 (0 + i)) = [0, 0, 97] from rfl] at HR10
 have q10 : w10.cell? ⟨G, 1, none⟩ = some (.int .i64 1) := cell_obj ho10 1
 have H10 := Lib.hid (And.intro hB10 (And.intro hT10 (And.intro hC10 hV10)))
 clear hB10 hT10 hC10 hV10 hk10 ho10 q9
 go_upto_region 11 with (go_at_call 36; refine HR10.out.mono ?_; rintro e w11 ⟨V11, rfl, hV11, b11⟩)
 have hT11 := H10.out.2.1.below b11
 have HR11 := Lib.hid (fRead_any hT11 0 0 1 (by decide))
 have hr11 : readR (txV L10 st.bs) 0 0 1 = ([], 2) := by
  unfold readR
  have hk := H10.out.2.2.1.rest.k0
  have hl := H10.out.2.2.1.rest.len.1
  have : flOf (txV L10 st.bs) 0 = none := by
   unfold flOf
   rw [if_neg (fun e => by
    have h1 := e.1
    have h2 := getB_at (B := txV L10 st.bs) (j := 0) (by omega)
    rw [show ((0 : Nat) : Int) = 0 from rfl] at h2
    rw [h2, hk] at h1
    cases h1)]
  rw [this]
 rw [hr11] at HR11
 obtain ⟨a11, c11, rfl, hby11⟩ := hV11.bytes
 have H11 := Lib.hid (And.intro b11 hV11)
 clear b11 hV11 hT11 hr11 hby11 q10
 go_upto_region 12 with (go_at_call 36; refine HR11.out.mono ?_; rintro e w12 ⟨V12, rfl, hV12, b12⟩)
 have e1 : (Go.convert 22 9 (.slice a9 4 c9)).run Tryz.prog w12 = .ok (.string ⟨#[0, 0, 97, 98]⟩) w12 := conv_at c9 (((BRow.bytesAt H10.out.2.2.2).1.below H11.out.1).below b12)
 have e2 : (Go.convert 22 9 (.slice a11 3 c11)).run Tryz.prog w12 = .ok (.string ⟨#[0, 0, 97]⟩) w12 := conv_at c11 ((BRow.bytesAt H11.out.2).1.below b12)
 have H12 := Lib.hid (grow_trans (grow_trans H10.out.1 H11.out.1) b12)
 clear hV12 b12
 go_wp2_with fail

 go_ret
 exact ⟨rfl, H12.out⟩
end
section
open Go.RowKit
attribute [local irreducible] Calls

theorem Fl.cnt_le (f : Fl) : f.cnt ≤ 21 := by
 unfold Fl.cnt
 have := List.length_filter_le (fun k => f.slot k != -1) (List.range 20)
 rw [List.length_range] at this
 split <;> omega
theorem WI.room {B : List Blk} {T : ML} {f0 f : Fl} {c : Nat → UInt8} (h : WI B T f0 f c) (hl : 32 ≤ B.length) : 8 ≤ leftT B T := by
 have h1 := h.left
 have h2 := f.cnt_le
 omega
def noughts (n : Nat) : Array Value := (List.replicate n (.int .u8 0)).toArray
theorem mkB (n : Nat) (hn : n ≤ 100000) (w : World) : (Instr.makeSlice 22 (.int .i64 (n : Nat)) (.int .i64 (n : Nat))).run Tryz.prog w = .ok (.slice (some ⟨w.heap.size, 0, none⟩) n n) (w.alloc (.cells (noughts n) 5)) := by
 obtain ⟨i, z, hi, hz, hs, hby, hzs⟩ := infoByte
 have hz' : i.zero = some (.int .u8 0) := by
  have : (Tryz.prog.info? 5).map (·.zero) = some (some (.int .u8 0)) := by kernel_rfl
  rw [hi] at this; simpa using this
 have := run_make1 22 5 i (.int .u8 0) Tryz.underlying22 hi hz' rfl hs (by omega) (n : Int) w (by omega) (by omega)
 exact this
section
variable {w : World} {Sd : Nat → Prop} {t v mp mt : Nat} {L : PL} {T : ML} {d reg : Nat} {s : Sh} {gb cap m : Nat} {st : VSt} {c : Nat} {f : Fl} {cc : Nat → UInt8}
theorem tWriteR (H : TxV w Sd t v mp mt L T d reg s gb cap m st c) (hw : WI (txV L st.bs) T f f cc) (hn : 32 ≤ st.bs.length) {off : Nat} {data : List UInt8} (ho : off < 1120) (hd : data ≠ []) {ad : Option Addr} {dc : Nat} (hda : BytesAt w ad data) (hdl : data.length ≤ 100000) (hdc : data.length ≤ dc) :
 Calls Tryz.prog 35 #[.pointer (some ⟨t, 0, none⟩), .int .i64 1, .int .i64 (off : Int), .slice ad data.length dc] w fun e w' => e = .returned (.tuple #[.int .i64 (wMany data off : Nat), .int .i64 0]) ∧
  ∃ (L' : PL) (T' : ML) (f' : Fl), TxV w' Sd t v mp mt L' T' d reg s gb cap m st c ∧ Wrote st.bs L L' T' f f' (ov cc data off off (off + wMany data off)) off (off + wMany data off) ∧ Keeps (fun q => q = mp ∨ q = mt) w w' :=
 tWrite H hw ho hd (hw.room (by rw [txV_length]; exact hn)) hda hdl hdc
theorem tWriteN (H : TxV w Sd t v mp mt L T d reg s gb cap m st c) (hw : WI (txV L st.bs) T f f cc) (hn : 32 ≤ st.bs.length) {off : Nat} {data : List UInt8} {ad : Option Addr} {dc dl M : Nat} {offi Mi : Int} (hda : BytesAt w ad data) (ho : off < 1120) (hd : data ≠ []) (hl : data.length = dl) (hdl : dl ≤ 100000) (hdc : dl ≤ dc) (hoi : (off : Int) = offi) (hM : wMany data off = M) (hMi : (M : Int) = Mi) :
 Calls Tryz.prog 35 #[.pointer (some ⟨t, 0, none⟩), .int .i64 1, .int .i64 offi, .slice ad dl dc] w fun e w' => e = .returned (.tuple #[.int .i64 Mi, .int .i64 0]) ∧
  ∃ (L' : PL) (T' : ML) (f' : Fl), TxV w' Sd t v mp mt L' T' d reg s gb cap m st c ∧ Wrote st.bs L L' T' f f' (ov cc data off off (off + M)) off (off + M) ∧ Keeps (fun q => q = mp ∨ q = mt) w w' := by
 subst hl hoi hM hMi
 exact tWriteR H hw hn ho hd hda hdl hdc
end
end
section
open Go.RowKit Go.ChangeShapes Go.WideShapes Go.Deep

def Flat (k : IntKind) (w : World) (B : Nat) (a : Option Addr) (n : Nat) (f : Nat → Int) : Prop :=
 ∃ b off, (0 < n → a = some ⟨b, off, none⟩ ∧ b < B) ∧ ∀ i, i < n → w.cell? ⟨b, off + i, none⟩ = some (.int k (f i)) ∧ (Lit.int k (f i)).wf = true

theorem Flat.below {k : IntKind} {w w' : World} {B : Nat} {a : Option Addr} {n : Nat} {f : Nat → Int} (h : Flat k w B a n f) (hb : Below B w w') : Flat k w' B a n f := by
 obtain ⟨b, off, h1, h2⟩ := h
 refine ⟨b, off, h1, fun i hi => ⟨?_, (h2 i hi).2⟩⟩
 rw [hb.cell (p := ⟨b, off + i, none⟩) (h1 (by omega)).2]
 exact (h2 i hi).1

section
variable {H : Type} {enc : TypeId × Value → H} {P : Program} {w : World}

end
end
section
open Go.RowKit Go.ChangeShapes Go.WideShapes
attribute [local go_sem] hasBlk
attribute [local irreducible] Calls

structure BArg (w : World) (a : Option Addr) (l : List UInt8) (cap : Nat) : Prop where
 bytes : BytesAt w a l
 nil : a = none → l = [] ∧ cap = 0
 le : l.length ≤ cap
 at_ : ∀ ad, a = some ad → (∃ b off, ad = ⟨b, off, none⟩) ∧ ad.block < w.heap.size
theorem BArg.below {w w' : World} {a : Option Addr} {l : List UInt8} {cap : Nat} (h : BArg w a l cap) (hb : Below w.heap.size w w') : BArg w' a l cap :=
 ⟨h.bytes.below hb, h.nil, h.le, fun ad e => ⟨(h.at_ ad e).1, Nat.lt_of_lt_of_le (h.at_ ad e).2 hb.size⟩⟩
end
end Go.Proofs.YtbbnejehglonjaaGreat
