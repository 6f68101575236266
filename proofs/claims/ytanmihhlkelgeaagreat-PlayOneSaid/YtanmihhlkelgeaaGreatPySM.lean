/- DERIVED. clathrilaw28.PlayOne returns true. -/
import Derived.Test.YtanmihhlkelgeaaGreatMg31
namespace Go.Proofs.YtanmihhlkelgeaaGreat
open Go.RowKit Go.ChangeShapes Go.WideShapes
attribute [local irreducible] Calls
set_option maxRecDepth 100000

theorem enc_one {s : Stp} (h : Say s) : encode [s] = writeStp s := by
  rw [encode_say (fun x hx => by obtain rfl := List.mem_singleton.1 hx; exact h)]
  simp
theorem stpsAt_one {w : World} {G : Nat} {s : Stp} {c : Array Value} {ad ka : Option Addr} {dc kc : Nat} (h : objAt w G = some (.cells c 35 (0, 0))) (hc : c = stpCells s (.slice ad s.data.length dc) (.slice ka s.keep.length kc)) (hs : StpL w w.heap.size s ad ka) : StpsAt w w.heap.size (some ⟨G, 0, none⟩) [s] := fun i x hx => by
  have hi : i = 0 := by have := (List.getElem?_eq_some_iff.1 hx).1; simp at this; exact this
  subst hi
  obtain rfl := Option.some.inj hx
  refine ⟨G, 0, ad, dc, ka, kc, rfl, block_lt h, fun j v hv => ?_, hs⟩
  rw [Nat.zero_add, Nat.zero_mul, Nat.zero_add, cell_obj h, hc]
  exact hv
theorem bytes_of_trod {H : Type} {enc : TypeId × Value → H} {w : World} {n : Nat} {v : Value} {x : DataW H × List MemPlace} (h : DataW.trod enc Tryz.prog w 0 (fun _ => true) true n 22 [v] = some x) :
    ∃ q c, ∃ l : List UInt8, v = .slice q l.length c ∧ BytesAt w q l ∧ (0 < l.length → ∀ y, q = some y → y.block < w.heap.size) := by
  rcases open_ints Tryz.underlying22 Tryz.underlying5 (by kernel_rfl) h with ⟨hcs, _⟩ | ⟨a, len, cap, zs, hcs, _, hl, hm, hz, _, hcell, hwz⟩
  · simp only [List.cons.injEq, and_true] at hcs
    exact ⟨none, 0, [], hcs, BytesAt.none0, fun h => absurd h (by simp)⟩
  · simp only [List.cons.injEq, and_true] at hcs
    have hz' : zs.length = cap := by simpa using hz
    have hf : Flat .u8 w w.heap.size (some a) len (fun i => zs.getD i 0) := by
      refine ⟨a.block, a.off, fun h0 => ?_, fun i hi => ?_⟩
      · have h1 := hcell 0 (by omega)
        have e0 : a.add 0 = a := rfl
        rw [e0] at h1
        exact ⟨congrArg some (spot_of_cell h1), lt_of_cell h1⟩
      · have h1 := hcell 0 (by omega)
        have e0 : a.add 0 = a := rfl
        rw [e0] at h1
        have hx := spot_of_cell h1
        have h2 := hcell i (by omega)
        rw [hx, add_off] at h2
        refine ⟨h2, hwz _ ?_⟩
        show zs.getD i 0 ∈ zs
        rw [List.getD_eq_getElem?_getD, List.getElem?_eq_getElem (by omega)]
        exact List.getElem_mem _
    obtain ⟨l, hll, hb⟩ := bytes_of_flat hf
    refine ⟨some a, cap, l, by rw [hcs, hll], hb, fun h0 y e => ?_⟩
    obtain rfl := Option.some.inj e
    obtain ⟨b, off, h1, _⟩ := hf
    obtain ⟨e1, e2⟩ := h1 (by omega)
    obtain rfl := Option.some.inj e1
    exact e2
/-- Rows of bytes that came in as an argument. -/
structure KArg (w : World) (a : Option Addr) (ls : List (List UInt8)) (cap : Nat) : Prop where
  row : ∀ (i : Nat) (l : List UInt8), ls[i]? = some l → ∃ kb ko p c, a = some ⟨kb, ko, none⟩ ∧ kb < w.heap.size ∧ w.cell? ⟨kb, ko + i, none⟩ = some (.slice p l.length c) ∧ BytesAt w p l ∧ (0 < l.length → ∀ q, p = some q → q.block < w.heap.size)
theorem KArg.below {w w' : World} {a : Option Addr} {ls : List (List UInt8)} {cap : Nat} (h : KArg w a ls cap) (hb : Below w.heap.size w w') : KArg w' a ls cap := ⟨fun i l hl => by
  obtain ⟨kb, ko, p, c, h1, h2, h3, h4, h5⟩ := h.row i l hl
  exact ⟨kb, ko, p, c, h1, Nat.lt_of_lt_of_le h2 hb.size, grow_cell hb h3, h4.below hb, fun h0 q hq => Nat.lt_of_lt_of_le (h5 h0 q hq) hb.size⟩⟩
theorem karg_of {H : Type} {enc : TypeId × Value → H} {d : DataW H} {p : List MemPlace} {a : Option Addr} {len cap : Nat} {w : World} (h : DataW.Trod enc Tryz.prog w 0 (fun _ => true) true 33 (.slice a len cap) d p) :
    ∃ ls : List (List UInt8), ls.length = len ∧ KArg w a ls cap := by
  obtain ⟨fuel, hf⟩ := h
  rcases Go.Deep.open_slice1 Tryz.underlying33 (by kernel_rfl) hf with ⟨hcs, _⟩ | ⟨x, l, c, m, n, V, D, Pl, hcs, _, hl, hml, hmm, _, hx⟩
  · simp [Value.cells] at hcs
    obtain ⟨rfl, rfl, rfl⟩ := hcs
    exact ⟨[], rfl, ⟨fun i l h => (by simp at h)⟩⟩
  · simp [Value.cells] at hcs
    obtain ⟨rfl, rfl, rfl⟩ := hcs
    have hmc : m = cap := by simpa using hmm
    obtain ⟨f, hff⟩ := Go.Deep.choose_lt (α := List UInt8) (n := len) (p := fun i l => ∃ q c, V i = .slice q l.length c ∧ BytesAt w q l ∧ (0 < l.length → ∀ y, q = some y → y.block < w.heap.size)) (fun i hi => by
      obtain ⟨q, c, l, h1, h2, h3⟩ := bytes_of_trod (hx i (by omega)).2
      exact ⟨l, q, c, h1, h2, h3⟩)
    refine ⟨(List.range len).map f, by simp, ⟨fun i l hl => ?_⟩⟩
    rw [List.getElem?_map, Option.map_eq_some_iff] at hl
    obtain ⟨j, hj, rfl⟩ := hl
    obtain ⟨hj1, hj2⟩ := List.getElem?_eq_some_iff.1 hj
    rw [List.getElem_range] at hj2
    subst hj2
    have hi : i < len := by simpa using hj1
    obtain ⟨q, c, h1, h2, h3⟩ := hff i hi
    have hc0 := (hx 0 (by omega)).1
    have e0 : x.add 0 = x := rfl
    rw [e0] at hc0
    have hxs := spot_of_cell hc0
    have hci := (hx i (by omega)).1
    rw [hxs, add_off, h1] at hci
    exact ⟨x.block, x.off, q, c, congrArg some hxs, lt_of_cell hc0, hci, h2, h3⟩
def sizeK (ls : List (List UInt8)) : Nat := (ls.map fun l => 1 + l.length).sum
theorem sizeK_flat (ls : List (List UInt8)) : (ls.flatMap textW).length = sizeK ls := by
  induction ls with
  | nil => rfl
  | cons a ls ih =>
    have : (textW a).length = 1 + a.length := by unfold textW; rw [List.length_append, ihigh_length]
    rw [List.flatMap_cons, List.length_append, ih, this]; simp [sizeK]
theorem sizeK_succ {ls : List (List UInt8)} {k : Nat} {l : List UInt8} (h : ls[k]? = some l) : sizeK (ls.take (k + 1)) = sizeK (ls.take k) + 1 + l.length := by
  obtain ⟨hk, rfl⟩ := List.getElem?_eq_some_iff.1 h
  unfold sizeK
  rw [List.take_succ_eq_append_getElem hk, List.map_append, List.sum_append]; simp; omega
section
variable {w : World} {kn nn qn fn on ln cn : Nat} {path dest : ByteArray} {da ka : Option Addr} {dt : List UInt8} {ks : List (List UInt8)} {dcap kcap : Nat}
theorem one_path (h : 100 < path.size) :
    Calls Tryz.prog 6 #[.int .u8 (kn : Int), .int .u16 (nn : Int), .int .u8 (qn : Int), .string path, .string dest, .int .u16 (fn : Int), .int .u16 (on : Int), .int .u16 (ln : Int), .slice da dt.length dcap, .int .u8 (cn : Int), .slice ka ks.length kcap] w fun e w' => e = .returned (.bool true) ∧ Below w.heap.size w w' := by
  have i1 : (100 : Int) < (path.size : Int) := by omega
  clear h
  go_enter Tryz.func6, Tryz.ntmps6
  go_wp2_with (go_at_call 7; refine (begun_ok _).mono ?_; rintro e w1 ⟨rfl, b1⟩)
  go_ret
  exact ⟨rfl, b1⟩
theorem one_dest (h1 : ¬ 100 < path.size) (h : 100 < dest.size) :
    Calls Tryz.prog 6 #[.int .u8 (kn : Int), .int .u16 (nn : Int), .int .u8 (qn : Int), .string path, .string dest, .int .u16 (fn : Int), .int .u16 (on : Int), .int .u16 (ln : Int), .slice da dt.length dcap, .int .u8 (cn : Int), .slice ka ks.length kcap] w fun e w' => e = .returned (.bool true) ∧ Below w.heap.size w w' := by
  have i0 : ¬ (100 : Int) < (path.size : Int) := by omega
  have i1 : (100 : Int) < (dest.size : Int) := by omega
  clear h h1
  go_enter Tryz.func6, Tryz.ntmps6
  go_wp2_with (go_at_call 7; refine (begun_ok _).mono ?_; rintro e w1 ⟨rfl, b1⟩)
  go_ret
  exact ⟨rfl, b1⟩
theorem one_data (h1 : ¬ 100 < path.size) (h2 : ¬ 100 < dest.size) (h : 100 < dt.length) :
    Calls Tryz.prog 6 #[.int .u8 (kn : Int), .int .u16 (nn : Int), .int .u8 (qn : Int), .string path, .string dest, .int .u16 (fn : Int), .int .u16 (on : Int), .int .u16 (ln : Int), .slice da dt.length dcap, .int .u8 (cn : Int), .slice ka ks.length kcap] w fun e w' => e = .returned (.bool true) ∧ Below w.heap.size w w' := by
  have i0 : ¬ (100 : Int) < (path.size : Int) := by omega
  have i1 : ¬ (100 : Int) < (dest.size : Int) := by omega
  have i2 : (100 : Int) < (dt.length : Int) := by omega
  clear h h1 h2
  go_enter Tryz.func6, Tryz.ntmps6
  go_wp2_with (go_at_call 7; refine (begun_ok _).mono ?_; rintro e w1 ⟨rfl, b1⟩)
  go_ret
  exact ⟨rfl, b1⟩
theorem one_keep (h1 : ¬ 100 < path.size) (h2 : ¬ 100 < dest.size) (h3 : ¬ 100 < dt.length) (h : 8 < ks.length) :
    Calls Tryz.prog 6 #[.int .u8 (kn : Int), .int .u16 (nn : Int), .int .u8 (qn : Int), .string path, .string dest, .int .u16 (fn : Int), .int .u16 (on : Int), .int .u16 (ln : Int), .slice da dt.length dcap, .int .u8 (cn : Int), .slice ka ks.length kcap] w fun e w' => e = .returned (.bool true) ∧ Below w.heap.size w w' := by
  have i0 : ¬ (100 : Int) < (path.size : Int) := by omega
  have i1 : ¬ (100 : Int) < (dest.size : Int) := by omega
  have i2 : ¬ (100 : Int) < (dt.length : Int) := by omega
  have i3 : (8 : Int) < (ks.length : Int) := by omega
  clear h h1 h2 h3
  go_enter Tryz.func6, Tryz.ntmps6
  go_wp2_with (go_at_call 7; refine (begun_ok _).mono ?_; rintro e w1 ⟨rfl, b1⟩)
  go_ret
  exact ⟨rfl, b1⟩
set_option maxHeartbeats 8000000 in
theorem one_n (h1 : ¬ 100 < path.size) (h2 : ¬ 100 < dest.size) (h3 : ¬ 100 < dt.length) (h4 : ¬ 8 < ks.length) (_ : kn < 256) (hnn : nn < 65536) {r : Nat} (hr : kn % 6 = r) (hr1 : r ≠ 1) (hr4 : r ≠ 4) :
    Calls Tryz.prog 6 #[.int .u8 (kn : Int), .int .u16 (nn : Int), .int .u8 (qn : Int), .string path, .string dest, .int .u16 (fn : Int), .int .u16 (on : Int), .int .u16 (ln : Int), .slice da dt.length dcap, .int .u8 (cn : Int), .slice ka ks.length kcap] w fun e w' => e = .returned (.bool true) ∧ Below w.heap.size w w' := by
  have i0 : ¬ (100 : Int) < (path.size : Int) := by omega
  have i1 : ¬ (100 : Int) < (dest.size : Int) := by omega
  have i2 : ¬ (100 : Int) < (dt.length : Int) := by omega
  have i3 : ¬ (8 : Int) < (ks.length : Int) := by omega
  have hr6 : r < 6 := by omega
  have t6 : (kn : Int).tmod 6 = (r : Int) := by rw [← hr]; exact Int.ofNat_tmod kn 6 |>.symm ▸ rfl
  have z2 : (1 + (r : Int) == 2) = false := by simp; omega
  have z5 : (1 + (r : Int) == 5) = false := by simp; omega
  have hsay : Say (Stp.of (1 + (r : Int)) (nn : Int)) := by
    refine ⟨by simp only [Stp.of]; omega, ?_⟩
    rw [if_neg (by simp only [Stp.of]; omega)]
    refine ⟨by simp only [Stp.of]; omega, ?_⟩
    rw [if_neg (by simp only [Stp.of]; omega)]
    rfl
  have hsz : (writeStp (Stp.of (1 + (r : Int)) (nn : Int))).length = 3 := by
    unfold writeStp bodyW
    rw [if_neg (by simp only [Stp.of]; omega), if_neg (by simp only [Stp.of]; omega)]
    simp [ihigh_length]
  have Hsz := Lib.hid hsz
  have Hr := Lib.hid (And.intro hr (And.intro hr1 hr4))
  clear hr hr1 hr4 h1 h2 h3 h4 hsz
  go_enter Tryz.func6, Tryz.ntmps6
  go_upto_region 6 with (go_at_call 7; refine (begun_ok _).mono ?_; rintro e w1 ⟨rfl, b1⟩)
  obtain ⟨Q, hQ⟩ : ∃ Q, Q = w1.heap.size := ⟨_, rfl⟩
  obtain ⟨w2, hw2⟩ : ∃ w2, w2 = w1.alloc (.cells #[.int .i64 (1 + (r : Int)), .int .i64 0, .int .i64 0, .string ⟨#[]⟩, .string ⟨#[]⟩, .int .i64 0, .int .i64 0, .int .i64 0, .slice none 0 0, .int .i64 0, .slice none 0 0] 35) := ⟨_, rfl⟩
  have ho2 : objAt w2 Q = some (.cells #[.int .i64 (1 + (r : Int)), .int .i64 0, .int .i64 0, .string ⟨#[]⟩, .string ⟨#[]⟩, .int .i64 0, .int .i64 0, .int .i64 0, .slice none 0 0, .int .i64 0, .slice none 0 0] 35 (0, 0)) := by rw [hQ]; exact obj_alloc hw2
  have hB2 : Below w.heap.size w w2 := grow_trans b1 (below_alloc hw2)
  have hQw : w.heap.size ≤ Q := by rw [hQ]; exact b1.size
  rw [← hw2, ← hQ]
  have q0 := cell_obj ho2 0
  have q1 := cell_obj ho2 1
  have f1 := free_obj ho2 1
  have ho3 : objAt (w2.setCell ⟨Q, 1, none⟩ (.int .i64 (nn : Int))) Q = some (.cells #[.int .i64 (1 + (r : Int)), .int .i64 (nn : Int), .int .i64 0, .string ⟨#[]⟩, .string ⟨#[]⟩, .int .i64 0, .int .i64 0, .int .i64 0, .slice none 0 0, .int .i64 0, .slice none 0 0] 35 (0, 0)) := by rw [objAt_setCell ho2 1]; rfl
  have HBt : Below w.heap.size w (w2.setCell ⟨Q, 1, none⟩ (.int .i64 (nn : Int))) := hB2.trans ((Keeps.setCell (S := fun q => q = Q) _ ⟨Q, 1, none⟩ _ rfl).below hB2.size (fun q e => by omega))
  have HO := Lib.hid (And.intro ho3 HBt)
  clear ho2 hB2 hw2 hQ ho3 HBt b1
  go_upto_region 21 with fail
  obtain ⟨w3, hw3⟩ : ∃ w3, w3 = w2.setCell ⟨Q, 1, none⟩ (.int .i64 (nn : Int)) := ⟨_, rfl⟩
  have ho3 := HO.out.1
  have HBt := HO.out.2
  rw [← hw3] at ho3 HBt ⊢
  clear q0 q1 f1 hw3
  have hstp : StpL w3 w3.heap.size (Stp.of (1 + (r : Int)) (nn : Int)) none none := ⟨BytesAt.none0, fun p e => (by cases e), fun i l hl => by simp [Stp.of] at hl⟩
  have y0 := cell_obj ho3 0
  have y1 := cell_obj ho3 1
  have y2 := cell_obj ho3 2
  have y3 := cell_obj ho3 3
  have y4 := cell_obj ho3 4
  have y5 := cell_obj ho3 5
  have y6 := cell_obj ho3 6
  have y7 := cell_obj ho3 7
  have y8 := cell_obj ho3 8
  have y9 := cell_obj ho3 9
  have ya := cell_obj ho3 10
  have HT := Lib.hid (And.intro ho3 (And.intro hstp (And.intro hsay HBt)))
  clear hstp ho3 HBt
  have hB5 : Below w3.heap.size w3 (w3.alloc (.cells #[.int .i64 (1 + (r : Int)), .int .i64 (nn : Int), .int .i64 0, .string ⟨#[]⟩, .string ⟨#[]⟩, .int .i64 0, .int .i64 0, .int .i64 0, .slice none 0 0, .int .i64 0, .slice none 0 0] 35)) := grow_alloc (Below.refl _ _) _
  have ho5 : objAt (w3.alloc (.cells #[.int .i64 (1 + (r : Int)), .int .i64 (nn : Int), .int .i64 0, .string ⟨#[]⟩, .string ⟨#[]⟩, .int .i64 0, .int .i64 0, .int .i64 0, .slice none 0 0, .int .i64 0, .slice none 0 0] 35)) w3.heap.size = some (.cells #[.int .i64 (1 + (r : Int)), .int .i64 (nn : Int), .int .i64 0, .string ⟨#[]⟩, .string ⟨#[]⟩, .int .i64 0, .int .i64 0, .int .i64 0, .slice none 0 0, .int .i64 0, .slice none 0 0] 35 (0, 0)) := by rw [objAt_alloc, if_pos rfl]
  have hl5 : StpL (w3.alloc (.cells #[.int .i64 (1 + (r : Int)), .int .i64 (nn : Int), .int .i64 0, .string ⟨#[]⟩, .string ⟨#[]⟩, .int .i64 0, .int .i64 0, .int .i64 0, .slice none 0 0, .int .i64 0, .slice none 0 0] 35)) (w3.alloc (.cells #[.int .i64 (1 + (r : Int)), .int .i64 (nn : Int), .int .i64 0, .string ⟨#[]⟩, .string ⟨#[]⟩, .int .i64 0, .int .i64 0, .int .i64 0, .slice none 0 0, .int .i64 0, .slice none 0 0] 35)).heap.size (Stp.of (1 + (r : Int)) (nn : Int)) none none := (HT.out.2.1.keeps (T := fun q => w3.heap.size ≤ q) (Keeps.of_below_size hB5) (fun q e => e) (Nat.le_refl _)).up hB5.size
  have hE5 := encode_any (cap := 1) (stpsAt_one (dc := 0) (kc := 0) ho5 rfl hl5) (fun s hs => by obtain rfl := List.mem_singleton.1 hs; exact fits_say HT.out.2.2.1) (by simp)
  rw [enc_one HT.out.2.2.1] at hE5
  have HE5 := Lib.hid hE5
  have H5 := Lib.hid hB5
  clear hB5 ho5 hl5 hE5
  go_upto_region 22 with (go_at_call 9; refine HE5.out.mono ?_; rintro e w6 ⟨v6, rfl, hr6, b6⟩; obtain ⟨a6, c6, rfl, hA6⟩ := hr6.arg; have hd6 := hA6.decode (by have := say_len HT.out.2.2.1; omega); rw [decode_one HT.out.2.2.1] at hd6; have HD6 := Lib.hid hd6; have H6 := Lib.hid b6; clear hr6 hA6 b6 hd6)
  have hwl : (writeStp (Stp.of (1 + (r : Int)) (nn : Int))).length = 3 := by rw [Hsz.out]
  rw [hwl] at HD6
  simp only [hwl]
  clear hwl
  go_upto_region 23 with (go_at_call 8; refine HD6.out.mono ?_; rintro e w7 ⟨v7, rfl, hr7, b7⟩; obtain ⟨a7, c7, rfl, hat7, _, _⟩ := hr7.arg; have H7 := Lib.hid (And.intro hat7 b7); clear hr7 hat7 b7)
  have hB7 := grow_trans (grow_trans H5.out H6.out) H7.out.2
  obtain ⟨kb, ko, ad7, dc7, k7, kc7, rfl, _, hcs, hst7⟩ := H7.out.1 0 _ rfl
  have x0 : w7.cell? ⟨kb, ko, none⟩ = some (.int .i64 (1 + (r : Int))) := by have := hcs 0 _ rfl; rwa [Nat.zero_mul, Nat.zero_add] at this
  have x1 : w7.cell? ⟨kb, ko + 1, none⟩ = some (.int .i64 (nn : Int)) := by have := hcs 1 _ rfl; rwa [Nat.zero_mul, Nat.zero_add] at this
  have x2 : w7.cell? ⟨kb, ko + 2, none⟩ = some (.int .i64 0) := by have := hcs 2 _ rfl; rwa [Nat.zero_mul, Nat.zero_add] at this
  have x3 : w7.cell? ⟨kb, ko + 3, none⟩ = some (.string ⟨#[]⟩) := by have := hcs 3 _ rfl; rwa [Nat.zero_mul, Nat.zero_add] at this
  have x4 : w7.cell? ⟨kb, ko + 4, none⟩ = some (.string ⟨#[]⟩) := by have := hcs 4 _ rfl; rwa [Nat.zero_mul, Nat.zero_add] at this
  have x5 : w7.cell? ⟨kb, ko + 5, none⟩ = some (.int .i64 0) := by have := hcs 5 _ rfl; rwa [Nat.zero_mul, Nat.zero_add] at this
  have x6 : w7.cell? ⟨kb, ko + 6, none⟩ = some (.int .i64 0) := by have := hcs 6 _ rfl; rwa [Nat.zero_mul, Nat.zero_add] at this
  have x7 : w7.cell? ⟨kb, ko + 7, none⟩ = some (.int .i64 0) := by have := hcs 7 _ rfl; rwa [Nat.zero_mul, Nat.zero_add] at this
  have x8 : w7.cell? ⟨kb, ko + 8, none⟩ = some (.slice ad7 0 dc7) := by have := hcs 8 _ rfl; rwa [Nat.zero_mul, Nat.zero_add] at this
  have x9 : w7.cell? ⟨kb, ko + 9, none⟩ = some (.int .i64 0) := by have := hcs 9 _ rfl; rwa [Nat.zero_mul, Nat.zero_add] at this
  have xa : w7.cell? ⟨kb, ko + 10, none⟩ = some (.slice k7 0 kc7) := by have := hcs 10 _ rfl; rwa [Nat.zero_mul, Nat.zero_add] at this
  have ho7 := grow_obj hB7 HT.out.1
  have z0 : w7.cell? ⟨Q, 0, none⟩ = some (.int .i64 (1 + (r : Int))) := cell_obj ho7 0
  have z1 : w7.cell? ⟨Q, 1, none⟩ = some (.int .i64 (nn : Int)) := cell_obj ho7 1
  have z2 : w7.cell? ⟨Q, 2, none⟩ = some (.int .i64 0) := cell_obj ho7 2
  have z3 : w7.cell? ⟨Q, 3, none⟩ = some (.string ⟨#[]⟩) := cell_obj ho7 3
  have z4 : w7.cell? ⟨Q, 4, none⟩ = some (.string ⟨#[]⟩) := cell_obj ho7 4
  have z5 : w7.cell? ⟨Q, 5, none⟩ = some (.int .i64 0) := cell_obj ho7 5
  have z6 : w7.cell? ⟨Q, 6, none⟩ = some (.int .i64 0) := cell_obj ho7 6
  have z7 : w7.cell? ⟨Q, 7, none⟩ = some (.int .i64 0) := cell_obj ho7 7
  have z8 : w7.cell? ⟨Q, 8, none⟩ = some (.slice none 0 0) := cell_obj ho7 8
  have z9 : w7.cell? ⟨Q, 9, none⟩ = some (.int .i64 0) := cell_obj ho7 9
  have za : w7.cell? ⟨Q, 10, none⟩ = some (.slice none 0 0) := cell_obj ho7 10
  have hd7 : Below w7.heap.size w7 w7.drew := (Below.refl _ _).drew
  have hstp7 := HT.out.2.1.keeps (Keeps.of_below hB7 : Keeps (fun _ => False) _ _) (fun q e => e.elim) (Nat.le_refl _)
  have hss := sameStep_any (w := w7.drew) (Stp.of (1 + (r : Int)) (nn : Int)) (Stp.of (1 + (r : Int)) (nn : Int)) (c1 := dc7) (c2 := 0) (e1 := kc7) (e2 := 0) (hst7.data.below hd7) (hstp7.data.below hd7) (hst7.keepAt.below hd7) (hstp7.keepAt.below hd7) (say_keep HT.out.2.2.1)
  rw [stpEq_iff.2 rfl] at hss
  unfold stpCells at hss
  have HSS := Lib.hid hss
  have HB7 := Lib.hid hB7
  clear hcs hst7 ho7 hd7 hstp7 hss hB7 y0 y1 y2 y3 y4 y5 y6 y7 y8 y9 ya
  refine wp_region_F [14] (S := fun w' => w'.cell? ⟨kb, ko, none⟩ = some (.int .i64 (1 + (r : Int))) ∧ w'.cell? ⟨kb, ko + 1, none⟩ = some (.int .i64 (nn : Int)) ∧ w'.cell? ⟨kb, ko + 2, none⟩ = some (.int .i64 0) ∧ w'.cell? ⟨kb, ko + 3, none⟩ = some (.string ⟨#[]⟩) ∧ w'.cell? ⟨kb, ko + 4, none⟩ = some (.string ⟨#[]⟩) ∧ w'.cell? ⟨kb, ko + 5, none⟩ = some (.int .i64 0) ∧ w'.cell? ⟨kb, ko + 6, none⟩ = some (.int .i64 0) ∧ w'.cell? ⟨kb, ko + 7, none⟩ = some (.int .i64 0) ∧ w'.cell? ⟨kb, ko + 8, none⟩ = some (.slice ad7 0 dc7) ∧ w'.cell? ⟨kb, ko + 9, none⟩ = some (.int .i64 0) ∧ w'.cell? ⟨kb, ko + 10, none⟩ = some (.slice k7 0 kc7) ∧ w'.cell? ⟨Q, 0, none⟩ = some (.int .i64 (1 + (r : Int))) ∧ w'.cell? ⟨Q, 1, none⟩ = some (.int .i64 (nn : Int)) ∧ w'.cell? ⟨Q, 2, none⟩ = some (.int .i64 0) ∧ w'.cell? ⟨Q, 3, none⟩ = some (.string ⟨#[]⟩) ∧ w'.cell? ⟨Q, 4, none⟩ = some (.string ⟨#[]⟩) ∧ w'.cell? ⟨Q, 5, none⟩ = some (.int .i64 0) ∧ w'.cell? ⟨Q, 6, none⟩ = some (.int .i64 0) ∧ w'.cell? ⟨Q, 7, none⟩ = some (.int .i64 0) ∧ w'.cell? ⟨Q, 8, none⟩ = some (.slice none 0 0) ∧ w'.cell? ⟨Q, 9, none⟩ = some (.int .i64 0) ∧ w'.cell? ⟨Q, 10, none⟩ = some (.slice none 0 0) ∧ True) (by kernel_rfl) (⟨x0, x1, x2, x3, x4, x5, x6, x7, x8, x9, xa, z0, z1, z2, z3, z4, z5, z6, z7, z8, z9, za, trivial⟩) (fun hHeld => ?_)
  show wpAnyF _ _ _ _ _ _ 17 #[false, false, false, false, false, false, false, false, false, false, false, false, false, false, false, false, false] _ _
  refine wpAnyF_take [0, 1, 3, 4, 5, 6, 7, 8, 9, 10, 11, 12, 13, 14, 15, 16] (i := 0) (v := ?kv1) rfl (by kernel_rfl) (by kernel_rfl) (by kernel_rfl) (by kernel_rfl) (fun _ _ _ h => h) (Or.inl ⟨by rfl, ?ky1⟩) (by assumption) ?kr1
  case ky1 => (intro w hSw; (try dsimp only at hSw); go_split_ands; (try simp only [List.getElem_toArray, List.getElem_cons_zero]); go_simp; (try with_reducible rfl))
  try simp only [Act.put, List.getElem_toArray, List.getElem_cons_zero, List.setIfInBounds_toArray, List.set_cons_zero, List.set_cons_succ]
  refine wpAnyF_take [1, 3, 4, 5, 6, 7, 8, 9, 10, 11, 12, 13, 14, 15, 16] (i := 1) (v := ?kv2) rfl (by kernel_rfl) (by kernel_rfl) (by kernel_rfl) (by kernel_rfl) (fun _ _ _ h => h) (Or.inl ⟨by rfl, ?ky2⟩) (by assumption) ?kr2
  case ky2 => (intro w hSw; (try dsimp only at hSw); go_split_ands; (try simp only [List.getElem_toArray, List.getElem_cons_zero, List.getElem_cons_succ]); go_simp; (try with_reducible rfl))
  try simp only [Act.put, List.getElem_toArray, List.getElem_cons_zero, List.getElem_cons_succ, List.setIfInBounds_toArray, List.set_cons_zero, List.set_cons_succ]
  refine wpAnyF_take [2, 3, 4, 5, 6, 7, 8, 9, 10, 11, 12, 13, 14, 15, 16] (i := 2) (v := ?kv3) rfl (by kernel_rfl) (by kernel_rfl) (by kernel_rfl) (by kernel_rfl) (fun _ _ _ h => h) (Or.inl ⟨by rfl, ?ky3⟩) (by assumption) ?kr3
  case ky3 => (intro w hSw; (try dsimp only at hSw); go_split_ands; (try simp only [List.getElem_toArray, List.getElem_cons_zero, List.getElem_cons_succ]); go_simp; (try with_reducible rfl))
  try simp only [Act.put, List.getElem_toArray, List.getElem_cons_zero, List.getElem_cons_succ, List.setIfInBounds_toArray, List.set_cons_zero, List.set_cons_succ]
  refine wpAnyF_take [3, 4, 5, 6, 7, 8, 9, 10, 11, 12, 13, 14, 15, 16] (i := 3) (v := ?kv4) rfl (by kernel_rfl) (by kernel_rfl) (by kernel_rfl) (by kernel_rfl) (fun _ _ _ h => h) (Or.inl ⟨by rfl, ?ky4⟩) (by assumption) ?kr4
  case ky4 => (intro w hSw; (try dsimp only at hSw); go_split_ands; (try simp only [List.getElem_toArray, List.getElem_cons_zero, List.getElem_cons_succ]); go_simp; (try with_reducible rfl))
  try simp only [Act.put, List.getElem_toArray, List.getElem_cons_zero, List.getElem_cons_succ, List.setIfInBounds_toArray, List.set_cons_zero, List.set_cons_succ]
  refine wpAnyF_take [4, 5, 6, 7, 8, 9, 10, 11, 12, 13, 14, 15, 16] (i := 4) (v := ?kv5) rfl (by kernel_rfl) (by kernel_rfl) (by kernel_rfl) (by kernel_rfl) (fun _ _ _ h => h) (Or.inl ⟨by rfl, ?ky5⟩) (by assumption) ?kr5
  case ky5 => (intro w hSw; (try dsimp only at hSw); go_split_ands; (try simp only [List.getElem_toArray, List.getElem_cons_zero, List.getElem_cons_succ]); go_simp; (try with_reducible rfl))
  try simp only [Act.put, List.getElem_toArray, List.getElem_cons_zero, List.getElem_cons_succ, List.setIfInBounds_toArray, List.set_cons_zero, List.set_cons_succ]
  refine wpAnyF_take [5, 6, 7, 8, 9, 10, 11, 12, 13, 14, 15, 16] (i := 5) (v := ?kv6) rfl (by kernel_rfl) (by kernel_rfl) (by kernel_rfl) (by kernel_rfl) (fun _ _ _ h => h) (Or.inl ⟨by rfl, ?ky6⟩) (by assumption) ?kr6
  case ky6 => (intro w hSw; (try dsimp only at hSw); go_split_ands; (try simp only [List.getElem_toArray, List.getElem_cons_zero, List.getElem_cons_succ]); go_simp; (try with_reducible rfl))
  try simp only [Act.put, List.getElem_toArray, List.getElem_cons_zero, List.getElem_cons_succ, List.setIfInBounds_toArray, List.set_cons_zero, List.set_cons_succ]
  refine wpAnyF_take [6, 7, 8, 9, 10, 11, 12, 13, 14, 15, 16] (i := 6) (v := ?kv7) rfl (by kernel_rfl) (by kernel_rfl) (by kernel_rfl) (by kernel_rfl) (fun _ _ _ h => h) (Or.inl ⟨by rfl, ?ky7⟩) (by assumption) ?kr7
  case ky7 => (intro w hSw; (try dsimp only at hSw); go_split_ands; (try simp only [List.getElem_toArray, List.getElem_cons_zero, List.getElem_cons_succ]); go_simp; (try with_reducible rfl))
  try simp only [Act.put, List.getElem_toArray, List.getElem_cons_zero, List.getElem_cons_succ, List.setIfInBounds_toArray, List.set_cons_zero, List.set_cons_succ]
  refine wpAnyF_take [7, 8, 9, 10, 11, 12, 13, 14, 15, 16] (i := 7) (v := ?kv8) rfl (by kernel_rfl) (by kernel_rfl) (by kernel_rfl) (by kernel_rfl) (fun _ _ _ h => h) (Or.inl ⟨by rfl, ?ky8⟩) (by assumption) ?kr8
  case ky8 => (intro w hSw; (try dsimp only at hSw); go_split_ands; (try simp only [List.getElem_toArray, List.getElem_cons_zero, List.getElem_cons_succ]); go_simp; (try with_reducible rfl))
  try simp only [Act.put, List.getElem_toArray, List.getElem_cons_zero, List.getElem_cons_succ, List.setIfInBounds_toArray, List.set_cons_zero, List.set_cons_succ]
  refine wpAnyF_take [8, 9, 10, 11, 12, 13, 14, 15, 16] (i := 8) (v := ?kv9) rfl (by kernel_rfl) (by kernel_rfl) (by kernel_rfl) (by kernel_rfl) (fun _ _ _ h => h) (Or.inl ⟨by rfl, ?ky9⟩) (by assumption) ?kr9
  case ky9 => (intro w hSw; (try dsimp only at hSw); go_split_ands; (try simp only [List.getElem_toArray, List.getElem_cons_zero, List.getElem_cons_succ]); go_simp; (try with_reducible rfl))
  try simp only [Act.put, List.getElem_toArray, List.getElem_cons_zero, List.getElem_cons_succ, List.setIfInBounds_toArray, List.set_cons_zero, List.set_cons_succ]
  refine wpAnyF_take [9, 10, 11, 12, 13, 14, 15, 16] (i := 9) (v := ?kv10) rfl (by kernel_rfl) (by kernel_rfl) (by kernel_rfl) (by kernel_rfl) (fun _ _ _ h => h) (Or.inl ⟨by rfl, ?ky10⟩) (by assumption) ?kr10
  case ky10 => (intro w hSw; (try dsimp only at hSw); go_split_ands; (try simp only [List.getElem_toArray, List.getElem_cons_zero, List.getElem_cons_succ]); go_simp; (try with_reducible rfl))
  try simp only [Act.put, List.getElem_toArray, List.getElem_cons_zero, List.getElem_cons_succ, List.setIfInBounds_toArray, List.set_cons_zero, List.set_cons_succ]
  refine wpAnyF_take [10, 11, 12, 14, 15, 16] (i := 10) (v := ?kv11) rfl (by kernel_rfl) (by kernel_rfl) (by kernel_rfl) (by kernel_rfl) (fun _ _ _ h => h) (Or.inl ⟨by rfl, ?ky11⟩) (by assumption) ?kr11
  case ky11 => (intro w hSw; (try dsimp only at hSw); go_split_ands; (try simp only [List.getElem_toArray, List.getElem_cons_zero, List.getElem_cons_succ]); go_simp; (try with_reducible rfl))
  try simp only [Act.put, List.getElem_toArray, List.getElem_cons_zero, List.getElem_cons_succ, List.setIfInBounds_toArray, List.set_cons_zero, List.set_cons_succ]
  refine wpAnyF_take [11, 12, 14, 15, 16] (i := 11) (v := ?kv12) rfl (by kernel_rfl) (by kernel_rfl) (by kernel_rfl) (by kernel_rfl) (fun _ _ _ h => h) (Or.inl ⟨by rfl, ?ky12⟩) (by assumption) ?kr12
  case ky12 => (intro w hSw; (try dsimp only at hSw); go_split_ands; (try simp only [List.getElem_toArray, List.getElem_cons_zero, List.getElem_cons_succ]); go_simp; (try with_reducible rfl))
  try simp only [Act.put, List.getElem_toArray, List.getElem_cons_zero, List.getElem_cons_succ, List.setIfInBounds_toArray, List.set_cons_zero, List.set_cons_succ]
  refine wpAnyF_take [12, 14, 15, 16] (i := 12) (v := ?kv13) rfl (by kernel_rfl) (by kernel_rfl) (by kernel_rfl) (by kernel_rfl) (fun _ _ _ h => h) (Or.inl ⟨by rfl, ?ky13⟩) (by assumption) ?kr13
  case ky13 => (intro w hSw; (try dsimp only at hSw); go_split_ands; (try simp only [List.getElem_toArray, List.getElem_cons_zero, List.getElem_cons_succ]); go_simp; (try with_reducible rfl))
  try simp only [Act.put, List.getElem_toArray, List.getElem_cons_zero, List.getElem_cons_succ, List.setIfInBounds_toArray, List.set_cons_zero, List.set_cons_succ]
  refine wpAnyF_take [13, 14, 15, 16] (i := 13) (v := ?kv14) rfl (by kernel_rfl) (by kernel_rfl) (by kernel_rfl) (by kernel_rfl) (fun _ _ _ h => h) (Or.inl ⟨by rfl, ?ky14⟩) (by assumption) ?kr14
  case ky14 => (intro w hSw; (try dsimp only at hSw); go_split_ands; (try simp only [List.getElem_toArray, List.getElem_cons_zero, List.getElem_cons_succ]); go_simp; (try with_reducible rfl))
  try simp only [Act.put, List.getElem_toArray, List.getElem_cons_zero, List.getElem_cons_succ, List.setIfInBounds_toArray, List.set_cons_zero, List.set_cons_succ]
  refine wpAnyF_ready (rs := [14]) (by kernel_rfl) (by simp) ?_
  refine (AllReadyF.last rfl (by kernel_rfl) (fun K hK => ?_) AllReadyF.nil)
  try simp only [List.getElem_toArray, List.getElem_cons_zero, List.getElem_cons_succ]
  go_simp
  go_at_call 11; refine HSS.out.mono ?_; rintro e w9 ⟨rfl, b9⟩
  refine hK.out _ _ (trivial) (fun hHeldn => ?_)
  clear hHeld hK K
  have hHeld := hHeldn
  clear hHeldn
  try simp only [List.setIfInBounds_toArray, List.set_cons_zero, List.set_cons_succ]
  refine wpAnyF_pure (i := 15) (v := ?kv16) rfl (by kernel_rfl) (by kernel_rfl) (by kernel_rfl) (by kernel_rfl) (fun _ _ _ h => h) (Or.inl ⟨by rfl, ?ky16⟩) (by first | (intro _; assumption) | (intro h; exact absurd h (by decide))) ?kr16
  case ky16 => (intro w hSw; clear hSw; (try simp only [List.getElem_toArray, List.getElem_cons_zero, List.getElem_cons_succ]); go_simp; (try with_reducible rfl))
  try simp only [Act.put, List.getElem_toArray, List.getElem_cons_zero, List.getElem_cons_succ, List.setIfInBounds_toArray, List.set_cons_zero, List.set_cons_succ]
  refine wpAnyF_pure (i := 16) (v := ?kv17) rfl (by kernel_rfl) (by kernel_rfl) (by kernel_rfl) (by kernel_rfl) (fun _ _ _ h => h) (Or.inl ⟨by rfl, ?ky17⟩) (by first | (intro _; assumption) | (intro h; exact absurd h (by decide))) ?kr17
  case ky17 => (intro w hSw; clear hSw; (try simp only [List.getElem_toArray, List.getElem_cons_zero, List.getElem_cons_succ]); go_simp; (try with_reducible rfl))
  try simp only [Act.put, List.getElem_toArray, List.getElem_cons_zero, List.getElem_cons_succ, List.setIfInBounds_toArray, List.set_cons_zero, List.set_cons_succ]
  refine wpAnyF_done (by kernel_rfl) ?_ _
  go_wp2_with fail
  go_ret
  exact ⟨rfl, grow_trans HT.out.2.2.2 (grow_trans HB7.out ((Below.refl _ w7).drew.trans b9))⟩
set_option maxHeartbeats 8000000 in
theorem one_ask (h1 : ¬ 100 < path.size) (h2 : ¬ 100 < dest.size) (h3 : ¬ 100 < dt.length) (h4 : ¬ 8 < ks.length) (_ : kn < 256) (hnn : nn < 65536) (hqn : qn < 256) (hfn : fn < 65536) (hon : on < 65536) (hln : ln < 65536) (hda : BArg w da dt dcap) (hr : kn % 6 = 1) :
    Calls Tryz.prog 6 #[.int .u8 (kn : Int), .int .u16 (nn : Int), .int .u8 (qn : Int), .string path, .string dest, .int .u16 (fn : Int), .int .u16 (on : Int), .int .u16 (ln : Int), .slice da dt.length dcap, .int .u8 (cn : Int), .slice ka ks.length kcap] w fun e w' => e = .returned (.bool true) ∧ Below w.heap.size w w' := by
  have i0 : ¬ (100 : Int) < (path.size : Int) := by omega
  have i1 : ¬ (100 : Int) < (dest.size : Int) := by omega
  have i2 : ¬ (100 : Int) < (dt.length : Int) := by omega
  have i3 : ¬ (8 : Int) < (ks.length : Int) := by omega
  have t6 : (kn : Int).tmod 6 = 1 := by rw [show (6 : Int) = ((6 : Nat) : Int) from rfl, ← Int.ofNat_tmod, hr]; rfl
  have hps : path.data.toList.length = path.size := by rw [Array.length_toList]; rfl
  have hds : dest.data.toList.length = dest.size := by rw [Array.length_toList]; rfl
  have hsay : Say (⟨2, (nn : Int), (qn : Int), path, dest, (fn : Int), (on : Int), (ln : Int), dt, 0, []⟩ : Stp) := by
    refine ⟨⟨by dsimp only; decide, by dsimp only; decide⟩, ?_⟩
    rw [if_neg (show ¬ ((2 : Int) = 5) by decide)]
    refine ⟨⟨by dsimp only; omega, by dsimp only; omega⟩, ?_⟩
    rw [if_pos rfl]
    exact ⟨⟨by dsimp only; omega, by dsimp only; omega⟩, by dsimp only; omega, by dsimp only; omega, ⟨by dsimp only; omega, by dsimp only; omega⟩, ⟨by dsimp only; omega, by dsimp only; omega⟩, ⟨by dsimp only; omega, by dsimp only; omega⟩, by dsimp only; omega, rfl, rfl⟩
  have hsz : (writeStp (⟨2, (nn : Int), (qn : Int), path, dest, (fn : Int), (on : Int), (ln : Int), dt, 0, []⟩ : Stp)).length = 13 + path.size + dest.size + dt.length := by
    unfold writeStp bodyW
    rw [if_neg (show ¬ ((2 : Int) = 5) by decide), if_pos rfl]
    unfold textW
    simp only [List.length_append, ihigh_length]
    omega
  have Hsz := Lib.hid hsz
  have Hs := Lib.hid hsay
  have Hd := Lib.hid hda
  clear hsay hr h1 h2 h3 h4 hsz hps hds hda
  go_enter Tryz.func6, Tryz.ntmps6
  go_upto_region 6 with (go_at_call 7; refine (begun_ok _).mono ?_; rintro e w1 ⟨rfl, b1⟩)
  obtain ⟨Q, hQ⟩ : ∃ Q, Q = w1.heap.size := ⟨_, rfl⟩
  obtain ⟨w2, hw2⟩ : ∃ w2, w2 = w1.alloc (.cells #[.int .i64 2, .int .i64 0, .int .i64 0, .string ⟨#[]⟩, .string ⟨#[]⟩, .int .i64 0, .int .i64 0, .int .i64 0, .slice none 0 0, .int .i64 0, .slice none 0 0] 35) := ⟨_, rfl⟩
  have ho2 : objAt w2 Q = some (.cells #[.int .i64 2, .int .i64 0, .int .i64 0, .string ⟨#[]⟩, .string ⟨#[]⟩, .int .i64 0, .int .i64 0, .int .i64 0, .slice none 0 0, .int .i64 0, .slice none 0 0] 35 (0, 0)) := by rw [hQ]; exact obj_alloc hw2
  have hB2 : Below w.heap.size w w2 := grow_trans b1 (below_alloc hw2)
  have hQw : w.heap.size ≤ Q := by rw [hQ]; exact b1.size
  rw [← hw2, ← hQ]
  have q0 := cell_obj ho2 0
  have q1 := cell_obj ho2 1
  have f1 := free_obj ho2 1
  have ho3 : objAt (w2.setCell ⟨Q, 1, none⟩ (.int .i64 (nn : Int))) Q = some (.cells #[.int .i64 2, .int .i64 (nn : Int), .int .i64 0, .string ⟨#[]⟩, .string ⟨#[]⟩, .int .i64 0, .int .i64 0, .int .i64 0, .slice none 0 0, .int .i64 0, .slice none 0 0] 35 (0, 0)) := by rw [objAt_setCell ho2 1]; rfl
  have hs3 := hasStp_obj ho3 rfl
  have hr3 : rowAt (w2.setCell ⟨Q, 1, none⟩ (.int .i64 (nn : Int))) Q = some #[.int .i64 2, .int .i64 (nn : Int), .int .i64 0, .string ⟨#[]⟩, .string ⟨#[]⟩, .int .i64 0, .int .i64 0, .int .i64 0, .slice none 0 0, .int .i64 0, .slice none 0 0] := rowAt_heap ho3
  have HBt : Below w.heap.size w (w2.setCell ⟨Q, 1, none⟩ (.int .i64 (nn : Int))) := hB2.trans ((Keeps.setCell (S := fun q => q = Q) _ ⟨Q, 1, none⟩ _ rfl).below hB2.size (fun q e => by omega))
  have HO := Lib.hid (And.intro (objAt_setRow ho3 #[.int .i64 2, .int .i64 (nn : Int), .int .i64 (qn : Int), .string path, .string dest, .int .i64 (fn : Int), .int .i64 (on : Int), .int .i64 (ln : Int), .slice da dt.length dcap, .int .i64 0, .slice none 0 0]) (Below.setRow HBt hQw #[.int .i64 2, .int .i64 (nn : Int), .int .i64 (qn : Int), .string path, .string dest, .int .i64 (fn : Int), .int .i64 (on : Int), .int .i64 (ln : Int), .slice da dt.length dcap, .int .i64 0, .slice none 0 0]))
  clear ho2 hB2 hw2 hQ ho3 HBt b1
  go_upto_region 11 with fail
  obtain ⟨w3, hw3⟩ : ∃ w3, w3 = (w2.setCell ⟨Q, 1, none⟩ (.int .i64 (nn : Int))).setRow Q #[.int .i64 2, .int .i64 (nn : Int), .int .i64 (qn : Int), .string path, .string dest, .int .i64 (fn : Int), .int .i64 (on : Int), .int .i64 (ln : Int), .slice da dt.length dcap, .int .i64 0, .slice none 0 0] := ⟨_, rfl⟩
  have ho3 := HO.out.1
  have HBt := HO.out.2
  rw [← hw3] at ho3 HBt ⊢
  clear q0 q1 f1 hs3 hr3 hw3
  have hdb := Hd.out.below HBt
  have hstp : StpL w3 w3.heap.size (⟨2, (nn : Int), (qn : Int), path, dest, (fn : Int), (on : Int), (ln : Int), dt, 0, []⟩ : Stp) da none := ⟨hdb.bytes, fun p e => (hdb.at_ p e).2, fun i l hl => by simp at hl⟩
  have hsay := Hs.out
  clear hdb
  go_upto_region 21 with fail
  have y0 := cell_obj ho3 0
  have y1 := cell_obj ho3 1
  have y2 := cell_obj ho3 2
  have y3 := cell_obj ho3 3
  have y4 := cell_obj ho3 4
  have y5 := cell_obj ho3 5
  have y6 := cell_obj ho3 6
  have y7 := cell_obj ho3 7
  have y8 := cell_obj ho3 8
  have y9 := cell_obj ho3 9
  have ya := cell_obj ho3 10
  have HT := Lib.hid (And.intro ho3 (And.intro hstp (And.intro hsay HBt)))
  clear hstp ho3 HBt
  have hB5 : Below w3.heap.size w3 (w3.alloc (.cells #[.int .i64 2, .int .i64 (nn : Int), .int .i64 (qn : Int), .string path, .string dest, .int .i64 (fn : Int), .int .i64 (on : Int), .int .i64 (ln : Int), .slice da dt.length dcap, .int .i64 0, .slice none 0 0] 35)) := grow_alloc (Below.refl _ _) _
  have ho5 : objAt (w3.alloc (.cells #[.int .i64 2, .int .i64 (nn : Int), .int .i64 (qn : Int), .string path, .string dest, .int .i64 (fn : Int), .int .i64 (on : Int), .int .i64 (ln : Int), .slice da dt.length dcap, .int .i64 0, .slice none 0 0] 35)) w3.heap.size = some (.cells #[.int .i64 2, .int .i64 (nn : Int), .int .i64 (qn : Int), .string path, .string dest, .int .i64 (fn : Int), .int .i64 (on : Int), .int .i64 (ln : Int), .slice da dt.length dcap, .int .i64 0, .slice none 0 0] 35 (0, 0)) := by rw [objAt_alloc, if_pos rfl]
  have hl5 : StpL (w3.alloc (.cells #[.int .i64 2, .int .i64 (nn : Int), .int .i64 (qn : Int), .string path, .string dest, .int .i64 (fn : Int), .int .i64 (on : Int), .int .i64 (ln : Int), .slice da dt.length dcap, .int .i64 0, .slice none 0 0] 35)) (w3.alloc (.cells #[.int .i64 2, .int .i64 (nn : Int), .int .i64 (qn : Int), .string path, .string dest, .int .i64 (fn : Int), .int .i64 (on : Int), .int .i64 (ln : Int), .slice da dt.length dcap, .int .i64 0, .slice none 0 0] 35)).heap.size (⟨2, (nn : Int), (qn : Int), path, dest, (fn : Int), (on : Int), (ln : Int), dt, 0, []⟩ : Stp) da none := (HT.out.2.1.keeps (T := fun q => w3.heap.size ≤ q) (Keeps.of_below_size hB5) (fun q e => e) (Nat.le_refl _)).up hB5.size
  have hE5 := encode_any (cap := 1) (stpsAt_one (dc := dcap) (kc := 0) ho5 rfl hl5) (fun s hs => by obtain rfl := List.mem_singleton.1 hs; exact fits_say HT.out.2.2.1) (by simp)
  rw [enc_one HT.out.2.2.1] at hE5
  have HE5 := Lib.hid hE5
  have H5 := Lib.hid hB5
  clear hB5 ho5 hl5 hE5
  go_upto_region 22 with (go_at_call 9; refine HE5.out.mono ?_; rintro e w6 ⟨v6, rfl, hr6, b6⟩; obtain ⟨a6, c6, rfl, hA6⟩ := hr6.arg; have hd6 := hA6.decode (by have := say_len HT.out.2.2.1; omega); rw [decode_one HT.out.2.2.1] at hd6; have HD6 := Lib.hid hd6; have H6 := Lib.hid b6; clear hr6 hA6 b6 hd6)
  have hwl : (writeStp (⟨2, (nn : Int), (qn : Int), path, dest, (fn : Int), (on : Int), (ln : Int), dt, 0, []⟩ : Stp)).length = 13 + path.size + dest.size + dt.length := by rw [Hsz.out]
  rw [hwl] at HD6
  simp only [hwl]
  clear hwl
  go_upto_region 23 with (go_at_call 8; refine HD6.out.mono ?_; rintro e w7 ⟨v7, rfl, hr7, b7⟩; obtain ⟨a7, c7, rfl, hat7, _, _⟩ := hr7.arg; have H7 := Lib.hid (And.intro hat7 b7); clear hr7 hat7 b7)
  have hB7 := grow_trans (grow_trans H5.out H6.out) H7.out.2
  obtain ⟨kb, ko, ad7, dc7, k7, kc7, rfl, _, hcs, hst7⟩ := H7.out.1 0 _ rfl
  have x0 : w7.cell? ⟨kb, ko, none⟩ = some (.int .i64 2) := by have := hcs 0 _ rfl; rwa [Nat.zero_mul, Nat.zero_add] at this
  have x1 : w7.cell? ⟨kb, ko + 1, none⟩ = some (.int .i64 (nn : Int)) := by have := hcs 1 _ rfl; rwa [Nat.zero_mul, Nat.zero_add] at this
  have x2 : w7.cell? ⟨kb, ko + 2, none⟩ = some (.int .i64 (qn : Int)) := by have := hcs 2 _ rfl; rwa [Nat.zero_mul, Nat.zero_add] at this
  have x3 : w7.cell? ⟨kb, ko + 3, none⟩ = some (.string path) := by have := hcs 3 _ rfl; rwa [Nat.zero_mul, Nat.zero_add] at this
  have x4 : w7.cell? ⟨kb, ko + 4, none⟩ = some (.string dest) := by have := hcs 4 _ rfl; rwa [Nat.zero_mul, Nat.zero_add] at this
  have x5 : w7.cell? ⟨kb, ko + 5, none⟩ = some (.int .i64 (fn : Int)) := by have := hcs 5 _ rfl; rwa [Nat.zero_mul, Nat.zero_add] at this
  have x6 : w7.cell? ⟨kb, ko + 6, none⟩ = some (.int .i64 (on : Int)) := by have := hcs 6 _ rfl; rwa [Nat.zero_mul, Nat.zero_add] at this
  have x7 : w7.cell? ⟨kb, ko + 7, none⟩ = some (.int .i64 (ln : Int)) := by have := hcs 7 _ rfl; rwa [Nat.zero_mul, Nat.zero_add] at this
  have x8 : w7.cell? ⟨kb, ko + 8, none⟩ = some (.slice ad7 dt.length dc7) := by have := hcs 8 _ rfl; rwa [Nat.zero_mul, Nat.zero_add] at this
  have x9 : w7.cell? ⟨kb, ko + 9, none⟩ = some (.int .i64 0) := by have := hcs 9 _ rfl; rwa [Nat.zero_mul, Nat.zero_add] at this
  have xa : w7.cell? ⟨kb, ko + 10, none⟩ = some (.slice k7 0 kc7) := by have := hcs 10 _ rfl; rwa [Nat.zero_mul, Nat.zero_add] at this
  have ho7 := grow_obj hB7 HT.out.1
  have z0 : w7.cell? ⟨Q, 0, none⟩ = some (.int .i64 2) := cell_obj ho7 0
  have z1 : w7.cell? ⟨Q, 1, none⟩ = some (.int .i64 (nn : Int)) := cell_obj ho7 1
  have z2 : w7.cell? ⟨Q, 2, none⟩ = some (.int .i64 (qn : Int)) := cell_obj ho7 2
  have z3 : w7.cell? ⟨Q, 3, none⟩ = some (.string path) := cell_obj ho7 3
  have z4 : w7.cell? ⟨Q, 4, none⟩ = some (.string dest) := cell_obj ho7 4
  have z5 : w7.cell? ⟨Q, 5, none⟩ = some (.int .i64 (fn : Int)) := cell_obj ho7 5
  have z6 : w7.cell? ⟨Q, 6, none⟩ = some (.int .i64 (on : Int)) := cell_obj ho7 6
  have z7 : w7.cell? ⟨Q, 7, none⟩ = some (.int .i64 (ln : Int)) := cell_obj ho7 7
  have z8 : w7.cell? ⟨Q, 8, none⟩ = some (.slice da dt.length dcap) := cell_obj ho7 8
  have z9 : w7.cell? ⟨Q, 9, none⟩ = some (.int .i64 0) := cell_obj ho7 9
  have za : w7.cell? ⟨Q, 10, none⟩ = some (.slice none 0 0) := cell_obj ho7 10
  have hd7 : Below w7.heap.size w7 w7.drew := (Below.refl _ _).drew
  have hstp7 := HT.out.2.1.keeps (Keeps.of_below hB7 : Keeps (fun _ => False) _ _) (fun q e => e.elim) (Nat.le_refl _)
  have hss := sameStep_any (w := w7.drew) (⟨2, (nn : Int), (qn : Int), path, dest, (fn : Int), (on : Int), (ln : Int), dt, 0, []⟩ : Stp) (⟨2, (nn : Int), (qn : Int), path, dest, (fn : Int), (on : Int), (ln : Int), dt, 0, []⟩ : Stp) (c1 := dc7) (c2 := dcap) (e1 := kc7) (e2 := 0) (hst7.data.below hd7) (hstp7.data.below hd7) (hst7.keepAt.below hd7) (hstp7.keepAt.below hd7) (say_keep HT.out.2.2.1)
  rw [stpEq_iff.2 rfl] at hss
  unfold stpCells at hss
  have HSS := Lib.hid hss
  have HB7 := Lib.hid hB7
  clear hcs hst7 ho7 hd7 hstp7 hss hB7 y0 y1 y2 y3 y4 y5 y6 y7 y8 y9 ya
  refine wp_region_F [14] (S := fun w' => w'.cell? ⟨kb, ko, none⟩ = some (.int .i64 2) ∧ w'.cell? ⟨kb, ko + 1, none⟩ = some (.int .i64 (nn : Int)) ∧ w'.cell? ⟨kb, ko + 2, none⟩ = some (.int .i64 (qn : Int)) ∧ w'.cell? ⟨kb, ko + 3, none⟩ = some (.string path) ∧ w'.cell? ⟨kb, ko + 4, none⟩ = some (.string dest) ∧ w'.cell? ⟨kb, ko + 5, none⟩ = some (.int .i64 (fn : Int)) ∧ w'.cell? ⟨kb, ko + 6, none⟩ = some (.int .i64 (on : Int)) ∧ w'.cell? ⟨kb, ko + 7, none⟩ = some (.int .i64 (ln : Int)) ∧ w'.cell? ⟨kb, ko + 8, none⟩ = some (.slice ad7 dt.length dc7) ∧ w'.cell? ⟨kb, ko + 9, none⟩ = some (.int .i64 0) ∧ w'.cell? ⟨kb, ko + 10, none⟩ = some (.slice k7 0 kc7) ∧ w'.cell? ⟨Q, 0, none⟩ = some (.int .i64 2) ∧ w'.cell? ⟨Q, 1, none⟩ = some (.int .i64 (nn : Int)) ∧ w'.cell? ⟨Q, 2, none⟩ = some (.int .i64 (qn : Int)) ∧ w'.cell? ⟨Q, 3, none⟩ = some (.string path) ∧ w'.cell? ⟨Q, 4, none⟩ = some (.string dest) ∧ w'.cell? ⟨Q, 5, none⟩ = some (.int .i64 (fn : Int)) ∧ w'.cell? ⟨Q, 6, none⟩ = some (.int .i64 (on : Int)) ∧ w'.cell? ⟨Q, 7, none⟩ = some (.int .i64 (ln : Int)) ∧ w'.cell? ⟨Q, 8, none⟩ = some (.slice da dt.length dcap) ∧ w'.cell? ⟨Q, 9, none⟩ = some (.int .i64 0) ∧ w'.cell? ⟨Q, 10, none⟩ = some (.slice none 0 0) ∧ True) (by kernel_rfl) (⟨x0, x1, x2, x3, x4, x5, x6, x7, x8, x9, xa, z0, z1, z2, z3, z4, z5, z6, z7, z8, z9, za, trivial⟩) (fun hHeld => ?_)
  show wpAnyF _ _ _ _ _ _ 17 #[false, false, false, false, false, false, false, false, false, false, false, false, false, false, false, false, false] _ _
  refine wpAnyF_take [0, 1, 3, 4, 5, 6, 7, 8, 9, 10, 11, 12, 13, 14, 15, 16] (i := 0) (v := ?kv18) rfl (by kernel_rfl) (by kernel_rfl) (by kernel_rfl) (by kernel_rfl) (fun _ _ _ h => h) (Or.inl ⟨by rfl, ?ky18⟩) (by assumption) ?kr18
  case ky18 => (intro w hSw; (try dsimp only at hSw); go_split_ands; (try simp only [List.getElem_toArray, List.getElem_cons_zero]); go_simp; (try with_reducible rfl))
  try simp only [Act.put, List.getElem_toArray, List.getElem_cons_zero, List.setIfInBounds_toArray, List.set_cons_zero, List.set_cons_succ]
  refine wpAnyF_take [1, 3, 4, 5, 6, 7, 8, 9, 10, 11, 12, 13, 14, 15, 16] (i := 1) (v := ?kv19) rfl (by kernel_rfl) (by kernel_rfl) (by kernel_rfl) (by kernel_rfl) (fun _ _ _ h => h) (Or.inl ⟨by rfl, ?ky19⟩) (by assumption) ?kr19
  case ky19 => (intro w hSw; (try dsimp only at hSw); go_split_ands; (try simp only [List.getElem_toArray, List.getElem_cons_zero, List.getElem_cons_succ]); go_simp; (try with_reducible rfl))
  try simp only [Act.put, List.getElem_toArray, List.getElem_cons_zero, List.getElem_cons_succ, List.setIfInBounds_toArray, List.set_cons_zero, List.set_cons_succ]
  refine wpAnyF_take [2, 3, 4, 5, 6, 7, 8, 9, 10, 11, 12, 13, 14, 15, 16] (i := 2) (v := ?kv20) rfl (by kernel_rfl) (by kernel_rfl) (by kernel_rfl) (by kernel_rfl) (fun _ _ _ h => h) (Or.inl ⟨by rfl, ?ky20⟩) (by assumption) ?kr20
  case ky20 => (intro w hSw; (try dsimp only at hSw); go_split_ands; (try simp only [List.getElem_toArray, List.getElem_cons_zero, List.getElem_cons_succ]); go_simp; (try with_reducible rfl))
  try simp only [Act.put, List.getElem_toArray, List.getElem_cons_zero, List.getElem_cons_succ, List.setIfInBounds_toArray, List.set_cons_zero, List.set_cons_succ]
  refine wpAnyF_take [3, 4, 5, 6, 7, 8, 9, 10, 11, 12, 13, 14, 15, 16] (i := 3) (v := ?kv21) rfl (by kernel_rfl) (by kernel_rfl) (by kernel_rfl) (by kernel_rfl) (fun _ _ _ h => h) (Or.inl ⟨by rfl, ?ky21⟩) (by assumption) ?kr21
  case ky21 => (intro w hSw; (try dsimp only at hSw); go_split_ands; (try simp only [List.getElem_toArray, List.getElem_cons_zero, List.getElem_cons_succ]); go_simp; (try with_reducible rfl))
  try simp only [Act.put, List.getElem_toArray, List.getElem_cons_zero, List.getElem_cons_succ, List.setIfInBounds_toArray, List.set_cons_zero, List.set_cons_succ]
  refine wpAnyF_take [4, 5, 6, 7, 8, 9, 10, 11, 12, 13, 14, 15, 16] (i := 4) (v := ?kv22) rfl (by kernel_rfl) (by kernel_rfl) (by kernel_rfl) (by kernel_rfl) (fun _ _ _ h => h) (Or.inl ⟨by rfl, ?ky22⟩) (by assumption) ?kr22
  case ky22 => (intro w hSw; (try dsimp only at hSw); go_split_ands; (try simp only [List.getElem_toArray, List.getElem_cons_zero, List.getElem_cons_succ]); go_simp; (try with_reducible rfl))
  try simp only [Act.put, List.getElem_toArray, List.getElem_cons_zero, List.getElem_cons_succ, List.setIfInBounds_toArray, List.set_cons_zero, List.set_cons_succ]
  refine wpAnyF_take [5, 6, 7, 8, 9, 10, 11, 12, 13, 14, 15, 16] (i := 5) (v := ?kv23) rfl (by kernel_rfl) (by kernel_rfl) (by kernel_rfl) (by kernel_rfl) (fun _ _ _ h => h) (Or.inl ⟨by rfl, ?ky23⟩) (by assumption) ?kr23
  case ky23 => (intro w hSw; (try dsimp only at hSw); go_split_ands; (try simp only [List.getElem_toArray, List.getElem_cons_zero, List.getElem_cons_succ]); go_simp; (try with_reducible rfl))
  try simp only [Act.put, List.getElem_toArray, List.getElem_cons_zero, List.getElem_cons_succ, List.setIfInBounds_toArray, List.set_cons_zero, List.set_cons_succ]
  refine wpAnyF_take [6, 7, 8, 9, 10, 11, 12, 13, 14, 15, 16] (i := 6) (v := ?kv24) rfl (by kernel_rfl) (by kernel_rfl) (by kernel_rfl) (by kernel_rfl) (fun _ _ _ h => h) (Or.inl ⟨by rfl, ?ky24⟩) (by assumption) ?kr24
  case ky24 => (intro w hSw; (try dsimp only at hSw); go_split_ands; (try simp only [List.getElem_toArray, List.getElem_cons_zero, List.getElem_cons_succ]); go_simp; (try with_reducible rfl))
  try simp only [Act.put, List.getElem_toArray, List.getElem_cons_zero, List.getElem_cons_succ, List.setIfInBounds_toArray, List.set_cons_zero, List.set_cons_succ]
  refine wpAnyF_take [7, 8, 9, 10, 11, 12, 13, 14, 15, 16] (i := 7) (v := ?kv25) rfl (by kernel_rfl) (by kernel_rfl) (by kernel_rfl) (by kernel_rfl) (fun _ _ _ h => h) (Or.inl ⟨by rfl, ?ky25⟩) (by assumption) ?kr25
  case ky25 => (intro w hSw; (try dsimp only at hSw); go_split_ands; (try simp only [List.getElem_toArray, List.getElem_cons_zero, List.getElem_cons_succ]); go_simp; (try with_reducible rfl))
  try simp only [Act.put, List.getElem_toArray, List.getElem_cons_zero, List.getElem_cons_succ, List.setIfInBounds_toArray, List.set_cons_zero, List.set_cons_succ]
  refine wpAnyF_take [8, 9, 10, 11, 12, 13, 14, 15, 16] (i := 8) (v := ?kv26) rfl (by kernel_rfl) (by kernel_rfl) (by kernel_rfl) (by kernel_rfl) (fun _ _ _ h => h) (Or.inl ⟨by rfl, ?ky26⟩) (by assumption) ?kr26
  case ky26 => (intro w hSw; (try dsimp only at hSw); go_split_ands; (try simp only [List.getElem_toArray, List.getElem_cons_zero, List.getElem_cons_succ]); go_simp; (try with_reducible rfl))
  try simp only [Act.put, List.getElem_toArray, List.getElem_cons_zero, List.getElem_cons_succ, List.setIfInBounds_toArray, List.set_cons_zero, List.set_cons_succ]
  refine wpAnyF_take [9, 10, 11, 12, 13, 14, 15, 16] (i := 9) (v := ?kv27) rfl (by kernel_rfl) (by kernel_rfl) (by kernel_rfl) (by kernel_rfl) (fun _ _ _ h => h) (Or.inl ⟨by rfl, ?ky27⟩) (by assumption) ?kr27
  case ky27 => (intro w hSw; (try dsimp only at hSw); go_split_ands; (try simp only [List.getElem_toArray, List.getElem_cons_zero, List.getElem_cons_succ]); go_simp; (try with_reducible rfl))
  try simp only [Act.put, List.getElem_toArray, List.getElem_cons_zero, List.getElem_cons_succ, List.setIfInBounds_toArray, List.set_cons_zero, List.set_cons_succ]
  refine wpAnyF_take [10, 11, 12, 14, 15, 16] (i := 10) (v := ?kv28) rfl (by kernel_rfl) (by kernel_rfl) (by kernel_rfl) (by kernel_rfl) (fun _ _ _ h => h) (Or.inl ⟨by rfl, ?ky28⟩) (by assumption) ?kr28
  case ky28 => (intro w hSw; (try dsimp only at hSw); go_split_ands; (try simp only [List.getElem_toArray, List.getElem_cons_zero, List.getElem_cons_succ]); go_simp; (try with_reducible rfl))
  try simp only [Act.put, List.getElem_toArray, List.getElem_cons_zero, List.getElem_cons_succ, List.setIfInBounds_toArray, List.set_cons_zero, List.set_cons_succ]
  refine wpAnyF_take [11, 12, 14, 15, 16] (i := 11) (v := ?kv29) rfl (by kernel_rfl) (by kernel_rfl) (by kernel_rfl) (by kernel_rfl) (fun _ _ _ h => h) (Or.inl ⟨by rfl, ?ky29⟩) (by assumption) ?kr29
  case ky29 => (intro w hSw; (try dsimp only at hSw); go_split_ands; (try simp only [List.getElem_toArray, List.getElem_cons_zero, List.getElem_cons_succ]); go_simp; (try with_reducible rfl))
  try simp only [Act.put, List.getElem_toArray, List.getElem_cons_zero, List.getElem_cons_succ, List.setIfInBounds_toArray, List.set_cons_zero, List.set_cons_succ]
  refine wpAnyF_take [12, 14, 15, 16] (i := 12) (v := ?kv30) rfl (by kernel_rfl) (by kernel_rfl) (by kernel_rfl) (by kernel_rfl) (fun _ _ _ h => h) (Or.inl ⟨by rfl, ?ky30⟩) (by assumption) ?kr30
  case ky30 => (intro w hSw; (try dsimp only at hSw); go_split_ands; (try simp only [List.getElem_toArray, List.getElem_cons_zero, List.getElem_cons_succ]); go_simp; (try with_reducible rfl))
  try simp only [Act.put, List.getElem_toArray, List.getElem_cons_zero, List.getElem_cons_succ, List.setIfInBounds_toArray, List.set_cons_zero, List.set_cons_succ]
  refine wpAnyF_take [13, 14, 15, 16] (i := 13) (v := ?kv31) rfl (by kernel_rfl) (by kernel_rfl) (by kernel_rfl) (by kernel_rfl) (fun _ _ _ h => h) (Or.inl ⟨by rfl, ?ky31⟩) (by assumption) ?kr31
  case ky31 => (intro w hSw; (try dsimp only at hSw); go_split_ands; (try simp only [List.getElem_toArray, List.getElem_cons_zero, List.getElem_cons_succ]); go_simp; (try with_reducible rfl))
  try simp only [Act.put, List.getElem_toArray, List.getElem_cons_zero, List.getElem_cons_succ, List.setIfInBounds_toArray, List.set_cons_zero, List.set_cons_succ]
  refine wpAnyF_ready (rs := [14]) (by kernel_rfl) (by simp) ?_
  refine (AllReadyF.last rfl (by kernel_rfl) (fun K hK => ?_) AllReadyF.nil)
  try simp only [List.getElem_toArray, List.getElem_cons_zero, List.getElem_cons_succ]
  go_simp
  go_at_call 11; refine HSS.out.mono ?_; rintro e w9 ⟨rfl, b9⟩
  refine hK.out _ _ (trivial) (fun hHeldn => ?_)
  clear hHeld hK K
  have hHeld := hHeldn
  clear hHeldn
  try simp only [List.setIfInBounds_toArray, List.set_cons_zero, List.set_cons_succ]
  refine wpAnyF_pure (i := 15) (v := ?kv33) rfl (by kernel_rfl) (by kernel_rfl) (by kernel_rfl) (by kernel_rfl) (fun _ _ _ h => h) (Or.inl ⟨by rfl, ?ky33⟩) (by first | (intro _; assumption) | (intro h; exact absurd h (by decide))) ?kr33
  case ky33 => (intro w hSw; clear hSw; (try simp only [List.getElem_toArray, List.getElem_cons_zero, List.getElem_cons_succ]); go_simp; (try with_reducible rfl))
  try simp only [Act.put, List.getElem_toArray, List.getElem_cons_zero, List.getElem_cons_succ, List.setIfInBounds_toArray, List.set_cons_zero, List.set_cons_succ]
  refine wpAnyF_pure (i := 16) (v := ?kv34) rfl (by kernel_rfl) (by kernel_rfl) (by kernel_rfl) (by kernel_rfl) (fun _ _ _ h => h) (Or.inl ⟨by rfl, ?ky34⟩) (by first | (intro _; assumption) | (intro h; exact absurd h (by decide))) ?kr34
  case ky34 => (intro w hSw; clear hSw; (try simp only [List.getElem_toArray, List.getElem_cons_zero, List.getElem_cons_succ]); go_simp; (try with_reducible rfl))
  try simp only [Act.put, List.getElem_toArray, List.getElem_cons_zero, List.getElem_cons_succ, List.setIfInBounds_toArray, List.set_cons_zero, List.set_cons_succ]
  refine wpAnyF_done (by kernel_rfl) ?_ _
  go_wp2_with fail
  go_ret
  exact ⟨rfl, grow_trans HT.out.2.2.2 (grow_trans HB7.out ((Below.refl _ w7).drew.trans b9))⟩
set_option maxHeartbeats 8000000 in
theorem one_crash (h1 : ¬ 100 < path.size) (h2 : ¬ 100 < dest.size) (h3 : ¬ 100 < dt.length) (h4 : ¬ 8 < ks.length) (_ : kn < 256) (hcn : cn < 256) (hka : KArg w ka ks kcap) (hr : kn % 6 = 4) :
    Calls Tryz.prog 6 #[.int .u8 (kn : Int), .int .u16 (nn : Int), .int .u8 (qn : Int), .string path, .string dest, .int .u16 (fn : Int), .int .u16 (on : Int), .int .u16 (ln : Int), .slice da dt.length dcap, .int .u8 (cn : Int), .slice ka ks.length kcap] w fun e w' => e = .returned (.bool true) ∧ Below w.heap.size w w' := by
  have i0 : ¬ (100 : Int) < (path.size : Int) := by omega
  have i1 : ¬ (100 : Int) < (dest.size : Int) := by omega
  have i2 : ¬ (100 : Int) < (dt.length : Int) := by omega
  have i3 : ¬ (8 : Int) < (ks.length : Int) := by omega
  have t6 : (kn : Int).tmod 6 = 4 := by rw [show (6 : Int) = ((6 : Nat) : Int) from rfl, ← Int.ofNat_tmod, hr]; rfl
  have hks : ks.length ≤ 8 := by omega
  have hsz : (writeStp (⟨5, 0, 0, ⟨#[]⟩, ⟨#[]⟩, 0, 0, 0, [], (cn : Int) - 1, ks⟩ : Stp)).length = 3 + sizeK ks := by
    unfold writeStp bodyW
    rw [if_pos rfl]
    simp only [List.length_append, ihigh_length, sizeK_flat]
    omega
  have Hsz := Lib.hid hsz
  have Hk := Lib.hid hka
  clear hr h1 h2 h3 h4 hsz hka
  go_enter Tryz.func6, Tryz.ntmps6
  go_upto_region 6 with (go_at_call 7; refine (begun_ok _).mono ?_; rintro e w1 ⟨rfl, b1⟩)
  obtain ⟨Q, hQ⟩ : ∃ Q, Q = w1.heap.size := ⟨_, rfl⟩
  obtain ⟨w2, hw2⟩ : ∃ w2, w2 = w1.alloc (.cells #[.int .i64 5, .int .i64 0, .int .i64 0, .string ⟨#[]⟩, .string ⟨#[]⟩, .int .i64 0, .int .i64 0, .int .i64 0, .slice none 0 0, .int .i64 0, .slice none 0 0] 35) := ⟨_, rfl⟩
  have ho2 : objAt w2 Q = some (.cells #[.int .i64 5, .int .i64 0, .int .i64 0, .string ⟨#[]⟩, .string ⟨#[]⟩, .int .i64 0, .int .i64 0, .int .i64 0, .slice none 0 0, .int .i64 0, .slice none 0 0] 35 (0, 0)) := by rw [hQ]; exact obj_alloc hw2
  have hB2 : Below w.heap.size w w2 := grow_trans b1 (below_alloc hw2)
  have hQw : w.heap.size ≤ Q := by rw [hQ]; exact b1.size
  rw [← hw2, ← hQ]
  have q0 := cell_obj ho2 0
  have q9 := cell_obj ho2 9
  have f9 := free_obj ho2 9
  have qa := cell_obj ho2 10
  have fa := free_obj ho2 10
  have ho3 : objAt (w2.setCell ⟨Q, 9, none⟩ (.int .i64 ((cn : Int) - 1))) Q = some (.cells #[.int .i64 5, .int .i64 0, .int .i64 0, .string ⟨#[]⟩, .string ⟨#[]⟩, .int .i64 0, .int .i64 0, .int .i64 0, .slice none 0 0, .int .i64 ((cn : Int) - 1), .slice none 0 0] 35 (0, 0)) := by rw [objAt_setCell ho2 9]; rfl
  have ho4 : objAt ((w2.setCell ⟨Q, 9, none⟩ (.int .i64 ((cn : Int) - 1))).setCell ⟨Q, 10, none⟩ (.slice ka ks.length kcap)) Q = some (.cells #[.int .i64 5, .int .i64 0, .int .i64 0, .string ⟨#[]⟩, .string ⟨#[]⟩, .int .i64 0, .int .i64 0, .int .i64 0, .slice none 0 0, .int .i64 ((cn : Int) - 1), .slice ka ks.length kcap] 35 (0, 0)) := by rw [objAt_setCell ho3 10]; rfl
  have HBt : Below w.heap.size w ((w2.setCell ⟨Q, 9, none⟩ (.int .i64 ((cn : Int) - 1))).setCell ⟨Q, 10, none⟩ (.slice ka ks.length kcap)) := hB2.trans (((Keeps.setCell (S := fun q => q = Q) _ ⟨Q, 9, none⟩ _ rfl).trans (Keeps.setCell (S := fun q => q = Q) _ ⟨Q, 10, none⟩ _ rfl)).below hB2.size (fun q e => by omega))
  have HO := Lib.hid (And.intro ho4 HBt)
  clear ho2 hB2 hw2 hQ ho3 ho4 HBt b1
  go_upto_region 14 with fail
  obtain ⟨w3, hw3⟩ : ∃ w3, w3 = (w2.setCell ⟨Q, 9, none⟩ (.int .i64 ((cn : Int) - 1))).setCell ⟨Q, 10, none⟩ (.slice ka ks.length kcap) := ⟨_, rfl⟩
  have ho3 := HO.out.1
  have HBt := HO.out.2
  rw [← hw3] at ho3 HBt ⊢
  have hkb := Hk.out.below HBt
  have H3 := Lib.hid (And.intro ho3 (And.intro HBt hkb))
  clear q0 q9 f9 qa fa hw3 ho3 HBt hkb
  go_wp2_with fail
  go_loopw [24, 25] (fun z i wr => ∃ k : Nat, k ≤ ks.length ∧ z = .int .i64 ((3 + sizeK (ks.take k) : Nat) : Int) ∧ i = .int .i64 k ∧ sizeK (ks.take k) ≤ k * 101 ∧ (∀ l ∈ ks.take k, l.length ≤ 100) ∧ wr = w3) (fun _ i _ => ks.length - (Go.RowKit.intOf i).toNat)
  case atStart => exact ⟨0, Nat.zero_le _, rfl, rfl, Nat.le_refl _, fun l hl => (by simp at hl), rfl⟩
  case round =>
    obtain ⟨k, hk, rfl, rfl, hsk, hall, rfl⟩ := hrel
    by_cases hlt : k < ks.length
    · obtain ⟨l, hl⟩ : ∃ l, ks[k]? = some l := ⟨_, List.getElem?_eq_getElem hlt⟩
      obtain ⟨kb, ko, p, c, rfl, _, cc, _, _⟩ := H3.out.2.2.row k l hl
      have hlt' : (k : Int) < (ks.length : Int) := by omega
      by_cases hlong : 100 < l.length
      · have hlo : (100 : Int) < (l.length : Int) := by omega
        clear hall hl
        go_wp2_with fail
        go_ret
        exact ⟨rfl, H3.out.2.1⟩
      · have hlo : ¬ (100 : Int) < (l.length : Int) := by omega
        have HX := Lib.hid (And.intro hall (And.intro hl hsk))
        obtain ⟨zk, hzk⟩ : ∃ zk, zk = sizeK (ks.take k) := ⟨_, rfl⟩
        have Hzk := Lib.hid hzk
        have hzb : zk ≤ 1000 := by omega
        rw [← hzk]
        clear hall hl hsk hzk
        go_wp2_with fail
        go_roundw
        case rel =>
          have e := sizeK_succ HX.out.2.1
          refine ⟨k + 1, by omega, ?_, by go_num, by rw [e]; have := HX.out.2.2; omega, fun x hx => ?_, by first | trivial | rfl⟩
          · rw [e, ← Hzk.out]; go_num
          · obtain ⟨hk', hke⟩ := List.getElem?_eq_some_iff.1 HX.out.2.1
            rw [List.take_succ_eq_append_getElem hk', List.mem_append, List.mem_singleton] at hx
            rcases hx with h | h
            · exact HX.out.1 x h
            · rw [h, hke]; omega
        case measure => simp [Go.RowKit.intOf]; omega
    · obtain rfl : k = ks.length := by omega
      rw [List.take_length] at hall hsk
      rw [List.take_length]
      have hsay : Say (⟨5, 0, 0, ⟨#[]⟩, ⟨#[]⟩, 0, 0, 0, [], (cn : Int) - 1, ks⟩ : Stp) := by
        refine ⟨⟨by dsimp only; decide, by dsimp only; decide⟩, ?_⟩
        rw [if_pos rfl]
        exact ⟨⟨by dsimp only; omega, by dsimp only; omega⟩, hks, fun l hl => by have := hall l hl; omega, rfl⟩
      have hstp : StpL wr wr.heap.size (⟨5, 0, 0, ⟨#[]⟩, ⟨#[]⟩, 0, 0, 0, [], (cn : Int) - 1, ks⟩ : Stp) none ka := ⟨BytesAt.none0, fun p e => (by cases e), H3.out.2.2.row⟩
      have ho3 := H3.out.1
      have HBt := H3.out.2.1
      have hzb : sizeK ks ≤ 808 := by omega
      clear hall hsk
      go_upto_region 21 with fail
      have y0 := cell_obj ho3 0
      have y1 := cell_obj ho3 1
      have y2 := cell_obj ho3 2
      have y3 := cell_obj ho3 3
      have y4 := cell_obj ho3 4
      have y5 := cell_obj ho3 5
      have y6 := cell_obj ho3 6
      have y7 := cell_obj ho3 7
      have y8 := cell_obj ho3 8
      have y9 := cell_obj ho3 9
      have ya := cell_obj ho3 10
      have HT := Lib.hid (And.intro ho3 (And.intro hstp (And.intro hsay HBt)))
      clear hstp ho3 HBt
      have hB5 : Below wr.heap.size wr (wr.alloc (.cells #[.int .i64 5, .int .i64 0, .int .i64 0, .string ⟨#[]⟩, .string ⟨#[]⟩, .int .i64 0, .int .i64 0, .int .i64 0, .slice none 0 0, .int .i64 ((cn : Int) - 1), .slice ka ks.length kcap] 35)) := grow_alloc (Below.refl _ _) _
      have ho5 : objAt (wr.alloc (.cells #[.int .i64 5, .int .i64 0, .int .i64 0, .string ⟨#[]⟩, .string ⟨#[]⟩, .int .i64 0, .int .i64 0, .int .i64 0, .slice none 0 0, .int .i64 ((cn : Int) - 1), .slice ka ks.length kcap] 35)) wr.heap.size = some (.cells #[.int .i64 5, .int .i64 0, .int .i64 0, .string ⟨#[]⟩, .string ⟨#[]⟩, .int .i64 0, .int .i64 0, .int .i64 0, .slice none 0 0, .int .i64 ((cn : Int) - 1), .slice ka ks.length kcap] 35 (0, 0)) := by rw [objAt_alloc, if_pos rfl]
      have hl5 : StpL (wr.alloc (.cells #[.int .i64 5, .int .i64 0, .int .i64 0, .string ⟨#[]⟩, .string ⟨#[]⟩, .int .i64 0, .int .i64 0, .int .i64 0, .slice none 0 0, .int .i64 ((cn : Int) - 1), .slice ka ks.length kcap] 35)) (wr.alloc (.cells #[.int .i64 5, .int .i64 0, .int .i64 0, .string ⟨#[]⟩, .string ⟨#[]⟩, .int .i64 0, .int .i64 0, .int .i64 0, .slice none 0 0, .int .i64 ((cn : Int) - 1), .slice ka ks.length kcap] 35)).heap.size (⟨5, 0, 0, ⟨#[]⟩, ⟨#[]⟩, 0, 0, 0, [], (cn : Int) - 1, ks⟩ : Stp) none ka := (HT.out.2.1.keeps (T := fun q => wr.heap.size ≤ q) (Keeps.of_below_size hB5) (fun q e => e) (Nat.le_refl _)).up hB5.size
      have hE5 := encode_any (cap := 1) (stpsAt_one (dc := 0) (kc := kcap) ho5 rfl hl5) (fun s hs => by obtain rfl := List.mem_singleton.1 hs; exact fits_say HT.out.2.2.1) (by simp)
      rw [enc_one HT.out.2.2.1] at hE5
      have HE5 := Lib.hid hE5
      have H5 := Lib.hid hB5
      clear hB5 ho5 hl5 hE5
      go_upto_region 22 with (go_at_call 9; refine HE5.out.mono ?_; rintro e w6 ⟨v6, rfl, hr6, b6⟩; obtain ⟨a6, c6, rfl, hA6⟩ := hr6.arg; have hd6 := hA6.decode (by have := say_len HT.out.2.2.1; omega); rw [decode_one HT.out.2.2.1] at hd6; have HD6 := Lib.hid hd6; have H6 := Lib.hid b6; clear hr6 hA6 b6 hd6)
      have hwl : (writeStp (⟨5, 0, 0, ⟨#[]⟩, ⟨#[]⟩, 0, 0, 0, [], (cn : Int) - 1, ks⟩ : Stp)).length = 3 + sizeK ks := by rw [Hsz.out]
      rw [hwl] at HD6
      simp only [hwl]
      clear hwl
      go_upto_region 23 with (go_at_call 8; refine HD6.out.mono ?_; rintro e w7 ⟨v7, rfl, hr7, b7⟩; obtain ⟨a7, c7, rfl, hat7, _, _⟩ := hr7.arg; have H7 := Lib.hid (And.intro hat7 b7); clear hr7 hat7 b7)
      have hB7 := grow_trans (grow_trans H5.out H6.out) H7.out.2
      obtain ⟨kb, ko, ad7, dc7, k7, kc7, rfl, _, hcs, hst7⟩ := H7.out.1 0 _ rfl
      have x0 : w7.cell? ⟨kb, ko, none⟩ = some (.int .i64 5) := by have := hcs 0 _ rfl; rwa [Nat.zero_mul, Nat.zero_add] at this
      have x1 : w7.cell? ⟨kb, ko + 1, none⟩ = some (.int .i64 0) := by have := hcs 1 _ rfl; rwa [Nat.zero_mul, Nat.zero_add] at this
      have x2 : w7.cell? ⟨kb, ko + 2, none⟩ = some (.int .i64 0) := by have := hcs 2 _ rfl; rwa [Nat.zero_mul, Nat.zero_add] at this
      have x3 : w7.cell? ⟨kb, ko + 3, none⟩ = some (.string ⟨#[]⟩) := by have := hcs 3 _ rfl; rwa [Nat.zero_mul, Nat.zero_add] at this
      have x4 : w7.cell? ⟨kb, ko + 4, none⟩ = some (.string ⟨#[]⟩) := by have := hcs 4 _ rfl; rwa [Nat.zero_mul, Nat.zero_add] at this
      have x5 : w7.cell? ⟨kb, ko + 5, none⟩ = some (.int .i64 0) := by have := hcs 5 _ rfl; rwa [Nat.zero_mul, Nat.zero_add] at this
      have x6 : w7.cell? ⟨kb, ko + 6, none⟩ = some (.int .i64 0) := by have := hcs 6 _ rfl; rwa [Nat.zero_mul, Nat.zero_add] at this
      have x7 : w7.cell? ⟨kb, ko + 7, none⟩ = some (.int .i64 0) := by have := hcs 7 _ rfl; rwa [Nat.zero_mul, Nat.zero_add] at this
      have x8 : w7.cell? ⟨kb, ko + 8, none⟩ = some (.slice ad7 0 dc7) := by have := hcs 8 _ rfl; rwa [Nat.zero_mul, Nat.zero_add] at this
      have x9 : w7.cell? ⟨kb, ko + 9, none⟩ = some (.int .i64 ((cn : Int) - 1)) := by have := hcs 9 _ rfl; rwa [Nat.zero_mul, Nat.zero_add] at this
      have xa : w7.cell? ⟨kb, ko + 10, none⟩ = some (.slice k7 ks.length kc7) := by have := hcs 10 _ rfl; rwa [Nat.zero_mul, Nat.zero_add] at this
      have ho7 := grow_obj hB7 HT.out.1
      have z0 : w7.cell? ⟨Q, 0, none⟩ = some (.int .i64 5) := cell_obj ho7 0
      have z1 : w7.cell? ⟨Q, 1, none⟩ = some (.int .i64 0) := cell_obj ho7 1
      have z2 : w7.cell? ⟨Q, 2, none⟩ = some (.int .i64 0) := cell_obj ho7 2
      have z3 : w7.cell? ⟨Q, 3, none⟩ = some (.string ⟨#[]⟩) := cell_obj ho7 3
      have z4 : w7.cell? ⟨Q, 4, none⟩ = some (.string ⟨#[]⟩) := cell_obj ho7 4
      have z5 : w7.cell? ⟨Q, 5, none⟩ = some (.int .i64 0) := cell_obj ho7 5
      have z6 : w7.cell? ⟨Q, 6, none⟩ = some (.int .i64 0) := cell_obj ho7 6
      have z7 : w7.cell? ⟨Q, 7, none⟩ = some (.int .i64 0) := cell_obj ho7 7
      have z8 : w7.cell? ⟨Q, 8, none⟩ = some (.slice none 0 0) := cell_obj ho7 8
      have z9 : w7.cell? ⟨Q, 9, none⟩ = some (.int .i64 ((cn : Int) - 1)) := cell_obj ho7 9
      have za : w7.cell? ⟨Q, 10, none⟩ = some (.slice ka ks.length kcap) := cell_obj ho7 10
      have hd7 : Below w7.heap.size w7 w7.drew := (Below.refl _ _).drew
      have hstp7 := HT.out.2.1.keeps (Keeps.of_below hB7 : Keeps (fun _ => False) _ _) (fun q e => e.elim) (Nat.le_refl _)
      have hss := sameStep_any (w := w7.drew) (⟨5, 0, 0, ⟨#[]⟩, ⟨#[]⟩, 0, 0, 0, [], (cn : Int) - 1, ks⟩ : Stp) (⟨5, 0, 0, ⟨#[]⟩, ⟨#[]⟩, 0, 0, 0, [], (cn : Int) - 1, ks⟩ : Stp) (c1 := dc7) (c2 := 0) (e1 := kc7) (e2 := kcap) (hst7.data.below hd7) (hstp7.data.below hd7) (hst7.keepAt.below hd7) (hstp7.keepAt.below hd7) (say_keep HT.out.2.2.1)
      rw [stpEq_iff.2 rfl] at hss
      unfold stpCells at hss
      have HSS := Lib.hid hss
      have HB7 := Lib.hid hB7
      clear hcs hst7 ho7 hd7 hstp7 hss hB7 y0 y1 y2 y3 y4 y5 y6 y7 y8 y9 ya
      refine wp_region_F [14] (S := fun w' => w'.cell? ⟨kb, ko, none⟩ = some (.int .i64 5) ∧ w'.cell? ⟨kb, ko + 1, none⟩ = some (.int .i64 0) ∧ w'.cell? ⟨kb, ko + 2, none⟩ = some (.int .i64 0) ∧ w'.cell? ⟨kb, ko + 3, none⟩ = some (.string ⟨#[]⟩) ∧ w'.cell? ⟨kb, ko + 4, none⟩ = some (.string ⟨#[]⟩) ∧ w'.cell? ⟨kb, ko + 5, none⟩ = some (.int .i64 0) ∧ w'.cell? ⟨kb, ko + 6, none⟩ = some (.int .i64 0) ∧ w'.cell? ⟨kb, ko + 7, none⟩ = some (.int .i64 0) ∧ w'.cell? ⟨kb, ko + 8, none⟩ = some (.slice ad7 0 dc7) ∧ w'.cell? ⟨kb, ko + 9, none⟩ = some (.int .i64 ((cn : Int) - 1)) ∧ w'.cell? ⟨kb, ko + 10, none⟩ = some (.slice k7 ks.length kc7) ∧ w'.cell? ⟨Q, 0, none⟩ = some (.int .i64 5) ∧ w'.cell? ⟨Q, 1, none⟩ = some (.int .i64 0) ∧ w'.cell? ⟨Q, 2, none⟩ = some (.int .i64 0) ∧ w'.cell? ⟨Q, 3, none⟩ = some (.string ⟨#[]⟩) ∧ w'.cell? ⟨Q, 4, none⟩ = some (.string ⟨#[]⟩) ∧ w'.cell? ⟨Q, 5, none⟩ = some (.int .i64 0) ∧ w'.cell? ⟨Q, 6, none⟩ = some (.int .i64 0) ∧ w'.cell? ⟨Q, 7, none⟩ = some (.int .i64 0) ∧ w'.cell? ⟨Q, 8, none⟩ = some (.slice none 0 0) ∧ w'.cell? ⟨Q, 9, none⟩ = some (.int .i64 ((cn : Int) - 1)) ∧ w'.cell? ⟨Q, 10, none⟩ = some (.slice ka ks.length kcap) ∧ True) (by kernel_rfl) (⟨x0, x1, x2, x3, x4, x5, x6, x7, x8, x9, xa, z0, z1, z2, z3, z4, z5, z6, z7, z8, z9, za, trivial⟩) (fun hHeld => ?_)
      show wpAnyF _ _ _ _ _ _ 17 #[false, false, false, false, false, false, false, false, false, false, false, false, false, false, false, false, false] _ _
      refine wpAnyF_take [0, 1, 3, 4, 5, 6, 7, 8, 9, 10, 11, 12, 13, 14, 15, 16] (i := 0) (v := ?kv35) rfl (by kernel_rfl) (by kernel_rfl) (by kernel_rfl) (by kernel_rfl) (fun _ _ _ h => h) (Or.inl ⟨by rfl, ?ky35⟩) (by assumption) ?kr35
      case ky35 => (intro w hSw; (try dsimp only at hSw); go_split_ands; (try simp only [List.getElem_toArray, List.getElem_cons_zero]); go_simp; (try with_reducible rfl))
      try simp only [Act.put, List.getElem_toArray, List.getElem_cons_zero, List.setIfInBounds_toArray, List.set_cons_zero, List.set_cons_succ]
      refine wpAnyF_take [1, 3, 4, 5, 6, 7, 8, 9, 10, 11, 12, 13, 14, 15, 16] (i := 1) (v := ?kv36) rfl (by kernel_rfl) (by kernel_rfl) (by kernel_rfl) (by kernel_rfl) (fun _ _ _ h => h) (Or.inl ⟨by rfl, ?ky36⟩) (by assumption) ?kr36
      case ky36 => (intro w hSw; (try dsimp only at hSw); go_split_ands; (try simp only [List.getElem_toArray, List.getElem_cons_zero, List.getElem_cons_succ]); go_simp; (try with_reducible rfl))
      try simp only [Act.put, List.getElem_toArray, List.getElem_cons_zero, List.getElem_cons_succ, List.setIfInBounds_toArray, List.set_cons_zero, List.set_cons_succ]
      refine wpAnyF_take [2, 3, 4, 5, 6, 7, 8, 9, 10, 11, 12, 13, 14, 15, 16] (i := 2) (v := ?kv37) rfl (by kernel_rfl) (by kernel_rfl) (by kernel_rfl) (by kernel_rfl) (fun _ _ _ h => h) (Or.inl ⟨by rfl, ?ky37⟩) (by assumption) ?kr37
      case ky37 => (intro w hSw; (try dsimp only at hSw); go_split_ands; (try simp only [List.getElem_toArray, List.getElem_cons_zero, List.getElem_cons_succ]); go_simp; (try with_reducible rfl))
      try simp only [Act.put, List.getElem_toArray, List.getElem_cons_zero, List.getElem_cons_succ, List.setIfInBounds_toArray, List.set_cons_zero, List.set_cons_succ]
      refine wpAnyF_take [3, 4, 5, 6, 7, 8, 9, 10, 11, 12, 13, 14, 15, 16] (i := 3) (v := ?kv38) rfl (by kernel_rfl) (by kernel_rfl) (by kernel_rfl) (by kernel_rfl) (fun _ _ _ h => h) (Or.inl ⟨by rfl, ?ky38⟩) (by assumption) ?kr38
      case ky38 => (intro w hSw; (try dsimp only at hSw); go_split_ands; (try simp only [List.getElem_toArray, List.getElem_cons_zero, List.getElem_cons_succ]); go_simp; (try with_reducible rfl))
      try simp only [Act.put, List.getElem_toArray, List.getElem_cons_zero, List.getElem_cons_succ, List.setIfInBounds_toArray, List.set_cons_zero, List.set_cons_succ]
      refine wpAnyF_take [4, 5, 6, 7, 8, 9, 10, 11, 12, 13, 14, 15, 16] (i := 4) (v := ?kv39) rfl (by kernel_rfl) (by kernel_rfl) (by kernel_rfl) (by kernel_rfl) (fun _ _ _ h => h) (Or.inl ⟨by rfl, ?ky39⟩) (by assumption) ?kr39
      case ky39 => (intro w hSw; (try dsimp only at hSw); go_split_ands; (try simp only [List.getElem_toArray, List.getElem_cons_zero, List.getElem_cons_succ]); go_simp; (try with_reducible rfl))
      try simp only [Act.put, List.getElem_toArray, List.getElem_cons_zero, List.getElem_cons_succ, List.setIfInBounds_toArray, List.set_cons_zero, List.set_cons_succ]
      refine wpAnyF_take [5, 6, 7, 8, 9, 10, 11, 12, 13, 14, 15, 16] (i := 5) (v := ?kv40) rfl (by kernel_rfl) (by kernel_rfl) (by kernel_rfl) (by kernel_rfl) (fun _ _ _ h => h) (Or.inl ⟨by rfl, ?ky40⟩) (by assumption) ?kr40
      case ky40 => (intro w hSw; (try dsimp only at hSw); go_split_ands; (try simp only [List.getElem_toArray, List.getElem_cons_zero, List.getElem_cons_succ]); go_simp; (try with_reducible rfl))
      try simp only [Act.put, List.getElem_toArray, List.getElem_cons_zero, List.getElem_cons_succ, List.setIfInBounds_toArray, List.set_cons_zero, List.set_cons_succ]
      refine wpAnyF_take [6, 7, 8, 9, 10, 11, 12, 13, 14, 15, 16] (i := 6) (v := ?kv41) rfl (by kernel_rfl) (by kernel_rfl) (by kernel_rfl) (by kernel_rfl) (fun _ _ _ h => h) (Or.inl ⟨by rfl, ?ky41⟩) (by assumption) ?kr41
      case ky41 => (intro w hSw; (try dsimp only at hSw); go_split_ands; (try simp only [List.getElem_toArray, List.getElem_cons_zero, List.getElem_cons_succ]); go_simp; (try with_reducible rfl))
      try simp only [Act.put, List.getElem_toArray, List.getElem_cons_zero, List.getElem_cons_succ, List.setIfInBounds_toArray, List.set_cons_zero, List.set_cons_succ]
      refine wpAnyF_take [7, 8, 9, 10, 11, 12, 13, 14, 15, 16] (i := 7) (v := ?kv42) rfl (by kernel_rfl) (by kernel_rfl) (by kernel_rfl) (by kernel_rfl) (fun _ _ _ h => h) (Or.inl ⟨by rfl, ?ky42⟩) (by assumption) ?kr42
      case ky42 => (intro w hSw; (try dsimp only at hSw); go_split_ands; (try simp only [List.getElem_toArray, List.getElem_cons_zero, List.getElem_cons_succ]); go_simp; (try with_reducible rfl))
      try simp only [Act.put, List.getElem_toArray, List.getElem_cons_zero, List.getElem_cons_succ, List.setIfInBounds_toArray, List.set_cons_zero, List.set_cons_succ]
      refine wpAnyF_take [8, 9, 10, 11, 12, 13, 14, 15, 16] (i := 8) (v := ?kv43) rfl (by kernel_rfl) (by kernel_rfl) (by kernel_rfl) (by kernel_rfl) (fun _ _ _ h => h) (Or.inl ⟨by rfl, ?ky43⟩) (by assumption) ?kr43
      case ky43 => (intro w hSw; (try dsimp only at hSw); go_split_ands; (try simp only [List.getElem_toArray, List.getElem_cons_zero, List.getElem_cons_succ]); go_simp; (try with_reducible rfl))
      try simp only [Act.put, List.getElem_toArray, List.getElem_cons_zero, List.getElem_cons_succ, List.setIfInBounds_toArray, List.set_cons_zero, List.set_cons_succ]
      refine wpAnyF_take [9, 10, 11, 12, 13, 14, 15, 16] (i := 9) (v := ?kv44) rfl (by kernel_rfl) (by kernel_rfl) (by kernel_rfl) (by kernel_rfl) (fun _ _ _ h => h) (Or.inl ⟨by rfl, ?ky44⟩) (by assumption) ?kr44
      case ky44 => (intro w hSw; (try dsimp only at hSw); go_split_ands; (try simp only [List.getElem_toArray, List.getElem_cons_zero, List.getElem_cons_succ]); go_simp; (try with_reducible rfl))
      try simp only [Act.put, List.getElem_toArray, List.getElem_cons_zero, List.getElem_cons_succ, List.setIfInBounds_toArray, List.set_cons_zero, List.set_cons_succ]
      refine wpAnyF_take [10, 11, 12, 14, 15, 16] (i := 10) (v := ?kv45) rfl (by kernel_rfl) (by kernel_rfl) (by kernel_rfl) (by kernel_rfl) (fun _ _ _ h => h) (Or.inl ⟨by rfl, ?ky45⟩) (by assumption) ?kr45
      case ky45 => (intro w hSw; (try dsimp only at hSw); go_split_ands; (try simp only [List.getElem_toArray, List.getElem_cons_zero, List.getElem_cons_succ]); go_simp; (try with_reducible rfl))
      try simp only [Act.put, List.getElem_toArray, List.getElem_cons_zero, List.getElem_cons_succ, List.setIfInBounds_toArray, List.set_cons_zero, List.set_cons_succ]
      refine wpAnyF_take [11, 12, 14, 15, 16] (i := 11) (v := ?kv46) rfl (by kernel_rfl) (by kernel_rfl) (by kernel_rfl) (by kernel_rfl) (fun _ _ _ h => h) (Or.inl ⟨by rfl, ?ky46⟩) (by assumption) ?kr46
      case ky46 => (intro w hSw; (try dsimp only at hSw); go_split_ands; (try simp only [List.getElem_toArray, List.getElem_cons_zero, List.getElem_cons_succ]); go_simp; (try with_reducible rfl))
      try simp only [Act.put, List.getElem_toArray, List.getElem_cons_zero, List.getElem_cons_succ, List.setIfInBounds_toArray, List.set_cons_zero, List.set_cons_succ]
      refine wpAnyF_take [12, 14, 15, 16] (i := 12) (v := ?kv47) rfl (by kernel_rfl) (by kernel_rfl) (by kernel_rfl) (by kernel_rfl) (fun _ _ _ h => h) (Or.inl ⟨by rfl, ?ky47⟩) (by assumption) ?kr47
      case ky47 => (intro w hSw; (try dsimp only at hSw); go_split_ands; (try simp only [List.getElem_toArray, List.getElem_cons_zero, List.getElem_cons_succ]); go_simp; (try with_reducible rfl))
      try simp only [Act.put, List.getElem_toArray, List.getElem_cons_zero, List.getElem_cons_succ, List.setIfInBounds_toArray, List.set_cons_zero, List.set_cons_succ]
      refine wpAnyF_take [13, 14, 15, 16] (i := 13) (v := ?kv48) rfl (by kernel_rfl) (by kernel_rfl) (by kernel_rfl) (by kernel_rfl) (fun _ _ _ h => h) (Or.inl ⟨by rfl, ?ky48⟩) (by assumption) ?kr48
      case ky48 => (intro w hSw; (try dsimp only at hSw); go_split_ands; (try simp only [List.getElem_toArray, List.getElem_cons_zero, List.getElem_cons_succ]); go_simp; (try with_reducible rfl))
      try simp only [Act.put, List.getElem_toArray, List.getElem_cons_zero, List.getElem_cons_succ, List.setIfInBounds_toArray, List.set_cons_zero, List.set_cons_succ]
      refine wpAnyF_ready (rs := [14]) (by kernel_rfl) (by simp) ?_
      refine (AllReadyF.last rfl (by kernel_rfl) (fun K hK => ?_) AllReadyF.nil)
      try simp only [List.getElem_toArray, List.getElem_cons_zero, List.getElem_cons_succ]
      go_simp
      go_at_call 11; refine HSS.out.mono ?_; rintro e w9 ⟨rfl, b9⟩
      refine hK.out _ _ (trivial) (fun hHeldn => ?_)
      clear hHeld hK K
      have hHeld := hHeldn
      clear hHeldn
      try simp only [List.setIfInBounds_toArray, List.set_cons_zero, List.set_cons_succ]
      refine wpAnyF_pure (i := 15) (v := ?kv50) rfl (by kernel_rfl) (by kernel_rfl) (by kernel_rfl) (by kernel_rfl) (fun _ _ _ h => h) (Or.inl ⟨by rfl, ?ky50⟩) (by first | (intro _; assumption) | (intro h; exact absurd h (by decide))) ?kr50
      case ky50 => (intro w hSw; clear hSw; (try simp only [List.getElem_toArray, List.getElem_cons_zero, List.getElem_cons_succ]); go_simp; (try with_reducible rfl))
      try simp only [Act.put, List.getElem_toArray, List.getElem_cons_zero, List.getElem_cons_succ, List.setIfInBounds_toArray, List.set_cons_zero, List.set_cons_succ]
      refine wpAnyF_pure (i := 16) (v := ?kv51) rfl (by kernel_rfl) (by kernel_rfl) (by kernel_rfl) (by kernel_rfl) (fun _ _ _ h => h) (Or.inl ⟨by rfl, ?ky51⟩) (by first | (intro _; assumption) | (intro h; exact absurd h (by decide))) ?kr51
      case ky51 => (intro w hSw; clear hSw; (try simp only [List.getElem_toArray, List.getElem_cons_zero, List.getElem_cons_succ]); go_simp; (try with_reducible rfl))
      try simp only [Act.put, List.getElem_toArray, List.getElem_cons_zero, List.getElem_cons_succ, List.setIfInBounds_toArray, List.set_cons_zero, List.set_cons_succ]
      refine wpAnyF_done (by kernel_rfl) ?_ _
      go_wp2_with fail
      go_ret
      exact ⟨rfl, grow_trans HT.out.2.2.2 (grow_trans HB7.out ((Below.refl _ w7).drew.trans b9))⟩
end
end Go.Proofs.YtanmihhlkelgeaaGreat
