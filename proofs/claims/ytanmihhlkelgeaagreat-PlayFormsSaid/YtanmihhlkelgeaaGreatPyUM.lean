/- DERIVED. clathrilaw28.PlayForms returns true. -/
import Derived.Lib.SmallJoins
import Derived.Lib.SlBytesConst
import Derived.Test.YtanmihhlkelgeaaGreatMg31
namespace Go.Proofs.YtanmihhlkelgeaaGreat
open Go.RowKit
attribute [local irreducible] Calls
set_option maxRecDepth 100000

def formsB : List UInt8 := [0, 7, 8, 0, 2, 2, 0, 13, 6, 2, 47, 97, 1, 116, 0, 3, 1, 0, 0, 9, 2, 104, 105, 5, 0, 11, 1, 120, 0, 5, 4, 1, 4, 0, 1, 6]
def forms : List Stp := [⟨1, 2, 0, ⟨#[]⟩, ⟨#[]⟩, 0, 0, 0, [], 0, []⟩, ⟨2, 13, 6, ⟨#[47, 97]⟩, ⟨#[116]⟩, 3, 256, 9, [104, 105], 0, []⟩, ⟨5, 0, 0, ⟨#[]⟩, ⟨#[]⟩, 0, 0, 0, [], -1, [[120], []]⟩]
theorem decode_forms : decode formsB = forms := by kernel_rfl
def bads : List Stp := [Stp.of 0 0, Stp.of 7 0, Stp.of (-1) 0, Stp.of 1 (-1), Stp.of 3 65536, { Stp.of 3 0 with cut := 1 }, Stp.of 5 1, { Stp.of 5 0 with cut := -2 }, { Stp.of 5 0 with cut := 255 }, { Stp.of 5 0 with keep := List.replicate 9 [] }, { Stp.of 2 0 with ask := 256 }, { Stp.of 2 0 with off := -1 }, { Stp.of 2 0 with data := List.replicate 256 0 }, { Stp.of 4 0 with ask := 1 }]
theorem encode_bads : encode bads = [] := by kernel_rfl
theorem seg_at {w : World} {G o : Nat} {cs l : Array Value} {t : TypeId} (h : objAt w G = some (.cells cs t (0, 0))) (hs : (cs.toList.drop o).take l.size = l.toList) : ∀ (j : Nat) (v : Value), l[j]? = some v → w.cell? ⟨G, 0 + (o + j), none⟩ = some v := by
  intro j v hv
  rw [Nat.zero_add, cell_obj h, ← Array.getElem?_toList]
  rw [← Array.getElem?_toList, ← hs] at hv
  rw [List.getElem?_take] at hv
  split at hv
  · rw [List.getElem?_drop] at hv; exact hv
  · cases hv
def z256 : Array Value := (List.replicate 256 (Value.int .u8 0)).toArray
def n9 : Array Value := (List.replicate 9 (Value.slice none 0 0)).toArray
theorem bytes_zero {w : World} {b : Nat} (h : objAt w b = some (.cells z256 5 (0, 0))) : BytesAt w (some ⟨b, 0, none⟩) (List.replicate 256 0) := by
  refine ⟨b, 0, fun _ => rfl, fun i hi => ?_⟩
  have hi' : i < 256 := by simpa using hi
  rw [Nat.zero_add, cell_obj h]
  have e1 : z256[i]? = some (Value.int .u8 0) := by unfold z256; rw [List.getElem?_toArray, List.getElem?_replicate, if_pos hi']
  rw [e1, List.getElem_replicate]; rfl
theorem nine_at {w : World} {A : Nat} (hA : objAt w A = some (.cells n9 22 (0, 0))) : ∀ (i : Nat) (l : List UInt8), (List.replicate 9 ([] : List UInt8))[i]? = some l → ∃ kb ko p c, (some ⟨A, 0, none⟩ : Option Addr) = some ⟨kb, ko, none⟩ ∧ kb < w.heap.size ∧ w.cell? ⟨kb, ko + i, none⟩ = some (.slice p l.length c) ∧ BytesAt w p l ∧ (0 < l.length → ∀ q, p = some q → q.block < w.heap.size) := by
  intro i l hl
  obtain ⟨h1, h2⟩ := List.getElem?_eq_some_iff.1 hl
  have h3 : i < 9 := by simpa using h1
  have h4 : l = [] := by rw [← h2, List.getElem_replicate]
  subst h4
  refine ⟨A, 0, none, 0, rfl, block_lt hA, ?_, BytesAt.none0, fun h0 => absurd h0 (by simp)⟩
  rw [Nat.zero_add, cell_obj hA]
  unfold n9
  rw [List.getElem?_toArray, List.getElem?_replicate, if_pos h3]; rfl
theorem bads_at {w : World} {G A B : Nat} (hG : objAt w G = some (.cells #[.int .i64 0, .int .i64 0, .int .i64 0, .string ⟨#[]⟩, .string ⟨#[]⟩, .int .i64 0, .int .i64 0, .int .i64 0, .slice none 0 0, .int .i64 0, .slice none 0 0, .int .i64 7, .int .i64 0, .int .i64 0, .string ⟨#[]⟩, .string ⟨#[]⟩, .int .i64 0, .int .i64 0, .int .i64 0, .slice none 0 0, .int .i64 0, .slice none 0 0, .int .i64 (-1), .int .i64 0, .int .i64 0, .string ⟨#[]⟩, .string ⟨#[]⟩, .int .i64 0, .int .i64 0, .int .i64 0, .slice none 0 0, .int .i64 0, .slice none 0 0, .int .i64 1, .int .i64 (-1), .int .i64 0, .string ⟨#[]⟩, .string ⟨#[]⟩, .int .i64 0, .int .i64 0, .int .i64 0, .slice none 0 0, .int .i64 0, .slice none 0 0, .int .i64 3, .int .i64 65536, .int .i64 0, .string ⟨#[]⟩, .string ⟨#[]⟩, .int .i64 0, .int .i64 0, .int .i64 0, .slice none 0 0, .int .i64 0, .slice none 0 0, .int .i64 3, .int .i64 0, .int .i64 0, .string ⟨#[]⟩, .string ⟨#[]⟩, .int .i64 0, .int .i64 0, .int .i64 0, .slice none 0 0, .int .i64 1, .slice none 0 0, .int .i64 5, .int .i64 1, .int .i64 0, .string ⟨#[]⟩, .string ⟨#[]⟩, .int .i64 0, .int .i64 0, .int .i64 0, .slice none 0 0, .int .i64 0, .slice none 0 0, .int .i64 5, .int .i64 0, .int .i64 0, .string ⟨#[]⟩, .string ⟨#[]⟩, .int .i64 0, .int .i64 0, .int .i64 0, .slice none 0 0, .int .i64 (-2), .slice none 0 0, .int .i64 5, .int .i64 0, .int .i64 0, .string ⟨#[]⟩, .string ⟨#[]⟩, .int .i64 0, .int .i64 0, .int .i64 0, .slice none 0 0, .int .i64 255, .slice none 0 0, .int .i64 5, .int .i64 0, .int .i64 0, .string ⟨#[]⟩, .string ⟨#[]⟩, .int .i64 0, .int .i64 0, .int .i64 0, .slice none 0 0, .int .i64 0, .slice (some ⟨A, 0, none⟩) 9 9, .int .i64 2, .int .i64 0, .int .i64 256, .string ⟨#[]⟩, .string ⟨#[]⟩, .int .i64 0, .int .i64 0, .int .i64 0, .slice none 0 0, .int .i64 0, .slice none 0 0, .int .i64 2, .int .i64 0, .int .i64 0, .string ⟨#[]⟩, .string ⟨#[]⟩, .int .i64 0, .int .i64 (-1), .int .i64 0, .slice none 0 0, .int .i64 0, .slice none 0 0, .int .i64 2, .int .i64 0, .int .i64 0, .string ⟨#[]⟩, .string ⟨#[]⟩, .int .i64 0, .int .i64 0, .int .i64 0, .slice (some ⟨B, 0, none⟩) 256 256, .int .i64 0, .slice none 0 0, .int .i64 4, .int .i64 0, .int .i64 1, .string ⟨#[]⟩, .string ⟨#[]⟩, .int .i64 0, .int .i64 0, .int .i64 0, .slice none 0 0, .int .i64 0, .slice none 0 0] 35 (0, 0))) (hA : objAt w A = some (.cells n9 22 (0, 0))) (hB : objAt w B = some (.cells z256 5 (0, 0))) : StpsAt w w.heap.size (some ⟨G, 0, none⟩) bads := by
  intro i s hs
  match i, hs with
  | 0, hs => obtain rfl := Option.some.inj hs; exact ⟨G, 0, none, 0, none, 0, rfl, block_lt hG, seg_at hG (o := 0) rfl, ⟨BytesAt.none0, fun p e => (by cases e), fun i l hl => by simp [Stp.of] at hl⟩⟩
  | 1, hs => obtain rfl := Option.some.inj hs; exact ⟨G, 0, none, 0, none, 0, rfl, block_lt hG, seg_at hG (o := 11) rfl, ⟨BytesAt.none0, fun p e => (by cases e), fun i l hl => by simp [Stp.of] at hl⟩⟩
  | 2, hs => obtain rfl := Option.some.inj hs; exact ⟨G, 0, none, 0, none, 0, rfl, block_lt hG, seg_at hG (o := 22) rfl, ⟨BytesAt.none0, fun p e => (by cases e), fun i l hl => by simp [Stp.of] at hl⟩⟩
  | 3, hs => obtain rfl := Option.some.inj hs; exact ⟨G, 0, none, 0, none, 0, rfl, block_lt hG, seg_at hG (o := 33) rfl, ⟨BytesAt.none0, fun p e => (by cases e), fun i l hl => by simp [Stp.of] at hl⟩⟩
  | 4, hs => obtain rfl := Option.some.inj hs; exact ⟨G, 0, none, 0, none, 0, rfl, block_lt hG, seg_at hG (o := 44) rfl, ⟨BytesAt.none0, fun p e => (by cases e), fun i l hl => by simp [Stp.of] at hl⟩⟩
  | 5, hs => obtain rfl := Option.some.inj hs; exact ⟨G, 0, none, 0, none, 0, rfl, block_lt hG, seg_at hG (o := 55) rfl, ⟨BytesAt.none0, fun p e => (by cases e), fun i l hl => by simp [Stp.of] at hl⟩⟩
  | 6, hs => obtain rfl := Option.some.inj hs; exact ⟨G, 0, none, 0, none, 0, rfl, block_lt hG, seg_at hG (o := 66) rfl, ⟨BytesAt.none0, fun p e => (by cases e), fun i l hl => by simp [Stp.of] at hl⟩⟩
  | 7, hs => obtain rfl := Option.some.inj hs; exact ⟨G, 0, none, 0, none, 0, rfl, block_lt hG, seg_at hG (o := 77) rfl, ⟨BytesAt.none0, fun p e => (by cases e), fun i l hl => by simp [Stp.of] at hl⟩⟩
  | 8, hs => obtain rfl := Option.some.inj hs; exact ⟨G, 0, none, 0, none, 0, rfl, block_lt hG, seg_at hG (o := 88) rfl, ⟨BytesAt.none0, fun p e => (by cases e), fun i l hl => by simp [Stp.of] at hl⟩⟩
  | 9, hs => obtain rfl := Option.some.inj hs; exact ⟨G, 0, none, 0, (some ⟨A, 0, none⟩), 9, rfl, block_lt hG, seg_at hG (o := 99) rfl, ⟨BytesAt.none0, fun p e => (by cases e), nine_at hA⟩⟩
  | 10, hs => obtain rfl := Option.some.inj hs; exact ⟨G, 0, none, 0, none, 0, rfl, block_lt hG, seg_at hG (o := 110) rfl, ⟨BytesAt.none0, fun p e => (by cases e), fun i l hl => by simp [Stp.of] at hl⟩⟩
  | 11, hs => obtain rfl := Option.some.inj hs; exact ⟨G, 0, none, 0, none, 0, rfl, block_lt hG, seg_at hG (o := 121) rfl, ⟨BytesAt.none0, fun p e => (by cases e), fun i l hl => by simp [Stp.of] at hl⟩⟩
  | 12, hs => obtain rfl := Option.some.inj hs; exact ⟨G, 0, (some ⟨B, 0, none⟩), 256, none, 0, rfl, block_lt hG, seg_at hG (o := 132) rfl, ⟨bytes_zero hB, fun p e => by obtain rfl := Option.some.inj e; exact block_lt hB, fun i l hl => by simp [Stp.of] at hl⟩⟩
  | 13, hs => obtain rfl := Option.some.inj hs; exact ⟨G, 0, none, 0, none, 0, rfl, block_lt hG, seg_at hG (o := 143) rfl, ⟨BytesAt.none0, fun p e => (by cases e), fun i l hl => by simp [Stp.of] at hl⟩⟩
  | i + 14, hs => simp [bads] at hs
theorem fits_bads : ∀ s ∈ bads, s.fits := by
  intro s hs
  simp only [bads, List.mem_cons, List.not_mem_nil, or_false] at hs
  rcases hs with rfl | rfl | rfl | rfl | rfl | rfl | rfl | rfl | rfl | rfl | rfl | rfl | rfl | rfl <;>
  exact ⟨by simp [Stp.of], by simp [Stp.of], by simp [Stp.of], by simp [Stp.of], fun l hl => (by simp [Stp.of] at hl; try simp [hl]), by simp [Stp.of]⟩
theorem forms_at {w : World} {N G : Nat} (h0 : w.heap[N]? = some (.cells #[.int .u8 104, .int .u8 105] 5 (2, 3))) (h1 : w.heap[N + 1]? = some (.cells #[.int .u8 120] 5 (1, 2))) (h3 : objAt w (N + 3) = some (.cells #[.slice (some ⟨N + 1, 0, none⟩) 1 1, .slice (some ⟨N + 2, 0, none⟩) 0 0] 22 (0, 0))) (hG : objAt w G = some (.cells #[.int .i64 1, .int .i64 2, .int .i64 0, .string ⟨#[]⟩, .string ⟨#[]⟩, .int .i64 0, .int .i64 0, .int .i64 0, .slice none 0 0, .int .i64 0, .slice none 0 0, .int .i64 2, .int .i64 13, .int .i64 6, .string ⟨#[47, 97]⟩, .string ⟨#[116]⟩, .int .i64 3, .int .i64 256, .int .i64 9, .slice (some ⟨N, 0, none⟩) 2 2, .int .i64 0, .slice none 0 0, .int .i64 5, .int .i64 0, .int .i64 0, .string ⟨#[]⟩, .string ⟨#[]⟩, .int .i64 0, .int .i64 0, .int .i64 0, .slice none 0 0, .int .i64 (-1), .slice (some ⟨N + 3, 0, none⟩) 2 2] 35 (0, 0))) : StpsAt w w.heap.size (some ⟨G, 0, none⟩) forms := by
  have e0 : ∀ i, w.cell? ⟨N, i, none⟩ = (#[.int .u8 104, .int .u8 105] : Array Value)[i]? := fun i => by simp [World.cell?, h0]
  have e1 : ∀ i, w.cell? ⟨N + 1, i, none⟩ = (#[.int .u8 120] : Array Value)[i]? := fun i => by simp [World.cell?, h1]
  intro i s hs
  match i, hs with
  | 0, hs => obtain rfl := Option.some.inj hs; exact ⟨G, 0, none, 0, none, 0, rfl, block_lt hG, seg_at hG (o := 0) rfl, ⟨BytesAt.none0, fun p e => (by cases e), fun i l hl => by simp at hl⟩⟩
  | 1, hs =>
    obtain rfl := Option.some.inj hs
    refine ⟨G, 0, some ⟨N, 0, none⟩, 2, none, 0, rfl, block_lt hG, seg_at hG (o := 11) rfl, ⟨⟨N, 0, fun _ => rfl, fun i hi => ?_⟩, fun p e => by obtain rfl := Option.some.inj e; exact block_lt h0, fun i l hl => by simp at hl⟩⟩
    match i, hi with
    | 0, _ => exact e0 0
    | 1, _ => exact e0 1
    | i + 2, h => exact absurd h (by simp)
  | 2, hs =>
    obtain rfl := Option.some.inj hs
    refine ⟨G, 0, none, 0, some ⟨N + 3, 0, none⟩, 2, rfl, block_lt hG, seg_at hG (o := 22) rfl, ⟨BytesAt.none0, fun p e => (by cases e), fun i l hl => ?_⟩⟩
    match i, hl with
    | 0, hl =>
      obtain rfl := Option.some.inj hl
      refine ⟨N + 3, 0, some ⟨N + 1, 0, none⟩, 1, rfl, block_lt h3, cell_obj h3 0, ⟨N + 1, 0, fun _ => rfl, fun i hi => ?_⟩, fun _ q e => by obtain rfl := Option.some.inj e; exact block_lt h1⟩
      match i, hi with
      | 0, _ => exact e1 0
      | i + 1, h => exact absurd h (by simp)
    | 1, hl =>
      obtain rfl := Option.some.inj hl
      exact ⟨N + 3, 0, some ⟨N + 2, 0, none⟩, 0, rfl, block_lt h3, cell_obj h3 1, BytesAt.none0, fun h0 => absurd h0 (by simp)⟩
    | i + 2, hl => simp at hl
  | i + 3, hs => simp [forms] at hs
theorem step_make {t e : TypeId} {n : Nat} {C : Array Value} {ops : Array Oper} {o : Oper} {a b0 : Act} {w : World} {K : Act → World → Prop} {Q : Exit → Act → World → Prop} {F : Prop} (hgd : o.guard = none) (ho : o.op = .makeSlice t (.const (.int .i64 n)) (.const (.int .i64 n)))
    (hr : (Instr.makeSlice t (.int .i64 n) (.int .i64 n)).run Tryz.prog w = .ok (.slice (some ⟨w.heap.size, 0, none⟩) n n) (w.alloc (.cells C e)))
    (h : ∀ g w', g = w.heap.size → w' = w.alloc (.cells C e) → K (a.put o.dst (.slice (some ⟨g, 0, none⟩) n n)) w') :
    if Region.wanted o (yielded ops b0.tmps) = true then Oper.wp Tryz.prog o a w K Q else F := by
  have hw : Region.wanted o (yielded ops b0.tmps) = true := by simp [Region.wanted, hgd]
  rw [if_pos hw]
  unfold Oper.wp execOp
  simp only [ho, Act.eval, Sem.run_bind]
  rw [hr]
  exact h _ _ rfl rfl
theorem make9 (w : World) : (Instr.makeSlice 33 (.int .i64 (9 : Nat)) (.int .i64 (9 : Nat))).run Tryz.prog w = .ok (.slice (some ⟨w.heap.size, 0, none⟩) 9 9) (w.alloc (.cells n9 22)) := by kernel_rfl
theorem make256 (w : World) : (Instr.makeSlice 22 (.int .i64 (256 : Nat)) (.int .i64 (256 : Nat))).run Tryz.prog w = .ok (.slice (some ⟨w.heap.size, 0, none⟩) 256 256) (w.alloc (.cells z256 5)) := by
  obtain ⟨i, z, hi, hz, hs, hby, hzs⟩ := infoByte
  have hz' : i.zero = some (.int .u8 0) := by
    have : (Tryz.prog.info? 5).map (·.zero) = some (some (.int .u8 0)) := by kernel_rfl
    rw [hi] at this; simpa using this
  exact run_make1 22 5 i (.int .u8 0) Tryz.underlying22 hi hz' rfl hs (by omega) 256 w (by decide) (by decide)
theorem step_make9 {ops : Array Oper} {o : Oper} {a b0 : Act} {w : World} {K : Act → World → Prop} {Q : Exit → Act → World → Prop} {F : Prop} (hgd : o.guard = none) (ho : o.op = .makeSlice 33 (.const (.int .i64 9)) (.const (.int .i64 9)))
    (h : ∀ g w', g = w.heap.size → w' = w.alloc (.cells n9 22) → K (a.put o.dst (.slice (some ⟨g, 0, none⟩) 9 9)) w') :
    if Region.wanted o (yielded ops b0.tmps) = true then Oper.wp Tryz.prog o a w K Q else F := step_make (n := 9) hgd ho (make9 w) h
theorem step_make256 {ops : Array Oper} {o : Oper} {a b0 : Act} {w : World} {K : Act → World → Prop} {Q : Exit → Act → World → Prop} {F : Prop} (hgd : o.guard = none) (ho : o.op = .makeSlice 22 (.const (.int .i64 256)) (.const (.int .i64 256)))
    (h : ∀ g w', g = w.heap.size → w' = w.alloc (.cells z256 5) → K (a.put o.dst (.slice (some ⟨g, 0, none⟩) 256 256)) w') :
    if Region.wanted o (yielded ops b0.tmps) = true then Oper.wp Tryz.prog o a w K Q else F := step_make (n := 256) hgd ho (make256 w) h
theorem heap_up {w : World} {n : Nat} {o o' : Obj} (h : w.heap[n]? = some o) : (w.alloc o').heap[n]? = some o := by
  rw [heap_alloc_if, if_neg (by have := block_lt h; omega)]; exact h
theorem heap_top (w : World) (o : Obj) {n : Nat} (h : n = w.heap.size) : (w.alloc o).heap[n]? = some o := by rw [heap_alloc_if, if_pos h]
set_option maxHeartbeats 8000000 in
theorem walk_PlayForms (w : World) : Calls Tryz.prog 5 #[] w fun e w' => e = .returned (.bool true) ∧ Below w.heap.size w w' := by
  have hc1 : ∀ w : World, (Go.convert 22 22 (.slice (some ⟨w.heap.size, 0, none⟩) 36 36)).run Tryz.prog (w.alloc (.cells #[.int .u8 0, .int .u8 7, .int .u8 8, .int .u8 0, .int .u8 2, .int .u8 2, .int .u8 0, .int .u8 13, .int .u8 6, .int .u8 2, .int .u8 47, .int .u8 97, .int .u8 1, .int .u8 116, .int .u8 0, .int .u8 3, .int .u8 1, .int .u8 0, .int .u8 0, .int .u8 9, .int .u8 2, .int .u8 104, .int .u8 105, .int .u8 5, .int .u8 0, .int .u8 11, .int .u8 1, .int .u8 120, .int .u8 0, .int .u8 5, .int .u8 4, .int .u8 1, .int .u8 4, .int .u8 0, .int .u8 1, .int .u8 6] 5)) = .ok (.slice (some ⟨w.heap.size, 0, none⟩) 36 36) (w.alloc (.cells #[.int .u8 0, .int .u8 7, .int .u8 8, .int .u8 0, .int .u8 2, .int .u8 2, .int .u8 0, .int .u8 13, .int .u8 6, .int .u8 2, .int .u8 47, .int .u8 97, .int .u8 1, .int .u8 116, .int .u8 0, .int .u8 3, .int .u8 1, .int .u8 0, .int .u8 0, .int .u8 9, .int .u8 2, .int .u8 104, .int .u8 105, .int .u8 5, .int .u8 0, .int .u8 11, .int .u8 1, .int .u8 120, .int .u8 0, .int .u8 5, .int .u8 4, .int .u8 1, .int .u8 4, .int .u8 0, .int .u8 1, .int .u8 6] 5 (36, 37))) := fun w => Go.Lib.run_convert_bytes_const w 22 5 _ 36 36 Tryz.underlying22 Tryz.underlying5
  have hd : ∀ w : World, Calls Tryz.prog 8 #[.slice (some ⟨w.heap.size, 0, none⟩) 36 36] (w.alloc (.cells #[.int .u8 0, .int .u8 7, .int .u8 8, .int .u8 0, .int .u8 2, .int .u8 2, .int .u8 0, .int .u8 13, .int .u8 6, .int .u8 2, .int .u8 47, .int .u8 97, .int .u8 1, .int .u8 116, .int .u8 0, .int .u8 3, .int .u8 1, .int .u8 0, .int .u8 0, .int .u8 9, .int .u8 2, .int .u8 104, .int .u8 105, .int .u8 5, .int .u8 0, .int .u8 11, .int .u8 1, .int .u8 120, .int .u8 0, .int .u8 5, .int .u8 4, .int .u8 1, .int .u8 4, .int .u8 0, .int .u8 1, .int .u8 6] 5 (36, 37))) fun e w' => ∃ v, e = .returned v ∧ RowS w' (w.alloc (.cells #[.int .u8 0, .int .u8 7, .int .u8 8, .int .u8 0, .int .u8 2, .int .u8 2, .int .u8 0, .int .u8 13, .int .u8 6, .int .u8 2, .int .u8 47, .int .u8 97, .int .u8 1, .int .u8 116, .int .u8 0, .int .u8 3, .int .u8 1, .int .u8 0, .int .u8 0, .int .u8 9, .int .u8 2, .int .u8 104, .int .u8 105, .int .u8 5, .int .u8 0, .int .u8 11, .int .u8 1, .int .u8 120, .int .u8 0, .int .u8 5, .int .u8 4, .int .u8 1, .int .u8 4, .int .u8 0, .int .u8 1, .int .u8 6] 5 (36, 37))).heap.size v forms ∧ Below (w.alloc (.cells #[.int .u8 0, .int .u8 7, .int .u8 8, .int .u8 0, .int .u8 2, .int .u8 2, .int .u8 0, .int .u8 13, .int .u8 6, .int .u8 2, .int .u8 47, .int .u8 97, .int .u8 1, .int .u8 116, .int .u8 0, .int .u8 3, .int .u8 1, .int .u8 0, .int .u8 0, .int .u8 9, .int .u8 2, .int .u8 104, .int .u8 105, .int .u8 5, .int .u8 0, .int .u8 11, .int .u8 1, .int .u8 120, .int .u8 0, .int .u8 5, .int .u8 4, .int .u8 1, .int .u8 4, .int .u8 0, .int .u8 1, .int .u8 6] 5 (36, 37))).heap.size (w.alloc (.cells #[.int .u8 0, .int .u8 7, .int .u8 8, .int .u8 0, .int .u8 2, .int .u8 2, .int .u8 0, .int .u8 13, .int .u8 6, .int .u8 2, .int .u8 47, .int .u8 97, .int .u8 1, .int .u8 116, .int .u8 0, .int .u8 3, .int .u8 1, .int .u8 0, .int .u8 0, .int .u8 9, .int .u8 2, .int .u8 104, .int .u8 105, .int .u8 5, .int .u8 0, .int .u8 11, .int .u8 1, .int .u8 120, .int .u8 0, .int .u8 5, .int .u8 4, .int .u8 1, .int .u8 4, .int .u8 0, .int .u8 1, .int .u8 6] 5 (36, 37))) w' := fun w => by
    have hcell : ∀ i, (w.alloc (.cells #[.int .u8 0, .int .u8 7, .int .u8 8, .int .u8 0, .int .u8 2, .int .u8 2, .int .u8 0, .int .u8 13, .int .u8 6, .int .u8 2, .int .u8 47, .int .u8 97, .int .u8 1, .int .u8 116, .int .u8 0, .int .u8 3, .int .u8 1, .int .u8 0, .int .u8 0, .int .u8 9, .int .u8 2, .int .u8 104, .int .u8 105, .int .u8 5, .int .u8 0, .int .u8 11, .int .u8 1, .int .u8 120, .int .u8 0, .int .u8 5, .int .u8 4, .int .u8 1, .int .u8 4, .int .u8 0, .int .u8 1, .int .u8 6] 5 (36, 37))).cell? ⟨w.heap.size, i, none⟩ = (#[.int .u8 0, .int .u8 7, .int .u8 8, .int .u8 0, .int .u8 2, .int .u8 2, .int .u8 0, .int .u8 13, .int .u8 6, .int .u8 2, .int .u8 47, .int .u8 97, .int .u8 1, .int .u8 116, .int .u8 0, .int .u8 3, .int .u8 1, .int .u8 0, .int .u8 0, .int .u8 9, .int .u8 2, .int .u8 104, .int .u8 105, .int .u8 5, .int .u8 0, .int .u8 11, .int .u8 1, .int .u8 120, .int .u8 0, .int .u8 5, .int .u8 4, .int .u8 1, .int .u8 4, .int .u8 0, .int .u8 1, .int .u8 6] : Array Value)[i]? := fun i => by unfold World.cell?; rw [heap_top w _ rfl]; rfl
    have hby : BytesAt (w.alloc (.cells #[.int .u8 0, .int .u8 7, .int .u8 8, .int .u8 0, .int .u8 2, .int .u8 2, .int .u8 0, .int .u8 13, .int .u8 6, .int .u8 2, .int .u8 47, .int .u8 97, .int .u8 1, .int .u8 116, .int .u8 0, .int .u8 3, .int .u8 1, .int .u8 0, .int .u8 0, .int .u8 9, .int .u8 2, .int .u8 104, .int .u8 105, .int .u8 5, .int .u8 0, .int .u8 11, .int .u8 1, .int .u8 120, .int .u8 0, .int .u8 5, .int .u8 4, .int .u8 1, .int .u8 4, .int .u8 0, .int .u8 1, .int .u8 6] 5 (36, 37))) (some ⟨w.heap.size, 0, none⟩) formsB := by
      refine ⟨w.heap.size, 0, fun _ => rfl, fun i hi => ?_⟩
      rw [Nat.zero_add, hcell i]
      have h36 : i < 36 := by simpa [formsB] using hi
      have key : (#[.int .u8 0, .int .u8 7, .int .u8 8, .int .u8 0, .int .u8 2, .int .u8 2, .int .u8 0, .int .u8 13, .int .u8 6, .int .u8 2, .int .u8 47, .int .u8 97, .int .u8 1, .int .u8 116, .int .u8 0, .int .u8 3, .int .u8 1, .int .u8 0, .int .u8 0, .int .u8 9, .int .u8 2, .int .u8 104, .int .u8 105, .int .u8 5, .int .u8 0, .int .u8 11, .int .u8 1, .int .u8 120, .int .u8 0, .int .u8 5, .int .u8 4, .int .u8 1, .int .u8 4, .int .u8 0, .int .u8 1, .int .u8 6] : Array Value) = (formsB.map fun c => Value.int .u8 (c.toNat : Int)).toArray := by kernel_rfl
      rw [key, List.getElem?_toArray, List.getElem?_map, List.getElem?_eq_getElem hi]; rfl
    have := decode_any (cap := 36) hby (fun e => by cases e) (by decide) (by decide) (fun ad e => by obtain rfl := Option.some.inj e; exact ⟨⟨_, 0, rfl⟩, by rw [size_alloc]; exact Nat.lt_succ_self _⟩)
    rw [decode_forms] at this
    exact this
  have HD := Lib.hid hd
  clear hd
  go_enter Tryz.func5, Tryz.ntmps5
  go_upto_region 4 with (first | (go_at_call 7; refine (begun_ok _).mono ?_; rintro e w1 ⟨rfl, b1⟩) | (go_at_call 8; refine (HD.out w1).mono ?_; rintro e w2 ⟨v2, rfl, hr2, b2⟩; obtain ⟨a2, c2, hv2, hat2, _, _⟩ := hr2.arg; rw [show forms.length = 3 from rfl] at hv2; subst hv2; have H2 := Lib.hid (And.intro hat2 (grow_trans b1 (grow_trans (grow_alloc (Below.refl _ _) _) b2))); clear hr2 hat2 b2 b1))
  clear hc1
  have hc2 : (Go.convert 22 22 (.slice (some ⟨w2.heap.size, 0, none⟩) 2 2)).run Tryz.prog (w2.alloc (.cells #[.int .u8 104, .int .u8 105] 5)) = .ok (.slice (some ⟨w2.heap.size, 0, none⟩) 2 2) (w2.alloc (.cells #[.int .u8 104, .int .u8 105] 5 (2, 3))) := Go.Lib.run_convert_bytes_const w2 22 5 _ 2 2 Tryz.underlying22 Tryz.underlying5
  have hc3 : (Go.convert 22 22 (.slice (some ⟨w2.heap.size + 1, 0, none⟩) 1 1)).run Tryz.prog ((w2.alloc (.cells #[.int .u8 104, .int .u8 105] 5 (2, 3))).alloc (.cells #[.int .u8 120] 5)) = .ok (.slice (some ⟨w2.heap.size + 1, 0, none⟩) 1 1) ((w2.alloc (.cells #[.int .u8 104, .int .u8 105] 5 (2, 3))).alloc (.cells #[.int .u8 120] 5 (1, 2))) := by
    have := Go.Lib.run_convert_bytes_const (P := Tryz.prog) (w2.alloc (.cells #[.int .u8 104, .int .u8 105] 5 (2, 3))) 22 5 #[.int .u8 120] 1 1 Tryz.underlying22 Tryz.underlying5
    rw [size_alloc] at this
    exact this
  go_upto_region 5 with fail
  obtain ⟨w3, hw3⟩ : ∃ w3, w3 = (((((w2.alloc (.cells #[.int .u8 104, .int .u8 105] 5 (2, 3))).alloc (.cells #[.int .u8 120] 5 (1, 2))).alloc (.cells #[] 5)).alloc (.cells #[.slice (some ⟨w2.heap.size + 1, 0, none⟩) 1 1, .slice (some ⟨w2.heap.size + 1 + 1, 0, none⟩) 0 0] 22)).alloc (.cells #[.int .i64 1, .int .i64 2, .int .i64 0, .string ⟨#[]⟩, .string ⟨#[]⟩, .int .i64 0, .int .i64 0, .int .i64 0, .slice none 0 0, .int .i64 0, .slice none 0 0, .int .i64 2, .int .i64 13, .int .i64 6, .string ⟨#[47, 97]⟩, .string ⟨#[116]⟩, .int .i64 3, .int .i64 256, .int .i64 9, .slice (some ⟨w2.heap.size, 0, none⟩) 2 2, .int .i64 0, .slice none 0 0, .int .i64 5, .int .i64 0, .int .i64 0, .string ⟨#[]⟩, .string ⟨#[]⟩, .int .i64 0, .int .i64 0, .int .i64 0, .slice none 0 0, .int .i64 (-1), .slice (some ⟨w2.heap.size + 1 + 1 + 1, 0, none⟩) 2 2] 35)) := ⟨_, rfl⟩
  have e0 : w3.heap[w2.heap.size]? = some (.cells #[.int .u8 104, .int .u8 105] 5 (2, 3)) := by rw [hw3]; exact heap_up (heap_up (heap_up (heap_up (heap_top _ _ rfl))))
  have e1 : w3.heap[w2.heap.size + 1]? = some (.cells #[.int .u8 120] 5 (1, 2)) := by rw [hw3]; exact heap_up (heap_up (heap_up (heap_top _ _ (by rw [size_alloc]))))
  have e3 : objAt w3 (w2.heap.size + 3) = some (.cells #[.slice (some ⟨w2.heap.size + 1, 0, none⟩) 1 1, .slice (some ⟨w2.heap.size + 2, 0, none⟩) 0 0] 22 (0, 0)) := by rw [hw3]; exact heap_up (heap_top _ _ (by rw [size_alloc, size_alloc, size_alloc]))
  have e4 : objAt w3 (w2.heap.size + 1 + 1 + 1 + 1) = some (.cells #[.int .i64 1, .int .i64 2, .int .i64 0, .string ⟨#[]⟩, .string ⟨#[]⟩, .int .i64 0, .int .i64 0, .int .i64 0, .slice none 0 0, .int .i64 0, .slice none 0 0, .int .i64 2, .int .i64 13, .int .i64 6, .string ⟨#[47, 97]⟩, .string ⟨#[116]⟩, .int .i64 3, .int .i64 256, .int .i64 9, .slice (some ⟨w2.heap.size, 0, none⟩) 2 2, .int .i64 0, .slice none 0 0, .int .i64 5, .int .i64 0, .int .i64 0, .string ⟨#[]⟩, .string ⟨#[]⟩, .int .i64 0, .int .i64 0, .int .i64 0, .slice none 0 0, .int .i64 (-1), .slice (some ⟨w2.heap.size + 3, 0, none⟩) 2 2] 35 (0, 0)) := by rw [hw3]; exact heap_top _ _ (by rw [size_alloc, size_alloc, size_alloc, size_alloc])
  have hB3 : Below w2.heap.size w2 w3 := by rw [hw3]; exact grow_alloc (grow_alloc (grow_alloc (grow_alloc (grow_alloc (Below.refl _ _) _) _) _) _) _
  have hf3 := forms_at e0 e1 e3 e4
  rw [← hw3]
  obtain ⟨G3, hG3⟩ : ∃ G3, G3 = w2.heap.size + 1 + 1 + 1 + 1 := ⟨_, rfl⟩
  rw [← hG3] at hf3
  rw [← hG3]
  have H3 := Lib.hid (And.intro hf3 hB3)
  clear e0 e1 e3 e4 hf3 hB3 hG3 hw3 hc2 hc3
  go_cut [3] (fun s3 wx => ∃ G, s3 = .slice (some ⟨G, 0, none⟩) 14 14 ∧ StpsAt wx wx.heap.size (some ⟨G, 0, none⟩) bads ∧ Below w3.heap.size w3 wx)
  case first =>
    refine wp_region_held_drew (S := fun _ => True) (by kernel_rfl) (trivial) (fun hHeld => ?_)
    show wpAnyH _ _ _ _ _ 22 #[false, false, false, false, false, false, false, false, false, false, false, false, false, false, false, false, false, false, false, false, false, false] _ _
    refine wpAnyH_take (i := 0) (v := ?kv1) rfl (by kernel_rfl) (by kernel_rfl) (by kernel_rfl) (fun _ _ _ h => h) (Or.inl ⟨by rfl, ?ky1⟩) (by assumption) ?kr1
    case ky1 => (intro w hSw; (try dsimp only at hSw); go_split_ands; (try simp only [List.getElem_toArray, List.getElem_cons_zero]); go_simp; (try with_reducible rfl))
    try simp only [Act.put, List.getElem_toArray, List.getElem_cons_zero, List.setIfInBounds_toArray, List.set_cons_zero, List.set_cons_succ]
    refine wpAnyH_take (i := 1) (v := ?kv2) rfl (by kernel_rfl) (by kernel_rfl) (by kernel_rfl) (fun _ _ _ h => h) (Or.inl ⟨by rfl, ?ky2⟩) (by assumption) ?kr2
    case ky2 => (intro w hSw; (try dsimp only at hSw); go_split_ands; (try simp only [List.getElem_toArray, List.getElem_cons_zero, List.getElem_cons_succ]); go_simp; (try with_reducible rfl))
    try simp only [Act.put, List.getElem_toArray, List.getElem_cons_zero, List.getElem_cons_succ, List.setIfInBounds_toArray, List.set_cons_zero, List.set_cons_succ]
    refine wpAnyH_take (i := 2) (v := ?kv3) rfl (by kernel_rfl) (by kernel_rfl) (by kernel_rfl) (fun _ _ _ h => h) (Or.inl ⟨by rfl, ?ky3⟩) (by assumption) ?kr3
    case ky3 => (intro w hSw; (try dsimp only at hSw); go_split_ands; (try simp only [List.getElem_toArray, List.getElem_cons_zero, List.getElem_cons_succ]); go_simp; (try with_reducible rfl))
    try simp only [Act.put, List.getElem_toArray, List.getElem_cons_zero, List.getElem_cons_succ, List.setIfInBounds_toArray, List.set_cons_zero, List.set_cons_succ]
    refine wpAnyH_take (i := 3) (v := ?kv4) rfl (by kernel_rfl) (by kernel_rfl) (by kernel_rfl) (fun _ _ _ h => h) (Or.inl ⟨by rfl, ?ky4⟩) (by assumption) ?kr4
    case ky4 => (intro w hSw; (try dsimp only at hSw); go_split_ands; (try simp only [List.getElem_toArray, List.getElem_cons_zero, List.getElem_cons_succ]); go_simp; (try with_reducible rfl))
    try simp only [Act.put, List.getElem_toArray, List.getElem_cons_zero, List.getElem_cons_succ, List.setIfInBounds_toArray, List.set_cons_zero, List.set_cons_succ]
    refine wpAnyH_take (i := 4) (v := ?kv5) rfl (by kernel_rfl) (by kernel_rfl) (by kernel_rfl) (fun _ _ _ h => h) (Or.inl ⟨by rfl, ?ky5⟩) (by assumption) ?kr5
    case ky5 => (intro w hSw; (try dsimp only at hSw); go_split_ands; (try simp only [List.getElem_toArray, List.getElem_cons_zero, List.getElem_cons_succ]); go_simp; (try with_reducible rfl))
    try simp only [Act.put, List.getElem_toArray, List.getElem_cons_zero, List.getElem_cons_succ, List.setIfInBounds_toArray, List.set_cons_zero, List.set_cons_succ]
    refine wpAnyH_take (i := 5) (v := ?kv6) rfl (by kernel_rfl) (by kernel_rfl) (by kernel_rfl) (fun _ _ _ h => h) (Or.inl ⟨by rfl, ?ky6⟩) (by assumption) ?kr6
    case ky6 => (intro w hSw; (try dsimp only at hSw); go_split_ands; (try simp only [List.getElem_toArray, List.getElem_cons_zero, List.getElem_cons_succ]); go_simp; (try with_reducible rfl))
    try simp only [Act.put, List.getElem_toArray, List.getElem_cons_zero, List.getElem_cons_succ, List.setIfInBounds_toArray, List.set_cons_zero, List.set_cons_succ]
    refine wpAnyH_take (i := 6) (v := ?kv7) rfl (by kernel_rfl) (by kernel_rfl) (by kernel_rfl) (fun _ _ _ h => h) (Or.inl ⟨by rfl, ?ky7⟩) (by assumption) ?kr7
    case ky7 => (intro w hSw; (try dsimp only at hSw); go_split_ands; (try simp only [List.getElem_toArray, List.getElem_cons_zero, List.getElem_cons_succ]); go_simp; (try with_reducible rfl))
    try simp only [Act.put, List.getElem_toArray, List.getElem_cons_zero, List.getElem_cons_succ, List.setIfInBounds_toArray, List.set_cons_zero, List.set_cons_succ]
    refine wpAnyH_take (i := 7) (v := ?kv8) rfl (by kernel_rfl) (by kernel_rfl) (by kernel_rfl) (fun _ _ _ h => h) (Or.inl ⟨by rfl, ?ky8⟩) (by assumption) ?kr8
    case ky8 => (intro w hSw; (try dsimp only at hSw); go_split_ands; (try simp only [List.getElem_toArray, List.getElem_cons_zero, List.getElem_cons_succ]); go_simp; (try with_reducible rfl))
    try simp only [Act.put, List.getElem_toArray, List.getElem_cons_zero, List.getElem_cons_succ, List.setIfInBounds_toArray, List.set_cons_zero, List.set_cons_succ]
    refine wpAnyH_take (i := 8) (v := ?kv9) rfl (by kernel_rfl) (by kernel_rfl) (by kernel_rfl) (fun _ _ _ h => h) (Or.inl ⟨by rfl, ?ky9⟩) (by assumption) ?kr9
    case ky9 => (intro w hSw; (try dsimp only at hSw); go_split_ands; (try simp only [List.getElem_toArray, List.getElem_cons_zero, List.getElem_cons_succ]); go_simp; (try with_reducible rfl))
    try simp only [Act.put, List.getElem_toArray, List.getElem_cons_zero, List.getElem_cons_succ, List.setIfInBounds_toArray, List.set_cons_zero, List.set_cons_succ]
    refine wpAnyH_take (i := 11) (v := ?kv10) rfl (by kernel_rfl) (by kernel_rfl) (by kernel_rfl) (fun _ _ _ h => h) (Or.inl ⟨by rfl, ?ky10⟩) (by assumption) ?kr10
    case ky10 => (intro w hSw; (try dsimp only at hSw); go_split_ands; (try simp only [List.getElem_toArray, List.getElem_cons_zero, List.getElem_cons_succ]); go_simp; (try with_reducible rfl))
    try simp only [Act.put, List.getElem_toArray, List.getElem_cons_zero, List.getElem_cons_succ, List.setIfInBounds_toArray, List.set_cons_zero, List.set_cons_succ]
    refine wpAnyH_take (i := 12) (v := ?kv11) rfl (by kernel_rfl) (by kernel_rfl) (by kernel_rfl) (fun _ _ _ h => h) (Or.inl ⟨by rfl, ?ky11⟩) (by assumption) ?kr11
    case ky11 => (intro w hSw; (try dsimp only at hSw); go_split_ands; (try simp only [List.getElem_toArray, List.getElem_cons_zero, List.getElem_cons_succ]); go_simp; (try with_reducible rfl))
    try simp only [Act.put, List.getElem_toArray, List.getElem_cons_zero, List.getElem_cons_succ, List.setIfInBounds_toArray, List.set_cons_zero, List.set_cons_succ]
    refine wpAnyH_take (i := 13) (v := ?kv12) rfl (by kernel_rfl) (by kernel_rfl) (by kernel_rfl) (fun _ _ _ h => h) (Or.inl ⟨by rfl, ?ky12⟩) (by assumption) ?kr12
    case ky12 => (intro w hSw; (try dsimp only at hSw); go_split_ands; (try simp only [List.getElem_toArray, List.getElem_cons_zero, List.getElem_cons_succ]); go_simp; (try with_reducible rfl))
    try simp only [Act.put, List.getElem_toArray, List.getElem_cons_zero, List.getElem_cons_succ, List.setIfInBounds_toArray, List.set_cons_zero, List.set_cons_succ]
    refine wpAnyH_take (i := 14) (v := ?kv13) rfl (by kernel_rfl) (by kernel_rfl) (by kernel_rfl) (fun _ _ _ h => h) (Or.inl ⟨by rfl, ?ky13⟩) (by assumption) ?kr13
    case ky13 => (intro w hSw; (try dsimp only at hSw); go_split_ands; (try simp only [List.getElem_toArray, List.getElem_cons_zero, List.getElem_cons_succ]); go_simp; (try with_reducible rfl))
    try simp only [Act.put, List.getElem_toArray, List.getElem_cons_zero, List.getElem_cons_succ, List.setIfInBounds_toArray, List.set_cons_zero, List.set_cons_succ]
    refine wpAnyH_take (i := 18) (v := ?kv14) rfl (by kernel_rfl) (by kernel_rfl) (by kernel_rfl) (fun _ _ _ h => h) (Or.inl ⟨by rfl, ?ky14⟩) (by assumption) ?kr14
    case ky14 => (intro w hSw; (try dsimp only at hSw); go_split_ands; (try simp only [List.getElem_toArray, List.getElem_cons_zero, List.getElem_cons_succ]); go_simp; (try with_reducible rfl))
    try simp only [Act.put, List.getElem_toArray, List.getElem_cons_zero, List.getElem_cons_succ, List.setIfInBounds_toArray, List.set_cons_zero, List.set_cons_succ]
    refine wpAnyH_take (i := 19) (v := ?kv15) rfl (by kernel_rfl) (by kernel_rfl) (by kernel_rfl) (fun _ _ _ h => h) (Or.inl ⟨by rfl, ?ky15⟩) (by assumption) ?kr15
    case ky15 => (intro w hSw; (try dsimp only at hSw); go_split_ands; (try simp only [List.getElem_toArray, List.getElem_cons_zero, List.getElem_cons_succ]); go_simp; (try with_reducible rfl))
    try simp only [Act.put, List.getElem_toArray, List.getElem_cons_zero, List.getElem_cons_succ, List.setIfInBounds_toArray, List.set_cons_zero, List.set_cons_succ]
    refine wpAnyH_ready (rs := [9, 15]) (by kernel_rfl) (by simp) ?_
    refine (AllReadyH.cons rfl (fun K hK => ?kb16x0) (AllReadyH.cons rfl (fun K hK => ?kb16x1) AllReadyH.nil))
    case kb16x0 =>
      refine step_make9 rfl rfl ?_; intro g9 x9 hg9 hx9; have hld : Below w3.heap.size w3 x9 := grow_trans (by first | exact hld | exact (Below.refl w3.heap.size w3).drew) (below_alloc hx9); (try replace o15 := grow_obj (below_alloc hx9) o15); have o9 : objAt x9 g9 = some (.cells n9 22 (0, 0)) := (by rw [hg9]; exact obj_alloc hx9); clear hx9 hg9
      refine hK.out _ _ (by trivial) (fun hHeldn => ?_)
      clear hHeld hK K
      have hHeld := hHeldn
      clear hHeldn
      try simp only [Act.put, List.getElem_toArray, List.getElem_cons_zero, List.getElem_cons_succ, List.setIfInBounds_toArray, List.set_cons_zero, List.set_cons_succ]
      refine wpAnyH_take (i := 10) (v := ?kv17) rfl (by kernel_rfl) (by kernel_rfl) (by kernel_rfl) (fun _ _ _ h => h) (Or.inl ⟨by rfl, ?ky17⟩) (by assumption) ?kr17
      case ky17 => (intro w hSw; (try dsimp only at hSw); go_split_ands; (try simp only [List.getElem_toArray, List.getElem_cons_zero, List.getElem_cons_succ]); go_simp; (try with_reducible rfl))
      try simp only [Act.put, List.getElem_toArray, List.getElem_cons_zero, List.getElem_cons_succ, List.setIfInBounds_toArray, List.set_cons_zero, List.set_cons_succ]
      refine wpAnyH_ready (rs := [15]) (by kernel_rfl) (by simp) ?_
      refine (AllReadyH.cons rfl (fun K hK => ?_) AllReadyH.nil)
      refine step_make256 rfl rfl ?_; intro g15 x15 hg15 hx15; have hld : Below w3.heap.size w3 x15 := grow_trans (by first | exact hld | exact (Below.refl w3.heap.size w3).drew) (below_alloc hx15); (try replace o9 := grow_obj (below_alloc hx15) o9); have o15 : objAt x15 g15 = some (.cells z256 5 (0, 0)) := (by rw [hg15]; exact obj_alloc hx15); clear hx15 hg15
      refine hK.out _ _ (by trivial) (fun hHeldn => ?_)
      clear hHeld hK K
      have hHeld := hHeldn
      clear hHeldn
      try simp only [Act.put, List.getElem_toArray, List.getElem_cons_zero, List.getElem_cons_succ, List.setIfInBounds_toArray, List.set_cons_zero, List.set_cons_succ]
      refine wpAnyH_take (i := 16) (v := ?kv19) rfl (by kernel_rfl) (by kernel_rfl) (by kernel_rfl) (fun _ _ _ h => h) (Or.inl ⟨by rfl, ?ky19⟩) (by assumption) ?kr19
      case ky19 => (intro w hSw; (try dsimp only at hSw); go_split_ands; (try simp only [List.getElem_toArray, List.getElem_cons_zero, List.getElem_cons_succ]); go_simp; (try with_reducible rfl))
      try simp only [Act.put, List.getElem_toArray, List.getElem_cons_zero, List.getElem_cons_succ, List.setIfInBounds_toArray, List.set_cons_zero, List.set_cons_succ]
      refine wpAnyH_take (i := 17) (v := ?kv20) rfl (by kernel_rfl) (by kernel_rfl) (by kernel_rfl) (fun _ _ _ h => h) (Or.inl ⟨by rfl, ?ky20⟩) (by assumption) ?kr20
      case ky20 => (intro w hSw; (try dsimp only at hSw); go_split_ands; (try simp only [List.getElem_toArray, List.getElem_cons_zero, List.getElem_cons_succ]); go_simp; (try with_reducible rfl))
      try simp only [Act.put, List.getElem_toArray, List.getElem_cons_zero, List.getElem_cons_succ, List.setIfInBounds_toArray, List.set_cons_zero, List.set_cons_succ]
      refine wpAnyH_ready (rs := [20]) (by kernel_rfl) (by simp) ?_
      refine (AllReadyH.cons rfl (fun K hK => ?_) AllReadyH.nil)
      try simp only [List.getElem_toArray, List.getElem_cons_zero, List.getElem_cons_succ]
      go_simp
      refine hK.out _ _ (by trivial) (fun hHeldn => ?_)
      clear hHeld hK K
      have hHeld := hHeldn
      clear hHeldn
      try simp only [List.setIfInBounds_toArray, List.set_cons_zero, List.set_cons_succ]
      refine wpAnyH_take (i := 21) (v := ?kv22) rfl (by kernel_rfl) (by kernel_rfl) (by kernel_rfl) (fun _ _ _ h => h) (Or.inl ⟨by rfl, ?ky22⟩) (by assumption) ?kr22
      case ky22 => (intro w hSw; (try dsimp only at hSw); go_split_ands; (try simp only [List.getElem_toArray, List.getElem_cons_zero, List.getElem_cons_succ]); go_simp; (try with_reducible rfl))
      try simp only [Act.put, List.getElem_toArray, List.getElem_cons_zero, List.getElem_cons_succ, List.setIfInBounds_toArray, List.set_cons_zero, List.set_cons_succ]
      refine wpAnyH_done (by kernel_rfl) ?_ _
      go_wp2_with fail
      go_meet
      refine ⟨_, rfl, bads_at (A := g9) (B := g15) ?_ (grow_obj (grow_alloc (Below.refl _ _) _) o9) (grow_obj (grow_alloc (Below.refl _ _) _) o15), grow_alloc hld _⟩
      rw [objAt_alloc, if_pos rfl]
    case kb16x1 =>
      refine step_make256 rfl rfl ?_; intro g15 x15 hg15 hx15; have hld : Below w3.heap.size w3 x15 := grow_trans (by first | exact hld | exact (Below.refl w3.heap.size w3).drew) (below_alloc hx15); (try replace o9 := grow_obj (below_alloc hx15) o9); have o15 : objAt x15 g15 = some (.cells z256 5 (0, 0)) := (by rw [hg15]; exact obj_alloc hx15); clear hx15 hg15
      refine hK.out _ _ (by trivial) (fun hHeldn => ?_)
      clear hHeld hK K
      have hHeld := hHeldn
      clear hHeldn
      try simp only [Act.put, List.getElem_toArray, List.getElem_cons_zero, List.getElem_cons_succ, List.setIfInBounds_toArray, List.set_cons_zero, List.set_cons_succ]
      refine wpAnyH_take (i := 16) (v := ?kv23) rfl (by kernel_rfl) (by kernel_rfl) (by kernel_rfl) (fun _ _ _ h => h) (Or.inl ⟨by rfl, ?ky23⟩) (by assumption) ?kr23
      case ky23 => (intro w hSw; (try dsimp only at hSw); go_split_ands; (try simp only [List.getElem_toArray, List.getElem_cons_zero, List.getElem_cons_succ]); go_simp; (try with_reducible rfl))
      try simp only [Act.put, List.getElem_toArray, List.getElem_cons_zero, List.getElem_cons_succ, List.setIfInBounds_toArray, List.set_cons_zero, List.set_cons_succ]
      refine wpAnyH_take (i := 17) (v := ?kv24) rfl (by kernel_rfl) (by kernel_rfl) (by kernel_rfl) (fun _ _ _ h => h) (Or.inl ⟨by rfl, ?ky24⟩) (by assumption) ?kr24
      case ky24 => (intro w hSw; (try dsimp only at hSw); go_split_ands; (try simp only [List.getElem_toArray, List.getElem_cons_zero, List.getElem_cons_succ]); go_simp; (try with_reducible rfl))
      try simp only [Act.put, List.getElem_toArray, List.getElem_cons_zero, List.getElem_cons_succ, List.setIfInBounds_toArray, List.set_cons_zero, List.set_cons_succ]
      refine wpAnyH_ready (rs := [9]) (by kernel_rfl) (by simp) ?_
      refine (AllReadyH.cons rfl (fun K hK => ?_) AllReadyH.nil)
      refine step_make9 rfl rfl ?_; intro g9 x9 hg9 hx9; have hld : Below w3.heap.size w3 x9 := grow_trans (by first | exact hld | exact (Below.refl w3.heap.size w3).drew) (below_alloc hx9); (try replace o15 := grow_obj (below_alloc hx9) o15); have o9 : objAt x9 g9 = some (.cells n9 22 (0, 0)) := (by rw [hg9]; exact obj_alloc hx9); clear hx9 hg9
      refine hK.out _ _ (by trivial) (fun hHeldn => ?_)
      clear hHeld hK K
      have hHeld := hHeldn
      clear hHeldn
      try simp only [Act.put, List.getElem_toArray, List.getElem_cons_zero, List.getElem_cons_succ, List.setIfInBounds_toArray, List.set_cons_zero, List.set_cons_succ]
      refine wpAnyH_take (i := 10) (v := ?kv26) rfl (by kernel_rfl) (by kernel_rfl) (by kernel_rfl) (fun _ _ _ h => h) (Or.inl ⟨by rfl, ?ky26⟩) (by assumption) ?kr26
      case ky26 => (intro w hSw; (try dsimp only at hSw); go_split_ands; (try simp only [List.getElem_toArray, List.getElem_cons_zero, List.getElem_cons_succ]); go_simp; (try with_reducible rfl))
      try simp only [Act.put, List.getElem_toArray, List.getElem_cons_zero, List.getElem_cons_succ, List.setIfInBounds_toArray, List.set_cons_zero, List.set_cons_succ]
      refine wpAnyH_ready (rs := [20]) (by kernel_rfl) (by simp) ?_
      refine (AllReadyH.cons rfl (fun K hK => ?_) AllReadyH.nil)
      try simp only [List.getElem_toArray, List.getElem_cons_zero, List.getElem_cons_succ]
      go_simp
      refine hK.out _ _ (by trivial) (fun hHeldn => ?_)
      clear hHeld hK K
      have hHeld := hHeldn
      clear hHeldn
      try simp only [List.setIfInBounds_toArray, List.set_cons_zero, List.set_cons_succ]
      refine wpAnyH_take (i := 21) (v := ?kv28) rfl (by kernel_rfl) (by kernel_rfl) (by kernel_rfl) (fun _ _ _ h => h) (Or.inl ⟨by rfl, ?ky28⟩) (by assumption) ?kr28
      case ky28 => (intro w hSw; (try dsimp only at hSw); go_split_ands; (try simp only [List.getElem_toArray, List.getElem_cons_zero, List.getElem_cons_succ]); go_simp; (try with_reducible rfl))
      try simp only [Act.put, List.getElem_toArray, List.getElem_cons_zero, List.getElem_cons_succ, List.setIfInBounds_toArray, List.set_cons_zero, List.set_cons_succ]
      refine wpAnyH_done (by kernel_rfl) ?_ _
      go_wp2_with fail
      go_meet
      refine ⟨_, rfl, bads_at (A := g9) (B := g15) ?_ (grow_obj (grow_alloc (Below.refl _ _) _) o9) (grow_obj (grow_alloc (Below.refl _ _) _) o15), grow_alloc hld _⟩
      rw [objAt_alloc, if_pos rfl]
  case rest =>
    obtain ⟨G5, rfl, hbad, hB5⟩ := hcut
    have hs := sameSteps_any (ca := c2) (cb := 3) ((H2.out.1.grow H3.out.2).grow hB5) (H3.out.1.grow hB5) (fun s hs => say_keep (say_decode formsB s (by rw [decode_forms]; exact hs))) (by decide)
    rw [show forms.length = 3 from rfl] at hs
    have HS := Lib.hid hs
    have HX := Lib.hid (And.intro hbad hB5)
    clear hs hbad hB5
    go_wp2_with (first
      | (go_at_call 10; refine HS.out.mono ?_; rintro e w6 ⟨rfl, b6⟩; have he := encode_any (cap := 14) (HX.out.1.grow b6) fits_bads (by decide); rw [encode_bads, show bads.length = 14 from rfl] at he; have HE := Lib.hid he; clear he)
      | (go_at_call 9; refine HE.out.mono ?_; rintro e w7 ⟨v7, rfl, hr7, b7⟩; obtain ⟨a7, c7, hv7, hA7⟩ := hr7.arg; rw [List.length_nil] at hv7; subst hv7))
    go_ret
    exact ⟨by first | rfl | simp, grow_trans (grow_trans (grow_trans (grow_trans H2.out.2 H3.out.2) HX.out.2) b6) b7⟩
end Go.Proofs.YtanmihhlkelgeaaGreat
