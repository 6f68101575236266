/- DERIVED. clathrilaw28.PlayOne returns true. -/
import Derived.Test.YtanmihhlkelgeaaGreatPySM
namespace Go.Proofs.YtanmihhlkelgeaaGreat
open Go.RowKit Go.ChangeShapes Go.WideShapes
attribute [local go_sem] hasBlk
attribute [local irreducible] Calls
set_option maxRecDepth 100000

theorem nat_u16 {n : Int} (h : (Lit.int .u16 n).wf = true) : ∃ k : Nat, n = (k : Int) ∧ k < 65536 := by
  have hb : 0 ≤ n ∧ n ≤ 65535 := by
    have := h
    simp [Lit.wf, IntKind.min, IntKind.max] at this
    simpa [IntKind.bits, IntKind.signed] using this
  obtain ⟨k, rfl⟩ := Int.eq_ofNat_of_zero_le hb.1
  exact ⟨k, rfl, by omega⟩
theorem nat_u8 {n : Int} (h : (Lit.int .u8 n).wf = true) : ∃ k : Nat, n = (k : Int) ∧ k < 256 := by
  have hb : 0 ≤ n ∧ n ≤ 255 := by
    have := h
    simp [Lit.wf, IntKind.min, IntKind.max] at this
    simpa [IntKind.bits, IntKind.signed] using this
  obtain ⟨k, rfl⟩ := Int.eq_ofNat_of_zero_le hb.1
  exact ⟨k, rfl, by omega⟩
theorem walk_PlayOne {H : Type} {enc : TypeId × Value → H} {d d2 : DataW H} {p p2 : List MemPlace} {base : Nat} {Z : Prop} (a0 a1 a2 : Int) (path dest : ByteArray) (a5 a6 a7 : Int) (a8 : Option Addr) (len8 cap8 : Nat) (a9 : Int) (a10 : Option Addr) (len10 cap10 : Nat) (w : World)
    (h0 : (Lit.int .u8 a0).wf = true) (h1 : (Lit.int .u16 a1).wf = true) (h2 : (Lit.int .u8 a2).wf = true) {Z3 Z4 : Prop} (_ : Z3) (_ : Z4) (h5 : (Lit.int .u16 a5).wf = true) (h6 : (Lit.int .u16 a6).wf = true) (h7 : (Lit.int .u16 a7).wf = true)
    (k8 : DataW.Trod enc Tryz.prog w 0 (fun _ => true) true 22 (.slice a8 len8 cap8) d p) (o8 : Value.okWide Tryz.prog w .any base 22 (.slice a8 len8 cap8)) (h9 : (Lit.int .u8 a9).wf = true)
    (k10 : DataW.Trod enc Tryz.prog w 0 (fun _ => true) true 33 (.slice a10 len10 cap10) d2 p2) (_ : Z) :
    Calls Tryz.prog 6 #[.int .u8 a0, .int .u16 a1, .int .u8 a2, .string path, .string dest, .int .u16 a5, .int .u16 a6, .int .u16 a7, .slice a8 len8 cap8, .int .u8 a9, .slice a10 len10 cap10] w fun e w' => e = .returned (.bool true) ∧ Below w.heap.size w w' := by
  obtain ⟨kn, rfl, g0⟩ := nat_u8 h0
  obtain ⟨nn, rfl, g1⟩ := nat_u16 h1
  obtain ⟨qn, rfl, g2⟩ := nat_u8 h2
  obtain ⟨fn, rfl, g5⟩ := nat_u16 h5
  obtain ⟨on, rfl, g6⟩ := nat_u16 h6
  obtain ⟨ln, rfl, g7⟩ := nat_u16 h7
  obtain ⟨cn, rfl, g9⟩ := nat_u8 h9
  obtain ⟨dt, rfl, hd⟩ := barg_of k8 o8
  obtain ⟨ks, rfl, hk⟩ := karg_of k10
  by_cases i1 : 100 < path.size
  · exact one_path i1
  by_cases i2 : 100 < dest.size
  · exact one_dest i1 i2
  by_cases i3 : 100 < dt.length
  · exact one_data i1 i2 i3
  by_cases i4 : 8 < ks.length
  · exact one_keep i1 i2 i3 i4
  by_cases r1 : kn % 6 = 1
  · exact one_ask i1 i2 i3 i4 g0 g1 g2 g5 g6 g7 hd r1
  by_cases r4 : kn % 6 = 4
  · exact one_crash i1 i2 i3 i4 g0 g9 hk r4
  exact one_n i1 i2 i3 i4 g0 g1 rfl r1 r4
end Go.Proofs.YtanmihhlkelgeaaGreat
