/- DERIVED. A vol that holds one file, from commit to commit. -/
import Derived.Test.YtbbnejehglonjaaGreatFjFH
import Derived.Test.YtbbnejehglonjaaGreatMh00
namespace Go.Proofs.YtbbnejehglonjaaGreat
set_option maxHeartbeats 8000000
set_option maxRecDepth 100000
set_option linter.unusedSimpArgs false
set_option linter.unusedVariables false
open Go.RowKit
attribute [local irreducible] Calls
structure FlV (w4 wr : World) (Sd : Nat → Prop) (d v gb cap m n : Nat) (st : VSt) (c : Nat) (f : Fl) (cc : Nat → UInt8) : Prop where
 vol : VolS wr Sd v d 0 (shN n) gb cap m st c
 sd : ∀ q, Sd q → w4.heap.size ≤ q
 hv : w4.heap.size ≤ v
 hg : w4.heap.size ≤ gb
 hm : w4.heap.size ≤ m
 below : Below w4.heap.size w4 wr
 rest : FRest st.bs f cc
 len : st.bs.length = n
section
variable {w4 wr w' : World} {Sd : Nat → Prop} {d v gb cap m n : Nat} {st : VSt} {c : Nat} {f : Fl} {cc : Nat → UInt8}
theorem FillAt.flV (h : FillAt w4 wr d v Sd (shN n) gb cap m st c) (hb : st.bs = fileBlks n) (h4 : 4 ≤ n) (h2 : n ≤ 200) : FlV w4 wr Sd d v gb cap m n st c fl0 (fun _ => 0) :=
 ⟨h.vol, h.sd, h.hv, h.hg, h.hm, h.below, by rw [hb]; exact fileBlks_rest h4 h2, by rw [hb, fileBlks_len]⟩
theorem FlV.grow (h : FlV w4 wr Sd d v gb cap m n st c f cc) (hb : Below wr.heap.size wr w') : FlV w4 w' Sd d v gb cap m n st c f cc :=
 { h with vol := VolP.below h.vol hb, below := grow_trans h.below hb }
theorem FlV.tx0 {N : Nat} (h : FlV w4 wr Sd d v gb cap m n st c f cc) (hn : N = wr.heap.size) (ht : TxAt w' (N + 2) v N (N + 1) [] [] st.bs.length) (hb : Below wr.heap.size wr w') :
 TxV w' Sd (N + 2) v N (N + 1) [] [] d 0 (shN n) gb cap m st c := by
 have hl : ∀ q, Sd q → q < N := fun q hq => by rw [hn]; exact h.vol.dev.lt q hq
 have hm := h.vol.lt_m
 exact ⟨ht, VolP.below h.vol hb, ⟨fun e => by have := hl _ e; omega, fun e => by have := hl _ e; omega, fun e => by have := hl _ e; omega, by omega, by omega⟩⟩
theorem FlV.wi (h : FlV w4 wr Sd d v gb cap m n st c f cc) : WI (txV [] st.bs) [] f f cc := by rw [txV_nil]; exact h.rest.wi
theorem FlV.commit {x y z : World} {N c' : Nat} {Sd' : Nat → Prop} {st' : VSt} {L : PL} {f' : Fl} {cc' : Nat → UInt8} (h : FlV w4 wr Sd d v gb cap m n st c f cc) (hn : N = wr.heap.size) (b1 : Below wr.heap.size wr x) (hk : Keeps (fun q => q = N ∨ q = N + 1) x y)
 (hS : ∀ q, Sd' q → Sd q ∨ y.heap.size ≤ q) (hv : VolS z Sd' v d 0 (shN n) gb cap m st' c') (hb : st'.bs = txV L st.bs) (hr : FRest (txV L st.bs) f' cc') (hz : Keeps (fun k => Sd k ∨ k = v ∨ k = m ∨ k = gb ∨ k = N ∨ k = N + 1) y z) :
 FlV w4 z Sd' d v gb cap m n st' c' f' cc' := by
 have hs := h.below.size
 have hx := grow_trans h.below b1
 have hy := hx.trans (hk.below hx.size (fun q e => by omega))
 refine ⟨hv, fun q hq => (hS q hq).elim (h.sd q) (fun e => Nat.le_trans hy.size e), h.hv, h.hg, h.hm, hy.trans (hz.below hy.size (fun q e => ?_)), by rw [hb]; exact hr, by rw [hb, txV_length]; exact h.len⟩
 rcases e with e | e | e | e | e | e
 · exact h.sd q e
 · rw [e]; exact h.hv
 · rw [e]; exact h.hm
 · rw [e]; exact h.hg
 · omega
 · omega
end
end Go.Proofs.YtbbnejehglonjaaGreat
