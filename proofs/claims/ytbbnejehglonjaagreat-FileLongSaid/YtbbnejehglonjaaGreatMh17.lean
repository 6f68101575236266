/- DERIVED. Contracts and laws that the proofs of this seat share, part 17 of 36: Shelf LibS PvB PvC PvD. -/
import Derived.Shelf.SlGeneric
import Derived.Shelf.SlIterI.Nil
import Derived.Shelf.SortM.Plain
import Derived.Shelf.SortM.SortNone
import Derived.Ground.GgzProg
import Derived.Ground.SlgmProg
import Derived.Test.YtbbnejehglonjaaGreatProg
import Derived.Shelf.AbstractIn
import Derived.Test.YtbbnejehglonjaaGreatLibNH
import Derived.Test.YtbbnejehglonjaaGreatMh00
import Derived.Test.YtbbnejehglonjaaGreatMh06
import Derived.Test.YtbbnejehglonjaaGreatMh16
set_option maxHeartbeats 8000000
set_option maxRecDepth 100000
set_option linter.unusedSimpArgs false
set_option linter.unusedVariables false
namespace Go.Proofs
open Go.Shelf
def Tryz.keys63_ren : Go.Shelf.Ren := ⟨fun | 7 => 63 | 10 => 132 | n => n, fun | 23 => 132 | 26 => 3 | 3 => 37 | 28 => 143 | 0 => 0 | 27 => 142 | 33 => 157 | 4 => 4 | n => n, fun | n => n⟩
theorem Tryz.keys63 : Go.Proofs.SlLaysZI.n7 Tryz.prog Tryz.keys63_ren := {
 mixed := by kernel_rfl
 f7 := ⟨Tryz.f63.name, by decide, Tryz.func63.trans (congrArg some (by kernel_rfl))⟩
 f10 := ⟨Tryz.f132.name, by decide, Tryz.func132.trans (congrArg some (by kernel_rfl))⟩
 t0 := Tryz.underlying0
 a0 := Tryz.isAgg0
 z0 := Tryz.sizeOf0
 v0 := Tryz.zeroValue0
 t4 := Tryz.underlying4
 a4 := Tryz.isAgg4
 z4 := Tryz.sizeOf4
 v4 := Tryz.zeroValue4
 t23 := Tryz.underlying132
 a23 := Tryz.isAgg132
 z23 := Tryz.sizeOf132
 v23 := Tryz.zeroValue132
 t26 := Tryz.underlying3
 a26 := Tryz.isAgg3
 z26 := Tryz.sizeOf3
 v26 := Tryz.zeroValue3
 t27 := Tryz.underlying142
 a27 := Tryz.isAgg142
 z27 := Tryz.sizeOf142
 v27 := Tryz.zeroValue142
 t28 := Tryz.underlying143
 a28 := Tryz.isAgg143
 z28 := Tryz.sizeOf143
 v28 := Tryz.zeroValue143
 t33 := Tryz.underlying157
 a33 := Tryz.isAgg157
 z33 := Tryz.sizeOf157
 v33 := Tryz.zeroValue157 }
def Tryz.keys174_ren : Go.Shelf.Ren := ⟨fun | 7 => 174 | 10 => 204 | n => n, fun | 23 => 34 | 26 => 3 | 3 => 4 | 28 => 143 | 0 => 0 | 27 => 142 | 33 => 157 | 4 => 4 | n => n, fun | n => n⟩
theorem Tryz.keys174 : Go.Proofs.SlLaysZI.n7 Tryz.prog Tryz.keys174_ren := {
 mixed := by kernel_rfl
 f7 := ⟨Tryz.f174.name, by decide, Tryz.func174.trans (congrArg some (by kernel_rfl))⟩
 f10 := ⟨Tryz.f204.name, by decide, Tryz.func204.trans (congrArg some (by kernel_rfl))⟩
 t0 := Tryz.underlying0
 a0 := Tryz.isAgg0
 z0 := Tryz.sizeOf0
 v0 := Tryz.zeroValue0
 t4 := Tryz.underlying4
 a4 := Tryz.isAgg4
 z4 := Tryz.sizeOf4
 v4 := Tryz.zeroValue4
 t23 := Tryz.underlying34
 a23 := Tryz.isAgg34
 z23 := Tryz.sizeOf34
 v23 := Tryz.zeroValue34
 t26 := Tryz.underlying3
 a26 := Tryz.isAgg3
 z26 := Tryz.sizeOf3
 v26 := Tryz.zeroValue3
 t27 := Tryz.underlying142
 a27 := Tryz.isAgg142
 z27 := Tryz.sizeOf142
 v27 := Tryz.zeroValue142
 t28 := Tryz.underlying143
 a28 := Tryz.isAgg143
 z28 := Tryz.sizeOf143
 v28 := Tryz.zeroValue143
 t33 := Tryz.underlying157
 a33 := Tryz.isAgg157
 z33 := Tryz.sizeOf157
 v33 := Tryz.zeroValue157 }
def Tryz.sorted62_ren : Go.Shelf.Ren := ⟨fun | 6 => 62 | 8 => 130 | 9 => 131 | 11 => 182 | 13 => 184 | 12 => 183 | 23 => 214 | 24 => 215 | 14 => 205 | 15 => 206 | 16 => 207 | 17 => 208 | 18 => 209 | 19 => 210 | 20 => 211 | 21 => 212 | 22 => 213 | 25 => 228 | 26 => 229 | 27 => 230 | 28 => 231 | 29 => 232 | 30 => 233 | 31 => 237 | n => n, fun | 26 => 3 | 28 => 143 | 24 => 33 | 0 => 0 | 3 => 3 | 37 => 40 | 48 => 64 | 50 => 231 | 4 => 4 | 40 => 293 | 39 => 292 | 45 => 42 | 5 => 5 | 9 => 9 | 51 => 310 | 55 => 178 | 57 => 316 | 58 => 317 | 33 => 157 | n => n, fun | n => n⟩
theorem Tryz.sorted62 : Go.Proofs.SlLaysZI.n6 Tryz.prog Tryz.sorted62_ren := {
 mixed := by kernel_rfl
 f6 := ⟨Tryz.f62.name, by decide, Tryz.func62.trans (congrArg some (by kernel_rfl))⟩
 f8 := ⟨Tryz.f130.name, by decide, Tryz.func130.trans (congrArg some (by kernel_rfl))⟩
 f11 := ⟨Tryz.f182.name, by decide, Tryz.func182.trans (congrArg some (by kernel_rfl))⟩
 t0 := Tryz.underlying0
 a0 := Tryz.isAgg0
 z0 := Tryz.sizeOf0
 v0 := Tryz.zeroValue0
 t24 := Tryz.underlying33
 a24 := Tryz.isAgg33
 z24 := Tryz.sizeOf33
 v24 := Tryz.zeroValue33
 t26 := Tryz.underlying3
 a26 := Tryz.isAgg3
 z26 := Tryz.sizeOf3
 v26 := Tryz.zeroValue3
 t28 := Tryz.underlying143
 a28 := Tryz.isAgg143
 z28 := Tryz.sizeOf143
 v28 := Tryz.zeroValue143
 i26 := by kernel_rfl }
def Tryz.sort131_ren : Go.Shelf.Ren := ⟨fun | 5 => 131 | 8 => 184 | 7 => 183 | 19 => 214 | 20 => 215 | 10 => 205 | 11 => 206 | 12 => 207 | 13 => 208 | 14 => 209 | 15 => 210 | 16 => 211 | 17 => 212 | 18 => 213 | 30 => 228 | 31 => 229 | 32 => 230 | 33 => 231 | 34 => 232 | 35 => 233 | 40 => 237 | n => n, fun | 23 => 33 | 25 => 3 | 3 => 3 | 32 => 40 | 22 => 33 | 0 => 0 | 44 => 64 | 46 => 231 | 4 => 4 | 36 => 293 | 35 => 292 | 41 => 42 | 5 => 5 | 9 => 9 | 53 => 310 | 57 => 178 | 63 => 316 | 64 => 317 | n => n, fun | n => n⟩
theorem Tryz.sort131 : Go.Proofs.SlLaysM.n5 Tryz.prog Tryz.sort131_ren := {
 mixed := by kernel_rfl
 f5 := ⟨Tryz.f131.name, by decide, Tryz.func131.trans (congrArg some (by kernel_rfl))⟩
 f7 := ⟨Tryz.f183.name, by decide, Tryz.func183.trans (congrArg some (by kernel_rfl))⟩
 f8 := Tryz.func184.trans (congrArg some (by kernel_rfl))
 f10 := ⟨Tryz.f205.name, by decide, Tryz.func205.trans (congrArg some (by kernel_rfl))⟩
 f11 := ⟨Tryz.f206.name, by decide, Tryz.func206.trans (congrArg some (by kernel_rfl))⟩
 f12 := ⟨Tryz.f207.name, by decide, Tryz.func207.trans (congrArg some (by kernel_rfl))⟩
 f13 := ⟨Tryz.f208.name, by decide, Tryz.func208.trans (congrArg some (by kernel_rfl))⟩
 f14 := ⟨Tryz.f209.name, by decide, Tryz.func209.trans (congrArg some (by kernel_rfl))⟩
 f15 := ⟨Tryz.f210.name, by decide, Tryz.func210.trans (congrArg some (by kernel_rfl))⟩
 f16 := ⟨Tryz.f211.name, by decide, Tryz.func211.trans (congrArg some (by kernel_rfl))⟩
 f17 := ⟨Tryz.f212.name, by decide, Tryz.func212.trans (congrArg some (by kernel_rfl))⟩
 f18 := ⟨Tryz.f213.name, by decide, Tryz.func213.trans (congrArg some (by kernel_rfl))⟩
 f19 := Tryz.func214.trans (congrArg some (by kernel_rfl))
 f20 := Tryz.func215.trans (congrArg some (by kernel_rfl))
 f30 := ⟨Tryz.f228.name, by decide, Tryz.func228.trans (congrArg some (by kernel_rfl))⟩
 f31 := Tryz.func229.trans (congrArg some (by kernel_rfl))
 f32 := Tryz.func230.trans (congrArg some (by kernel_rfl))
 f33 := ⟨Tryz.f231.name, by decide, Tryz.func231.trans (congrArg some (by kernel_rfl))⟩
 f34 := ⟨Tryz.f232.name, by decide, Tryz.func232.trans (congrArg some (by kernel_rfl))⟩
 f35 := ⟨Tryz.f233.name, by decide, Tryz.func233.trans (congrArg some (by kernel_rfl))⟩
 f40 := ⟨Tryz.f237.name, by decide, Tryz.func237.trans (congrArg some (by kernel_rfl))⟩
 t0 := Tryz.underlying0
 a0 := Tryz.isAgg0
 z0 := Tryz.sizeOf0
 v0 := Tryz.zeroValue0
 t3 := Tryz.underlying3
 a3 := Tryz.isAgg3
 z3 := Tryz.sizeOf3
 v3 := Tryz.zeroValue3
 t4 := Tryz.underlying4
 a4 := Tryz.isAgg4
 z4 := Tryz.sizeOf4
 v4 := Tryz.zeroValue4
 t5 := Tryz.underlying5
 a5 := Tryz.isAgg5
 z5 := Tryz.sizeOf5
 v5 := Tryz.zeroValue5
 t9 := Tryz.underlying9
 a9 := Tryz.isAgg9
 z9 := Tryz.sizeOf9
 v9 := Tryz.zeroValue9
 t22 := Tryz.underlying33
 a22 := Tryz.isAgg33
 z22 := Tryz.sizeOf33
 v22 := Tryz.zeroValue33
 t23 := Tryz.underlying33
 a23 := Tryz.isAgg33
 z23 := Tryz.sizeOf33
 v23 := Tryz.zeroValue33
 t25 := Tryz.underlying3
 a25 := Tryz.isAgg3
 z25 := Tryz.sizeOf3
 v25 := Tryz.zeroValue3
 t32 := Tryz.underlying40
 a32 := Tryz.isAgg40
 z32 := Tryz.sizeOf40
 v32 := Tryz.zeroValue40
 t35 := Tryz.underlying292
 a35 := Tryz.isAgg292
 z35 := Tryz.sizeOf292
 v35 := Tryz.zeroValue292
 t36 := Tryz.underlying293
 a36 := Tryz.isAgg293
 z36 := Tryz.sizeOf293
 v36 := Tryz.zeroValue293
 t41 := Tryz.underlying42
 a41 := Tryz.isAgg42
 z41 := Tryz.sizeOf42
 v41 := Tryz.zeroValue42
 t44 := Tryz.underlying64
 a44 := Tryz.isAgg64
 z44 := Tryz.sizeOf64
 v44 := Tryz.zeroValue64
 t46 := Tryz.underlying231
 a46 := Tryz.isAgg231
 z46 := Tryz.sizeOf231
 v46 := Tryz.zeroValue231
 t53 := Tryz.underlying310
 a53 := Tryz.isAgg310
 z53 := Tryz.sizeOf310
 v53 := Tryz.zeroValue310
 t57 := Tryz.underlying178
 a57 := Tryz.isAgg178
 z57 := Tryz.sizeOf178
 v57 := Tryz.zeroValue178
 t63 := Tryz.underlying316
 a63 := Tryz.isAgg316
 z63 := Tryz.sizeOf316
 v63 := Tryz.zeroValue316
 t64 := Tryz.underlying317
 a64 := Tryz.isAgg317
 z64 := Tryz.sizeOf317
 v64 := Tryz.zeroValue317 }
end Go.Proofs
namespace Go.Proofs.YtbbnejehglonjaaGreat
set_option maxHeartbeats 8000000
set_option maxRecDepth 100000
set_option linter.unusedSimpArgs false
set_option linter.unusedVariables false
section
open Go.RowKit Go.Maps Go.Sort Go.Shelf
attribute [local go_sem] hasBlk

theorem sorts_at (m : Nat) : AnyZI.SortsIn Tryz.prog Tryz.sorted62_ren Fence.wide m :=
 ⟨fun blk off cap ss W hH hblk hsz => callsIn_wide.2 (AnyM.slices_Sort_int Tryz.sort131 blk off cap ss W hH hblk hsz),
  fun p cap W => callsIn_wide.2 (AnyM.slices_Sort_int_none Tryz.sort131 p cap W)⟩
def sortedKeys (L : ML) : List Int := (keysL L).mergeSort (fun x y => decide (x ≤ y))

theorem KeysBool_any (m : Nat) (W : World) : Calls Tryz.prog 174 #[.map (some m)] W fun e w' => e = .returned (.func (.func 204) #[] #[.pointer (some ⟨W.heap.size, 0, none⟩)]) ∧ w' = W.alloc (.cells #[.map (some m)] 34) :=
 callsIn_wide.1 (AnyZI.keys_in Tryz.keys174 Fence.wide 5 trivial rfl (some m) W)

theorem SortedBool_any (m : Nat) (L : ML) (w : World) (h : MapI w m L) :
 Calls Tryz.prog 62 #[.func (.func 204) #[] #[.pointer (some ⟨w.heap.size, 0, none⟩)]] (w.alloc (.cells #[.map (some m)] 34)) fun e w' => ∃ v, e = .returned v ∧ IRow w' w.heap.size v (sortedKeys L) ∧ Below w.heap.size w w' := by
 obtain ⟨D, hown, hsz, hperm⟩ := h.owns (H := Unit) Tryz.underlying3 (.lit (.bool true))
 have hsm := h.small
 have hbl := hown.lt
 have hmax : Maps.size D ≤ maxLen := by rw [hsz]; unfold maxLen; omega
 have hbytes : Maps.size D * 8 ≤ 140737488355328 := by rw [hsz]; omega
 have hseq : SeqGives Fence.wide 2 Tryz.prog 204 #[.pointer (some ⟨w.heap.size, 0, none⟩)] encZ (fun ss => ss.Perm (intKeys D)) (Maps.size D) (w.alloc (.cells #[.map (some m)] 34)) :=
  AnyZI.keys_gives (ρ := Tryz.keys174_ren) { Tryz.keys174 with } Fence.wide _ trivial rfl (by omega) w.heap.size m L.length D _ (by simp) (by simp) (by
   obtain ⟨es, clock, hb, Ft, hs, hD⟩ := hown
   exact ⟨es, clock, (Below.heap_alloc _ _ m hbl).trans hb, Ft, hs, hD⟩)
 have cS := AnyZI.sorted_in Tryz.sorted62 Fence.wide 5 trivial trivial trivial trivial rfl (by omega) (sorts_at _) (enters_of Tryz.func131 (by kernel_rfl) rfl) 204 #[.pointer (some ⟨w.heap.size, 0, none⟩)] trivial (enters_of Tryz.func204 (by kernel_rfl) rfl) _ _ hmax hbytes _ hseq
 change CallsIn _ _ Tryz.prog 62 _ _ _ at cS
 refine (callsIn_wide.1 cS).mono ?_
 rintro e w' ⟨v, ss, rfl, hS, hrow, _, hb⟩
 have e1 : ss.mergeSort (fun x y => decide (x ≤ y)) = sortedKeys L := mergeSort_of_perm_i (hS.trans hperm)
 have hl : ss.length = (sortedKeys L).length := by rw [← e1, List.length_mergeSort]
 rw [e1, hl] at hrow
 exact ⟨v, rfl, IRow.mono hrow (by simp), (grow_alloc (Below.refl _ _) _).trans (hb.mono (by simp))⟩
theorem KeysBlk_any (m : Nat) (W : World) : Calls Tryz.prog 63 #[.map (some m)] W fun e w' => e = .returned (.func (.func 132) #[] #[.pointer (some ⟨W.heap.size, 0, none⟩)]) ∧ w' = W.alloc (.cells #[.map (some m)] 132) :=
 callsIn_wide.1 (AnyZI.keys_in Tryz.keys63 Fence.wide 5 trivial rfl (some m) W)

theorem SortedBlk_any (m : Nat) (L : ML) (w : World) (h : MapI w m L) :
 Calls Tryz.prog 62 #[.func (.func 132) #[] #[.pointer (some ⟨w.heap.size, 0, none⟩)]] (w.alloc (.cells #[.map (some m)] 132)) fun e w' => ∃ v, e = .returned v ∧ IRow w' w.heap.size v (sortedKeys L) ∧ Below w.heap.size w w' := by
 obtain ⟨D, hown, hsz, hperm⟩ := h.owns (H := Unit) Tryz.underlying3 (.lit (.bool true))
 have hsm := h.small
 have hbl := hown.lt
 have hmax : Maps.size D ≤ maxLen := by rw [hsz]; unfold maxLen; omega
 have hbytes : Maps.size D * 8 ≤ 140737488355328 := by rw [hsz]; omega
 have hseq : SeqGives Fence.wide 2 Tryz.prog 132 #[.pointer (some ⟨w.heap.size, 0, none⟩)] encZ (fun ss => ss.Perm (intKeys D)) (Maps.size D) (w.alloc (.cells #[.map (some m)] 132)) :=
  AnyZI.keys_gives (ρ := Tryz.keys63_ren) { Tryz.keys63 with } Fence.wide _ trivial rfl (by omega) w.heap.size m L.length D _ (by simp) (by simp) (by
   obtain ⟨es, clock, hb, Ft, hs, hD⟩ := hown
   exact ⟨es, clock, (Below.heap_alloc _ _ m hbl).trans hb, Ft, hs, hD⟩)
 have cS := AnyZI.sorted_in Tryz.sorted62 Fence.wide 5 trivial trivial trivial trivial rfl (by omega) (sorts_at _) (enters_of Tryz.func131 (by kernel_rfl) rfl) 132 #[.pointer (some ⟨w.heap.size, 0, none⟩)] trivial (enters_of Tryz.func132 (by kernel_rfl) rfl) _ _ hmax hbytes _ hseq
 change CallsIn _ _ Tryz.prog 62 _ _ _ at cS
 refine (callsIn_wide.1 cS).mono ?_
 rintro e w' ⟨v, ss, rfl, hS, hrow, _, hb⟩
 have e1 : ss.mergeSort (fun x y => decide (x ≤ y)) = sortedKeys L := mergeSort_of_perm_i (hS.trans hperm)
 have hl : ss.length = (sortedKeys L).length := by rw [← e1, List.length_mergeSort]
 rw [e1, hl] at hrow
 exact ⟨v, rfl, IRow.mono hrow (by simp), (grow_alloc (Below.refl _ _) _).trans (hb.mono (by simp))⟩
end
section
open Go.RowKit
attribute [local go_sem] hasBlk
attribute [local irreducible] Calls

theorem pigeon (n : Nat) : ∀ l : List Nat, l.Nodup → (∀ x ∈ l, x < n) → l.length ≤ n := by
 induction n with
 | zero => intro l _ h; cases l with
   | nil => simp
   | cons a l => have := h a (by simp); omega
 | succ n ih =>
   intro l hn h
   by_cases hm : n ∈ l
   · have h1 := ih (l.erase n) (hn.erase n) (fun x hx => by
      rw [hn.mem_erase_iff] at hx
      have := h x hx.2
      omega)
     rw [List.length_erase_of_mem hm] at h1
     omega
   · have := ih l hn (fun x hx => by
      have h2 := h x hx
      have : x ≠ n := fun e => hm (by rw [← e]; exact hx)
      omega)
     omega
theorem MapI.few {w : World} {m : Nat} {L : ML} (h : MapI w m L) {n : Nat} (hk : ∀ k ∈ keysL L, k < (n : Int)) : L.length ≤ n := by
 have hn := h.nodup
 have := pigeon n ((keysL L).map Int.toNat) (by
  refine List.pairwise_map.2 (hn.imp_of_mem fun {a b} ha hb hne e => hne ?_)
  have := h.range a ha
  have := h.range b hb
  omega) (fun x hx => by
  obtain ⟨k, hk', rfl⟩ := List.mem_map.1 hx
  have := h.range k hk'
  have := hk k hk'
  omega)
 simpa [keysL] using this

structure VolP (w : World) (Sd : Nat → Prop) (v d reg : Nat) (s : Sh) (epoch seq : Nat) (used : Int) (gb cap m : Nat) (bs : List Blk) (D : ML) (L : Dv) (c : Nat) : Prop where
 sok : s.Ok
 slen : s.blocks = bs.length
 o : VolO w v d reg s epoch seq used (.slice (some ⟨gb, 0, none⟩) bs.length cap) m
 e32 : epoch < 4294967296
 q32 : seq < 4294967296
 ub : 0 ≤ used ∧ used ≤ s.log
 dev : DevAt w Sd d L c
 has : L.has reg s.size
 nv : ¬ Sd v
 nm : ¬ Sd m
 nb : ¬ Sd gb
 row : KRow w 0 (.slice (some ⟨gb, 0, none⟩) bs.length cap) bs
 map : MapI w m D
 keys : ∀ k ∈ keysL D, k < (bs.length : Int)
 kinds : ∀ b ∈ bs, 0 ≤ b.kind ∧ b.kind ≤ 7
section
variable {w w' : World} {Sd : Nat → Prop} {v d reg : Nat} {s : Sh} {epoch seq : Nat} {used : Int} {gb cap m : Nat} {bs : List Blk} {D : ML} {L L' : Dv} {c c' : Nat}
theorem VolP.keeps (h : VolP w Sd v d reg s epoch seq used gb cap m bs D L c) {T : Nat → Prop} (hk : Keeps T w w') (h1 : ∀ g, Sd g → ¬ T g) (h2 : ¬ T v) (h3 : ¬ T m) (h4 : ¬ T gb) : VolP w' Sd v d reg s epoch seq used gb cap m bs D L c :=
 { h with o := hk.obj h.o h2, dev := h.dev.keeps hk h1, row := h.row.keeps hk (fun g hg => by obtain rfl := Option.some.inj hg; exact h4), map := h.map.keeps hk h3 }
theorem VolP.lt_v (h : VolP w Sd v d reg s epoch seq used gb cap m bs D L c) : v < w.heap.size := block_lt h.o
theorem VolP.lt_m (h : VolP w Sd v d reg s epoch seq used gb cap m bs D L c) : m < w.heap.size := h.map.lt
theorem VolP.lt_b (h : VolP w Sd v d reg s epoch seq used gb cap m bs D L c) : gb < w.heap.size := by obtain ⟨cur, hg, _⟩ := h.row.obj; exact block_lt hg
theorem VolP.below (h : VolP w Sd v d reg s epoch seq used gb cap m bs D L c) (hb : Below w.heap.size w w') : VolP w' Sd v d reg s epoch seq used gb cap m bs D L c :=
 h.keeps (Keeps.of_below_size hb) (fun g hg e => by have := h.dev.lt g hg; omega) (fun e => by have := h.lt_v; omega) (fun e => by have := h.lt_m; omega) (fun e => by have := h.lt_b; omega)
theorem VolP.step (h : VolP w Sd v d reg s epoch seq used gb cap m bs D L c) (hs : DevStep Sd w w' d L' c') (hl : L'.has reg s.size) : VolP w' (grownS Sd w w') v d reg s epoch seq used gb cap m bs D L' c' :=
 { h with o := hs.obj h.o h.nv, dev := hs.dev, has := hl, nv := hs.not h.lt_v h.nv, nm := hs.not h.lt_m h.nm, nb := hs.not h.lt_b h.nb, row := h.row.keeps hs.keeps (fun g hg => by obtain rfl := Option.some.inj hg; exact h.nb), map := h.map.keeps hs.keeps h.nm }
theorem VolP.refoot (h : VolP w Sd v d reg s epoch seq used gb cap m bs D L c) {S' : Nat → Prop} (hS : ∀ k, Sd k → S' k) (hlt : ∀ k, S' k → k < w.heap.size) (h1 : ¬ S' v) (h2 : ¬ S' m) (h3 : ¬ S' gb) (hc : c ≤ c') : VolP w S' v d reg s epoch seq used gb cap m bs D L c' :=
 { h with dev := h.dev.mono hS hlt hc, nv := h1, nm := h2, nb := h3 }
theorem VolP.set (h : VolP w Sd v d reg s epoch seq used gb cap m bs D L c) (i : Nat) (x : Value) {epoch' seq' : Nat} {used' : Int} (he : epoch' < 4294967296) (hq : seq' < 4294967296) (hu : 0 ≤ used' ∧ used' ≤ s.log)
 (hx : (volCells d reg s epoch seq used (.slice (some ⟨gb, 0, none⟩) bs.length cap) m).setIfInBounds i x = volCells d reg s epoch' seq' used' (.slice (some ⟨gb, 0, none⟩) bs.length cap) m) :
 VolP (w.setCell ⟨v, i, none⟩ x) Sd v d reg s epoch' seq' used' gb cap m bs D L c := by
 have hK : Keeps (fun g => g = v) w (w.setCell ⟨v, i, none⟩ x) := Keeps.setCell _ _ _ rfl
 have hvb : gb ≠ v := by
  obtain ⟨cur, hg, _⟩ := h.row.obj
  exact ne_of_obj hg h.o (by decide)
 have hvm : m ≠ v := by
  obtain ⟨es, clock, hg, _⟩ := h.map.ex
  intro e
  subst e
  rw [h.o] at hg
  cases hg
 exact { h with o := by show objAt _ v = _; rw [objAt_setCell h.o, hx], e32 := he, q32 := hq, ub := hu, dev := h.dev.keeps hK (fun g hg e => h.nv (e ▸ hg)), row := h.row.keeps hK (fun g hg e => by obtain rfl := Option.some.inj hg; exact hvb e), map := h.map.keeps hK (fun e => hvm e) }
theorem VolP.setMap (h : VolP w Sd v d reg s epoch seq used gb cap m bs D L c) {D' : ML} (hm : MapI w' m D') (hk : Keeps (fun g => g = m) w w') (hd : ∀ k ∈ keysL D', k < (bs.length : Int)) : VolP w' Sd v d reg s epoch seq used gb cap m bs D' L c := by
 obtain ⟨es, clock, hg, _⟩ := h.map.ex
 have hvm : v ≠ m := fun e => by subst e; rw [h.o] at hg; cases hg
 have hbm : gb ≠ m := fun e => by
  subst e
  obtain ⟨cur, hg2, _⟩ := h.row.obj
  rw [show objAt w gb = w.heap[gb]? from rfl, hg2] at hg; cases hg
 exact { h with o := hk.obj h.o hvm, dev := h.dev.keeps hk (fun g hg e => h.nm (e ▸ hg)), row := h.row.keeps hk (fun g hg e => by obtain rfl := Option.some.inj hg; exact hbm e), map := hm, keys := hd }
end
end
section
open Go.RowKit
attribute [local irreducible] Calls

theorem sortedKeys_length (L : ML) : (sortedKeys L).length = L.length := by
 unfold sortedKeys; rw [List.length_mergeSort]; simp [keysL]
theorem sortedKeys_mem (L : ML) (x : Int) : x ∈ sortedKeys L ↔ x ∈ keysL L := by
 unfold sortedKeys; exact List.mem_mergeSort
def homesD (D : Dv) (reg : Nat) (s : Sh) (bs : List Blk) (ks : List Int) : Dv := ks.foldl (fun D k => homeD D reg s k.toNat (bs.getD k.toNat Blk.zero)) D
def tidiesD (D : Dv) (reg : Nat) (s : Sh) (bs : List Blk) (ks : List Int) (epoch : Nat) : Dv := anchorsD ((homesD D reg s bs ks).barrier reg) reg s epoch
theorem homesD_succ (D : Dv) (reg : Nat) (s : Sh) (bs : List Blk) {ks : List Int} {k : Nat} (h : k < ks.length) : homesD D reg s bs (ks.take (k + 1)) = homeD (homesD D reg s bs (ks.take k)) reg s (ks.getD k 0).toNat (bs.getD (ks.getD k 0).toNat Blk.zero) := by
 unfold homesD
 rw [List.take_succ_eq_append_getElem h, List.foldl_append, List.getD_eq_getElem?_getD, List.getElem?_eq_getElem h]
 rfl
theorem homeD_has {D : Dv} {reg n k : Nat} {s : Sh} {a : Nat} {b : Blk} (h : D.has reg n) : (homeD D k s a b).has reg n := Dv.has_write h
theorem anchorsD_has {D : Dv} {reg n k e : Nat} {s : Sh} (h : D.has reg n) : (anchorsD D k s e).has reg n := Dv.has_barrier (Dv.has_write h)
theorem wrap_u32 (n : Nat) : IntKind.u32.wrap (n : Int) = ((n % 4294967296 : Nat) : Int) := by
 rw [IntKind.wrap_u32]; omega

theorem tidies_any {w : World} {Sd : Nat → Prop} {v d reg : Nat} {s : Sh} {epoch seq : Nat} {used : Int} {gb cap m : Nat} {bs : List Blk} {D : ML} {L : Dv} {c : Nat} (h : VolP w Sd v d reg s epoch seq used gb cap m bs D L c) (hc : c < 700000) :
 Calls Tryz.prog 116 #[.pointer (some ⟨v, 0, none⟩)] w fun e w' => e = .returned (.tuple #[]) ∧ Keeps (fun k => Sd k ∨ k = v ∨ k = m) w w' ∧ VolP w' (grownS Sd w w') v d reg s ((epoch + 1) % 4294967296) 0 0 gb cap m bs [] (tidiesD L reg s bs (sortedKeys D) ((epoch + 1) % 4294967296)) (c + bs.length + 4) := by
 have hfew := h.map.few h.keys
 have hbl := h.sok.blocks
 have hsl := h.slen
 have hsz : w.heap.size ≤ (w.alloc (.cells #[.map (some m)] 34)).heap.size := by rw [size_alloc]; omega
 have H0 := Lib.hid h
 have c12 := VolO.c12 h.o
 clear h
 go_enter Tryz.func116, Tryz.ntmps116
 go_wp2_with (first | (go_at_call 174; refine (KeysBool_any m _).mono ?_; rintro e w1 ⟨rfl, rfl⟩) | (go_at_call 62; refine (SortedBool_any m D _ H0.out.map).mono ?_; rintro e w2 ⟨vk, rfl, hrow, hb⟩; obtain ⟨ak, capk, rfl, hints⟩ := hrow.ints; have HR := Lib.hid (And.intro hrow (And.intro hb hints)); clear hrow hb hints))
 have hV2 := H0.out.below HR.out.2.1
 have hlk := sortedKeys_length D
 obtain ⟨ks, hks⟩ : ∃ ks, ks = sortedKeys D := ⟨_, rfl⟩
 have hmem : ∀ x ∈ ks, ∃ j : Nat, x = (j : Int) ∧ j < bs.length := fun x hx => by
  rw [hks, sortedKeys_mem] at hx
  have h1 := H0.out.map.range x hx
  have h2 := H0.out.keys x hx
  exact ⟨x.toNat, by omega, by omega⟩
 rw [← hks] at hlk HR ⊢
 have Hm := Lib.hid (And.intro hmem (And.intro hks hlk))
 have H2 := Lib.hid hV2
 have hks2 : ks.length ≤ 200 := by omega
 clear hmem hks hV2 c12 hsz hlk
 go_loopw [11] (fun i wr => ∃ (k : Nat) (L' : Dv), k ≤ ks.length ∧ i = .int .i64 k ∧ VolP wr (grownS Sd w2 wr) v d reg s epoch seq used gb cap m bs D L' (c + k) ∧ L' = homesD L reg s bs (ks.take k) ∧ Keeps Sd w2 wr ∧ IRow wr w.heap.size (.slice ak ks.length capk) ks) (fun i _ => ks.length - (intOf i).toNat)
 case atStart =>
  exact ⟨0, L, Nat.zero_le _, rfl, H2.out.refoot (grownS_of H2.out.dev.lt (Nat.le_refl _)) (fun k hk => hk.1) (fun e => by have := H2.out.lt_v; exact e.2.elim H2.out.nv (by omega)) (fun e => by have := H2.out.lt_m; exact e.2.elim H2.out.nm (by omega)) (fun e => by have := H2.out.lt_b; exact e.2.elim H2.out.nb (by omega)) (Nat.le_refl _), rfl, Keeps.refl _ _, HR.out.1⟩
 case round =>
  obtain ⟨k, L', hk, rfl, hV, hL', hKp, hrow⟩ := hrel
  have HX := Lib.hid (And.intro hV (And.intro hL' (And.intro hKp hrow)))
  by_cases hlt : k < ks.length
  · obtain ⟨a', cp', he, hints⟩ := hrow.ints
    simp only [Value.slice.injEq] at he
    obtain ⟨rfl, _, rfl⟩ := he
    obtain ⟨bk, off, hak, hck⟩ := hints
    have hc1 := hck k hlt
    obtain rfl := hak (by omega)
    obtain ⟨j, hj, hjb⟩ := Hm.out.1 (ks.getD k 0) (by rw [List.getD_eq_getElem?_getD, List.getElem?_eq_getElem hlt]; exact List.getElem_mem _)
    rw [hj] at hc1
    have hhas := hV.row.has j hjb
    have hrowj := hV.row.row j hjb
    have hlti : (k : Int) < (ks.length : Int) := by omega
    have hjb' : (j : Int) < (bs.length : Int) := by omega
    have c11 := VolO.c11 hV.o
    have hkind : 0 ≤ (bs.getD j Blk.zero).kind ∧ (bs.getD j Blk.zero).kind ≤ 7 := by
     rw [List.getD_eq_getElem?_getD, List.getElem?_eq_getElem hjb]; exact hV.kinds _ (List.getElem_mem _)
    have Hh := Lib.hid (home_any (a := j) (b := bs.getD j Blk.zero) hV.sok hV.o hV.dev (by have := Hm.out.2.2; omega) hV.has hkind (by omega))
    have hsucc := homesD_succ L reg s bs hlt
    rw [hj, Int.toNat_natCast] at hsucc
    have Hsucc := Lib.hid hsucc
    clear hsucc
    generalize bs.getD j Blk.zero = bj at *
    clear hV hL' hKp hrow hck hak hkind hj
    go_wp2_with (go_at_call 109; refine Hh.out.mono ?_; rintro e w3 ⟨rfl, hst⟩)
    have hV3 := HX.out.1.step hst (homeD_has HX.out.1.has)
    have hKp3 : Keeps Sd w2 w3 := ⟨hst.keeps.os.trans HX.out.2.2.1.os, hst.keeps.tape.trans HX.out.2.2.1.tape, hst.keeps.output.trans HX.out.2.2.1.output, Nat.le_trans HX.out.2.2.1.size hst.keeps.size, fun q hq hn => (hst.keeps.block q (Nat.lt_of_lt_of_le hq HX.out.2.2.1.size) (fun e => e.2.elim hn (by omega))).trans (HX.out.2.2.1.block q hq hn)⟩
    have hrow3 := HX.out.2.2.2.keeps hst.keeps (fun g hg e => by
     have h1 : g < w2.heap.size := by
      have := HR.out.1
      rcases this.2 with ⟨h', _⟩ | ⟨g', cap', cur, h', hb, hg', _⟩
      · rw [h'] at hg; cases hg
      · rw [h'] at hg; obtain rfl := Option.some.inj hg; exact block_lt hg'
     have h2 : w.heap.size ≤ g := by
      have := HR.out.1
      rcases this.2 with ⟨h', _⟩ | ⟨g', cap', cur, h', hb, hg', _⟩
      · rw [h'] at hg; cases hg
      · rw [h'] at hg; obtain rfl := Option.some.inj hg; exact hb
     exact e.2.elim (fun e => by have := H0.out.dev.lt g e; omega) (by omega))
    have hfoot := hV3.refoot (S' := grownS Sd w2 w3) (c' := c + (k + 1)) (fun q hq => ⟨hq.1, hq.2.elim (fun e => e.2) (fun e => .inr (Nat.le_trans HX.out.2.2.1.size e))⟩) (fun q hq => hq.1) (fun e => by have := H2.out.lt_v; exact e.2.elim H2.out.nv (by omega)) (fun e => by have := H2.out.lt_m; exact e.2.elim H2.out.nm (by omega)) (fun e => by have := H2.out.lt_b; exact e.2.elim H2.out.nb (by omega)) (by omega)
    go_roundw
    case rel => exact ⟨k + 1, _, by omega, by go_num, hfoot, by rw [Hsucc.out, ← HX.out.2.1], hKp3, hrow3⟩
    case measure => simp [intOf]; omega
  · have hkn : ¬ ((k : Int) < (ks.length : Int)) := by omega
    have c0 := VolO.c0 hV.o
    have c1 := VolO.c1 hV.o
    clear hV hL' hKp hrow
    have hck : c + k < 800000 := by omega
    go_upto_region 5 with fail
    refine wp_region_F [8] (S := fun w' => w'.cell? ⟨v, 0, none⟩ = some (.pointer (some ⟨d, 0, none⟩)) ∧ w'.cell? ⟨v, 1, none⟩ = some (.int .i64 reg) ∧ True) (by kernel_rfl) (⟨c0, c1, trivial⟩) (fun hHeld => ?_)
    show wpAnyF _ _ _ _ _ _ 9 #[false, false, false, false, false, false, false, false, false] _ _
    refine gF 0 [0, 1, 2, 3, 8] ?_; try simp only [Act.put, qs]
    refine gF 1 [1, 2, 3, 8] ?_; try simp only [Act.put, qs]
    refine gF 2 [2, 3, 8] ?_; try simp only [Act.put, qs]
    refine gF 3 [3, 8] ?_; try simp only [Act.put, qs]
    refine gF 4 [4, 5, 6, 7, 8] ?_; try simp only [Act.put, qs]
    refine gF 5 [5, 6, 7, 8] ?_; try simp only [Act.put, qs]
    refine gF 6 [6, 7, 8] ?_; try simp only [Act.put, qs]
    refine gF 7 [7, 8] ?_; try simp only [Act.put, qs]
    refine gV 8 fun K hK => ?_
    try simp only [qs]
    go_simp
    go_at_call 110; refine (Barrier_in (HX.out.1.dev.below (Below.refl _ _).drew) (by omega) (Dv.has_lt HX.out.1.has)).mono ?_; rintro e w4 ⟨rfl, hk4, hd4⟩
    refine hK.out _ _ (trivial) (fun hN => ?_); replace hHeld := hN; clear hK K hN
    try simp only [qs]
    refine wpAnyF_done (by kernel_rfl) ?_ _
    have hst4 := DevStep.pre (Below.refl wr.heap.size wr).drew ⟨hk4, hd4⟩
    have hV4 := HX.out.1.step hst4 (Dv.has_barrier HX.out.1.has)
    have H4 := Lib.hid (And.intro hst4 hV4)
    have c8 := VolO.c8 hV4.o
    have f8 := VolO.free hV4.o 8
    clear hst4 hV4 hk4 hd4 c0 c1 hHeld
    go_upto_region 7 with fail
    have hw1 : ((epoch : Int) + 1) % 4294967296 = (((epoch + 1) % 4294967296 : Nat) : Int) := by omega
    rw [hw1]
    have hE : (epoch + 1) % 4294967296 < 4294967296 := Nat.mod_lt _ (by decide)
    have hV5 := H4.out.2.set 8 (.int .u32 (((epoch + 1) % 4294967296 : Nat) : Int)) hE H4.out.2.q32 H4.out.2.ub (epoch' := (epoch + 1) % 4294967296) (seq' := seq) (used' := used) rfl
    obtain ⟨E, hEe⟩ : ∃ E, E = (epoch + 1) % 4294967296 := ⟨_, rfl⟩
    rw [← hEe] at hE hV5 ⊢
    have hk5 : Keeps (fun q => q = v) w4 (w4.setCell ⟨v, 8, none⟩ (.int .u32 (E : Int))) := Keeps.setCell _ _ _ rfl
    obtain ⟨w5, hw5⟩ : ∃ w5, w5 = w4.setCell ⟨v, 8, none⟩ (.int .u32 (E : Int)) := ⟨_, rfl⟩
    rw [← hw5] at hV5 hk5 ⊢
    have Ha := Lib.hid (anchors_any hV5.o hV5.nv hV5.dev (by omega) hV5.has (by unfold Sh.size; omega) hE)
    have H5 := Lib.hid (And.intro hV5 (And.intro hk5 hEe))
    clear hw1 hw5 hEe hV5 hk5 c8 f8
    go_upto_region 8 with (go_at_call 111; refine Ha.out.mono ?_; rintro e w6 ⟨rfl, hst6⟩)
    have hV6 := H5.out.1.step hst6 (anchorsD_has H5.out.1.has)
    have hV7 := (hV6.set 9 (.int .u32 0) hV6.e32 (by decide) hV6.ub (epoch' := E) (seq' := 0) (used' := used) rfl).set 10 (.int .i64 0) hV6.e32 (by decide) ⟨Int.le_refl _, Int.natCast_nonneg _⟩ (epoch' := E) (seq' := 0) (used' := 0) rfl
    have H6 := Lib.hid (And.intro hst6 hV7)
    have c9 := VolO.c9 hV6.o
    have c10 := VolO.c10 hV6.o
    have f9 := VolO.free hV6.o 9
    have f10 := VolO.free hV6.o 10
    clear hst6 hV6 hV7
    go_upto_region 9 with fail
    obtain ⟨w7, hw7⟩ : ∃ w7, w7 = (w6.setCell ⟨v, 9, none⟩ (.int .u32 0)).setCell ⟨v, 10, none⟩ (.int .i64 0) := ⟨_, rfl⟩
    have hk7 : Keeps (fun q => q = v) w6 w7 := by rw [hw7]; exact (Keeps.setCell (S := fun q => q = v) w6 ⟨v, 9, none⟩ _ rfl).trans (Keeps.setCell (S := fun q => q = v) _ ⟨v, 10, none⟩ _ rfl)
    rw [← hw7] at H6 ⊢
    have c12 := VolO.c12 H6.out.2.o
    have H7 := Lib.hid hk7
    clear hw7 hk7 c9 c10 f9 f10
    go_wp2_with (refine list_clearI rfl 34 3 4 _ rfl H6.out.2.map Tryz.underlying34 rfl ?_; intro w8 hm8 hk8)

    go_end0
    have hV8 := H6.out.2.setMap hm8 hk8 (fun k hk => by simp [keysL] at hk)
    have hsz2 := HR.out.2.1.size
    have e1 := HX.out.2.2.1.size
    have e2 := H4.out.1.keeps.size
    have e3 := H5.out.2.1.size
    have hlv := H0.out.lt_v
    have hlm := H0.out.lt_m
    have hlb := H0.out.lt_b
    have hA : ∀ q, grownS Sd w2 wr q → Sd q ∨ w2.heap.size ≤ q := fun q hq => hq.2
    have hB : ∀ q, grownS (grownS Sd w2 wr) wr w4 q → Sd q ∨ w2.heap.size ≤ q := fun q hq => hq.2.elim (hA q) (fun e => .inr (by omega))
    have hC : ∀ q, grownS (grownS (grownS Sd w2 wr) wr w4) w5 w6 q → Sd q ∨ w2.heap.size ≤ q := fun q hq => hq.2.elim (hB q) (fun e => .inr (by omega))
    have k1 : Keeps (fun q => Sd q ∨ q = v ∨ q = m) w w2 := Keeps.of_below HR.out.2.1
    have k2 := k1.chain HX.out.2.2.1 (fun q _ e => .inl e)
    have k3 := k2.chain H4.out.1.keeps (fun q hq e => .inl ((hA q e).resolve_right (by omega)))
    have k4 := k3.chain H5.out.2.1 (fun q _ e => .inr (.inl e))
    have k5 := k4.chain H6.out.1.keeps (fun q hq e => .inl ((hB q e).resolve_right (by omega)))
    have k6 := k5.chain H7.out (fun q _ e => .inr (.inl e))
    have k7 := k6.chain hk8 (fun q _ e => .inr (.inr e))
    have hEq := H5.out.2.2
    have hkl := Hm.out.2.2
    have hTid : tidiesD L reg s bs (sortedKeys D) E = anchorsD (L'.barrier reg) reg s E := by
     unfold tidiesD
     rw [← Hm.out.2.1, HX.out.2.1, List.take_of_length_le (by omega)]
    rw [← hEq, hTid]
    refine ⟨rfl, k7, hV8.refoot (S' := grownS Sd w w8) (c' := c + bs.length + 4) (fun q hq => ⟨hV8.dev.lt q hq, (hC q hq).imp id (fun e => by omega)⟩) (fun q hq => hq.1) (fun e => e.2.elim H0.out.nv (by omega)) (fun e => e.2.elim H0.out.nm (by omega)) (fun e => e.2.elim H0.out.nb (by omega)) (by omega)⟩
end
section
open Go.RowKit
attribute [local irreducible] Calls

theorem made_any (d reg : Nat) (s : Sh) (hs : s.Ok) (epoch : Nat) (w : World) :
 Calls Tryz.prog 108 #[.pointer (some ⟨d, 0, none⟩), .int .i64 reg, .agg s.cells, .int .u32 epoch] w fun e w' => ∃ v m, e = .returned (.pointer (some ⟨v, 0, none⟩)) ∧ VolO w' v d reg s epoch 0 0 (.slice none 0 0) m ∧ MapI w' m [] ∧ w.heap.size ≤ v ∧ w.heap.size ≤ m ∧ Below w.heap.size w w' := by
 have hlb : ((UInt8.ofNat (16 * s.level + s.cats).toNat).toNat : Int) = (s.lb.toNat : Int) := rfl
 have h1 := hs.level
 have h2 := hs.cats
 have HP := Lib.hid (fun w => LabelPut_ok s.level s.cats h1 h2 w)
 rw [hlb] at HP
 obtain ⟨lv, ca, bl, lo, fr⟩ := s
 have hmm : ∀ w, (Instr.makeMap 34 none).run Tryz.prog w = .ok (.map (some w.heap.size)) (w.alloc (.map #[] 0)) := fun w => run_makeMap _ w
 generalize hq : (Sh.mk lv ca bl lo fr).lb = lb at *
 have Hq := Lib.hid hq
 dsimp only at HP
 clear hlb h1 h2 hq
 unfold Sh.cells
 go_enter Tryz.func108, Tryz.ntmps108
 go_wp2_with (go_at_call 165; refine (HP.out _).mono ?_; rintro e w1 ⟨rfl, b1⟩; have c0 : w1.cell? ⟨w.heap.size, 0, none⟩ = some (.int .i64 lv) := grow_cell b1 (by simp); have c1 : w1.cell? ⟨w.heap.size, 1, none⟩ = some (.int .i64 ca) := grow_cell b1 (by simp); have c2 : w1.cell? ⟨w.heap.size, 2, none⟩ = some (.int .i64 bl) := grow_cell b1 (by simp); have c3 : w1.cell? ⟨w.heap.size, 3, none⟩ = some (.int .i64 lo) := grow_cell b1 (by simp); have c4 : w1.cell? ⟨w.heap.size, 4, none⟩ = some (.int .i64 fr) := grow_cell b1 (by simp))
 go_ret
 have hB1 := grow_trans (grow_alloc (Below.refl _ _) _) b1
 have hsz := size_alloc w1 (.map #[] 0)
 have hle := hB1.size
 refine ⟨w1.heap.size + 1, w1.heap.size, rfl, ?_, (MapI.made w1).below (grow_alloc (Below.refl _ _) _), by omega, by omega, grow_alloc (grow_alloc hB1 _) _⟩
 show objAt _ _ = _
 rw [objAt_alloc, hsz, if_pos rfl]
 unfold volCells
 rw [Hq.out]
 rfl

theorem DevAt.read {w : World} {Sd : Nat → Prop} {d : Nat} {D : Dv} {c : Nat} (h : DevAt w Sd d D c) {reg i : Nat} {R : Reg} {l : List UInt8} (hR : D.regs[reg]? = some R) (hi : R.seen[i]? = some l) :
 Calls Tryz.prog 107 #[.pointer (some ⟨d, 0, none⟩), .int .i64 reg, .int .i64 i] w fun e w' => ∃ g cap, e = .returned (.tuple #[.slice (some ⟨g, 0, none⟩) 64 cap, .bool true]) ∧ BRow w' w.heap.size (.slice (some ⟨g, 0, none⟩) 64 cap) l ∧ 64 ≤ cap ∧ Below w.heap.size w w' := by
 obtain ⟨hok, _, S, rl, rcap, rs, hD, _⟩ := h
 exact Read_in hD hR (hok.regs R (List.mem_of_getElem? hR)) i hi

def superBlk : Blk := (⟨7, Blk.zero.body, Blk.zero.len⟩ : Blk).setB 3 1
def newBlk (a : Nat) : Blk := if a = 0 then superBlk else Blk.zero
def newsD (D : Dv) (reg : Nat) (s : Sh) (n : Nat) : Dv := (List.range n).foldl (fun D a => homeD D reg s a (newBlk a)) D
def makeD (D : Dv) (reg : Nat) (s : Sh) : Dv := anchorsD ((newsD D reg s s.blocks).barrier reg) reg s 1
theorem newsD_succ (D : Dv) (reg : Nat) (s : Sh) (k : Nat) : newsD D reg s (k + 1) = homeD (newsD D reg s k) reg s k (newBlk k) := by
 unfold newsD; rw [List.range_succ, List.foldl_append]; rfl
theorem newsD_has {D : Dv} {reg n k : Nat} {s : Sh} (h : D.has reg n) : ∀ m, (newsD D k s m).has reg n
 | 0 => h
 | m + 1 => by rw [newsD_succ]; exact homeD_has (newsD_has h m)
theorem zero_of : Blk.zero = Blk.of 0 [] := by unfold Blk.zero; rfl
theorem superBlk_kind : superBlk.kind = 7 := rfl

theorem Make_any {w : World} {Sd : Nat → Prop} {d reg : Nat} {s : Sh} {D : Dv} {c : Nat} (h : DevAt w Sd d D c) (hL : D.has reg s.size) (hs : s.Ok) (hc : c < 600000) :
 Calls Tryz.prog 55 #[.pointer (some ⟨d, 0, none⟩), .int .i64 reg, .agg s.cells] w fun e w' => e = .returned (.bool true) ∧ DevStep Sd w w' d (makeD D reg s) (c + s.blocks + 3) := by
 have hsz : 0 < s.size := by unfold Sh.size; omega
 have hbl := hs.blocks
 have hszb : s.size ≤ 302 := by have := hs.log; unfold Sh.size; omega
 obtain ⟨R, hR, hRl⟩ := id hL
 obtain ⟨l0, hRi⟩ : ∃ l0, R.seen[s.size - 1]? = some l0 := ⟨_, List.getElem?_eq_getElem (by omega)⟩
 have Hrd := Lib.hid (fun w' (hb : Below w.heap.size w w') => (h.below hb).read hR hRi)
 have hmd := fun w' => made_any d reg s hs 1 w'
 have hS := fun w' => Size_any s hs w'
 have e1 : ((s.size : Nat) : Int) - 1 = ((s.size - 1 : Nat) : Int) := by omega
 obtain ⟨cs, hcs⟩ : ∃ cs : Int × Int × Nat × Nat × Int, s = ⟨cs.1, cs.2.1, cs.2.2.1, cs.2.2.2.1, cs.2.2.2.2⟩ := ⟨(s.level, s.cats, s.blocks, s.log, s.frames), rfl⟩
 obtain ⟨lv, ca, bl, lo, fr⟩ := cs
 dsimp only at hcs
 have hcells : s.cells = #[.int .i64 lv, .int .i64 ca, .int .i64 bl, .int .i64 lo, .int .i64 fr] := by rw [hcs]; rfl
 have hb0 : s.blocks = bl := by rw [hcs]
 rw [hcells] at hmd hS ⊢
 have HS := Lib.hid hS
 have Hmd := Lib.hid hmd
 have H0 := Lib.hid (And.intro h (And.intro hL (And.intro hs hb0)))
 have He := Lib.hid e1
 rw [hb0] at hbl
 clear h hL hs hR hRl hRi hmd hS hcells hcs hb0 e1
 go_enter Tryz.func55, Tryz.ntmps55
 go_upto_region 5 with (first | (go_at_call 54; refine (HS.out _).mono ?_; rintro e w1 ⟨rfl, b1⟩; have q0 : w1.cell? ⟨w.heap.size, 0, none⟩ = some (.int .i64 lv) := grow_cell b1 (by simp); have q1 : w1.cell? ⟨w.heap.size, 1, none⟩ = some (.int .i64 ca) := grow_cell b1 (by simp); have q2 : w1.cell? ⟨w.heap.size, 2, none⟩ = some (.int .i64 bl) := grow_cell b1 (by simp); have q3 : w1.cell? ⟨w.heap.size, 3, none⟩ = some (.int .i64 lo) := grow_cell b1 (by simp); have q4 : w1.cell? ⟨w.heap.size, 4, none⟩ = some (.int .i64 fr) := grow_cell b1 (by simp)) | (go_at_call 107; rw [He.out]; refine (Hrd.out _ (grow_trans (grow_alloc (Below.refl _ _) _) b1)).mono ?_; rintro e w2 ⟨g2, cap2, rfl, _, _, b2⟩; replace q0 := grow_cell b2 q0; replace q1 := grow_cell b2 q1; replace q2 := grow_cell b2 q2; replace q3 := grow_cell b2 q3; replace q4 := grow_cell b2 q4) | (go_at_call 108; refine (Hmd.out _).mono ?_; rintro e w3 ⟨v, m, rfl, hV, _, hv1, _, b3⟩; replace q2 := grow_cell b3 q2))
 have hB3 := grow_trans (grow_trans (grow_trans (grow_alloc (Below.refl w.heap.size w) (.cells #[.int .i64 lv, .int .i64 ca, .int .i64 bl, .int .i64 lo, .int .i64 fr] 124)) b1) b2) b3
 have hvw : w.heap.size ≤ v := by have := (grow_trans (grow_trans (grow_alloc (Below.refl w.heap.size w) (.cells #[.int .i64 lv, .int .i64 ca, .int .i64 bl, .int .i64 lo, .int .i64 fr] 124)) b1) b2).size; omega
 have H3 := Lib.hid (And.intro hB3 (And.intro hvw hV))
 clear hB3 hvw hV b1 b2 b3 q0 q1 q3 q4 hv1
 go_wp2_with fail
 have hd3 := H0.out.1.below H3.out.1
 have hnv : ¬ Sd v := fun e => by have := H0.out.1.lt v e; have := H3.out.2.1; omega
 have HN := Lib.hid (And.intro hnv hd3)
 clear q2 hnv hd3
 go_loopw [29] (fun i wr => ∃ k : Nat, k ≤ bl ∧ i = .int .i64 k ∧ DevStep Sd w3 wr d (newsD D reg s k) (c + k)) (fun i _ => bl - (intOf i).toNat)
 case atStart => exact ⟨0, Nat.zero_le _, rfl, DevStep.same HN.out.2⟩
 case round =>
  obtain ⟨k, hk, rfl, hst⟩ := hrel
  have HS1 := Lib.hid hst
  clear hst
  by_cases hlt : k < bl
  · have hlt' : (k : Int) < (bl : Int) := by omega
    obtain ⟨G, hG⟩ : ∃ G, G = wr.heap.size := ⟨_, rfl⟩
    have HG := Lib.hid hG
    have hkn : newBlk k = if k = 0 then superBlk else Blk.zero := rfl
    have hb1 := BlkAt.alloc_new wr (Blk.of 0 [])
    have hVr : VolO wr v d reg s 1 0 0 (.slice none 0 0) m := HS1.out.obj H3.out.2.2 HN.out.1
    have hBa : Below wr.heap.size wr (wr.alloc (.cells (Blk.of 0 []).cells 37)) := grow_alloc (Below.refl _ _) _
    have hGv : G ≠ v := fun e => by have := block_lt hVr; omega
    have HW := Lib.hid (And.intro (grow_obj hBa hVr) (And.intro (HS1.out.dev.below hBa) (And.intro hBa (And.intro hb1 hGv))))
    have hka : k < s.blocks := by rw [H0.out.2.2.2]; exact hlt
    clear hVr hBa hb1 hGv
    by_cases hk0 : k = 0
    · subst hk0
      rw [if_pos rfl] at hkn
      have Hk := Lib.hid hkn
      have Hka := Lib.hid hka
      clear hkn hka hG
      go_upto_region 10 with fail
      obtain ⟨w4, hw4⟩ : ∃ w4, w4 = wr.alloc (.cells (Blk.of 0 []).cells 37) := ⟨_, rfl⟩
      rw [← hw4] at HW ⊢
      rw [← HG.out]
      have hb4 := HW.out.2.2.2.1
      rw [← HG.out] at hb4
      have k0 := cell_obj hb4 0
      rw [Blk.cell0] at k0
      have f0 := free_obj hb4 0
      have hb5 := hb4.setKind 7
      have hb6 := hb5.setCell 3 1
      have k3 := hb5.cell 3 (by decide)
      have f3 := free_obj hb5 4
      have hk6 : Keeps (fun q => q = G) w4 ((w4.setCell ⟨G, 0, none⟩ (.int .i64 7)).setCell ⟨G, 1 + 3, none⟩ (.int .u8 ((1 : UInt8).toNat : Int))) := (Keeps.setCell (S := fun q => q = G) _ ⟨G, 0, none⟩ _ rfl).trans (Keeps.setCell (S := fun q => q = G) _ ⟨G, 1 + 3, none⟩ _ rfl)
      have hsup : ((⟨7, (Blk.of 0 []).body, (Blk.of 0 []).len⟩ : Blk).setB 3 1) = superBlk := by unfold superBlk; rw [zero_of]
      rw [hsup] at hb6
      have H6 := Lib.hid (And.intro hb6 hk6)
      clear hb4 hb5 hb6 hk6 hsup hw4
      go_upto_region 11 with fail
      obtain ⟨w6, hw6⟩ : ∃ w6, w6 = (w4.setCell ⟨G, 0, none⟩ (.int .i64 7)).setCell ⟨G, 4, none⟩ (.int .u8 1) := ⟨_, rfl⟩
      have hb6 : BlkAt w6 G superBlk := by rw [hw6]; exact H6.out.1
      have hk6 : Keeps (fun q => q = G) w4 w6 := by rw [hw6]; exact H6.out.2
      rw [← hw6]
      have hbk := hb6.has
      have hrk := hb6.row
      have hBw : Below wr.heap.size wr w6 := HW.out.2.2.1.trans (hk6.below HW.out.2.2.1.size (fun q e => by rw [e, HG.out]; exact Nat.le_refl _))
      have hV6 : VolO w6 v d reg s 1 0 0 (.slice none 0 0) m := hk6.obj HW.out.1 (fun e => HW.out.2.2.2.2 e.symm)
      have hd6 := HS1.out.dev.below hBw
      have Hh := Lib.hid (home_any (a := 0) (b := superBlk) H0.out.2.2.1 hV6 hd6 (by omega) (newsD_has H0.out.2.1 0) (by rw [superBlk_kind]; decide) Hka.out)
      have H7 := Lib.hid hBw
      clear k0 f0 k3 f3 hw6 hb6 hk6 hBw hV6 hd6
      go_wp2_with (go_at_call 109; refine Hh.out.mono ?_; rintro e w5 ⟨rfl, hst⟩)
      go_roundw
      case rel => exact ⟨1, by omega, by go_num, by rw [newsD_succ, Hk.out]; exact HS1.out.trans (DevStep.pre H7.out hst)⟩
      case measure => simp [intOf]; omega
    · have hkb : ((k : Int) == 0) = false := by simpa using hk0
      rw [if_neg hk0] at hkn
      have Hk := Lib.hid (And.intro hkn hk0)
      have Hh := Lib.hid (home_any (a := k) (b := Blk.of 0 []) H0.out.2.2.1 HW.out.1 HW.out.2.1 (by omega) (newsD_has H0.out.2.1 k) (by rw [Blk.of_kind]; decide) hka)
      clear hkn hk0 hG hka
      go_wp2_with (go_at_call 109; refine Hh.out.mono ?_; rintro e w5 ⟨rfl, hst⟩)
      go_roundw
      case rel => exact ⟨k + 1, by omega, by go_num, by rw [newsD_succ, Hk.out.1, zero_of]; exact HS1.out.trans (DevStep.pre HW.out.2.2.1 hst)⟩
      case measure => simp [intOf]; omega
  · obtain rfl : k = bl := by omega
    have hn : ¬ ((k : Int) < (k : Int)) := by omega
    have Hb := Lib.hid (Barrier_in HS1.out.dev (by omega) (Dv.has_lt (newsD_has H0.out.2.1 k)))
    go_upto_region 14 with (go_at_call 110; refine Hb.out.mono ?_; rintro e w6 ⟨rfl, hk6, hd6⟩)
    have hst6 := HS1.out.trans ⟨hk6, hd6⟩
    have hV6 : VolO w6 v d reg s 1 0 0 (.slice none 0 0) m := hst6.obj H3.out.2.2 HN.out.1
    have hn6 : ¬ grownS Sd w3 w6 v := hst6.not (block_lt H3.out.2.2) HN.out.1
    have Ha := Lib.hid (anchors_any hV6 hn6 hst6.dev (by omega) (Dv.has_barrier (newsD_has H0.out.2.1 k)) (by unfold Sh.size; omega) (by decide))
    have H6 := Lib.hid hst6
    clear hst6 hV6 hn6 hk6 hd6
    go_wp2_with (go_at_call 111; refine Ha.out.mono ?_; rintro e w7 ⟨rfl, hst7⟩)
    go_ret
    refine ⟨rfl, ?_⟩
    unfold makeD
    rw [H0.out.2.2.2]
    exact DevStep.pre H3.out.1 ((H6.out.trans hst7).more (by omega))
end
end Go.Proofs.YtbbnejehglonjaaGreat
