/- DERIVED. Contracts and laws that the proofs of this seat share, part 22 of 40: Shelf LibS PvB. -/
import Derived.Shelf.SlGeneric
import Derived.Shelf.SlIterI.Nil
import Derived.Shelf.SortM.Plain
import Derived.Shelf.SortM.SortNone
import Derived.Ground.GgzProg
import Derived.Ground.SlgmProg
import Derived.Test.YtbbnejehglonjaaGreatProg
import Derived.Shelf.AbstractIn
import Derived.Test.YtbbnejehglonjaaGreatLibNM
import Derived.Test.YtbbnejehglonjaaGreatMg00
import Derived.Test.YtbbnejehglonjaaGreatMg05
import Derived.Test.YtbbnejehglonjaaGreatMg21
/-
  DERIVED: THE SHELF's CONTRACTS AT THIS DUMP, IN PLAIN WORDS (tools/lay-plain.mjs out of 'TryzShelf.lean', which tools/lay-shelf.mjs wrote): THE SAME DECLARATIONS UNDER THE SAME NAMES: 'import', 'namespace', 'open', 'def', 'theorem' AND NOTHING ELSE: no command of the shelf's: FOR A HAND-IN. Each laying: the table of numbers ('.._ren') and one theorem, a field a fact of the dump's own or the kernel's comparison; each contract: ONE APPLICATION.
-/
namespace Go.Proofs
open Go.Shelf
def Tryz.keys174_ren : Go.Shelf.Ren := ⟨fun | 7 => 174 | 10 => 204 | n => n, fun | 23 => 34 | 26 => 3 | 3 => 4 | 28 => 143 | 0 => 0 | 27 => 142 | 33 => 157 | 4 => 4 | n => n, fun | n => n⟩
theorem Tryz.keys174 : Go.Proofs.SlLaysZI.n7 Tryz.prog Tryz.keys174_ren := {
  mixed := by kernel_rfl
  f7 := ⟨Tryz.f174.name, by decide, Tryz.func174.trans (congrArg some (by kernel_rfl))⟩
  f10 := ⟨Tryz.f204.name, by decide, Tryz.func204.trans (congrArg some (by kernel_rfl))⟩
  t0 := Tryz.underlying0
  a0 := Tryz.isAgg0
  z0 := Tryz.sizeOf0
  v0 := Tryz.zeroValue0
  t4 := Tryz.underlying4
  a4 := Tryz.isAgg4
  z4 := Tryz.sizeOf4
  v4 := Tryz.zeroValue4
  t23 := Tryz.underlying34
  a23 := Tryz.isAgg34
  z23 := Tryz.sizeOf34
  v23 := Tryz.zeroValue34
  t26 := Tryz.underlying3
  a26 := Tryz.isAgg3
  z26 := Tryz.sizeOf3
  v26 := Tryz.zeroValue3
  t27 := Tryz.underlying142
  a27 := Tryz.isAgg142
  z27 := Tryz.sizeOf142
  v27 := Tryz.zeroValue142
  t28 := Tryz.underlying143
  a28 := Tryz.isAgg143
  z28 := Tryz.sizeOf143
  v28 := Tryz.zeroValue143
  t33 := Tryz.underlying157
  a33 := Tryz.isAgg157
  z33 := Tryz.sizeOf157
  v33 := Tryz.zeroValue157 }
def Tryz.sorted62_ren : Go.Shelf.Ren := ⟨fun | 6 => 62 | 8 => 130 | 9 => 131 | 11 => 182 | 13 => 184 | 12 => 183 | 23 => 214 | 24 => 215 | 14 => 205 | 15 => 206 | 16 => 207 | 17 => 208 | 18 => 209 | 19 => 210 | 20 => 211 | 21 => 212 | 22 => 213 | 25 => 228 | 26 => 229 | 27 => 230 | 28 => 231 | 29 => 232 | 30 => 233 | 31 => 237 | n => n, fun | 26 => 3 | 28 => 143 | 24 => 33 | 0 => 0 | 3 => 3 | 37 => 40 | 48 => 64 | 50 => 231 | 4 => 4 | 40 => 293 | 39 => 292 | 45 => 42 | 5 => 5 | 9 => 9 | 51 => 310 | 55 => 178 | 57 => 316 | 58 => 317 | 33 => 157 | n => n, fun | n => n⟩
theorem Tryz.sorted62 : Go.Proofs.SlLaysZI.n6 Tryz.prog Tryz.sorted62_ren := {
  mixed := by kernel_rfl
  f6 := ⟨Tryz.f62.name, by decide, Tryz.func62.trans (congrArg some (by kernel_rfl))⟩
  f8 := ⟨Tryz.f130.name, by decide, Tryz.func130.trans (congrArg some (by kernel_rfl))⟩
  f11 := ⟨Tryz.f182.name, by decide, Tryz.func182.trans (congrArg some (by kernel_rfl))⟩
  t0 := Tryz.underlying0
  a0 := Tryz.isAgg0
  z0 := Tryz.sizeOf0
  v0 := Tryz.zeroValue0
  t24 := Tryz.underlying33
  a24 := Tryz.isAgg33
  z24 := Tryz.sizeOf33
  v24 := Tryz.zeroValue33
  t26 := Tryz.underlying3
  a26 := Tryz.isAgg3
  z26 := Tryz.sizeOf3
  v26 := Tryz.zeroValue3
  t28 := Tryz.underlying143
  a28 := Tryz.isAgg143
  z28 := Tryz.sizeOf143
  v28 := Tryz.zeroValue143
  i26 := by kernel_rfl }
def Tryz.sort131_ren : Go.Shelf.Ren := ⟨fun | 5 => 131 | 8 => 184 | 7 => 183 | 19 => 214 | 20 => 215 | 10 => 205 | 11 => 206 | 12 => 207 | 13 => 208 | 14 => 209 | 15 => 210 | 16 => 211 | 17 => 212 | 18 => 213 | 30 => 228 | 31 => 229 | 32 => 230 | 33 => 231 | 34 => 232 | 35 => 233 | 40 => 237 | n => n, fun | 23 => 33 | 25 => 3 | 3 => 3 | 32 => 40 | 22 => 33 | 0 => 0 | 44 => 64 | 46 => 231 | 4 => 4 | 36 => 293 | 35 => 292 | 41 => 42 | 5 => 5 | 9 => 9 | 53 => 310 | 57 => 178 | 63 => 316 | 64 => 317 | n => n, fun | n => n⟩
theorem Tryz.sort131 : Go.Proofs.SlLaysM.n5 Tryz.prog Tryz.sort131_ren := {
  mixed := by kernel_rfl
  f5 := ⟨Tryz.f131.name, by decide, Tryz.func131.trans (congrArg some (by kernel_rfl))⟩
  f7 := ⟨Tryz.f183.name, by decide, Tryz.func183.trans (congrArg some (by kernel_rfl))⟩
  f8 := Tryz.func184.trans (congrArg some (by kernel_rfl))
  f10 := ⟨Tryz.f205.name, by decide, Tryz.func205.trans (congrArg some (by kernel_rfl))⟩
  f11 := ⟨Tryz.f206.name, by decide, Tryz.func206.trans (congrArg some (by kernel_rfl))⟩
  f12 := ⟨Tryz.f207.name, by decide, Tryz.func207.trans (congrArg some (by kernel_rfl))⟩
  f13 := ⟨Tryz.f208.name, by decide, Tryz.func208.trans (congrArg some (by kernel_rfl))⟩
  f14 := ⟨Tryz.f209.name, by decide, Tryz.func209.trans (congrArg some (by kernel_rfl))⟩
  f15 := ⟨Tryz.f210.name, by decide, Tryz.func210.trans (congrArg some (by kernel_rfl))⟩
  f16 := ⟨Tryz.f211.name, by decide, Tryz.func211.trans (congrArg some (by kernel_rfl))⟩
  f17 := ⟨Tryz.f212.name, by decide, Tryz.func212.trans (congrArg some (by kernel_rfl))⟩
  f18 := ⟨Tryz.f213.name, by decide, Tryz.func213.trans (congrArg some (by kernel_rfl))⟩
  f19 := Tryz.func214.trans (congrArg some (by kernel_rfl))
  f20 := Tryz.func215.trans (congrArg some (by kernel_rfl))
  f30 := ⟨Tryz.f228.name, by decide, Tryz.func228.trans (congrArg some (by kernel_rfl))⟩
  f31 := Tryz.func229.trans (congrArg some (by kernel_rfl))
  f32 := Tryz.func230.trans (congrArg some (by kernel_rfl))
  f33 := ⟨Tryz.f231.name, by decide, Tryz.func231.trans (congrArg some (by kernel_rfl))⟩
  f34 := ⟨Tryz.f232.name, by decide, Tryz.func232.trans (congrArg some (by kernel_rfl))⟩
  f35 := ⟨Tryz.f233.name, by decide, Tryz.func233.trans (congrArg some (by kernel_rfl))⟩
  f40 := ⟨Tryz.f237.name, by decide, Tryz.func237.trans (congrArg some (by kernel_rfl))⟩
  t0 := Tryz.underlying0
  a0 := Tryz.isAgg0
  z0 := Tryz.sizeOf0
  v0 := Tryz.zeroValue0
  t3 := Tryz.underlying3
  a3 := Tryz.isAgg3
  z3 := Tryz.sizeOf3
  v3 := Tryz.zeroValue3
  t4 := Tryz.underlying4
  a4 := Tryz.isAgg4
  z4 := Tryz.sizeOf4
  v4 := Tryz.zeroValue4
  t5 := Tryz.underlying5
  a5 := Tryz.isAgg5
  z5 := Tryz.sizeOf5
  v5 := Tryz.zeroValue5
  t9 := Tryz.underlying9
  a9 := Tryz.isAgg9
  z9 := Tryz.sizeOf9
  v9 := Tryz.zeroValue9
  t22 := Tryz.underlying33
  a22 := Tryz.isAgg33
  z22 := Tryz.sizeOf33
  v22 := Tryz.zeroValue33
  t23 := Tryz.underlying33
  a23 := Tryz.isAgg33
  z23 := Tryz.sizeOf33
  v23 := Tryz.zeroValue33
  t25 := Tryz.underlying3
  a25 := Tryz.isAgg3
  z25 := Tryz.sizeOf3
  v25 := Tryz.zeroValue3
  t32 := Tryz.underlying40
  a32 := Tryz.isAgg40
  z32 := Tryz.sizeOf40
  v32 := Tryz.zeroValue40
  t35 := Tryz.underlying292
  a35 := Tryz.isAgg292
  z35 := Tryz.sizeOf292
  v35 := Tryz.zeroValue292
  t36 := Tryz.underlying293
  a36 := Tryz.isAgg293
  z36 := Tryz.sizeOf293
  v36 := Tryz.zeroValue293
  t41 := Tryz.underlying42
  a41 := Tryz.isAgg42
  z41 := Tryz.sizeOf42
  v41 := Tryz.zeroValue42
  t44 := Tryz.underlying64
  a44 := Tryz.isAgg64
  z44 := Tryz.sizeOf64
  v44 := Tryz.zeroValue64
  t46 := Tryz.underlying231
  a46 := Tryz.isAgg231
  z46 := Tryz.sizeOf231
  v46 := Tryz.zeroValue231
  t53 := Tryz.underlying310
  a53 := Tryz.isAgg310
  z53 := Tryz.sizeOf310
  v53 := Tryz.zeroValue310
  t57 := Tryz.underlying178
  a57 := Tryz.isAgg178
  z57 := Tryz.sizeOf178
  v57 := Tryz.zeroValue178
  t63 := Tryz.underlying316
  a63 := Tryz.isAgg316
  z63 := Tryz.sizeOf316
  v63 := Tryz.zeroValue316
  t64 := Tryz.underlying317
  a64 := Tryz.isAgg317
  z64 := Tryz.sizeOf317
  v64 := Tryz.zeroValue317 }
end Go.Proofs

/- DERIVED. Contracts of slices.Sorted(maps.Keys(m)) of maps of whole numbers. -/
namespace Go.Proofs.YtbbnejehglonjaaGreat
open Go.RowKit Go.Maps Go.Sort Go.Shelf
attribute [local go_sem] hasBlk
set_option maxRecDepth 100000

theorem sorts_at (m : Nat) : AnyZI.SortsIn Tryz.prog Tryz.sorted62_ren Fence.wide m :=
  ⟨fun blk off cap ss W hH hblk hsz => callsIn_wide.2 (AnyM.slices_Sort_int Tryz.sort131 blk off cap ss W hH hblk hsz),
   fun p cap W => callsIn_wide.2 (AnyM.slices_Sort_int_none Tryz.sort131 p cap W)⟩
/-- A map's keys, rising. -/
def sortedKeys (L : ML) : List Int := (keysL L).mergeSort (fun x y => decide (x ≤ y))

theorem KeysBool_any (m : Nat) (W : World) : Calls Tryz.prog 174 #[.map (some m)] W fun e w' => e = .returned (.func (.func 204) #[] #[.pointer (some ⟨W.heap.size, 0, none⟩)]) ∧ w' = W.alloc (.cells #[.map (some m)] 34) :=
  callsIn_wide.1 (AnyZI.keys_in Tryz.keys174 Fence.wide 5 trivial rfl (some m) W)

set_option maxHeartbeats 1000000 in
theorem SortedBool_any (m : Nat) (L : ML) (w : World) (h : MapI w m L) :
    Calls Tryz.prog 62 #[.func (.func 204) #[] #[.pointer (some ⟨w.heap.size, 0, none⟩)]] (w.alloc (.cells #[.map (some m)] 34)) fun e w' => ∃ v, e = .returned v ∧ IRow w' w.heap.size v (sortedKeys L) ∧ Below w.heap.size w w' := by
  obtain ⟨D, hown, hsz, hperm⟩ := h.owns (H := Unit) Tryz.underlying3 (.lit (.bool true))
  have hsm := h.small
  have hbl := hown.lt
  have hmax : Maps.size D ≤ maxLen := by rw [hsz]; unfold maxLen; omega
  have hbytes : Maps.size D * 8 ≤ 140737488355328 := by rw [hsz]; omega
  have hseq : SeqGives Fence.wide 2 Tryz.prog 204 #[.pointer (some ⟨w.heap.size, 0, none⟩)] encZ (fun ss => ss.Perm (intKeys D)) (Maps.size D) (w.alloc (.cells #[.map (some m)] 34)) :=
    AnyZI.keys_gives (ρ := Tryz.keys174_ren) { Tryz.keys174 with } Fence.wide _ trivial rfl (by omega) w.heap.size m L.length D _ (by simp) (by simp) (by
      obtain ⟨es, clock, hb, Ft, hs, hD⟩ := hown
      exact ⟨es, clock, (Below.heap_alloc _ _ m hbl).trans hb, Ft, hs, hD⟩)
  have cS := AnyZI.sorted_in Tryz.sorted62 Fence.wide 5 trivial trivial trivial trivial rfl (by omega) (sorts_at _) (enters_of Tryz.func131 (by kernel_rfl) rfl) 204 #[.pointer (some ⟨w.heap.size, 0, none⟩)] trivial (enters_of Tryz.func204 (by kernel_rfl) rfl) _ _ hmax hbytes _ hseq
  change CallsIn _ _ Tryz.prog 62 _ _ _ at cS
  refine (callsIn_wide.1 cS).mono ?_
  rintro e w' ⟨v, ss, rfl, hS, hrow, _, hb⟩
  have e1 : ss.mergeSort (fun x y => decide (x ≤ y)) = sortedKeys L := mergeSort_of_perm_i (hS.trans hperm)
  have hl : ss.length = (sortedKeys L).length := by rw [← e1, List.length_mergeSort]
  rw [e1, hl] at hrow
  exact ⟨v, rfl, IRow.mono hrow (by simp), (grow_alloc (Below.refl _ _) _).trans (hb.mono (by simp))⟩
end Go.Proofs.YtbbnejehglonjaaGreat

/- DERIVED. A label's blocks as they lie, mounted; what keeps them. -/
namespace Go.Proofs.YtbbnejehglonjaaGreat
open Go.RowKit
attribute [local go_sem] hasBlk
attribute [local irreducible] Calls
set_option maxRecDepth 100000

theorem pigeon (n : Nat) : ∀ l : List Nat, l.Nodup → (∀ x ∈ l, x < n) → l.length ≤ n := by
  induction n with
  | zero => intro l _ h; cases l with
    | nil => simp
    | cons a l => have := h a (by simp); omega
  | succ n ih =>
    intro l hn h
    by_cases hm : n ∈ l
    · have h1 := ih (l.erase n) (hn.erase n) (fun x hx => by
        rw [hn.mem_erase_iff] at hx
        have := h x hx.2
        omega)
      rw [List.length_erase_of_mem hm] at h1
      omega
    · have := ih l hn (fun x hx => by
        have h2 := h x hx
        have : x ≠ n := fun e => hm (by rw [← e]; exact hx)
        omega)
      omega
theorem MapI.few {w : World} {m : Nat} {L : ML} (h : MapI w m L) {n : Nat} (hk : ∀ k ∈ keysL L, k < (n : Int)) : L.length ≤ n := by
  have hn := h.nodup
  have := pigeon n ((keysL L).map Int.toNat) (by
    refine List.pairwise_map.2 (hn.imp_of_mem fun {a b} ha hb hne e => hne ?_)
    have := h.range a ha
    have := h.range b hb
    omega) (fun x hx => by
    obtain ⟨k, hk', rfl⟩ := List.mem_map.1 hx
    have := h.range k hk'
    have := hk k hk'
    omega)
  simpa [keysL] using this

/-- A label's blocks, mounted. -/
structure VolP (w : World) (Sd : Nat → Prop) (v d reg : Nat) (s : Sh) (epoch seq : Nat) (used : Int) (gb cap m : Nat) (bs : List Blk) (D : ML) (L : Dv) (c : Nat) : Prop where
  sok : s.Ok
  slen : s.blocks = bs.length
  o : VolO w v d reg s epoch seq used (.slice (some ⟨gb, 0, none⟩) bs.length cap) m
  e32 : epoch < 4294967296
  q32 : seq < 4294967296
  ub : 0 ≤ used ∧ used ≤ s.log
  dev : DevAt w Sd d L c
  has : L.has reg s.size
  nv : ¬ Sd v
  nm : ¬ Sd m
  nb : ¬ Sd gb
  row : KRow w 0 (.slice (some ⟨gb, 0, none⟩) bs.length cap) bs
  map : MapI w m D
  keys : ∀ k ∈ keysL D, k < (bs.length : Int)
  kinds : ∀ b ∈ bs, 0 ≤ b.kind ∧ b.kind ≤ 7
section
variable {w w' : World} {Sd : Nat → Prop} {v d reg : Nat} {s : Sh} {epoch seq : Nat} {used : Int} {gb cap m : Nat} {bs : List Blk} {D : ML} {L L' : Dv} {c c' : Nat}
theorem VolP.keeps (h : VolP w Sd v d reg s epoch seq used gb cap m bs D L c) {T : Nat → Prop} (hk : Keeps T w w') (h1 : ∀ g, Sd g → ¬ T g) (h2 : ¬ T v) (h3 : ¬ T m) (h4 : ¬ T gb) : VolP w' Sd v d reg s epoch seq used gb cap m bs D L c :=
  { h with o := hk.obj h.o h2, dev := h.dev.keeps hk h1, row := h.row.keeps hk (fun g hg => by obtain rfl := Option.some.inj hg; exact h4), map := h.map.keeps hk h3 }
theorem VolP.lt_v (h : VolP w Sd v d reg s epoch seq used gb cap m bs D L c) : v < w.heap.size := block_lt h.o
theorem VolP.lt_m (h : VolP w Sd v d reg s epoch seq used gb cap m bs D L c) : m < w.heap.size := h.map.lt
theorem VolP.lt_b (h : VolP w Sd v d reg s epoch seq used gb cap m bs D L c) : gb < w.heap.size := by obtain ⟨cur, hg, _⟩ := h.row.obj; exact block_lt hg
theorem VolP.below (h : VolP w Sd v d reg s epoch seq used gb cap m bs D L c) (hb : Below w.heap.size w w') : VolP w' Sd v d reg s epoch seq used gb cap m bs D L c :=
  h.keeps (Keeps.of_below_size hb) (fun g hg e => by have := h.dev.lt g hg; omega) (fun e => by have := h.lt_v; omega) (fun e => by have := h.lt_m; omega) (fun e => by have := h.lt_b; omega)
/-- The device was turned. -/
theorem VolP.step (h : VolP w Sd v d reg s epoch seq used gb cap m bs D L c) (hs : DevStep Sd w w' d L' c') (hl : L'.has reg s.size) : VolP w' (grownS Sd w w') v d reg s epoch seq used gb cap m bs D L' c' :=
  { h with o := hs.obj h.o h.nv, dev := hs.dev, has := hl, nv := hs.not h.lt_v h.nv, nm := hs.not h.lt_m h.nm, nb := hs.not h.lt_b h.nb, row := h.row.keeps hs.keeps (fun g hg => by obtain rfl := Option.some.inj hg; exact h.nb), map := h.map.keeps hs.keeps h.nm }
theorem VolP.refoot (h : VolP w Sd v d reg s epoch seq used gb cap m bs D L c) {S' : Nat → Prop} (hS : ∀ k, Sd k → S' k) (hlt : ∀ k, S' k → k < w.heap.size) (h1 : ¬ S' v) (h2 : ¬ S' m) (h3 : ¬ S' gb) (hc : c ≤ c') : VolP w S' v d reg s epoch seq used gb cap m bs D L c' :=
  { h with dev := h.dev.mono hS hlt hc, nv := h1, nm := h2, nb := h3 }
/-- One of its fields was turned. -/
theorem VolP.set (h : VolP w Sd v d reg s epoch seq used gb cap m bs D L c) (i : Nat) (x : Value) {epoch' seq' : Nat} {used' : Int} (he : epoch' < 4294967296) (hq : seq' < 4294967296) (hu : 0 ≤ used' ∧ used' ≤ s.log)
    (hx : (volCells d reg s epoch seq used (.slice (some ⟨gb, 0, none⟩) bs.length cap) m).setIfInBounds i x = volCells d reg s epoch' seq' used' (.slice (some ⟨gb, 0, none⟩) bs.length cap) m) :
    VolP (w.setCell ⟨v, i, none⟩ x) Sd v d reg s epoch' seq' used' gb cap m bs D L c := by
  have hK : Keeps (fun g => g = v) w (w.setCell ⟨v, i, none⟩ x) := Keeps.setCell _ _ _ rfl
  have hvb : gb ≠ v := by
    obtain ⟨cur, hg, _⟩ := h.row.obj
    exact ne_of_obj hg h.o (by decide)
  have hvm : m ≠ v := by
    obtain ⟨es, clock, hg, _⟩ := h.map.ex
    intro e
    subst e
    rw [h.o] at hg
    cases hg
  exact { h with o := by show objAt _ v = _; rw [objAt_setCell h.o, hx], e32 := he, q32 := hq, ub := hu, dev := h.dev.keeps hK (fun g hg e => h.nv (e ▸ hg)), row := h.row.keeps hK (fun g hg e => by obtain rfl := Option.some.inj hg; exact hvb e), map := h.map.keeps hK (fun e => hvm e) }
/-- Its map of what has changed was turned. -/
theorem VolP.setMap (h : VolP w Sd v d reg s epoch seq used gb cap m bs D L c) {D' : ML} (hm : MapI w' m D') (hk : Keeps (fun g => g = m) w w') (hd : ∀ k ∈ keysL D', k < (bs.length : Int)) : VolP w' Sd v d reg s epoch seq used gb cap m bs D' L c := by
  obtain ⟨es, clock, hg, _⟩ := h.map.ex
  have hvm : v ≠ m := fun e => by subst e; rw [h.o] at hg; cases hg
  have hbm : gb ≠ m := fun e => by
    subst e
    obtain ⟨cur, hg2, _⟩ := h.row.obj
    rw [show objAt w gb = w.heap[gb]? from rfl, hg2] at hg; cases hg
  exact { h with o := hk.obj h.o hvm, dev := h.dev.keeps hk (fun g hg e => h.nm (e ▸ hg)), row := h.row.keeps hk (fun g hg e => by obtain rfl := Option.some.inj hg; exact hbm e), map := hm, keys := hd }
end
end Go.Proofs.YtbbnejehglonjaaGreat
