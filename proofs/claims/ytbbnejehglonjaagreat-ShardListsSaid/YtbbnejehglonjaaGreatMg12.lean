/- DERIVED. Contracts and laws that the proofs of this seat share, part 12 of 40: DvD. -/
import Derived.Test.YtbbnejehglonjaaGreatMg00
import Derived.Test.YtbbnejehglonjaaGreatMg11
/- DERIVED. A device as it lies: contract of dev.Write. -/
namespace Go.Proofs.YtbbnejehglonjaaGreat
open Go.RowKit
attribute [local go_sem] hasBlk
attribute [local irreducible] Calls
set_option maxRecDepth 100000

/-- Bytes that lie somewhere. -/
structure BAt (w : World) (ad : Addr) (l : List UInt8) : Prop where
  bytes : BytesAt w (some ad) l
  obj : ∃ q, objAt w ad.block = some (.cells q 5 (0, 0))
theorem BAt.keepsNe {w w' : World} {ad : Addr} {l : List UInt8} (h : BAt w ad l) {T : Nat → Prop} (hk : Keeps T w w') (hT : ¬ T ad.block) : BAt w' ad l := by
  obtain ⟨q, hq⟩ := h.obj
  have := hk.obj hq hT
  exact ⟨h.bytes.congr (by rw [this, hq]), q, this⟩
theorem BAt.below {w w' : World} {ad : Addr} {l : List UInt8} (h : BAt w ad l) (hb : Below w.heap.size w w') : BAt w' ad l := h.keepsNe (Keeps.of_below_size hb) (fun e => by obtain ⟨q, hq⟩ := h.obj; have := block_lt hq; omega)
theorem BAt.of {w : World} {B g n cap : Nat} {l : List UInt8} (h : BRow w B (.slice (some ⟨g, 0, none⟩) n cap) l) : BAt w ⟨g, 0, none⟩ l := ⟨(BRow.bytesAt h).1, BRow.obj h⟩
/-- What a trace's entry is made of. -/
theorem trace_lists (w0 : World) (ad : Addr) (cap : Nat) (l : List UInt8) (hl : l.length = 64) (hb : BAt w0 ad l) (x0 x1 : Int) (c0 c1 : UInt8) (h0 : x0 = c0.toNat) (h1 : x1 = c1.toNat) :
    ListsAt (World.drew (World.alloc (World.alloc w0 (.cells #[.int .u8 x0, .int .u8 x1] 5)) (.cells #[.slice (some ⟨w0.heap.size, 0, none⟩) 2 2, .slice (some ad) 64 cap] 22))) (w0.heap.size + 1) [[c0, c1], l] := by
  subst h0 h1
  have hsz := size_alloc w0
  have ho1 := objAt_drew (World.alloc (World.alloc w0 (.cells #[.int .u8 (c0.toNat : Int), .int .u8 (c1.toNat : Int)] 5)) (.cells #[.slice (some ⟨w0.heap.size, 0, none⟩) 2 2, .slice (some ad) 64 cap] 22)) w0.heap.size
  rw [objAt_alloc, hsz, if_neg (by omega), objAt_alloc, if_pos rfl] at ho1
  have ho2 := objAt_drew (World.alloc (World.alloc w0 (.cells #[.int .u8 (c0.toNat : Int), .int .u8 (c1.toNat : Int)] 5)) (.cells #[.slice (some ⟨w0.heap.size, 0, none⟩) 2 2, .slice (some ad) 64 cap] 22)) (w0.heap.size + 1)
  rw [objAt_alloc, hsz, if_pos rfl] at ho2
  have hb1 : BRow (World.drew (World.alloc (World.alloc w0 (.cells #[.int .u8 (c0.toNat : Int), .int .u8 (c1.toNat : Int)] 5)) (.cells #[.slice (some ⟨w0.heap.size, 0, none⟩) 2 2, .slice (some ad) 64 cap] 22))) 0 (.slice (some ⟨w0.heap.size, 0, none⟩) 2 2) [c0, c1] :=
    ⟨rfl, .inr ⟨w0.heap.size, 2, _, rfl, Nat.zero_le _, ho1, Nat.le_refl _, by decide, rfl, rfl⟩⟩
  exact lists2 ho2 rfl hl.symm (BRow.bytesAt hb1).1 (hb.bytes.below (grow_alloc (grow_alloc (Below.refl _ _) _) _).drew)
theorem BRow.byteAt {w : World} {S : Nat → Prop} {B g cap : Nat} {l : List UInt8} {n : Nat} (hb : BRow w B (.slice (some ⟨g, 0, none⟩) n cap) l) (hn : n = l.length) (hS : S g) : ByteAt w S (.slice (some ⟨g, 0, none⟩) n cap) l := by
  obtain ⟨q, hq⟩ := BRow.obj hb
  subst hn
  exact ⟨⟨g, 0, none⟩, q, cap, rfl, (BRow.bytesAt hb).1, hS, hq⟩
theorem Reg.Ok.write {R : Reg} (h : R.Ok) {i : Nat} {l : List UInt8} (hi : i < R.seen.length) (hl : l.length = 64) : (R.write i l).Ok := by
  refine ⟨by simp [Reg.write, h.pos], by simp [Reg.write, h.le], by simp [Reg.write, h.sure], fun x hx => ?_, h.l2, fun p hp => ?_, fun x hx => ?_⟩
  · rcases List.mem_or_eq_of_mem_set hx with hx | rfl
    · exact h.l1 x hx
    · exact hl
  · simp only [Reg.write, List.mem_append, List.mem_singleton] at hp
    simp only [Reg.write, List.length_set]
    rcases hp with hp | rfl
    · exact h.l3 p hp
    · exact ⟨hl, hi⟩
  · simp only [Reg.write, List.mem_append, List.mem_singleton] at hx
    rcases hx with hx | rfl
    · exact h.l4 x hx
    · left; simp [hl]
theorem Dv.write_off {D : Dv} {k i : Nat} {l : List UInt8} (h : D.left = 0) : D.write k i l = D := by unfold Dv.write; rw [if_pos h]
theorem Dv.write_on {D : Dv} {k i : Nat} {l : List UInt8} {R : Reg} (h : D.left ≠ 0) (hR : D.regs[k]? = some R) : D.write k i l = ⟨D.regs.set k (R.write i l), if 0 < D.left then D.left - 1 else D.left⟩ := by unfold Dv.write; rw [if_neg h, hR]
set_option maxHeartbeats 4000000 in
theorem Write_at {w : World} {Sd : Nat → Prop} {d : Nat} {D : Dv} {c : Nat} (h : DevAt w Sd d D c) (hc : c < 900000) {reg n : Nat} (hL : ∃ R, D.regs[reg]? = some R ∧ R.seen.length = n) (i : Nat) (hi : i < n) {ad : Addr} {cap : Nat} {l : List UInt8} (hl : l.length = 64) (hb : BAt w ad l) :
    Calls Tryz.prog 122 #[.pointer (some ⟨d, 0, none⟩), .int .i64 reg, .int .i64 i, .slice (some ad) 64 cap] w fun e w' => e = .returned (.bool true) ∧ Keeps Sd w w' ∧ DevAt w' (grownS Sd w w') d (D.write reg i l) (c + 1) := by
  have h0 := h
  obtain ⟨hok, hlt, S, rl, rcap, rs, hD, hSd⟩ := h
  obtain ⟨R, hR, rfl⟩ := hL
  have hk := (List.getElem?_eq_some_iff.1 hR).1
  obtain ⟨r, hr⟩ : ∃ r, rs[reg]? = some r := ⟨_, List.getElem?_eq_getElem (by rw [hD.ln]; exact hk)⟩
  have hRm : R ∈ D.regs := List.mem_of_getElem? hR
  have hRok := hok.regs R hRm
  have Hof := Lib.hid (of_in hD hr hR hRok i hi)
  have c0 := cell_obj hD.od 1
  have f0 := free_obj hD.od 1
  by_cases hz : D.left = 0
  · rw [Dv.write_off hz]
    have c01 : w.cell? ⟨d, 1, none⟩ = some (.int .i64 0) := by rw [c0]; simp [hz]
    have HL := Lib.hid h0
    clear hD hok hlt hSd h0 hR hr hRm hRok hb hz c0
    go_enter Tryz.func122, Tryz.ntmps122
    go_wp2_with (go_at_call 163; refine Hof.out.mono ?_; rintro e w1 ⟨rfl, rfl⟩)
    go_ret
    exact ⟨rfl, HL.out.stay (Below.refl _ _) (Nat.le_succ _)⟩
  · rw [Dv.write_on hz hR]
    have z0 : (D.left == 0) = false := by simpa using hz
    obtain ⟨dl, hdl⟩ : ∃ dl, dl = D.left := ⟨_, rfl⟩
    obtain ⟨dn, hdn⟩ : ∃ dn, dn = if 0 < D.left then D.left - 1 else D.left := ⟨_, rfl⟩
    obtain ⟨w1, hw1⟩ : ∃ w1, w1 = if 0 < D.left then w.setCell ⟨d, 1, none⟩ (.int .i64 (D.left - 1)) else w := ⟨_, rfl⟩
    have hleft := hok.left
    have hD1 : DevV w1 S d rl rcap rs ⟨D.regs, dn⟩ := by
      rw [hw1, hdn]
      by_cases hp : 0 < D.left
      · rw [if_pos hp, if_pos hp]; exact hD.setLeft _
      · rw [if_neg hp, if_neg hp]; exact hD
    have hK1 : Keeps (fun q => q = d) w w1 := by
      rw [hw1]
      by_cases hp : 0 < D.left
      · rw [if_pos hp]; exact Keeps.setCell _ _ _ rfl
      · rw [if_neg hp]; exact Keeps.refl _ _
    have hs1 : w1.heap.size = w.heap.size := by
      rw [hw1]
      by_cases hp : 0 < D.left
      · rw [if_pos hp]; exact size_setCell _ _ _
      · rw [if_neg hp]
    obtain ⟨q, hq⟩ := hb.obj
    have hb1 : BAt w1 ad l := hb.keepsNe hK1 (fun e => ne_of_obj hq hD.od (by decide) e)
    have hok1 : Dv.Ok ⟨D.regs, dn⟩ c := ⟨hok.pos, hok.le, hok.regs, hok.later, hok.trace, by rw [hdn]; dsimp only; constructor <;> split <;> omega⟩
    obtain ⟨vs, vu, vl, vt, hV⟩ := hD1.reg reg r R hr hR
    obtain ⟨gs, cs, rfl⟩ := hV.seen.form hRok.pos
    have c2 := cell_obj hV.obj 0
    rw [← hdn]
    rw [← hdl] at z0 c0 hw1 hleft
    have hgt : 0 < dl ∨ dl < 0 := by rcases Int.lt_trichotomy dl 0 with h | h | h; exact .inr h; exact absurd (hdl.symm.trans h) hz; exact .inl h
    have Hcl := Lib.hid (Clone_len ad l 64 cap w1.drew hl.symm (show BytesAt w1.drew (some ad) l from hb1.bytes) (by decide) (by decide))
    have HV := Lib.hid hV
    have HD := Lib.hid (And.intro hD1 (And.intro hR (And.intro hr (And.intro hK1 (And.intro hs1 (And.intro hSd hlt))))))
    have HL := Lib.hid (And.intro hok1 (And.intro hRok (And.intro (hok.later R hRm) (And.intro (hok.trace R hRm) (And.intro hl (And.intro hb1 (hSd 0 d hD.s0)))))))
    have Hw1 := Lib.hid (And.intro hw1 hgt)
    have i1 : (i : Int) < (R.seen.length : Int) := by omega
    clear hD hok hlt hSd h0 hR hr hRm hRok hb hz hV hD1 hK1 hs1 hok1 hb1 hw1 hdl hdn hq hl
    go_enter Tryz.func122, Tryz.ntmps122
    go_upto_if 30 with (go_at_call 163; refine Hof.out.mono ?_; rintro e w2 ⟨rfl, hw2⟩; obtain rfl := hw2.symm)
    go_cut [] (fun wx => wx = w1)
    case first =>
      rcases Hw1.out.2 with hp | hp
      · have hn : ¬ (dl ≤ 0) := by omega
        go_wp2_with fail
        go_meet
        rw [Hw1.out.1, if_pos hp]
      · have hn : ¬ (0 < dl) := by omega
        go_wp2_with fail
        go_meet
        rw [Hw1.out.1, if_neg (by omega)]
    case rest =>
      obtain rfl := hcut
      clear c0 f0 z0 hleft hgt
      go_upto_region 8 with fail
      refine wp_region_F [8] (S := fun w' => w'.cell? ⟨r, 0, none⟩ = some (.slice (some ⟨gs, 0, none⟩) R.seen.length cs) ∧ True) (by kernel_rfl) (And.intro c2 trivial) (fun hHeld => ?_)
      show wpAnyF _ _ _ _ _ _ 9 #[false, false, false, false, false, false, false, false, false] _ _
      refine wpAnyF_take [0, 1, 2, 3, 7, 8] (i := 0) (v := ?kv1) rfl (by kernel_rfl) (by kernel_rfl) (by kernel_rfl) (by kernel_rfl) (fun _ _ _ h => h) (Or.inl ⟨by rfl, ?ky1⟩) (by assumption) ?kr1
      case ky1 => (intro w hSw; (try dsimp only at hSw); go_split_ands; (try simp only [qA, qB]); go_simp; (try with_reducible rfl))
      try simp only [Act.put, qA, qB, qD, qE, qF]
      refine wpAnyF_take [1, 2, 3, 7, 8] (i := 1) (v := ?kv2) rfl (by kernel_rfl) (by kernel_rfl) (by kernel_rfl) (by kernel_rfl) (fun _ _ _ h => h) (Or.inl ⟨by rfl, ?ky2⟩) (by assumption) ?kr2
      case ky2 => (intro w hSw; (try dsimp only at hSw); go_split_ands; (try simp only [qA, qB, qC]); go_simp; (try with_reducible rfl))
      try simp only [Act.put, qA, qB, qC, qD, qE, qF]
      refine wpAnyF_take [2, 3, 7, 8] (i := 2) (v := ?kv3) rfl (by kernel_rfl) (by kernel_rfl) (by kernel_rfl) (by kernel_rfl) (fun _ _ _ h => h) (Or.inl ⟨by rfl, ?ky3⟩) (by assumption) ?kr3
      case ky3 => (intro w hSw; (try dsimp only at hSw); go_split_ands; (try simp only [qA, qB, qC]); go_simp; (try with_reducible rfl))
      try simp only [Act.put, qA, qB, qC, qD, qE, qF]
      refine wpAnyF_take [3, 7, 8] (i := 3) (v := ?kv4) rfl (by kernel_rfl) (by kernel_rfl) (by kernel_rfl) (by kernel_rfl) (fun _ _ _ h => h) (Or.inl ⟨by rfl, ?ky4⟩) (by assumption) ?kr4
      case ky4 => (intro w hSw; (try dsimp only at hSw); go_split_ands; (try simp only [qA, qB, qC]); go_simp; (try with_reducible rfl))
      try simp only [Act.put, qA, qB, qC, qD, qE, qF]
      refine wpAnyF_take [4, 7, 8] (i := 4) (v := ?kv5) rfl (by kernel_rfl) (by kernel_rfl) (by kernel_rfl) (by kernel_rfl) (fun _ _ _ h => h) (Or.inl ⟨by rfl, ?ky5⟩) (by assumption) ?kr5
      case ky5 => (intro w hSw; (try dsimp only at hSw); go_split_ands; (try simp only [qA, qB, qC]); go_simp; (try with_reducible rfl))
      try simp only [Act.put, qA, qB, qC, qD, qE, qF]
      refine wpAnyF_take [5, 6, 7, 8] (i := 5) (v := ?kv6) rfl (by kernel_rfl) (by kernel_rfl) (by kernel_rfl) (by kernel_rfl) (fun _ _ _ h => h) (Or.inl ⟨by rfl, ?ky6⟩) (by assumption) ?kr6
      case ky6 => (intro w hSw; (try dsimp only at hSw); go_split_ands; (try simp only [qA, qB, qC]); go_simp; (try with_reducible rfl))
      try simp only [Act.put, qA, qB, qC, qD, qE, qF]
      refine wpAnyF_ready (rs := [6]) (by kernel_rfl) (by simp) ?_
      refine (AllReadyF.cons rfl (fun K hK => ?_) AllReadyF.nil)
      try simp only [qA, qB, qC]
      go_simp
      go_at_call 164; refine Hcl.out.mono ?_; rintro e x1 ⟨g1, cap1, rfl, hB1, b0⟩; have b1 : Below wc.heap.size wc x1 := (Below.refl _ wc).drew.trans b0; have HV1 := Lib.hid ((HV.out.below b1).foot (S2 := fun q => S (reg + 1) q ∨ wc.heap.size ≤ q) (fun q hq _ => .inl hq)); have c2b := cell_obj HV1.out.obj 0; obtain ⟨cc, hcc1, ⟨xx, rfl, _⟩, hcc3⟩ := HV1.out.seen.cells (List.getElem?_eq_getElem hi); have ks := hcc3 0 _ rfl; rw [Nat.mul_one, Nat.add_zero] at ks; have fs := HV1.out.seen.free i; clear hcc3 hcc1
      refine hK.out _ _ (by exact ⟨c2b, trivial⟩) (fun hHeldn => ?_)
      clear hHeld hK K
      have hHeld := hHeldn
      clear hHeldn
      try simp only [qD, qE, qF]
      refine wpAnyF_take [7, 8] (i := 7) (v := ?kv8) rfl (by kernel_rfl) (by kernel_rfl) (by kernel_rfl) (by kernel_rfl) (fun _ _ _ h => h) (Or.inl ⟨by rfl, ?ky8⟩) (by assumption) ?kr8
      case ky8 => (intro w hSw; (try dsimp only at hSw); go_split_ands; (try simp only [qA, qB, qC]); go_simp; (try with_reducible rfl))
      try simp only [Act.put, qA, qB, qC, qD, qE, qF]
      refine wpAnyF_ready (rs := [8]) (by kernel_rfl) (by simp) ?_
      refine (AllReadyF.last rfl (by kernel_rfl) (fun K hK => ?_) AllReadyF.nil)
      try simp only [qA, qB, qC]
      go_simp
      refine hK.out _ _ (trivial) (fun hHeldn => ?_)
      clear hHeld hK K
      have hHeld := hHeldn
      clear hHeldn
      try simp only [qD, qE, qF]
      refine wpAnyF_done (by kernel_rfl) ?_ _
      have hby1 := BRow.byteAt (S := fun q => S (reg + 1) q ∨ wc.heap.size ≤ q) hB1 HL.out.2.2.2.2.1.symm (.inr (BRow.ge hB1))
      have hV2 := HV1.out.turnSeen hi hby1
      obtain ⟨w2, hw2⟩ : ∃ w2, w2 = x1.setCell ⟨gs, i, none⟩ (.slice (some ⟨g1, 0, none⟩) 64 cap1) := ⟨_, rfl⟩
      obtain ⟨cg, hcg⟩ := HV1.out.seen.obj (g := gs) rfl
      have hkg : Keeps (· = gs) x1 w2 := by rw [hw2]; exact Keeps.setCell _ _ _ rfl
      obtain ⟨q1, hq1⟩ := BRow.obj hB1
      have hcs : w2.cell? ⟨gs, i, none⟩ = some (.slice (some ⟨g1, 0, none⟩) 64 cap1) := by
        rw [hw2, cell_obj (objAt_setCell hcg i _)]
        have hks := ks
        rw [cell_obj hcg] at hks
        rw [Array.getElem?_setIfInBounds_self_of_lt (Array.getElem?_eq_some_iff.1 hks).1]
      have hby2 := hby1.keeps (S' := fun q => S (reg + 1) q ∨ wc.heap.size ≤ q) hkg (fun q c _ hq e => ne_of_obj hq hcg (by decide) e) (fun _ h _ => h)
      obtain ⟨q0, hq0⟩ := (HL.out.2.2.2.2.2.1.below b1).obj
      have hbr2 : BAt w2 ad l := (HL.out.2.2.2.2.2.1.below b1).keepsNe hkg (fun e => ne_of_obj hq0 hcg (by decide) e)
      have hK2 : Keeps (fun q => S (reg + 1) q ∨ wc.heap.size ≤ q) wc w2 := ((Keeps.of_below_size b1).mono (fun _ _ h => .inr h)).trans (hkg.mono (fun q _ e => by subst e; exact HV1.out.seen.own _ rfl))
      rw [← hw2] at hV2 ⊢
      clear hw2 hHeld c2 c2b ks fs hB1 b0 b1 hcg hkg hq1 hq0 hby1
      have k0 := cell_obj hV2.obj 0
      have k2 := cell_obj hV2.obj 2
      have hB3 : Below w2.heap.size w2 (World.drew (w2.alloc (.cells #[.int .i64 i, .slice (some ⟨g1, 0, none⟩) 64 cap1] 269))) := (grow_alloc (Below.refl _ _) _).drew
      have hV3 := hV2.below hB3
      have ho3 : objAt (World.drew (w2.alloc (.cells #[.int .i64 i, .slice (some ⟨g1, 0, none⟩) 64 cap1] 269))) w2.heap.size = some (.cells #[.int .i64 i, .slice (some ⟨g1, 0, none⟩) 64 cap1] 269 (0, 0)) := by rw [objAt_drew, objAt_alloc, if_pos rfl]
      have hby3 := hby2.keeps (S' := fun q => S (reg + 1) q ∨ wc.heap.size ≤ q) (Keeps.of_below_size hB3) (fun q c _ hq e => by have := block_lt hq; omega) (fun _ h _ => h)
      have HV3 := Lib.hid (And.intro hV3 (And.intro ho3 (And.intro hby3 (And.intro hK2 (And.intro (hbr2.below hB3) hB3)))))
      clear hV2 hV3 ho3 hby3 hby2 hK2 hbr2
      go_upto_region 9 with fail
      refine wp_region_F [18] (S := fun w' => w'.cell? ⟨r, 0, none⟩ = some (.slice (some ⟨gs, 0, none⟩) R.seen.length cs) ∧ w'.cell? ⟨r, 2, none⟩ = some vl ∧ w'.cell? ⟨gs, i, none⟩ = some (.slice (some ⟨g1, 0, none⟩) 64 cap1) ∧ True) (by kernel_rfl) (And.intro k0 (And.intro k2 (And.intro hcs trivial))) (fun hHeld => ?_)
      show wpAnyF _ _ _ _ _ _ 19 #[false, false, false, false, false, false, false, false, false, false, false, false, false, false, false, false, false, false, false] _ _
      refine wpAnyF_take [0, 16, 17, 18] (i := 0) (v := ?kv10) rfl (by kernel_rfl) (by kernel_rfl) (by kernel_rfl) (by kernel_rfl) (fun _ _ _ h => h) (Or.inl ⟨by rfl, ?ky10⟩) (by assumption) ?kr10
      case ky10 => (intro w hSw; (try dsimp only at hSw); go_split_ands; (try simp only [qA, qB]); go_simp; (try with_reducible rfl))
      try simp only [Act.put, qA, qB, qD, qE, qF]
      refine wpAnyF_take [1, 2, 3, 4, 15, 16, 17, 18] (i := 1) (v := ?kv11) rfl (by kernel_rfl) (by kernel_rfl) (by kernel_rfl) (by kernel_rfl) (fun _ _ _ h => h) (Or.inl ⟨by rfl, ?ky11⟩) (by assumption) ?kr11
      case ky11 => (intro w hSw; (try dsimp only at hSw); go_split_ands; (try simp only [qA, qB, qC]); go_simp; (try with_reducible rfl))
      try simp only [Act.put, qA, qB, qC, qD, qE, qF]
      refine wpAnyF_take [2, 3, 4, 15, 16, 17, 18] (i := 2) (v := ?kv12) rfl (by kernel_rfl) (by kernel_rfl) (by kernel_rfl) (by kernel_rfl) (fun _ _ _ h => h) (Or.inl ⟨by rfl, ?ky12⟩) (by assumption) ?kr12
      case ky12 => (intro w hSw; (try dsimp only at hSw); go_split_ands; (try simp only [qA, qB, qC]); go_simp; (try with_reducible rfl))
      try simp only [Act.put, qA, qB, qC, qD, qE, qF]
      refine wpAnyF_take [3, 4, 15, 16, 17, 18] (i := 3) (v := ?kv13) rfl (by kernel_rfl) (by kernel_rfl) (by kernel_rfl) (by kernel_rfl) (fun _ _ _ h => h) (Or.inl ⟨by rfl, ?ky13⟩) (by assumption) ?kr13
      case ky13 => (intro w hSw; (try dsimp only at hSw); go_split_ands; (try simp only [qA, qB, qC]); go_simp; (try with_reducible rfl))
      try simp only [Act.put, qA, qB, qC, qD, qE, qF]
      refine wpAnyF_take [4, 15, 16, 17, 18] (i := 4) (v := ?kv14) rfl (by kernel_rfl) (by kernel_rfl) (by kernel_rfl) (by kernel_rfl) (fun _ _ _ h => h) (Or.inl ⟨by rfl, ?ky14⟩) (by assumption) ?kr14
      case ky14 => (intro w hSw; (try dsimp only at hSw); go_split_ands; (try simp only [qA, qB, qC]); go_simp; (try with_reducible rfl))
      try simp only [Act.put, qA, qB, qC, qD, qE, qF]
      refine wpAnyF_take [5, 13, 14, 15, 16, 17, 18] (i := 5) (v := ?kv15) rfl (by kernel_rfl) (by kernel_rfl) (by kernel_rfl) (by kernel_rfl) (fun _ _ _ h => h) (Or.inl ⟨by rfl, ?ky15⟩) (by assumption) ?kr15
      case ky15 => (intro w hSw; (try dsimp only at hSw); go_split_ands; (try simp only [qA, qB, qC]); go_simp; (try with_reducible rfl))
      try simp only [Act.put, qA, qB, qC, qD, qE, qF]
      refine wpAnyF_take [6, 7, 8, 9, 11, 12, 13, 14, 15, 16, 17, 18] (i := 6) (v := ?kv16) rfl (by kernel_rfl) (by kernel_rfl) (by kernel_rfl) (by kernel_rfl) (fun _ _ _ h => h) (Or.inl ⟨by rfl, ?ky16⟩) (by assumption) ?kr16
      case ky16 => (intro w hSw; (try dsimp only at hSw); go_split_ands; (try simp only [qA, qB, qC]); go_simp; (try with_reducible rfl))
      try simp only [Act.put, qA, qB, qC, qD, qE, qF]
      refine wpAnyF_take [7, 8, 9, 11, 12, 13, 14, 15, 16, 17, 18] (i := 7) (v := ?kv17) rfl (by kernel_rfl) (by kernel_rfl) (by kernel_rfl) (by kernel_rfl) (fun _ _ _ h => h) (Or.inl ⟨by rfl, ?ky17⟩) (by assumption) ?kr17
      case ky17 => (intro w hSw; (try dsimp only at hSw); go_split_ands; (try simp only [qA, qB, qC]); go_simp; (try with_reducible rfl))
      try simp only [Act.put, qA, qB, qC, qD, qE, qF]
      refine wpAnyF_take [8, 9, 11, 12, 13, 14, 15, 16, 17, 18] (i := 8) (v := ?kv18) rfl (by kernel_rfl) (by kernel_rfl) (by kernel_rfl) (by kernel_rfl) (fun _ _ _ h => h) (Or.inl ⟨by rfl, ?ky18⟩) (by assumption) ?kr18
      case ky18 => (intro w hSw; (try dsimp only at hSw); go_split_ands; (try simp only [qA, qB, qC]); go_simp; (try with_reducible rfl))
      try simp only [Act.put, qA, qB, qC, qD, qE, qF]
      refine wpAnyF_take [9, 11, 12, 13, 14, 15, 16, 17, 18] (i := 9) (v := ?kv19) rfl (by kernel_rfl) (by kernel_rfl) (by kernel_rfl) (by kernel_rfl) (fun _ _ _ h => h) (Or.inl ⟨by rfl, ?ky19⟩) (by assumption) ?kr19
      case ky19 => (intro w hSw; (try dsimp only at hSw); go_split_ands; (try simp only [qA, qB, qC]); go_simp; (try with_reducible rfl))
      try simp only [Act.put, qA, qB, qC, qD, qE, qF]
      refine wpAnyF_take [10, 11, 12, 13, 14, 15, 16, 17, 18] (i := 10) (v := ?kv20) rfl (by kernel_rfl) (by kernel_rfl) (by kernel_rfl) (by kernel_rfl) (fun _ _ _ h => h) (Or.inl ⟨by rfl, ?ky20⟩) (by assumption) ?kr20
      case ky20 => (intro w hSw; (try dsimp only at hSw); go_split_ands; (try simp only [qA, qB, qC]); go_simp; (try with_reducible rfl))
      try simp only [Act.put, qA, qB, qC, qD, qE, qF]
      refine wpAnyF_take [11, 12, 13, 14, 15, 16, 17, 18] (i := 11) (v := ?kv21) rfl (by kernel_rfl) (by kernel_rfl) (by kernel_rfl) (by kernel_rfl) (fun _ _ _ h => h) (Or.inl ⟨by rfl, ?ky21⟩) (by assumption) ?kr21
      case ky21 => (intro w hSw; (try dsimp only at hSw); go_split_ands; (try simp only [qA, qB, qC]); go_simp; (try with_reducible rfl))
      try simp only [Act.put, qA, qB, qC, qD, qE, qF]
      refine wpAnyF_take [12, 13, 14, 15, 16, 17, 18] (i := 12) (v := ?kv22) rfl (by kernel_rfl) (by kernel_rfl) (by kernel_rfl) (by kernel_rfl) (fun _ _ _ h => h) (Or.inl ⟨by rfl, ?ky22⟩) (by assumption) ?kr22
      case ky22 => (intro w hSw; (try dsimp only at hSw); go_split_ands; (try simp only [qA, qB, qC]); go_simp; (try with_reducible rfl))
      try simp only [Act.put, qA, qB, qC, qD, qE, qF]
      refine wpAnyF_take [13, 14, 15, 16, 17, 18] (i := 13) (v := ?kv23) rfl (by kernel_rfl) (by kernel_rfl) (by kernel_rfl) (by kernel_rfl) (fun _ _ _ h => h) (Or.inl ⟨by rfl, ?ky23⟩) (by assumption) ?kr23
      case ky23 => (intro w hSw; (try dsimp only at hSw); go_split_ands; (try simp only [qA, qB, qC]); go_simp; (try with_reducible rfl))
      try simp only [Act.put, qA, qB, qC, qD, qE, qF]
      refine wpAnyF_ready (rs := [14]) (by kernel_rfl) (by simp) ?_
      refine (AllReadyF.cons rfl (fun K hK => ?_) AllReadyF.nil)
      try simp only [qA, qB, qC]
      go_simp
      refine hK.out _ _ (by exact ⟨grow_cell (grow_alloc (Below.refl _ _) _) hHeld.1, grow_cell (grow_alloc (Below.refl _ _) _) hHeld.2.1, grow_cell (grow_alloc (Below.refl _ _) _) hHeld.2.2.1, trivial⟩) (fun hHeldn => ?_)
      clear hHeld hK K
      have hHeld := hHeldn
      clear hHeldn
      try simp only [qD, qE, qF]
      refine wpAnyF_ready (rs := [15]) (by kernel_rfl) (by simp) ?_
      refine (AllReadyF.cons rfl (fun K hK => ?_) AllReadyF.nil)
      refine step_appG elemWriteK (v := vl) rfl _ _ rfl rfl HV3.out.1.later rfl HV3.out.2.1 rfl (by simp [Value.oneCell']) (by have := HL.out.2.2.1; show R.later.length < _; omega) (WEl (fun q => S (reg + 1) q ∨ wc.heap.size ≤ q)) (i, l) (fun w5 hk5 => ⟨fun a c h => WEl.own HV3.out.1.later (by decide) hk5 a c h, WEl.own HV3.out.1.later (by decide) hk5 _ _ ⟨_, rfl, HV3.out.2.2.1⟩⟩) ?_; intro g5 cap5 w5 hv5 hk5 ho5 hl5; obtain ⟨hr5, hs5, hV6⟩ := HV3.out.1.pushLater hv5 (fun q hq => hq.elim id (fun h => .inr (Nat.le_trans HV3.out.2.2.2.1.size (Nat.le_trans HV3.out.2.2.2.2.2.size h)))) hk5; have k5 := cell_obj hr5 2; have f5 := free_obj hr5 2; have k5a := cell_obj hr5 0; have HV6 := Lib.hid (And.intro hV6 (And.intro hk5 hr5)); clear hV6
      refine hK.out _ _ (by exact ⟨k5a, k5, (by obtain ⟨q, hq⟩ := HV3.out.1.seen.obj (g := gs) rfl; have h1 := hk5.obj hq (fun e => HV3.out.1.seen.ne HV3.out.1.later (by decide) gs rfl e); have h2 := grow_cell HV3.out.2.2.2.2.2 hcs; rw [cell_obj hq] at h2; rw [cell_obj h1]; exact h2), trivial⟩) (fun hHeldn => ?_)
      clear hHeld hK K
      have hHeld := hHeldn
      clear hHeldn
      try simp only [Act.put, qA, qB, qC, qD, qE, qF]
      refine wpAnyF_take [16, 17, 18] (i := 16) (v := ?kv26) rfl (by kernel_rfl) (by kernel_rfl) (by kernel_rfl) (by kernel_rfl) (fun _ _ _ h => h) (Or.inl ⟨by rfl, ?ky26⟩) (by assumption) ?kr26
      case ky26 => (intro w hSw; (try dsimp only at hSw); go_split_ands; (try simp only [qA, qB, qC]); go_simp; (try with_reducible rfl))
      try simp only [Act.put, qA, qB, qC, qD, qE, qF]
      refine wpAnyF_take [17, 18] (i := 17) (v := ?kv27) rfl (by kernel_rfl) (by kernel_rfl) (by kernel_rfl) (by kernel_rfl) (fun _ _ _ h => h) (Or.inl ⟨by rfl, ?ky27⟩) (by assumption) ?kr27
      case ky27 => (intro w hSw; (try dsimp only at hSw); go_split_ands; (try simp only [qA, qB, qC]); go_simp; (try with_reducible rfl))
      try simp only [Act.put, qA, qB, qC, qD, qE, qF]
      refine wpAnyF_ready (rs := [18]) (by kernel_rfl) (by simp) ?_
      refine (AllReadyF.last rfl (by kernel_rfl) (fun K hK => ?_) AllReadyF.nil)
      try simp only [qA, qB, qC]
      go_simp
      refine hK.out _ _ (trivial) (fun hHeldn => ?_)
      clear hHeld hK K
      have hHeld := hHeldn
      clear hHeldn
      try simp only [qD, qE, qF]
      refine wpAnyF_done (by kernel_rfl) ?_ _
      obtain ⟨w6, hw6⟩ : ∃ w6, w6 = w5.setCell ⟨r, 2, none⟩ (.slice (some ⟨g5, 0, none⟩) (R.later.length + 1) cap5) := ⟨_, rfl⟩
      have hkr : Keeps (· = r) w5 w6 := by rw [hw6]; exact Keeps.setCell _ _ _ rfl
      obtain ⟨q0, hq0⟩ := HV3.out.2.2.2.2.1.obj
      have hbr5 : BAt w5 ad l := HV3.out.2.2.2.2.1.keepsNe HV6.out.2.1 (fun e => by obtain ⟨c, hc⟩ := HV3.out.1.later.obj e; exact ne_of_obj hc hq0 (by decide) rfl)
      obtain ⟨q5, hq5⟩ := hbr5.obj
      have hbr6 : BAt w6 ad l := hbr5.keepsNe hkr (fun e => ne_of_obj hq5 HV6.out.2.2 (by decide) e)
      have hK6 : Keeps (fun q => S (reg + 1) q ∨ wc.heap.size ≤ q) wc w6 := ((HV3.out.2.2.2.1.trans ((Keeps.of_below_size HV3.out.2.2.2.2.2).mono (fun q _ h => .inr (Nat.le_trans HV3.out.2.2.2.1.size h)))).trans (HV6.out.2.1.mono (fun q _ h => HV3.out.1.later.own q h))).trans (hkr.mono (fun q _ e => by subst e; exact HV3.out.1.sr))
      rw [← hw6] at HV6 ⊢
      have H6 := Lib.hid (And.intro HV6.out.1 (And.intro hbr6 hK6))
      clear hw6 k5 f5 k5a hr5 hs5 hv5 hk5 ho5 hl5 hcs k0 k2 hHeld HV3 HV6 hkr hq0 hbr5 hq5 hbr6 hK6 HV1 hB3
      have k3 := cell_obj H6.out.1.obj 3
      have HLs := Lib.hid (trace_lists w6 ad cap l HL.out.2.2.2.2.1 H6.out.2.1 (IntKind.u8.wrap ((i : Int) / 256)) (IntKind.u8.wrap (i : Int)) _ _ (wrap_byte (i / 256)) (wrap_byte i))
      have hfl : ([[UInt8.ofNat (i / 256), UInt8.ofNat i], l] : List (List UInt8)).flatten.length = 66 := by simp [HL.out.2.2.2.2.1]
      have Hfl := Lib.hid hfl
      clear hfl
      go_upto_region 10 with fail
      refine wp_region_F [18] (S := fun w' => w'.cell? ⟨r, 3, none⟩ = some vt ∧ True) (by kernel_rfl) (And.intro k3 trivial) (fun hHeld => ?_)
      show wpAnyF _ _ _ _ _ _ 19 #[false, false, false, false, false, false, false, false, false, false, false, false, false, false, false, false, false, false, false] _ _
      refine wpAnyF_take [0, 16, 17, 18] (i := 0) (v := ?kv29) rfl (by kernel_rfl) (by kernel_rfl) (by kernel_rfl) (by kernel_rfl) (fun _ _ _ h => h) (Or.inl ⟨by rfl, ?ky29⟩) (by assumption) ?kr29
      case ky29 => (intro w hSw; (try dsimp only at hSw); go_split_ands; (try simp only [qA, qB]); go_simp; (try with_reducible rfl))
      try simp only [Act.put, qA, qB, qD, qE, qF]
      refine wpAnyF_take [1, 2, 3, 4, 15, 16, 17, 18] (i := 1) (v := ?kv30) rfl (by kernel_rfl) (by kernel_rfl) (by kernel_rfl) (by kernel_rfl) (fun _ _ _ h => h) (Or.inl ⟨by rfl, ?ky30⟩) (by assumption) ?kr30
      case ky30 => (intro w hSw; (try dsimp only at hSw); go_split_ands; (try simp only [qA, qB, qC]); go_simp; (try with_reducible rfl))
      try simp only [Act.put, qA, qB, qC, qD, qE, qF]
      refine wpAnyF_take [2, 3, 4, 15, 16, 17, 18] (i := 2) (v := ?kv31) rfl (by kernel_rfl) (by kernel_rfl) (by kernel_rfl) (by kernel_rfl) (fun _ _ _ h => h) (Or.inl ⟨by rfl, ?ky31⟩) (by assumption) ?kr31
      case ky31 => (intro w hSw; (try dsimp only at hSw); go_split_ands; (try simp only [qA, qB, qC]); go_simp; (try with_reducible rfl))
      try simp only [Act.put, qA, qB, qC, qD, qE, qF]
      refine wpAnyF_take [3, 4, 15, 16, 17, 18] (i := 3) (v := ?kv32) rfl (by kernel_rfl) (by kernel_rfl) (by kernel_rfl) (by kernel_rfl) (fun _ _ _ h => h) (Or.inl ⟨by rfl, ?ky32⟩) (by assumption) ?kr32
      case ky32 => (intro w hSw; (try dsimp only at hSw); go_split_ands; (try simp only [qA, qB, qC]); go_simp; (try with_reducible rfl))
      try simp only [Act.put, qA, qB, qC, qD, qE, qF]
      refine wpAnyF_take [4, 15, 16, 17, 18] (i := 4) (v := ?kv33) rfl (by kernel_rfl) (by kernel_rfl) (by kernel_rfl) (by kernel_rfl) (fun _ _ _ h => h) (Or.inl ⟨by rfl, ?ky33⟩) (by assumption) ?kr33
      case ky33 => (intro w hSw; (try dsimp only at hSw); go_split_ands; (try simp only [qA, qB, qC]); go_simp; (try with_reducible rfl))
      try simp only [Act.put, qA, qB, qC, qD, qE, qF]
      refine wpAnyF_take [5, 6, 7, 10, 12, 13, 14, 15, 16, 17, 18] (i := 5) (v := ?kv34) rfl (by kernel_rfl) (by kernel_rfl) (by kernel_rfl) (by kernel_rfl) (fun _ _ _ h => h) (Or.inl ⟨by rfl, ?ky34⟩) (by assumption) ?kr34
      case ky34 => (intro w hSw; (try dsimp only at hSw); go_split_ands; (try simp only [qA, qB, qC]); go_simp; (try with_reducible rfl))
      try simp only [Act.put, qA, qB, qC, qD, qE, qF]
      refine wpAnyF_take [6, 7, 10, 12, 13, 14, 15, 16, 17, 18] (i := 6) (v := ?kv35) rfl (by kernel_rfl) (by kernel_rfl) (by kernel_rfl) (by kernel_rfl) (fun _ _ _ h => h) (Or.inl ⟨by rfl, ?ky35⟩) (by assumption) ?kr35
      case ky35 => (intro w hSw; (try dsimp only at hSw); go_split_ands; (try simp only [qA, qB, qC]); go_simp; (try with_reducible rfl))
      try simp only [Act.put, qA, qB, qC, qD, qE, qF]
      refine wpAnyF_take [7, 10, 12, 13, 14, 15, 16, 17, 18] (i := 7) (v := ?kv36) rfl (by kernel_rfl) (by kernel_rfl) (by kernel_rfl) (by kernel_rfl) (fun _ _ _ h => h) (Or.inl ⟨by rfl, ?ky36⟩) (by assumption) ?kr36
      case ky36 => (intro w hSw; (try dsimp only at hSw); go_split_ands; (try simp only [qA, qB, qC]); go_simp; (try with_reducible rfl))
      try simp only [Act.put, qA, qB, qC, qD, qE, qF]
      refine wpAnyF_take [8, 9, 10, 12, 13, 14, 15, 16, 17, 18] (i := 8) (v := ?kv37) rfl (by kernel_rfl) (by kernel_rfl) (by kernel_rfl) (by kernel_rfl) (fun _ _ _ h => h) (Or.inl ⟨by rfl, ?ky37⟩) (by assumption) ?kr37
      case ky37 => (intro w hSw; (try dsimp only at hSw); go_split_ands; (try simp only [qA, qB, qC]); go_simp; (try with_reducible rfl))
      try simp only [Act.put, qA, qB, qC, qD, qE, qF]
      refine wpAnyF_take [9, 10, 12, 13, 14, 15, 16, 17, 18] (i := 9) (v := ?kv38) rfl (by kernel_rfl) (by kernel_rfl) (by kernel_rfl) (by kernel_rfl) (fun _ _ _ h => h) (Or.inl ⟨by rfl, ?ky38⟩) (by assumption) ?kr38
      case ky38 => (intro w hSw; (try dsimp only at hSw); go_split_ands; (try simp only [qA, qB, qC]); go_simp; (try with_reducible rfl))
      try simp only [Act.put, qA, qB, qC, qD, qE, qF]
      refine wpAnyF_take [11, 12, 13, 14, 15, 16, 17, 18] (i := 11) (v := ?kv39) rfl (by kernel_rfl) (by kernel_rfl) (by kernel_rfl) (by kernel_rfl) (fun _ _ _ h => h) (Or.inl ⟨by rfl, ?ky39⟩) (by assumption) ?kr39
      case ky39 => (intro w hSw; (try dsimp only at hSw); go_split_ands; (try simp only [qA, qB, qC]); go_simp; (try with_reducible rfl))
      try simp only [Act.put, qA, qB, qC, qD, qE, qF]
      refine wpAnyF_ready (rs := [10]) (by kernel_rfl) (by simp) ?_
      refine (AllReadyF.cons rfl (fun K hK => ?_) AllReadyF.nil)
      try simp only [qA, qB, qC]
      go_simp
      refine hK.out _ _ (by exact ⟨grow_cell (grow_alloc (Below.refl _ _) _) hHeld.1, trivial⟩) (fun hHeldn => ?_)
      clear hHeld hK K
      have hHeld := hHeldn
      clear hHeldn
      try simp only [qD, qE, qF]
      refine wpAnyF_ready (rs := [12]) (by kernel_rfl) (by simp) ?_
      refine (AllReadyF.cons rfl (fun K hK => ?_) AllReadyF.nil)
      try simp only [qA, qB, qC]
      go_simp
      refine hK.out _ _ (by exact ⟨grow_cell (grow_alloc (Below.refl _ _) _) hHeld.1, trivial⟩) (fun hHeldn => ?_)
      clear hHeld hK K
      have hHeld := hHeldn
      clear hHeldn
      try simp only [qD, qE, qF]
      refine wpAnyF_ready (rs := [13]) (by kernel_rfl) (by simp) ?_
      refine (AllReadyF.cons rfl (fun K hK => ?_) AllReadyF.nil)
      try simp only [qA, qB, qC]
      go_simp
      go_at_call 154; refine (Concat_any _ _ _ _ HLs.out (by simp) (by rw [Hfl.out]; decide) (by rw [Hfl.out]; decide)).mono ?_; rintro e x7 ⟨v7, rfl, hv7, b7⟩; have hx7 := grow_trans (grow_alloc (grow_alloc (Below.refl w6.heap.size w6) _) _).drew b7; obtain ⟨g7, cap7, rfl, hg7, _⟩ := hv7.form (by rw [Hfl.out]; decide); rw [Hfl.out] at hv7 ⊢; have HV7 := Lib.hid (And.intro (H6.out.1.below hx7) (And.intro hv7 (And.intro hx7 (show w6.heap.size ≤ g7 from Nat.le_trans (grow_alloc (grow_alloc (Below.refl w6.heap.size w6) _) _).drew.size hg7)))); clear hv7 b7
      refine hK.out _ _ (by exact ⟨cell_obj HV7.out.1.obj 3, trivial⟩) (fun hHeldn => ?_)
      clear hHeld hK K
      have hHeld := hHeldn
      clear hHeldn
      try simp only [qD, qE, qF]
      refine wpAnyF_ready (rs := [14]) (by kernel_rfl) (by simp) ?_
      refine (AllReadyF.cons rfl (fun K hK => ?_) AllReadyF.nil)
      try simp only [qA, qB, qC]
      go_simp
      refine hK.out _ _ (by exact ⟨grow_cell (grow_alloc (Below.refl _ _) _) hHeld.1, trivial⟩) (fun hHeldn => ?_)
      clear hHeld hK K
      have hHeld := hHeldn
      clear hHeldn
      try simp only [qD, qE, qF]
      refine wpAnyF_ready (rs := [15]) (by kernel_rfl) (by simp) ?_
      refine (AllReadyF.cons rfl (fun K hK => ?_) AllReadyF.nil)
      have hB8 := grow_alloc (Below.refl x7.heap.size x7) (.cells #[.slice (some ⟨g7, 0, none⟩) 66 cap7] 22); have HV8 := Lib.hid (HV7.out.1.below hB8); have hby8 := BRow.byteAt (S := fun q => S (reg + 1) q ∨ wc.heap.size ≤ q) (HV7.out.2.1.below hB8) Hfl.out.symm (.inr (Nat.le_trans H6.out.2.2.size HV7.out.2.2.2)); refine step_appG elemBytesK (v := vt) rfl _ _ rfl rfl HV8.out.trace rfl (by rw [objAt_alloc, if_pos rfl]) rfl (by simp [Value.oneCell']) (by have := HL.out.2.2.2.1; show R.trace.length < _; omega) (BEl (fun q => S (reg + 1) q ∨ wc.heap.size ≤ q)) ([UInt8.ofNat (i / 256), UInt8.ofNat i] ++ l) (fun w5 hk5 => ⟨fun a c h => BEl.own HV8.out.trace (by decide) hk5 a c h, BEl.own HV8.out.trace (by decide) hk5 _ _ ⟨_, rfl, by simpa using hby8⟩⟩) ?_; intro g9 cap9 w9 hv9 hk9 ho9 hl9; obtain ⟨hr9, hV9⟩ := HV8.out.pushTrace hv9 (fun q hq => hq.elim id (fun h => .inr (Nat.le_trans H6.out.2.2.size (Nat.le_trans HV7.out.2.2.1.size (Nat.le_trans hB8.size h))))) hk9 ho9; have k9 := cell_obj hr9 3; have f9 := free_obj hr9 3; have HV9 := Lib.hid (And.intro hV9 (And.intro hk9 hB8)); clear hV9
      refine hK.out _ _ (by exact ⟨k9, trivial⟩) (fun hHeldn => ?_)
      clear hHeld hK K
      have hHeld := hHeldn
      clear hHeldn
      try simp only [Act.put, qA, qB, qC, qD, qE, qF]
      refine wpAnyF_take [16, 17, 18] (i := 16) (v := ?kv45) rfl (by kernel_rfl) (by kernel_rfl) (by kernel_rfl) (by kernel_rfl) (fun _ _ _ h => h) (Or.inl ⟨by rfl, ?ky45⟩) (by assumption) ?kr45
      case ky45 => (intro w hSw; (try dsimp only at hSw); go_split_ands; (try simp only [qA, qB, qC]); go_simp; (try with_reducible rfl))
      try simp only [Act.put, qA, qB, qC, qD, qE, qF]
      refine wpAnyF_take [17, 18] (i := 17) (v := ?kv46) rfl (by kernel_rfl) (by kernel_rfl) (by kernel_rfl) (by kernel_rfl) (fun _ _ _ h => h) (Or.inl ⟨by rfl, ?ky46⟩) (by assumption) ?kr46
      case ky46 => (intro w hSw; (try dsimp only at hSw); go_split_ands; (try simp only [qA, qB, qC]); go_simp; (try with_reducible rfl))
      try simp only [Act.put, qA, qB, qC, qD, qE, qF]
      refine wpAnyF_ready (rs := [18]) (by kernel_rfl) (by simp) ?_
      refine (AllReadyF.last rfl (by kernel_rfl) (fun K hK => ?_) AllReadyF.nil)
      try simp only [qA, qB, qC]
      go_simp
      refine hK.out _ _ (trivial) (fun hHeldn => ?_)
      clear hHeld hK K
      have hHeld := hHeldn
      clear hHeldn
      try simp only [qD, qE, qF]
      refine wpAnyF_done (by kernel_rfl) ?_ _
      go_wp2_with fail
      go_ret
      have hK9 := (((H6.out.2.2.trans ((Keeps.of_below_size HV7.out.2.2.1).mono (fun q _ h => .inr (Nat.le_trans H6.out.2.2.size h)))).trans ((Keeps.of_below_size HV9.out.2.2).mono (fun q _ h => .inr (Nat.le_trans H6.out.2.2.size (Nat.le_trans HV7.out.2.2.1.size h))))).trans (HV9.out.2.1.mono (fun q _ h => HV8.out.trace.own q h))).trans (Keeps.setCell w9 ⟨r, 3, none⟩ (.slice (some ⟨g9, 0, none⟩) (R.trace.length + 1) cap9) (.inl HV.out.sr))
      have hd := HD.out.1.done HL.out.1 (fun q hq => by rw [HD.out.2.2.2.2.1]; exact HD.out.2.2.2.2.2.2 q hq) HD.out.2.2.2.2.2.1 HD.out.2.2.1 hK9 HV9.out.1 (fun _ h => h) (HL.out.2.1.write hi HL.out.2.2.2.2.1) (by have := HL.out.2.2.1; show (R.later ++ [(i, l)]).length ≤ c + 1; simp; omega) (by have := HL.out.2.2.2.1; show (R.trace ++ [[UInt8.ofNat (i / 256), UInt8.ofNat i] ++ l]).length ≤ c + 1; simp; omega) (Nat.le_succ _)
      refine ⟨rfl, ?_, hd.2.mono (fun q hq => ⟨hq.1, by rw [← HD.out.2.2.2.2.1]; exact hq.2⟩) (fun q hq => hq.1) (Nat.le_refl _)⟩
      exact (HD.out.2.2.2.1.mono (fun q _ e => by subst e; exact HL.out.2.2.2.2.2.2)).trans hd.1
theorem Write_in {w : World} {Sd : Nat → Prop} {d : Nat} {D : Dv} {c : Nat} (h : DevAt w Sd d D c) (hc : c < 900000) {reg n : Nat} (hL : ∃ R, D.regs[reg]? = some R ∧ R.seen.length = n) (i : Nat) (hi : i < n) {B g cap : Nat} {l : List UInt8} (hl : l.length = 64) (hb : BRow w B (.slice (some ⟨g, 0, none⟩) 64 cap) l) :
    Calls Tryz.prog 122 #[.pointer (some ⟨d, 0, none⟩), .int .i64 reg, .int .i64 i, .slice (some ⟨g, 0, none⟩) 64 cap] w fun e w' => e = .returned (.bool true) ∧ Keeps Sd w w' ∧ DevAt w' (grownS Sd w w') d (D.write reg i l) (c + 1) :=
  Write_at h hc hL i hi hl (BAt.of hb)
end Go.Proofs.YtbbnejehglonjaaGreat
