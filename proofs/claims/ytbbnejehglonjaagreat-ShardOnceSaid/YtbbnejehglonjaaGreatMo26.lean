/- DERIVED. Contracts and laws that the proofs of this seat share, part 26 of 36: Rf15E IdEq Rf15F ShB TxC. -/
import Derived.Test.YtbbnejehglonjaaGreatMo00
import Derived.Test.YtbbnejehglonjaaGreatMo23
import Derived.Test.YtbbnejehglonjaaGreatMo24
import Derived.Test.YtbbnejehglonjaaGreatMo25
/- DERIVED. Contract of clathriref15.put. -/
namespace Go.Proofs.YtbbnejehglonjaaGreat
open Go.RowKit
attribute [local irreducible] Calls
theorem IRow.set {w : World} {B g n cap : Nat} {l : List Int} (h : IRow w B (.slice (some ⟨g, 0, none⟩) n cap) l) (j : Nat) (x : Int) : IRow (w.setCell ⟨g, j, none⟩ (.int .i64 x)) B (.slice (some ⟨g, 0, none⟩) n cap) (l.set j x) := by
 have hn : n = l.length := by
  rcases h.2 with ⟨h', _⟩ | ⟨g', cap', cur, h', _⟩
  · simp at h'
  · simp only [Value.slice.injEq] at h'; exact h'.2.1
 subst hn
 have := (World.ownsRow.stored h j (.int .i64 x)).1
 unfold IRow
 rw [List.length_set, List.map_set]; exact this
theorem IRow.free {w : World} {B g n cap : Nat} {l : List Int} (h : IRow w B (.slice (some ⟨g, 0, none⟩) n cap) l) (j : Nat) : w.frozen? ⟨g, j, none⟩ = false := by
 have hn : n = l.length := by
  rcases h.2 with ⟨h', _⟩ | ⟨g', cap', cur, h', _⟩
  · simp at h'
  · simp only [Value.slice.injEq] at h'; exact h'.2.1
 subst hn
 exact World.ownsRow.frozenAt h j
theorem IRow.form {w : World} {B : Nat} {v : Value} {l : List Int} (h : IRow w B v l) (hn : 0 < l.length) : ∃ g cap, v = .slice (some ⟨g, 0, none⟩) l.length cap ∧ B ≤ g ∧ g < w.heap.size := World.ownsRow.form h hn
theorem IRow.get {w : World} {B g n cap : Nat} {l : List Int} (h : IRow w B (.slice (some ⟨g, 0, none⟩) n cap) l) (j : Nat) (hj : j < l.length) : w.cell? ⟨g, j, none⟩ = some (.int .i64 (l.getD j 0)) := by
 have := World.ownsRow.cells h (g := g) rfl j (.int .i64 (l.getD j 0)) (by simp [hj])
 rw [add_off'] at this; simpa using this
theorem KRow.lt {w : World} {B g n cap : Nat} {bs : List Blk} (h : KRow w B (.slice (some ⟨g, 0, none⟩) n cap) bs) : g < w.heap.size := by
 obtain ⟨cur, hg, _⟩ := h.obj; exact block_lt hg
end Go.Proofs.YtbbnejehglonjaaGreat

/- DERIVED. Whole IDs compared. -/
namespace Go.Proofs.YtbbnejehglonjaaGreat
open Go.RowKit
attribute [local go_sem] hasBlk
theorem id_fields : ((Tryz.prog.fieldsOf 66).toList.map fun f => (f.name, f.type, f.offset)) = [("Label", 3, 0), ("At", 3, 1), ("Gen", 64, 2)] := by kernel_rfl
theorem id_part0 (i : Id) (w : World) : (part 3 i.cells 0).run Tryz.prog w = .ok (.int .i64 i.label) w := by
 simp [part, isAgg, run_underlying Tryz.underlying3, Id.cells]
theorem id_part1 (i : Id) (w : World) : (part 3 i.cells 1).run Tryz.prog w = .ok (.int .i64 i.at_) w := by
 simp [part, isAgg, run_underlying Tryz.underlying3, Id.cells]
theorem id_part2 (i : Id) (w : World) : (part 64 i.cells 2).run Tryz.prog w = .ok (.int .u32 i.gen) w := by
 simp [part, isAgg, run_underlying Tryz.underlying64, Id.cells]
theorem run_eq_id (w : World) (b c : Id) : (Op.equalIn 10000 66 (.agg b.cells) (.agg c.cells)).run Tryz.prog w = .ok (decide (b = c)) w := by
 have ht : Tryz.prog.underlying 66 = some (.struct (Tryz.prog.fieldsOf 66)) := by
  unfold Program.fieldsOf; rw [Tryz.underlying66]
 rw [run_equalIn_struct w 9999 _ _ _ ht (by kernel_rfl)]
 have hf := id_fields
 generalize (Tryz.prog.fieldsOf 66).toList = fs at hf
 obtain ⟨f, g, k, rfl⟩ : ∃ f g k, fs = [f, g, k] := by
  have hl : fs.length = 3 := by have := congrArg List.length hf; simpa using this
  match fs, hl with
  | [f, g, k], _ => exact ⟨f, g, k, rfl⟩
 simp only [List.map_cons, List.map_nil, List.cons.injEq, Prod.mk.injEq, and_true] at hf
 obtain ⟨⟨f1, f2, f3⟩, ⟨g1, g2, g3⟩, k1, k2, k3⟩ := hf
 simp only [Op.eqFields, f1, f2, f3, g1, g2, g3, k1, k2, k3, Sem.run_ite, Sem.run_bind, id_part0, id_part1, id_part2, Result.andThen_ok]
 rw [run_equalIn_int w 9998 3 .i64 .i64 _ _ Tryz.underlying3]
 simp only [Result.andThen_ok]
 rw [run_equalIn_int w 9998 3 .i64 .i64 _ _ Tryz.underlying3]
 simp only [Result.andThen_ok]
 rw [run_equalIn_int w 9998 64 .u32 .u32 _ _ Tryz.underlying64]
 obtain ⟨b1, b2, b3⟩ := b
 obtain ⟨c1, c2, c3⟩ := c
 dsimp only
 by_cases h1 : b1 = c1 <;> by_cases h2 : b2 = c2 <;> by_cases h3 : b3 = c3 <;> simp [h1, h2, h3]
/-- The same ID? (A word of its own, so that no simp lays it open.) -/
def sameID (l a g l' a' g' : Int) : Bool := decide ((⟨l, a, g⟩ : Id) = ⟨l', a', g'⟩)
noncomputable def idCmp (op : BinOp) (x y : Operand) (u v : Value) (w : World) : Result Value := Sem.run Tryz.prog (do eqGuard op 66 x y u v; binOp op 66 u v) w
@[go_sem] theorem cmp_neq_id (x y : Operand) (l a g l' a' g' : Int) (w : World) : idCmp .neq x y (.agg #[.int .i64 l, .int .i64 a, .int .u32 g]) (.agg #[.int .i64 l', .int .i64 a', .int .u32 g']) w = .ok (.bool (!sameID l a g l' a' g')) w := by
 unfold idCmp
 rw [Sem.run_bind, run_eqGuard_agg w .neq _ x y _ _ (by kernel_rfl), Result.andThen_ok, run_neq_struct]
 rw [show (#[.int .i64 l, .int .i64 a, .int .u32 g] : Array Value) = (⟨l, a, g⟩ : Id).cells from rfl, show (#[.int .i64 l', .int .i64 a', .int .u32 g'] : Array Value) = (⟨l', a', g'⟩ : Id).cells from rfl, run_eq_id]
 rfl
@[go_sem] theorem cmp_eql_id (x y : Operand) (l a g l' a' g' : Int) (w : World) : idCmp .eql x y (.agg #[.int .i64 l, .int .i64 a, .int .u32 g]) (.agg #[.int .i64 l', .int .i64 a', .int .u32 g']) w = .ok (.bool (sameID l a g l' a' g')) w := by
 unfold idCmp
 rw [Sem.run_bind, run_eqGuard_agg w .eql _ x y _ _ (by kernel_rfl), Result.andThen_ok, run_eql_struct]
 rw [show (#[.int .i64 l, .int .i64 a, .int .u32 g] : Array Value) = (⟨l, a, g⟩ : Id).cells from rfl, show (#[.int .i64 l', .int .i64 a', .int .u32 g'] : Array Value) = (⟨l', a', g'⟩ : Id).cells from rfl, run_eq_id]
 rfl
@[go_sem ↓] theorem exec_cmp_id (ρ : Operand → Value) (w : World) (dst : Option Tmp) (op : BinOp) (x y : Operand) (z : TypeId) (ty : TypeId) (pos : String) (after : Array Edge) (gd : Option (Nat × Bool)) :
 (execOp ρ ⟨dst, .binOp op 66 x y z, ty, pos, after, gd⟩).run Tryz.prog w = (idCmp op x y (ρ x) (ρ y) w).andThen fun v w => .ok (.value v) w := by
 simp only [execOp, idCmp, Sem.run_bind]; rfl
attribute [irreducible] idCmp
end Go.Proofs.YtbbnejehglonjaaGreat

/- DERIVED. Contracts of clathriref15.Find, next, folder, up. -/
namespace Go.Proofs.YtbbnejehglonjaaGreat
open Go.RowKit
attribute [local irreducible] Calls
/-- The entry of a block. -/
def entryAt (bs : List Blk) (i : Nat) : Option Nm := if (bs.getD i Blk.zero).kind = 6 then takeEntry (bs.getD i Blk.zero) else none
def hit (bs : List Blk) (dir : Id) (name : ByteArray) (i : Nat) : Bool := match entryAt bs i with | some n => decide (n.dir = dir) && decide (n.name = name) | none => false
def firstHit (p : Nat → Bool) (n : Nat) : Option Nat := (List.range n).find? p
def find (bs : List Blk) (dir : Id) (name : ByteArray) : Nm × Int :=
 match firstHit (hit bs dir name) bs.length with
 | some i => ((entryAt bs i).getD Nm.zero, (i : Int))
 | none => (Nm.zero, -1)
theorem str_eq (s t : ByteArray) : (s.toList == t.toList) = decide (s = t) := by
 rw [ByteArray.toList_eq, ByteArray.toList_eq]
 by_cases h : s = t
 · subst h; simp
 · have : ¬ s.data = t.data := fun e => h (ByteArray.ext e)
   simp [h, this]
end Go.Proofs.YtbbnejehglonjaaGreat

/- DERIVED. Contract of shard's Find. -/
namespace Go.Proofs.YtbbnejehglonjaaGreat
open Go.RowKit
attribute [local irreducible] Calls
set_option maxRecDepth 100000

/-- What Find tells. -/
def findV (o : Option (Nm × Nat)) : Value := .tuple #[.agg ((o.map (·.1)).getD Nm.zero).cells, .int .i64 ((o.map (·.2)).getD 0 : Nat), .bool o.isSome]
theorem find_none_all {l : List (Nm × Nat)} {p : Nm × Nat → Bool} (h : ∀ (j : Nat) (x : Nm × Nat), l[j]? = some x → p x = false) : l.find? p = none := by
 rw [List.find?_eq_none]
 intro x hx
 obtain ⟨j, hj⟩ := List.getElem?_of_mem hx
 rw [h j x hj]; decide
theorem find_some_at {l : List (Nm × Nat)} {p : Nm × Nat → Bool} {k : Nat} {x : Nm × Nat} (h : ∀ (j : Nat) (y : Nm × Nat), j < k → l[j]? = some y → p y = false) (hx : l[k]? = some x) (hp : p x = true) : l.find? p = some x := by
 obtain ⟨hk, rfl⟩ := List.getElem?_eq_some_iff.1 hx
 rw [List.find?_eq_some_iff_append]
 refine ⟨hp, l.take k, l.drop (k + 1), ?_, ?_⟩
 · rw [← List.drop_eq_getElem_cons hk, List.take_append_drop]
 · intro y hy
   obtain ⟨j, hj⟩ := List.getElem?_of_mem hy
   rw [List.getElem?_take] at hj
   split at hj
   · rename_i hjk; rw [h j y hjk hj]; rfl
   · cases hj
section
variable {w : World} {t v mp mt : Nat} {L : PL} {T : ML}
variable {Sd : Nat → Prop} {d reg : Nat} {s : Sh} {epoch seq : Nat} {used : Int} {gb cap m : Nat} {bs : List Blk} {Dm : ML} {D : Dv} {c : Nat}
set_option maxHeartbeats 8000000 in
theorem shFind_any (h : TxAt w t v mp mt L T bs.length) (hv : VolP w Sd v d reg s epoch seq used gb cap m bs Dm D c) (i : Id) (name : ByteArray) :
 Calls Tryz.prog 48 #[.pointer (some ⟨t, 0, none⟩), .agg i.cells, .string name] w fun e w' => e = .returned (findV (findE (txV L bs) i name)) ∧ Below w.heap.size w w' := by
 obtain ⟨es, hes⟩ : ∃ es, es = ents (txV L bs) := ⟨_, rfl⟩
 have hel : es.length ≤ 200 := by
  rw [hes]; have h1 := entsTo_length (txV L bs) (txV L bs).length
  rw [txV_length] at h1
  have h2 : bs.length ≤ 200 := by rw [← hv.slen]; exact hv.sok.blocks
  have h3 : (ents (txV L bs)).length = (entsTo (txV L bs) bs.length).length := by unfold ents entsTo; rw [txV_length]
  omega
 have hfe : findE (txV L bs) i name = es.find? (isN i name) := by rw [hes]; rfl
 obtain ⟨dl, da, dg⟩ := i
 rw [show (⟨dl, da, dg⟩ : Id).cells = #[.int .i64 dl, .int .i64 da, .int .u32 dg] from rfl]
 rw [hfe]
 obtain ⟨w0, hw0⟩ : ∃ w0, w0 = (w.alloc (.cells #[.int .i64 dl, .int .i64 da, .int .u32 dg] 66)).alloc (.cells #[.int .i64 0, .int .i64 0, .int .u32 0, .string ⟨#[]⟩, .int .i64 0, .int .u32 0] 100) := ⟨_, rfl⟩
 obtain ⟨G, hG⟩ : ∃ G, G = w.heap.size := ⟨_, rfl⟩
 have hB0 : Below w.heap.size w w0 := by rw [hw0]; exact grow_alloc (grow_alloc (Below.refl _ _) _) _
 have hA : objAt w0 G = some (.cells #[.int .i64 dl, .int .i64 da, .int .u32 dg] 66 (0, 0)) := by rw [hw0, hG, objAt_alloc, if_neg (by simp), objAt_alloc, if_pos rfl]
 have hZ : objAt w0 (G + 1) = some (.cells Nm.zero.cells 100 (0, 0)) := by rw [hw0, hG, objAt_alloc, if_pos (by simp only [size_alloc])]; rfl
 have HN := Lib.hid (shNames_any (h.below hB0) (hv.below hB0))
 rw [← hes] at HN
 have HX := Lib.hid (And.intro hG (And.intro hB0 (And.intro hA (And.intro hZ hel))))
 clear h hv hes hfe hB0 hA hZ hel
 go_enter Tryz.func48, Tryz.ntmps48
 go_upto_region 1 with fail
 rw [← hw0, ← hG]
 clear hw0 hG
 go_upto_region 2 with (go_at_call 99; refine HN.out.mono ?_; rintro e w1 ⟨V, U, rfl, hV, hU, b1⟩)
 obtain ⟨av, cv, rfl, hav⟩ := hV.slice
 obtain ⟨au, cu, rfl, hau⟩ := hU.slice
 have HV := Lib.hid (And.intro hV (And.intro hU b1))
 rw [List.length_map, List.length_map]
 clear hV hU b1 hav hau
 go_wp2_with fail
 go_loopw [20] (fun s8 wr => ∃ k : Nat, k ≤ es.length ∧ s8 = .int .i64 k ∧ (∀ j y, j < k → es[j]? = some y → isN ⟨dl, da, dg⟩ name y = false) ∧ Below w1.heap.size w1 wr) (fun i _ => es.length - (Go.RowKit.intOf i).toNat)
 case atStart => exact ⟨0, Nat.zero_le _, rfl, fun j _ hj => by omega, Below.refl _ _⟩
 case round =>
  obtain ⟨k, hk, rfl, hno, hbel⟩ := hrel
  by_cases hlt : k < es.length
  · obtain ⟨p, hp⟩ : ∃ p, es[k]? = some p := ⟨_, List.getElem?_eq_getElem hlt⟩
    obtain ⟨n, i⟩ := p
    have hlti : (k : Int) < (es.length : Int) := by omega
    have hk2 : (k : Int) < 200 := by have := HX.out.2.2.2.2; omega
    have hVr := HV.out.1.grow hbel (R := NmEl) (fun _ _ h => h)
    have hUr := HV.out.2.1.grow hbel (R := PlEl) (fun _ _ h => h)
    obtain ⟨gv, cv', hfv⟩ := hVr.form (by rw [List.length_map]; omega)
    obtain ⟨gu, cu', hfu⟩ := hUr.form (by rw [List.length_map]; omega)
    simp only [Value.slice.injEq] at hfv hfu
    obtain ⟨rfl, _, rfl⟩ := hfv
    obtain ⟨rfl, _, rfl⟩ := hfu
    have hx1 : (es.map (·.1))[k]? = some n := by rw [List.getElem?_map, hp]; rfl
    have hx2 : (es.map (·.2))[k]? = some i := by rw [List.getElem?_map, hp]; rfl
    obtain ⟨n0, n1, n2, n3, n4, n5⟩ := NmRow.at_ hVr hx1
    have u0 : wr.cell? ⟨gu, k, none⟩ = some (.int .i64 (i : Int)) := by
     obtain ⟨cc, _, hR, hc⟩ := hUr.cells hx2
     unfold PlEl at hR
     subst hR
     have := hc 0 _ rfl
     rwa [Nat.mul_one, Nat.add_zero] at this
    have HE := Lib.hid (And.intro hp (And.intro hno hbel))
    have g0 : wr.cell? ⟨G, 0, none⟩ = some (.int .i64 dl) := grow_cell (grow_trans HV.out.2.2 hbel) (cell_obj HX.out.2.2.1 0)
    have g1 : wr.cell? ⟨G, 1, none⟩ = some (.int .i64 da) := grow_cell (grow_trans HV.out.2.2 hbel) (cell_obj HX.out.2.2.1 1)
    have g2 : wr.cell? ⟨G, 2, none⟩ = some (.int .u32 dg) := grow_cell (grow_trans HV.out.2.2 hbel) (cell_obj HX.out.2.2.1 2)
    clear hp hno hbel hVr hUr hx1 hx2
    obtain ⟨wx, hwx⟩ : ∃ wx, wx = wr.alloc (.cells n.cells 100) := ⟨_, rfl⟩
    have hbx : Below wr.heap.size wr wx := below_alloc hwx
    have hox : objAt wx wr.heap.size = some (.cells n.cells 100 (0, 0)) := obj_alloc hwx
    rw [show n.cells = #[.int .i64 n.dir.label, .int .i64 n.dir.at_, .int .u32 n.dir.gen, .string n.name, .int .i64 n.at_, .int .u32 n.gen] from rfl] at hwx
    have HW := Lib.hid (And.intro hbx hox)
    clear hbx hox
    have hpn : isN ⟨dl, da, dg⟩ name (n, i) = (sameID n.dir.label n.dir.at_ n.dir.gen dl da dg && decide (n.name = name)) := rfl
    have Hpn := Lib.hid hpn
    clear hpn
    cases q1 : sameID n.dir.label n.dir.at_ n.dir.gen dl da dg
    · have Hf := Lib.hid (show isN ⟨dl, da, dg⟩ name (n, i) = false by rw [Hpn.out, q1]; rfl)
      go_upto_region 5 with fail
      rw [← hwx]
      have f0 : wx.cell? ⟨wr.heap.size, 0, none⟩ = some (.int .i64 n.dir.label) := cell_obj HW.out.2 0
      have f1 : wx.cell? ⟨wr.heap.size, 1, none⟩ = some (.int .i64 n.dir.at_) := cell_obj HW.out.2 1
      have f2 : wx.cell? ⟨wr.heap.size, 2, none⟩ = some (.int .u32 n.dir.gen) := cell_obj HW.out.2 2
      replace g0 := grow_cell HW.out.1 g0
      replace g1 := grow_cell HW.out.1 g1
      replace g2 := grow_cell HW.out.1 g2
      clear n0 n1 n2 n3 n4 n5 u0 hwx
      go_wp2_with fail
      go_roundw
      case rel =>
       refine ⟨k + 1, by omega, by go_num, fun j y hj hy => ?_, grow_trans HE.out.2.2 HW.out.1⟩
       by_cases e : j = k
       · subst e; rw [HE.out.1] at hy; obtain rfl := Option.some.inj hy; exact Hf.out
       · exact HE.out.2.1 j y (by omega) hy
      case measure => simp [Go.RowKit.intOf]; omega
    · by_cases q2 : n.name = name
      · have Hf := Lib.hid (find_some_at (l := es) (p := isN ⟨dl, da, dg⟩ name) HE.out.2.1 HE.out.1 (by rw [Hpn.out, q1, decide_eq_true q2]; rfl))
        have hs : (n.name.toList == name.toList) = true := by rw [q2]; simp
        clear q2
        go_upto_region 5 with fail
        rw [← hwx]
        obtain ⟨H, hH⟩ : ∃ H, H = wr.heap.size := ⟨_, rfl⟩
        rw [← hH]
        rw [← hH] at HW
        have f0 : wx.cell? ⟨H, 0, none⟩ = some (.int .i64 n.dir.label) := cell_obj HW.out.2 0
        have f1 : wx.cell? ⟨H, 1, none⟩ = some (.int .i64 n.dir.at_) := cell_obj HW.out.2 1
        have f2 : wx.cell? ⟨H, 2, none⟩ = some (.int .u32 n.dir.gen) := cell_obj HW.out.2 2
        have f3 : wx.cell? ⟨H, 3, none⟩ = some (.string n.name) := cell_obj HW.out.2 3
        have f4 : wx.cell? ⟨H, 4, none⟩ = some (.int .i64 n.at_) := cell_obj HW.out.2 4
        have f5 : wx.cell? ⟨H, 5, none⟩ = some (.int .u32 n.gen) := cell_obj HW.out.2 5
        rw [hH] at HW
        replace g0 := grow_cell HW.out.1 g0
        replace g1 := grow_cell HW.out.1 g1
        replace g2 := grow_cell HW.out.1 g2
        replace u0 := grow_cell HW.out.1 u0
        have hz := grow_obj (grow_trans HV.out.2.2 (grow_trans HE.out.2.2 HW.out.1)) HX.out.2.2.2.1
        have hh := hasNm_obj hz rfl
        have HZ := Lib.hid hz
        have HH := Lib.hid hH
        clear n0 n1 n2 n3 n4 n5 hwx hH hz
        go_upto_region 6 with fail
        have hSk : ∀ x cc, x = wx.drew.setRow (G + 1) cc → cc.size = 6 → x.cell? ⟨H, 0, none⟩ = some (.int .i64 n.dir.label) ∧ x.cell? ⟨H, 1, none⟩ = some (.int .i64 n.dir.at_) ∧ x.cell? ⟨H, 2, none⟩ = some (.int .u32 n.dir.gen) ∧ x.cell? ⟨H, 3, none⟩ = some (.string n.name) ∧ x.cell? ⟨H, 4, none⟩ = some (.int .i64 n.at_) ∧ x.cell? ⟨H, 5, none⟩ = some (.int .u32 n.gen) ∧ x.cell? ⟨gu, k, none⟩ = some (.int .i64 (i : Int)) ∧ hasNm x (G + 1) = true ∧ True := fun x cc hx hc => by
         have hk := (Keeps.of_below (S := fun q => q = G + 1) (Below.refl wx.heap.size wx).drew).trans (setRow_keeps' wx.drew (G + 1) cc)
         rw [← hx] at hk
         have hG1 : G + 1 < w0.heap.size := block_lt HX.out.2.2.2.1
         have hs0 := HV.out.2.2.size
         have hs1 := HE.out.2.2.size
         have hgu : w0.heap.size ≤ gu := HV.out.2.1.own gu rfl
         have eH : ∀ j, x.cell? ⟨H, j, none⟩ = wx.cell? ⟨H, j, none⟩ := fun j => World.cell?_of_block (hk.block H (World.block_lt_of_cell? _ _ f0) (by rw [HH.out]; omega))
         have eU : x.cell? ⟨gu, k, none⟩ = wx.cell? ⟨gu, k, none⟩ := World.cell?_of_block (hk.block gu (World.block_lt_of_cell? _ _ u0) (by omega))
         exact ⟨(eH 0).trans f0, (eH 1).trans f1, (eH 2).trans f2, (eH 3).trans f3, (eH 4).trans f4, (eH 5).trans f5, eU.trans u0, hasNm_obj (by rw [hx]; exact objAt_setRow (w := wx.drew) HZ.out cc) hc, trivial⟩
        refine wp_region_held_drew (S := fun w' => w'.cell? ⟨H, 0, none⟩ = some (.int .i64 n.dir.label) ∧ w'.cell? ⟨H, 1, none⟩ = some (.int .i64 n.dir.at_) ∧ w'.cell? ⟨H, 2, none⟩ = some (.int .u32 n.dir.gen) ∧ w'.cell? ⟨H, 3, none⟩ = some (.string n.name) ∧ w'.cell? ⟨H, 4, none⟩ = some (.int .i64 n.at_) ∧ w'.cell? ⟨H, 5, none⟩ = some (.int .u32 n.gen) ∧ w'.cell? ⟨gu, k, none⟩ = some (.int .i64 (i : Int)) ∧ hasNm w' (G + 1) = true ∧ True) (by kernel_rfl) (⟨f0, f1, f2, f3, f4, f5, u0, hh, trivial⟩) (fun hHeld => ?_)
        show wpAnyH _ _ _ _ _ 8 #[false, false, false, false, false, false, false, false] _ _
        refine gT (i := 0) (v := ?kv1) rfl ?ky1 ?kr1
        case ky1 => (intro w hSw; (try dsimp only at hSw); go_split_ands; (try simp only [qA, qB]); go_simp; (try with_reducible rfl))
        try simp only [Act.put, qA, qB, qD, qE, qF]
        refine gT (i := 1) (v := ?kv2) rfl ?ky2 ?kr2
        case ky2 => (intro w hSw; (try dsimp only at hSw); go_split_ands; (try simp only [qA, qB, qC]); go_simp; (try with_reducible rfl))
        try simp only [Act.put, qA, qB, qC, qD, qE, qF]
        refine gT (i := 2) (v := ?kv3) rfl ?ky3 ?kr3
        case ky3 => (intro w hSw; (try dsimp only at hSw); go_split_ands; (try simp only [qA, qB, qC]); go_simp; (try with_reducible rfl))
        try simp only [Act.put, qA, qB, qC, qD, qE, qF]
        refine gT (i := 3) (v := ?kv4) rfl ?ky4 ?kr4
        case ky4 => (intro w hSw; (try dsimp only at hSw); go_split_ands; (try simp only [qA, qB, qC]); go_simp; (try with_reducible rfl))
        try simp only [Act.put, qA, qB, qC, qD, qE, qF]
        refine gT (i := 4) (v := ?kv5) rfl ?ky5 ?kr5
        case ky5 => (intro w hSw; (try dsimp only at hSw); go_split_ands; (try simp only [qA, qB, qC]); go_simp; (try with_reducible rfl))
        try simp only [Act.put, qA, qB, qC, qD, qE, qF]
        refine wpAnyH_ready (rs := [5]) (by kernel_rfl) (by simp) ?_
        refine (AllReadyH.cons rfl (fun K hK => ?_) AllReadyH.nil)
        try simp only [qA, qB, qC]
        go_simp
        refine hK.out _ _ (by exact hSk _ _ rfl rfl) (fun hHeldn => ?_)
        clear hHeld hK K
        have hHeld := hHeldn
        clear hHeldn
        try simp only [qD, qE, qF]
        refine gT (i := 6) (v := ?kv7) rfl ?ky7 ?kr7
        case ky7 => (intro w hSw; (try dsimp only at hSw); go_split_ands; (try simp only [qA, qB, qC]); go_simp; (try with_reducible rfl))
        try simp only [Act.put, qA, qB, qC, qD, qE, qF]
        refine gT (i := 7) (v := ?kv8) rfl ?ky8 ?kr8
        case ky8 => (intro w hSw; (try dsimp only at hSw); go_split_ands; (try simp only [qA, qB, qC]); go_simp; (try with_reducible rfl))
        try simp only [Act.put, qA, qB, qC, qD, qE, qF]
        refine wpAnyH_done (by kernel_rfl) ?_ _
        go_wp2_with fail
        refine bodyPost_ret (results_three rfl (resOne_agg aggNm rfl (rowAt_heap (objAt_setRow (w := wx) HZ.out _)) rfl) (resOne_tmp _ _ _) (resOne_tmp _ _ _)) rfl ?_
        rw [Hf.out]
        exact ⟨rfl, ((grow_trans HX.out.2.1 (grow_trans HV.out.2.2 (grow_trans HE.out.2.2 HW.out.1))).setRow (by rw [HX.out.1]; exact Nat.le_succ _) _).drew⟩
      · have Hf := Lib.hid (show isN ⟨dl, da, dg⟩ name (n, i) = false by rw [Hpn.out, q1, decide_eq_false q2]; rfl)
        have hs : (n.name.toList == name.toList) = false := by rw [str_eq]; exact decide_eq_false q2
        clear q2
        go_upto_region 5 with fail
        rw [← hwx]
        have f0 : wx.cell? ⟨wr.heap.size, 0, none⟩ = some (.int .i64 n.dir.label) := cell_obj HW.out.2 0
        have f1 : wx.cell? ⟨wr.heap.size, 1, none⟩ = some (.int .i64 n.dir.at_) := cell_obj HW.out.2 1
        have f2 : wx.cell? ⟨wr.heap.size, 2, none⟩ = some (.int .u32 n.dir.gen) := cell_obj HW.out.2 2
        have f3 : wx.cell? ⟨wr.heap.size, 3, none⟩ = some (.string n.name) := cell_obj HW.out.2 3
        replace g0 := grow_cell HW.out.1 g0
        replace g1 := grow_cell HW.out.1 g1
        replace g2 := grow_cell HW.out.1 g2
        clear n0 n1 n2 n3 n4 n5 u0 hwx
        go_wp2_with fail
        go_roundw
        case rel =>
         refine ⟨k + 1, by omega, by go_num, fun j y hj hy => ?_, grow_trans HE.out.2.2 HW.out.1⟩
         by_cases e : j = k
         · subst e; rw [HE.out.1] at hy; obtain rfl := Option.some.inj hy; exact Hf.out
         · exact HE.out.2.1 j y (by omega) hy
        case measure => simp [Go.RowKit.intOf]; omega
  · obtain rfl : k = es.length := by omega
    have Hn := Lib.hid (find_none_all (l := es) (p := isN ⟨dl, da, dg⟩ name) (fun j x hx => hno j x (List.getElem?_eq_some_iff.1 hx).1 hx))
    have hz := grow_obj (grow_trans HV.out.2.2 hbel) HX.out.2.2.2.1
    have hh := hasNm_obj hz rfl
    have HB := Lib.hid (And.intro hbel hz)
    clear hno hbel hz
    go_wp2_with fail
    refine bodyPost_ret (results_three rfl (resOne_agg aggNm rfl (rowAt_heap (objAt_setRow HB.out.2 _)) rfl) (resOne_tmp _ _ _) (resOne_tmp _ _ _)) rfl ?_
    rw [Hn.out]
    exact ⟨rfl, (grow_trans HX.out.2.1 (grow_trans HV.out.2.2 HB.out.1)).setRow (by rw [HX.out.1]; exact Nat.le_succ _) _⟩
end
end Go.Proofs.YtbbnejehglonjaaGreat

/- DERIVED. Contract of tx's names. -/
namespace Go.Proofs.YtbbnejehglonjaaGreat
open Go.RowKit
attribute [local irreducible] Calls
set_option maxRecDepth 100000

/-- Places that are set, one behind the other. -/
def setAll (l : List Bool) (xs : List Int) : List Bool := xs.foldl (fun l x => bitSet l x true) l
theorem setAll_app (l : List Bool) (xs ys : List Int) : setAll l (xs ++ ys) = setAll (setAll l xs) ys := by simp [setAll]
theorem setAll_take {l : List Bool} {xs : List Int} {k : Nat} {x : Int} (h : xs[k]? = some x) : setAll l (xs.take (k + 1)) = bitSet (setAll l (xs.take k)) x true := by
 obtain ⟨hk, rfl⟩ := List.getElem?_eq_some_iff.1 h
 rw [List.take_succ_eq_append_getElem hk, setAll_app]; rfl
/-- The blocks that a File names, in the order in which they are set. -/
def namesT (bs : List Blk) (f : Blk) : List Int :=
 if (takeNode f).2 = true then (takeNode f).1.places ++ (if (takeNode f).1.index = -1 then [] else (takeIndex (getB bs (takeNode f).1.index)).getD []) else []
section
variable {w : World} {t v mp mt : Nat} {L : PL} {T : ML} {n : Nat}
variable {Sd : Nat → Prop} {d reg : Nat} {s : Sh} {epoch seq : Nat} {used : Int} {gb cap m : Nat} {bs : List Blk} {Dm : ML} {D : Dv} {c : Nat}
theorem BitsAt.below {w w' : World} {b q : Nat} {l : List Bool} (h : BitsAt w b q l) (hb : Below w.heap.size w w') : BitsAt w' b q l :=
 h.keeps (Keeps.of_below_size hb) (by have := block_lt h.head; omega) (by have := block_lt h.row; omega)
theorem BitsAt.neObj {w : World} {b q : Nat} {l : List Bool} (h : BitsAt w b q l) {g : Nat} {c : Array Value} {ty : TypeId} (hg : objAt w g = some (.cells c ty (0, 0))) (hne : ty ≠ 4) : g ≠ q := fun e => ne_of_obj hg h.row hne e
theorem BitsAt.neMap {w : World} {b q : Nat} {l : List Bool} (h : BitsAt w b q l) {g : Nat} {M : ML} (hg : MapI w g M) : g ≠ q := fun e => by
 obtain ⟨es, ck, h1, _⟩ := hg.ex
 have h2 := h.row
 rw [e] at h1
 unfold objAt at h1
 rw [h2] at h1; cases h1
theorem TxAt.bits {w w' : World} {t v mp mt : Nat} {L : PL} {T : ML} {n B q : Nat} {l : List Bool} (h : TxAt w t v mp mt L T n) (hb : BitsAt w B q l) (hk : Keeps (· = q) w w') : TxAt w' t v mp mt L T n :=
 h.keeps hk (hb.neObj h.obj (by decide)) (hb.neMap h.put) (hb.neMap h.tk)
theorem VolP.neRow {w : World} {Sd : Nat → Prop} {v d reg : Nat} {s : Sh} {epoch seq : Nat} {used : Int} {gb cap m : Nat} {bs : List Blk} {Dm : ML} {D : Dv} {c : Nat} (h : VolP w Sd v d reg s epoch seq used gb cap m bs Dm D c) : ∃ cs, objAt w gb = some (.cells cs 37 (0, 0)) := by
 rcases h.row.2 with ⟨h', _⟩ | ⟨g', cap', cur, h', _, hg', _⟩
 · cases h'
 · cases h'; exact ⟨cur, hg'⟩
theorem VolP.bits {w w' : World} {Sd : Nat → Prop} {v d reg : Nat} {s : Sh} {epoch seq : Nat} {used : Int} {gb cap m : Nat} {bs : List Blk} {Dm : ML} {D : Dv} {c B q : Nat} {l : List Bool} (h : VolP w Sd v d reg s epoch seq used gb cap m bs Dm D c) (hb : BitsAt w B q l) (hq : ¬ Sd q) (hk : Keeps (· = q) w w') : VolP w' Sd v d reg s epoch seq used gb cap m bs Dm D c := by
 obtain ⟨cs, hcs⟩ := h.neRow
 exact h.keeps hk (fun g hg e => hq (e ▸ hg)) (hb.neObj h.o (by decide)) (hb.neMap h.map) (hb.neObj hcs (by decide))
theorem IRow.bits {w w' : World} {B0 B q : Nat} {u : Value} {xs : List Int} {l : List Bool} (h : IRow w B0 u xs) (hb : BitsAt w B q l) (hk : Keeps (· = q) w w') : IRow w' B0 u xs :=
 owns_keeps h hk (fun g hg e => by
  obtain ⟨_, c, hc⟩ := IRow.ownObj h hg
  exact hb.neObj hc (by decide) e)
theorem takeIndex_len (b : Blk) : ((takeIndex b).getD []).length ≤ 16 := by
 unfold takeIndex
 split
 · simp [indexOf]
 · simp
theorem places_direct (n : Nd) : n.places = n.direct ++ [n.index] := rfl
set_option maxHeartbeats 4000000 in
theorem txNames_any {B q : Nat} {l : List Bool} (h : TxAt w t v mp mt L T bs.length) (hv : VolP w Sd v d reg s epoch seq used gb cap m bs Dm D c) (hb : BitsAt w B q l) (hq : ¬ Sd q) (f : Blk) :
 Calls Tryz.prog 127 #[.pointer (some ⟨t, 0, none⟩), .agg f.cells, .pointer (some ⟨B, 0, none⟩)] w fun e w' => e = .returned (.tuple #[]) ∧ Keeps (· = q) w w' ∧ BitsAt w' B q (setAll l (namesT (txV L bs) f)) := by
 have hB1 : Below w.heap.size w (w.alloc (.cells f.cells 37)) := grow_alloc (Below.refl _ _) _
 have hX := BlkAt.alloc_new w f
 obtain ⟨G, hG⟩ : ∃ G, G = w.heap.size := ⟨_, rfl⟩
 obtain ⟨w1, hw1⟩ : ∃ w1, w1 = w.alloc (.cells f.cells 37) := ⟨_, rfl⟩
 have HN := Lib.hid (nTake_all f w1)
 have H := Lib.hid (And.intro h (And.intro hv hb))
 rw [← hw1] at hB1 hX
 rw [← hG] at hX
 have hbk := hX.has
 have hrk := hX.row
 have HG := Lib.hid (And.intro hG (And.intro hw1 hB1))
 clear hG hw1 hB1 hX h hv hb
 unfold namesT
 obtain ⟨⟨nd, ok⟩, hnd⟩ : ∃ p, takeNode f = p := ⟨_, rfl⟩
 rw [hnd] at HN ⊢
 dsimp only at HN ⊢
 cases ok with
 | false =>
   rw [if_neg (by simp)]
   go_enter Tryz.func127, Tryz.ntmps127
   go_upto_region 1 with fail
   rw [← HG.out.2.1, ← HG.out.1]
   go_wp2_with (go_at_call 143; refine HN.out.mono ?_; rintro e w2 ⟨rfl, b2⟩)
   refine bodyPost_ret (results_none rfl _ _ _) rfl ?_
   have hB : Below w.heap.size w (w2.alloc (.cells nd.cells 165)) := HG.out.2.2.trans ((grow_alloc b2 _).mono HG.out.2.2.size)
   exact ⟨rfl, Keeps.of_below hB, H.out.2.2.below hB⟩
 | true =>
   rw [if_pos rfl]
   go_enter Tryz.func127, Tryz.ntmps127
   go_upto_region 1 with fail
   rw [← HG.out.2.1, ← HG.out.1]
   go_upto_region 3 with (go_at_call 143; refine HN.out.mono ?_; rintro e w2 ⟨rfl, b2⟩)
   have hB3 : Below w.heap.size w (w2.alloc (.cells nd.cells 165)) := HG.out.2.2.trans ((grow_alloc b2 _).mono HG.out.2.2.size)
   have hN3 : objAt (w2.alloc (.cells nd.cells 165)) w2.heap.size = some (.cells nd.cells 165 (0, 0)) := by rw [objAt_alloc, if_pos rfl]
   obtain ⟨w3, hw3⟩ : ∃ w3, w3 = w2.alloc (.cells nd.cells 165) := ⟨_, rfl⟩
   obtain ⟨N, hNe⟩ : ∃ N, N = w2.heap.size := ⟨_, rfl⟩
   rw [← hw3] at hB3 hN3 ⊢
   rw [← hNe] at hN3 ⊢
   have c3 : w3.cell? ⟨N, 3, none⟩ = some (.int .i64 nd.d0) := Nd.c nd hN3 3
   have c4 : w3.cell? ⟨N, 4, none⟩ = some (.int .i64 nd.d1) := Nd.c nd hN3 4
   have c5 : w3.cell? ⟨N, 5, none⟩ = some (.int .i64 nd.d2) := Nd.c nd hN3 5
   have c6 : w3.cell? ⟨N, 6, none⟩ = some (.int .i64 nd.d3) := Nd.c nd hN3 6
   have hb3 := H.out.2.2.below hB3
   have hNq : N ≠ q := hb3.neObj hN3 (by decide)
   have H3 := Lib.hid (And.intro hB3 (And.intro hN3 (And.intro hb3 hNq)))
   clear hB3 hN3 hb3 hNq hw3 hNe hbk hrk
   go_wp2_with fail
   go_loopw [25] (fun i wr => ∃ k : Nat, k ≤ 4 ∧ i = .int .i64 k ∧ Keeps (· = q) w3 wr ∧ BitsAt wr B q (setAll l (nd.direct.take k))) (fun i _ => 4 - (Go.RowKit.intOf i).toNat)
   case atStart => exact ⟨0, by decide, rfl, Keeps.refl _ _, H3.out.2.2.1⟩
   case round =>
   obtain ⟨k, hk, rfl, hK, hB⟩ := hrel
   have HR := Lib.hid (And.intro hK hB)
   clear hK hB
   by_cases hlt : k < 4
   · obtain rfl | rfl | rfl | rfl : k = 0 ∨ k = 1 ∨ k = 2 ∨ k = 3 := by omega
     · have hix : ∀ w', (Instr.index 163 (.agg #[.int .i64 nd.d0, .int .i64 nd.d1, .int .i64 nd.d2, .int .i64 nd.d3]) (.int .i64 0)).run Tryz.prog w' = .ok (.int .i64 nd.d0) w' := fun w' => by kernel_rfl
       have Hs := Lib.hid (show setAll l (nd.direct.take 1) = bitSet (setAll l (nd.direct.take 0)) nd.d0 true from setAll_take rfl)
       go_wp2_with (go_at_call 126; refine (bSet_any nd.d0 _ HR.out.2).mono ?_; rintro e x1 ⟨rfl, hb1, k1⟩)
       go_roundw
       case rel => exact ⟨1, by omega, rfl, HR.out.1.trans k1, by rw [Hs.out]; exact hb1⟩
       case measure => decide
     · have hix : ∀ w', (Instr.index 163 (.agg #[.int .i64 nd.d0, .int .i64 nd.d1, .int .i64 nd.d2, .int .i64 nd.d3]) (.int .i64 1)).run Tryz.prog w' = .ok (.int .i64 nd.d1) w' := fun w' => by kernel_rfl
       have Hs := Lib.hid (show setAll l (nd.direct.take 2) = bitSet (setAll l (nd.direct.take 1)) nd.d1 true from setAll_take rfl)
       go_wp2_with (go_at_call 126; refine (bSet_any nd.d1 _ HR.out.2).mono ?_; rintro e x1 ⟨rfl, hb1, k1⟩)
       go_roundw
       case rel => exact ⟨2, by omega, rfl, HR.out.1.trans k1, by rw [Hs.out]; exact hb1⟩
       case measure => decide
     · have hix : ∀ w', (Instr.index 163 (.agg #[.int .i64 nd.d0, .int .i64 nd.d1, .int .i64 nd.d2, .int .i64 nd.d3]) (.int .i64 2)).run Tryz.prog w' = .ok (.int .i64 nd.d2) w' := fun w' => by kernel_rfl
       have Hs := Lib.hid (show setAll l (nd.direct.take 3) = bitSet (setAll l (nd.direct.take 2)) nd.d2 true from setAll_take rfl)
       go_wp2_with (go_at_call 126; refine (bSet_any nd.d2 _ HR.out.2).mono ?_; rintro e x1 ⟨rfl, hb1, k1⟩)
       go_roundw
       case rel => exact ⟨3, by omega, rfl, HR.out.1.trans k1, by rw [Hs.out]; exact hb1⟩
       case measure => decide
     · have hix : ∀ w', (Instr.index 163 (.agg #[.int .i64 nd.d0, .int .i64 nd.d1, .int .i64 nd.d2, .int .i64 nd.d3]) (.int .i64 3)).run Tryz.prog w' = .ok (.int .i64 nd.d3) w' := fun w' => by kernel_rfl
       have Hs := Lib.hid (show setAll l (nd.direct.take 4) = bitSet (setAll l (nd.direct.take 3)) nd.d3 true from setAll_take rfl)
       go_wp2_with (go_at_call 126; refine (bSet_any nd.d3 _ HR.out.2).mono ?_; rintro e x1 ⟨rfl, hb1, k1⟩)
       go_roundw
       case rel => exact ⟨4, by omega, rfl, HR.out.1.trans k1, by rw [Hs.out]; exact hb1⟩
       case measure => decide
   · obtain rfl : k = 4 := by omega
     have ho := HR.out.1.obj H3.out.2.1 H3.out.2.2.2
     have c7 : wr.cell? ⟨N, 7, none⟩ = some (.int .i64 nd.index) := Nd.c nd ho 7
     have hpl : setAll l nd.places = bitSet (setAll l (nd.direct.take 4)) nd.index true := by rw [places_direct, setAll_app]; rfl
     have HX := Lib.hid (And.intro ho hpl)
     clear ho hpl hlt hk
     by_cases hi : nd.index = -1
     · have hi' : (nd.index == -1) = true := by simpa using hi
       have Hi := Lib.hid hi
       clear hi
       go_wp2_with (go_at_call 126; refine (bSet_any nd.index _ HR.out.2).mono ?_; rintro e x1 ⟨rfl, hb1, k1⟩; replace c7 : x1.cell? ⟨N, 7, none⟩ = some (.int .i64 nd.index) := Nd.c nd (k1.obj HX.out.1 H3.out.2.2.2) 7)
       refine bodyPost_ret (results_none rfl _ _ _) rfl ?_
       refine ⟨rfl, ((Keeps.of_below H3.out.1).trans HR.out.1).trans k1, ?_⟩
       first
        | (rw [HX.out.2]; exact hb1)
        | (rw [if_pos Hi.out, List.append_nil, HX.out.2]; exact hb1)
     · have hi' : (nd.index == -1) = false := by simpa using hi
       have Hi := Lib.hid hi
       clear hi
       go_upto_region 10 with (go_at_call 126; refine (bSet_any nd.index _ HR.out.2).mono ?_; rintro e x1 ⟨rfl, hb1, k1⟩; replace c7 : x1.cell? ⟨N, 7, none⟩ = some (.int .i64 nd.index) := Nd.c nd (k1.obj HX.out.1 H3.out.2.2.2) 7)
       rw [← HX.out.2] at hb1
       have kx : Keeps (· = q) w3 x1 := HR.out.1.trans k1
       have hT1 := (H.out.1.below H3.out.1).bits H3.out.2.2.1 kx
       have hV1 := (H.out.2.1.below H3.out.1).bits H3.out.2.2.1 hq kx
       have HG1 := Lib.hid (txGet_any hT1 hV1 nd.index)
       have H4 := Lib.hid (And.intro hb1 kx)
       obtain ⟨gb', hgb⟩ : ∃ g, g = getB (txV L bs) nd.index := ⟨_, rfl⟩
       rw [← hgb] at HG1
       have HGB := Lib.hid hgb
       clear hb1 kx hT1 hV1 hgb k1
       go_upto_region 11 with (go_at_call 26; refine HG1.out.mono ?_; rintro e x2 ⟨rfl, b2'⟩)
       have hbk := (BlkAt.alloc_new x2 gb').has
       have hrk := (BlkAt.alloc_new x2 gb').row
       have hb3 := (H4.out.1.below b2').below (grow_alloc (Below.refl _ _) (.cells gb'.cells 37))
       have kk3 : Keeps (· = q) w (x2.alloc (.cells gb'.cells 37)) := ((Keeps.of_below H3.out.1).trans H4.out.2).trans (Keeps.of_below (grow_alloc b2' _))
       obtain ⟨x3, hx3⟩ : ∃ x3, x3 = x2.alloc (.cells gb'.cells 37) := ⟨_, rfl⟩
       obtain ⟨K, hKe⟩ : ∃ K, K = x2.heap.size := ⟨_, rfl⟩
       rw [← hx3] at hbk hrk hb3 kk3 ⊢
       rw [← hKe] at hbk hrk ⊢
       have H5 := Lib.hid (And.intro hb3 kk3)
       clear hb3 kk3 hx3 hKe
       go_upto_region 12 with (go_at_call 144; refine (xTake_any gb' _).mono ?_; rintro e x4 ⟨V, rfl, hr4, b4⟩)
       obtain ⟨li, hli⟩ : ∃ li, li = (takeIndex gb').getD [] := ⟨_, rfl⟩
       have hl16 : li.length ≤ 16 := by rw [hli]; exact takeIndex_len gb'
       rw [← hli] at hr4
       obtain ⟨ai, ci, rfl, _⟩ := IRow.fromB hr4
       have H6 := Lib.hid (And.intro (H5.out.1.below b4) (And.intro (H5.out.2.trans (Keeps.of_below b4)) (And.intro hr4 hli)))
       clear hr4 hli b4 hbk hrk
       go_wp2_with fail
       go_loopw [53] (fun i wr => ∃ k : Nat, k ≤ li.length ∧ i = .int .i64 k ∧ Keeps (· = q) x4 wr ∧ BitsAt wr B q (setAll (setAll l nd.places) (li.take k))) (fun i _ => li.length - (Go.RowKit.intOf i).toNat)
       case atStart => exact ⟨0, Nat.zero_le _, rfl, Keeps.refl _ _, H6.out.1⟩
       case round =>
       obtain ⟨k, hk, rfl, hK, hB⟩ := hrel
       have HR2 := Lib.hid (And.intro hK hB)
       by_cases hlt : k < li.length
       · obtain ⟨x, hx⟩ : ∃ x, li[k]? = some x := ⟨_, List.getElem?_eq_getElem hlt⟩
         have hrk := H6.out.2.2.1.bits H6.out.1 hK
         obtain ⟨ai', ci', he, b0, off, h1, h2⟩ := IRow.fromB hrk
         obtain ⟨rfl, _, rfl⟩ := (by simpa using he : ai = ai' ∧ True ∧ ci = ci')
         obtain ⟨rfl, _⟩ := h1 (by omega)
         have hcx := h2 k hlt
         rw [List.getD_eq_getElem?_getD, hx, Option.getD_some] at hcx
         have hlti : (k : Int) < (li.length : Int) := by omega
         have Hs := Lib.hid (setAll_take (l := setAll l nd.places) hx)
         clear hK hB hx hrk he h1 h2
         go_wp2_with (go_at_call 126; refine (bSet_any x _ HR2.out.2).mono ?_; rintro e x5 ⟨rfl, hb5, k5⟩)
         go_roundw
         case rel => exact ⟨k + 1, by omega, by go_num, HR2.out.1.trans k5, by rw [Hs.out]; exact hb5⟩
         case measure => simp [Go.RowKit.intOf]; omega
       · obtain rfl : k = li.length := by omega
         clear hK hB
         go_wp2_with fail
         go_end0
         refine ⟨rfl, H6.out.2.1.trans HR2.out.1, ?_⟩
         have hfin := HR2.out.2
         rw [List.take_of_length_le (Nat.le_refl _), ← setAll_app, H6.out.2.2.2, HGB.out] at hfin
         first
          | exact hfin
          | (rw [if_neg Hi.out]; exact hfin)
end
end Go.Proofs.YtbbnejehglonjaaGreat
