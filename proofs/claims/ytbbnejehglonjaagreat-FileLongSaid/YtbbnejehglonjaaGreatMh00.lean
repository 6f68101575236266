/- DERIVED. Contracts and laws that the proofs of this seat share, part 0 of 36: LibA Spec LibG Ref1A Blk. -/
import Derived.WalkKit
import Derived.WalkSpells
import Derived.WalkLawsBesides
import Derived.Lib.Hide
import Derived.ScopeJumps
import Derived.WalkMore
import Derived.Outline
import Derived.Deep.AppendLies
import Derived.Deep.RegionHeld3
import Derived.Deep.DrawnRows
import Derived.Test.YtbbnejehglonjaaGreatProg
namespace Go.Proofs.YtbbnejehglonjaaGreat
set_option maxHeartbeats 8000000
set_option maxRecDepth 100000
set_option linter.unusedSimpArgs false
set_option linter.unusedVariables false
section
open Go.RowKit

/-- Short names for laws that the walks name often. -/
theorem qA.{u} {T : Type u} {l : List T} {i : Nat} (h : i < l.toArray.size) : l.toArray[i] = l[i]'h := rfl
theorem qB.{u} {T : Type u} (a : T) (l : List T) (h : 0 < (a :: l).length) : (a :: l)[0] = a := rfl
theorem qC.{u} {T : Type u} (a : T) (l : List T) (i : Nat) (h : i + 1 < (a :: l).length) : (a :: l)[i+1] = l[i]'(Nat.lt_of_succ_lt_succ h) := rfl
theorem qD.{u} {T : Type u} (l : List T) (i : Nat) (a : T) : l.toArray.setIfInBounds i a = (l.set i a).toArray := List.setIfInBounds_toArray l i a
theorem qE.{u} {T : Type u} (x : T) (l : List T) (a : T) : (x :: l).set 0 a = a :: l := rfl
theorem qF.{u} {T : Type u} (x : T) (l : List T) (n : Nat) (a : T) : (x :: l).set (n+1) a = x :: l.set n a := rfl
theorem qs.{u} : (∀ {T : Type u} {l : List T} {i : Nat} (h : i < l.toArray.size), l.toArray[i] = l[i]'h) ∧ (∀ {T : Type u} (a : T) (l : List T) (h : 0 < (a :: l).length), (a :: l)[0] = a) ∧ (∀ {T : Type u} (a : T) (l : List T) (i : Nat) (h : i + 1 < (a :: l).length), (a :: l)[i+1] = l[i]'(Nat.lt_of_succ_lt_succ h)) ∧ (∀ {T : Type u} (l : List T) (i : Nat) (a : T), l.toArray.setIfInBounds i a = (l.set i a).toArray) ∧ (∀ {T : Type u} (x : T) (l : List T) (a : T), (x :: l).set 0 a = a :: l) ∧ (∀ {T : Type u} (x : T) (l : List T) (n : Nat) (a : T), (x :: l).set (n+1) a = x :: l.set n a) := ⟨fun _ => rfl, fun _ _ _ => rfl, fun _ _ _ _ => rfl, fun l i a => List.setIfInBounds_toArray l i a, fun _ _ _ => rfl, fun _ _ _ _ => rfl⟩
/-- Steps of a region that draws its order, the side conditions shown by themselves. -/
theorem gT {P : Program} {ops : Array Oper} {Q : Exit → Act → World → Prop} {md : Region.Mode} {S : World → Prop} (i : Nat) {oi : Oper} {v : Value} {fuel : Nat} {listed : Array Bool} {a : Act} {w : World}
 (h : wpAnyH P md ops Q S fuel (listed.setIfInBounds i true) (a.put oi.dst v) w)
 (hi : ops[i]? = some oi := by rfl) (hs : Region.noSelect ops = true := by kernel_rfl) (hf : Region.free md ops listed i = true := by kernel_rfl) (hr : (Region.ready md ops listed).contains i = true := by kernel_rfl) (hw : Region.wanted oi (yielded ops a.tmps) = true := by rfl) (hS : S w := by assumption) (hQ : ∀ c a w, Q (.panic c) (a.put oi.dst v) w → Q (.panic c) a w := by exact fun _ _ _ h => h) (hy : ∀ w, S w → (execOp a.eval oi).run P w = .ok (.value v) w := by (intro w hSw; (try dsimp only at hSw); go_split_ands; (try simp only [qA, qB, qC]); go_simp; (try with_reducible rfl))) : wpAnyH P md ops Q S (fuel + 1) listed a w :=
 wpAnyH_take hi hs hf hr hQ (Or.inl ⟨hw, hy⟩) hS h
theorem gU {P : Program} {ops : Array Oper} {Q : Exit → Act → World → Prop} {md : Region.Mode} {S : World → Prop} (i : Nat) {oi : Oper} {fuel : Nat} {listed : Array Bool} {a : Act} {w : World}
 (h : wpAnyH P md ops Q S fuel (listed.setIfInBounds i true) (a.put oi.dst undef) w)
 (hi : ops[i]? = some oi := by rfl) (hs : Region.noSelect ops = true := by kernel_rfl) (hf : Region.free md ops listed i = true := by kernel_rfl) (hr : (Region.ready md ops listed).contains i = true := by kernel_rfl) (hw : Region.wanted oi (yielded ops a.tmps) = false := by rfl) (hS : S w := by assumption) (hQ : ∀ c a w, Q (.panic c) (a.put oi.dst undef) w → Q (.panic c) a w := by exact fun _ _ _ h => h) : wpAnyH P md ops Q S (fuel + 1) listed a w :=
 wpAnyH_take hi hs hf hr hQ (Or.inr ⟨hw, rfl⟩) hS h
theorem gY {P : Program} {ops : Array Oper} {Q : Exit → Act → World → Prop} {md : Region.Mode} {S : World → Prop} {fuel : Nat} {listed : Array Bool} {a : Act} {w : World} (i : Nat) {oi : Oper} 
 (h : ∀ K' : Act → World → Prop, Shut (∀ a w, S w → (S w → wpAnyH P md ops Q S fuel (listed.setIfInBounds i true) a w) → K' a w) → if Region.wanted oi (yielded ops a.tmps) = true then Oper.wp P oi a w K' Q else K' (a.put oi.dst undef) w)
 (hi : ops[i]? = some oi := by rfl) (hr : Region.ready md ops listed = [i] := by kernel_rfl) : wpAnyH P md ops Q S (fuel + 1) listed a w :=
 wpAnyH_ready hr (by simp) (AllReadyH.cons hi h AllReadyH.nil)

theorem madeCells_one (z : Value) (hz : z.cells = #[z]) (n : Nat) : madeCells z.cells n = (List.replicate n z).toArray := by
 rw [hz]
 apply Array.ext
 · simp [madeCells]
 · intro i h1 h2
   simp [madeCells, Nat.mod_one]

theorem run_make1 {P : Program} (t e : TypeId) (i : TypeInfo) (z : Value) (ht : P.underlying t = some (.slice e)) (hi : P.info? e = some i) (hz : i.zero = some z) (hc : z.cells = #[z]) (hs : i.size = 1)
 (hb : i.bytes ≤ 8) (n : Int) (w : World) (h0 : 0 ≤ n) (h1 : n ≤ 1000000) :
 (Instr.makeSlice t (.int .i64 n) (.int .i64 n)).run P w = .ok (.slice (some ⟨w.heap.size, 0, none⟩) n.toNat n.toNat) (w.alloc (.cells (List.replicate n.toNat z).toArray e)) := by
 have := run_make (P := P) w t e i z ht hi hz .i64 .i64 n n h0 (Int.le_refl _) (by
  have : (i.bytes : Int) * n ≤ 8 * n := Int.mul_le_mul_of_nonneg_right (by omega) h0
  omega) (by omega)
 rw [this, hs, Nat.mul_one, madeCells_one z hc]

theorem add_off' (b i : Nat) : (⟨b, 0, none⟩ : Addr).add i = ⟨b, 0 + i, none⟩ := by
 unfold Addr.add; split
 · rename_i h; subst h; rfl
 · rfl

theorem block_lt {w : World} {b : Nat} {o : Obj} (h : w.heap[b]? = some o) : b < w.heap.size := by
 rcases Nat.lt_or_ge b w.heap.size with h' | h'
 · exact h'
 · simp [Array.getElem?_eq_none h'] at h

theorem heap_alloc_if (w : World) (o : Obj) (n : Nat) : (w.alloc o).heap[n]? = if n = w.heap.size then some o else w.heap[n]? := by
 show (w.heap.push o)[n]? = _
 rw [Array.getElem?_push]
def objAt (w : World) (n : Nat) : Option Obj := w.heap[n]?
theorem objAt_alloc (w : World) (o : Obj) (n : Nat) : objAt (w.alloc o) n = if n = w.heap.size then some o else objAt w n := heap_alloc_if w o n
theorem objAt_drew (w : World) (n : Nat) : objAt w.drew n = objAt w n := rfl
theorem objAt_grown {w w' : World} {row : Option Nat} (h : w.grownBy w' row) {n : Nat} (hn : n < w.heap.size) (hr : row ≠ some n) : objAt w' n = objAt w n := h.block n hn (fun e => hr e.symm)
theorem objAt_heap {w : World} {n : Nat} {o : Option Obj} (h : objAt w n = o) : w.heap[n]? = o := h
theorem size_alloc (w : World) (o : Obj) : (w.alloc o).heap.size = w.heap.size + 1 := by
 show (w.heap.push o).size = _
 simp

theorem heap_setCell_same {w : World} {b : Nat} {c : Array Value} {t : TypeId} {f : Nat × Nat} (h : w.heap[b]? = some (.cells c t f)) (i : Nat) (v : Value) :
 (w.setCell ⟨b, i, none⟩ v).heap[b]? = some (.cells (c.setIfInBounds i v) t f) := by
 have hlt := block_lt h
 simp [World.setCell, Array.getElem?_modify, h]

theorem heap_setCell_ne {w : World} {b : Nat} {a : Addr} (h : b ≠ a.block) (v : Value) : (w.setCell a v).heap[b]? = w.heap[b]? :=
 Below.heap_setCell w a v b h

theorem size_setCell (w : World) (a : Addr) (v : Value) : (w.setCell a v).heap.size = w.heap.size := by simp [World.setCell]

structure Keeps (S : Nat → Prop) (w w' : World) : Prop where
 os : w'.os = w.os
 tape : w'.tape = w.tape
 output : w'.output = w.output
 size : w.heap.size ≤ w'.heap.size
 block : ∀ k, k < w.heap.size → ¬ S k → w'.heap[k]? = w.heap[k]?

theorem Keeps.refl (S : Nat → Prop) (w : World) : Keeps S w w := ⟨rfl, rfl, rfl, Nat.le_refl _, fun _ _ _ => rfl⟩
theorem Keeps.trans {S : Nat → Prop} {a b c : World} (h : Keeps S a b) (k : Keeps S b c) : Keeps S a c :=
 ⟨k.os.trans h.os, k.tape.trans h.tape, k.output.trans h.output, Nat.le_trans h.size k.size,
  fun i hi hs => (k.block i (Nat.lt_of_lt_of_le hi h.size) hs).trans (h.block i hi hs)⟩
theorem Keeps.mono {S S' : Nat → Prop} {w w' : World} (h : Keeps S w w') (hs : ∀ k, k < w.heap.size → S k → S' k) : Keeps S' w w' :=
 ⟨h.os, h.tape, h.output, h.size, fun k hk hn => h.block k hk (fun hS => hn (hs k hk hS))⟩
theorem Keeps.of_below {S : Nat → Prop} {w w' : World} (h : Below w.heap.size w w') : Keeps S w w' :=
 ⟨h.os, h.tape, h.output, h.size, fun k hk _ => h.block k hk⟩
theorem Keeps.below {S : Nat → Prop} {B : Nat} {w w' : World} (h : Keeps S w w') (hB : B ≤ w.heap.size) (hS : ∀ k, S k → B ≤ k) : Below B w w' :=
 ⟨h.os, h.tape, h.output, h.size, fun k hk => h.block k (Nat.lt_of_lt_of_le hk hB) (fun hs => by have := hS k hs; omega)⟩
theorem Keeps.setCell {S : Nat → Prop} (w : World) (a : Addr) (v : Value) (h : S a.block) : Keeps S w (w.setCell a v) :=
 ⟨rfl, rfl, rfl, by simp [World.setCell], fun k _ hn => heap_setCell_ne (fun e => hn (by rw [e]; exact h)) v⟩

structure Elem1 (P : Program) (t e : TypeId) (bytes : Nat) : Prop where
 ht : P.underlying t = some (.slice e)
 info : ∃ i z, P.info? e = some i ∧ i.zero = some z ∧ i.size = 1 ∧ i.bytes = bytes ∧ z.cells.size = 1
 le : bytes ≤ 64

theorem Elem1.mk' {P : Program} {t e : TypeId} {z : Value} {bytes : Nat} (ht : P.underlying t = some (.slice e)) (h : (P.info? e).map (fun i => (i.zero, i.size, i.bytes)) = some (some z, 1, bytes)) (hz : z.cells.size = 1) (hb : bytes ≤ 64) : Elem1 P t e bytes := by
 obtain ⟨i, h1, h2, h3, h4⟩ := info_parts h
 exact ⟨ht, ⟨i, z, h1, h2, h3, h4, hz⟩, hb⟩

theorem wpList_app1 {P : Program} {t e : TypeId} {bytes : Nat} (E : Elem1 P t e bytes) {w : World} {ops : Array Oper} {rest : List Oper} {o : Oper} {a : Act} {Q : Exit → Act → World → Prop} (hgd : o.guard = none) (s x : Operand)
 (ho : o.op = .call { callee := .builtin .append, args := #[s, x], argTypes := #[t, t] }) {base : Nat} {v : Value} {n : Nat} {xs : List Value} (hown : w.ownsRow base e 1 v n xs) (hs : a.eval s = v)
 (g : Nat) (u : Value) (hx : a.eval x = .slice (some ⟨g, 0, none⟩) 1 1) (hu : w.cell? ⟨g, 0, none⟩ = some u) (h1 : u.oneCell' = true) (hn : n < 2000000000) (hbase : base ≤ w.heap.size)
 (h : ∀ v' w', w'.ownsRow base e 1 v' (n + 1) (xs ++ [u]) → w.grownBy w' v.ownBlock → Below base w w' → wpList P ops Q rest (a.put o.dst v') w') : wpList P ops Q (o :: rest) a w := by
 obtain ⟨i, z, hi, hz, hsz, hby, hzs⟩ := E.info
 have hle := E.le
 refine wpList_append_own w hgd s x t ho base e i z 1 bytes E.ht hi hz hsz hby hzs (by decide) v n xs hs hown ⟨g, 0, none⟩ 1 1 [u] hx rfl ?_ ?_ ?_ ?_ hbase (fun v' w' h2 h3 _ => h v' w' h2 h3 ?_)
 · intro j u' hj
   match j with
   | 0 => simp at hj; subst hj; exact hu
   | j + 1 => simp at hj
 · intro u' hu'
   simp at hu'
   subst hu'; exact h1
 · unfold maxLen; omega
 · have : (n + 1) * bytes ≤ (n + 1) * 64 := Nat.mul_le_mul_left _ hle
   omega
 · exact (Below.refl base w).grown h3 hbase (fun k hk => (hown.lt k hk).1)

/-! A world that has grown since w0: the blocks of w0 are as they were. -/
theorem grow_drew {w0 w : World} (h : Below w0.heap.size w0 w) : Below w0.heap.size w0 w.drew := h.drew
theorem grow_alloc {w0 w : World} (h : Below w0.heap.size w0 w) (o : Obj) : Below w0.heap.size w0 (w.alloc o) := h.alloc h.size o
theorem grow_trans {w0 w w' : World} (h : Below w0.heap.size w0 w) (k : Below w.heap.size w w') : Below w0.heap.size w0 w' := h.trans (k.mono h.size)
theorem grow_le {B : Nat} {w0 w : World} (h : Below B w0 w) : w0.heap.size ≤ w.heap.size := h.size
theorem grow_cell {w0 w : World} (h : Below w0.heap.size w0 w) {p : Addr} {v : Value} (hc : w0.cell? p = some v) : w.cell? p = some v := (h.cell (World.block_lt_of_cell? w0 _ hc)).trans hc
theorem grow_obj {w0 w : World} (h : Below w0.heap.size w0 w) {n : Nat} {o : Obj} (hc : objAt w0 n = some o) : objAt w n = some o := (h.block n (block_lt hc)).trans hc

theorem step_at (d : Tmp) {P : Program} {ops : Array Oper} {op : Op} {ty : TypeId} {pos : String} {after : Array Edge} {gd : Option (Nat × Bool)} {a b : Act} {w : World} {K : Act → World → Prop} {Q : Exit → Act → World → Prop} {F : Prop}
 (h : if Region.wanted ⟨some d, op, ty, pos, after, gd⟩ (yielded ops b.tmps) = true then Oper.wp P ⟨some d, op, ty, pos, after, gd⟩ a w K Q else F) :
 if Region.wanted ⟨some d, op, ty, pos, after, gd⟩ (yielded ops b.tmps) = true then Oper.wp P ⟨some d, op, ty, pos, after, gd⟩ a w K Q else F := h

theorem step_app {P : Program} {t e : TypeId} {bytes : Nat} (E : Elem1 P t e bytes) {ops : Array Oper} {o : Oper} {a : Act} {w : World} {K : Act → World → Prop} {Q : Exit → Act → World → Prop} {F : Prop} (hgd : o.guard = none) (s x : Operand)
 (ho : o.op = .call { callee := .builtin .append, args := #[s, x], argTypes := #[t, t] }) {base : Nat} {v : Value} {n : Nat} {xs : List Value} (hs : a.eval s = v) (hown : w.ownsRow base e 1 v n xs)
 (ad : Addr) (m c : Nat) (news : List Value) (hx : a.eval x = .slice (some ad) m c) (hl : news.length = m) (hnews : ∀ j u, news[j]? = some u → w.cell? (ad.add j) = some u) (h1 : ∀ u ∈ news, u.oneCell' = true)
 (hm : 0 < m) (hn : n + m < 2000000000) (hbase : base ≤ w.heap.size)
 (h : ∀ g cap w', w'.ownsRow base e 1 (.slice (some ⟨g, 0, none⟩) (n + m) cap) (n + m) (xs ++ news) → w.grownBy w' v.ownBlock → g < w'.heap.size → Below base w w' →
  K (a.put o.dst (.slice (some ⟨g, 0, none⟩) (n + m) cap)) w') :
 if Region.wanted o (yielded ops a.tmps) = true then Oper.wp P o a w K Q else F := by
 obtain ⟨i, z, hi, hz, hsz, hby, hzs⟩ := E.info
 have hle := E.le
 have hb : (n + m) * bytes ≤ (n + m) * 64 := Nat.mul_le_mul_left _ hle
 refine step_append_lies w hgd s x t ho base e i z 1 bytes E.ht hi hz hsz hby hzs (by decide) v n xs hs hown ad m c news hx (by rw [Nat.mul_one]; exact hl) hnews h1 hm (by unfold maxLen; omega) (by omega) hbase w.heap.size rfl ?_
 intro g cap w1 h2 h3 _ h5
 exact h g cap w1 h2 h3 h5 ((Below.refl base w).grown h3 hbase (fun k hk => (hown.lt k hk).1))

def jumps (J : Nat → Act → World → Prop) (Q : Exit → Act → World → Prop) : Exit → Act → World → Prop
 | .goto l, a, w => J l a w
 | e, a, w => Q e a w
section
variable {J : Nat → Act → World → Prop} {Q : Exit → Act → World → Prop} {a : Act} {w : World}
@[go_sem] theorem jumps_normal : jumps J Q .normal a w = Q .normal a w := rfl
@[go_sem] theorem jumps_exit (id : Nat) : jumps J Q (.exit id) a w = Q (.exit id) a w := rfl
@[go_sem] theorem jumps_ret : jumps J Q .ret a w = Q .ret a w := rfl
@[go_sem] theorem jumps_panic (ch : List PanicEntry) : jumps J Q (.panic ch) a w = Q (.panic ch) a w := rfl
@[go_sem] theorem jumps_goto (l : Nat) : jumps J Q (.goto l) a w = J l a w := rfl
end

theorem wp_scope_gotos {P : Program} {a : Act} {w : World} {Q : Exit → Act → World → Prop} {c : Code} (J : Nat → Act → World → Prop) (μ : Nat → Act → World → Nat)
 (hf : ∀ l a w, J l a w → (findLabel c l).isSome = true)
 (first : c.wp P (jumps J Q) a w)
 (pass' : ∀ l rest a w, J l a w → findLabel c l = some rest → rest.wp P (jumps (fun l' a' w' => J l' a' w' ∧ μ l' a' w' < μ l a w) Q) a w) : (Code.scope c).wp P Q a w := by
 intro b k cs
 obtain ⟨rest, hf⟩ : ∃ rest : Nat → Code, ∀ l a w, J l a w → findLabel c l = some (rest l) :=
  ⟨fun l => (findLabel c l).getD .skip, fun l a w h => by
   have := hf l a w h
   cases hx : findLabel c l with
   | none => rw [hx] at this; cases this
   | some r => simp only [hx, Option.getD_some]⟩
 have pass : ∀ l a w, J l a w → (rest l).wp P (jumps (fun l' a' w' => J l' a' w' ∧ μ l' a' w' < μ l a w) Q) a w := fun l a w h => pass' l _ a w h (hf l a w h)
 have hg : ∀ l a w, J l a w → gotoIn l (.inScope c :: k) = some (.code (rest l) :: .inScope c :: k) := fun l a w h => by simp [gotoIn, hf l a w h]
 have key : ∀ n l a w, μ l a w = n → J l a w → ∃ e a' w', Q e a' w' ∧ Arrives P (lone (b.at a (.code (rest l) :: .inScope c :: k)) cs w) b k cs e a' w' := by
  intro n
  induction n using Nat.strongRecOn with
  | _ n ih =>
    intro l a w hn hJ
    obtain ⟨e, a₁, w₁, hq, harr⟩ := pass l a w hJ b (.inScope c :: k) cs
    cases e with
    | normal => exact ⟨.normal, a₁, w₁, hq, Steps.trans harr (.one step_inScope)⟩
    | exit id => exact ⟨.exit id, a₁, w₁, hq, fun k' hk => harr k' (by simp [exitTo, hk])⟩
    | goto l' =>
      obtain ⟨hJ', hlt⟩ := hq
      obtain ⟨e₂, a₂, w₂, hq₂, harr₂⟩ := ih _ (hn ▸ hlt) l' a₁ w₁ rfl hJ'
      exact ⟨e₂, a₂, w₂, hq₂, .of_steps (harr _ (hg l' a₁ w₁ hJ')) harr₂⟩
    | ret => exact ⟨_, a₁, w₁, hq, harr⟩
    | panic ch => exact ⟨_, a₁, w₁, hq, harr⟩
    | outgrown => exact ⟨_, a₁, w₁, hq, harr⟩
 obtain ⟨e, a₁, w₁, hq, harr⟩ := first b (.inScope c :: k) cs
 cases e with
 | normal => exact ⟨.normal, a₁, w₁, hq, .head step_scope (Steps.trans harr (.one step_inScope))⟩
 | exit id => exact ⟨.exit id, a₁, w₁, hq, fun k' hk => .head step_scope (harr k' (by simp [exitTo, hk]))⟩
 | goto l' =>
   obtain ⟨e₂, a₂, w₂, hq₂, harr₂⟩ := key _ l' a₁ w₁ rfl hq
   exact ⟨e₂, a₂, w₂, hq₂, .of_steps (.head step_scope (harr _ (hg l' a₁ w₁ hq))) harr₂⟩
 | ret => exact ⟨_, a₁, w₁, hq, .of_steps (.one step_scope) harr⟩
 | panic ch => exact ⟨_, a₁, w₁, hq, .of_steps (.one step_scope) harr⟩
 | outgrown => exact ⟨_, a₁, w₁, hq, .of_steps (.one step_scope) harr⟩

theorem wp_skip_seq {P : Program} {a : Act} {w : World} {Q : Exit → Act → World → Prop} {c : Code} (h : c.wp P Q a w) : (Code.skip.seq c).wp P Q a w :=
 wp_seq (wp_skip h)

theorem wp_scope_labels {P : Program} {a : Act} {w : World} {Q : Exit → Act → World → Prop} {c : Code} (J : Nat → Act → World → Prop) (μ : Nat → Act → World → Nat)
 (hf : ∀ l a w, J l a w → ∃ b, findLabel c l = some (Code.skip.seq b))
 (pass : ∀ l b a w, J l a w → findLabel c l = some (Code.skip.seq b) → b.wp P (jumps (fun l' a' w' => J l' a' w' ∧ μ l' a' w' < μ l a w) Q) a w)
 (first : (∀ l b a w, J l a w → findLabel c l = some (Code.skip.seq b) → b.wp P (jumps J Q) a w) → c.wp P (jumps J Q) a w) : (Code.scope c).wp P Q a w := by
 refine wp_scope_gotos J μ (fun l a w h => ?_) (first fun l b a w h hb => wp_mono (pass l b a w h hb) fun e a w q => ?_) (fun l rest a w h hr => ?_)
 · obtain ⟨b, hb⟩ := hf l a w h
   rw [hb]; rfl
 · cases e with
   | goto l' => exact q.1
   | _ => exact q
 · obtain ⟨b, hb⟩ := hf l a w h
   rw [hb] at hr
   obtain rfl := Option.some.inj hr
   exact wp_skip_seq (pass l b a w h hb)

theorem wp_scope_label {P : Program} {a : Act} {w : World} {Q : Exit → Act → World → Prop} {x b : Code} (l : Nat) (J : Act → World → Prop) (μ : Act → World → Nat)
 (hf : findLabel x l = none) (hx : x.wp P (Exit.then J (Exit.noGoto Q)) a w)
 (pass : ∀ a w, J a w → b.wp P (Exit.jump l (fun a' w' => J a' w' ∧ μ a' w' < μ a w) Q) a w) : (Code.scope (x.seq ((Code.label l).seq b))).wp P Q a w := by
 have hb : ∀ a w, J a w → b.wp P (Exit.jump l J Q) a w := fun a w h => wp_mono (pass a w h) fun e a w q => by
  cases e with
  | goto l' => exact ⟨q.1, q.2.1⟩
  | _ => exact q
 refine wp_scope_jumps l J μ (rest := Code.skip.seq b) (by simp [findLabel, hf]) (wp_seq (wp_mono hx ?_)) (fun a w h => wp_skip_seq (pass a w h))
 intro e a w q
 cases e with
 | normal => exact wp_seq (wp_label (hb a w q))
 | goto l' => exact q.elim
 | _ => exact q

end
section

def high (v n : Nat) : List UInt8 := (List.range n).map fun j => UInt8.ofNat (v / 256 ^ (n - 1 - j) % 256)
def num (l : List UInt8) : Nat := l.foldl (fun v c => v * 256 + c.toNat) 0

theorem high_length (v n : Nat) : (high v n).length = n := by simp [high]
theorem high_get (v n j : Nat) (h : j < n) : (high v n)[j]'(by rw [high_length]; exact h) = UInt8.ofNat (v / 256 ^ (n - 1 - j) % 256) := by simp [high]
theorem high_drop (v n j : Nat) (h : j < n) : (high v n).drop j = UInt8.ofNat (v / 256 ^ (n - 1 - j) % 256) :: (high v n).drop (j + 1) := by
 rw [List.drop_eq_getElem_cons (by rw [high_length]; exact h), high_get v n j h]
theorem num_snoc (l : List UInt8) (c : UInt8) : num (l ++ [c]) = num l * 256 + c.toNat := by simp [num]
theorem fold_lt (l : List UInt8) : ∀ a : Nat, l.foldl (fun v c => v * 256 + c.toNat) a < (a + 1) * 256 ^ l.length := by
 induction l with
 | nil => intro a; simp
 | cons c l ih =>
   intro a
   rw [List.foldl_cons, List.length_cons, Nat.pow_succ]
   have h1 := ih (a * 256 + c.toNat)
   have h2 := c.toNat_lt
   have h3 : (a * 256 + c.toNat + 1) * 256 ^ l.length ≤ ((a + 1) * 256) * 256 ^ l.length := Nat.mul_le_mul_right _ (by omega)
   rw [Nat.mul_assoc, Nat.mul_comm 256 (256 ^ l.length)] at h3
   omega
theorem num_lt (l : List UInt8) : num l < 256 ^ l.length := by
 have := fold_lt l 0
 simpa [num] using this
theorem num_le (l : List UInt8) (n : Nat) (h : l.length ≤ n) : num l < 256 ^ n := Nat.lt_of_lt_of_le (num_lt l) (Nat.pow_le_pow_right (by decide) h)


def okAt (a : Int) : Bool := decide (1 ≤ a) && decide (a < 200)
def okNew (pre : List Int) (a : Int) : Bool := a == -1 || (okAt a && !pre.contains a)
def placesOk (l : List Int) : Bool := (List.range l.length).all fun i => okNew (l.take i) (l.getD i 0)
theorem placesOk_not {l : List Int} (k : Nat) (hk : k < l.length) (h : okNew (l.take k) (l.getD k 0) = false) : placesOk l = false := by
 rw [placesOk, List.all_eq_false]
 exact ⟨k, List.mem_range.2 hk, by rw [h]; decide⟩
theorem placesOk_iff {l : List Int} : placesOk l = true ↔ ∀ k, k < l.length → okNew (l.take k) (l.getD k 0) = true := by
 simp [placesOk, List.all_eq_true]
def badSign (r : Nat) : Bool := decide (r < 33) || decide (126 < r)
def mayTarget (t : List UInt8) : Bool := !(t.any fun c => badSign c.toNat) && decide (1 ≤ t.length) && decide (t.length ≤ 32)
theorem badSign_cases (r : Nat) : (badSign r = true ∧ r < 33) ∨ (badSign r = true ∧ 33 ≤ r ∧ 126 < r) ∨ (badSign r = false ∧ 33 ≤ r ∧ r ≤ 126) := by
 unfold badSign
 by_cases h1 : r < 33
 · left; simp [h1]
 · by_cases h2 : 126 < r
   · right; left; simp [h2]; omega
   · right; right; simp [h1, h2]; omega
theorem any_take_false {p : UInt8 → Bool} {l : List UInt8} {k : Nat} (h1 : (l.take k).any p = false) (h : k < l.length) (h2 : p l[k] = false) : (l.take (k + 1)).any p = false := by
 rw [List.take_succ_eq_append_getElem h, List.any_append, h1]
 simp [h2]
theorem any_at {p : UInt8 → Bool} {l : List UInt8} {k : Nat} (h : k < l.length) (hb : p l[k] = true) : l.any p = true :=
 List.any_eq_true.2 ⟨l[k], List.getElem_mem h, hb⟩
theorem mayTarget_bad {l : List UInt8} (h : (l.any fun c => badSign c.toNat) = true) : mayTarget l = false := by
 unfold mayTarget; rw [h]; rfl


structure Nd where
 gen : Int
 links : Int
 size : Int
 d0 : Int
 d1 : Int
 d2 : Int
 d3 : Int
 index : Int
 target : ByteArray
 deriving DecidableEq
def Nd.direct (n : Nd) : List Int := [n.d0, n.d1, n.d2, n.d3]
def Nd.places (n : Nd) : List Int := [n.d0, n.d1, n.d2, n.d3, n.index]
def none5 (l : List Int) : Bool := l.all (· == -1)
def kindOk (kind : Int) (n : Nd) : Bool :=
 if kind = 1 then decide (0 ≤ n.size) && decide (n.size ≤ 1120) && n.target.data.toList.isEmpty
 else if kind = 2 then decide (n.size = 0) && none5 n.places && n.target.data.toList.isEmpty && decide (n.links ≤ 1)
 else if kind = 3 then none5 n.places && mayTarget n.target.data.toList && decide (n.size = n.target.size)
 else false
def mayNode (kind : Int) (n : Nd) : Bool := decide (1 ≤ n.gen) && decide (0 ≤ n.links) && decide (n.links ≤ 1000) && placesOk n.places && kindOk kind n
end
section
open Go.RowKit

def bv (c : UInt8) : Value := .int .u8 c.toNat
@[simp] theorem bv_def (c : UInt8) : bv c = .int .u8 c.toNat := rfl

def rowAt (w : World) (g : Nat) : Option (Array Value) :=
 match w.heap[g]? with
 | some (.cells c _ (0, 0)) => some c
 | _ => none

theorem rowAt_heap {w : World} {g : Nat} {c : Array Value} {t : TypeId} (h : w.heap[g]? = some (.cells c t (0, 0))) : rowAt w g = some c := by simp [rowAt, h]
theorem heap_rowAt {w : World} {g : Nat} {c : Array Value} (h : rowAt w g = some c) : ∃ t, w.heap[g]? = some (.cells c t (0, 0)) := by
 unfold rowAt at h
 split at h
 · rename_i c' t hh
   simp at h
   subst h
   exact ⟨t, hh⟩
 · cases h
@[go_sem] theorem rowAt_alloc_at (w : World) (c : Array Value) (t : TypeId) (n : Nat) (hn : n = w.heap.size) : rowAt (w.alloc (.cells c t)) n = some c := by
 subst hn; exact rowAt_heap (t := t) (by rw [heap_alloc_if, if_pos rfl])
@[go_sem] theorem rowAt_alloc_past (w : World) (o : Obj) (n : Nat) (hn : n < w.heap.size) : rowAt (w.alloc o) n = rowAt w n := by
 unfold rowAt; rw [heap_alloc_if, if_neg (by omega)]
@[go_sem] theorem rowAt_drew (w : World) (n : Nat) : rowAt w.drew n = rowAt w n := rfl

theorem alloc_setRow (w : World) (c c' : Array Value) (t : TypeId) : (w.alloc (.cells c t)).setRow w.heap.size c' = w.alloc (.cells c' t) := by
 unfold World.setRow World.alloc
 simp only [World.mk.injEq, and_self, and_true]
 apply Array.ext_getElem?
 intro k
 simp only [Array.getElem?_modify, Array.getElem?_push]
 by_cases hk : k = w.heap.size
 · subst hk; simp
 · rw [if_neg hk, if_neg (fun e => hk e.symm)]
   split <;> simp_all
@[go_sem] theorem alloc_setRow_at (w : World) (c c' : Array Value) (t : TypeId) (n : Nat) (hn : n = w.heap.size) : (w.alloc (.cells c t)).setRow n c' = w.alloc (.cells c' t) := by
 subst hn; exact alloc_setRow w c c' t
@[go_sem] theorem alloc_setRow_past (w : World) (o : Obj) (c' : Array Value) (n : Nat) (hn : n < w.heap.size) : (w.alloc o).setRow n c' = (w.setRow n c').alloc o := by
 unfold World.setRow World.alloc
 simp only [World.mk.injEq, and_self, and_true]
 apply Array.ext_getElem?
 intro k
 simp only [Array.getElem?_modify, Array.getElem?_push, Array.size_modify]
 by_cases hk : k = w.heap.size
 · subst hk; rw [if_neg (by omega), if_pos rfl, if_pos rfl]
 · rw [if_neg hk, if_neg hk]

section
variable {P : Program}
structure AggOf (P : Program) (t : TypeId) (n : Nat) : Prop where
 desc : ∃ d, P.underlying t = some d ∧ (match d with | .struct _ | .array _ _ => true | _ => false) = true
 size : (P.info? t).map (·.size) = some n

theorem run_load_agg {t : TypeId} {n : Nat} (A : AggOf P t n) (w : World) (g : Nat) {c : Array Value} (h : rowAt w g = some c) (hn : c.size = n) :
 (Instr.loadAt t (.pointer (some ⟨g, 0, none⟩))).run P w = .ok (.agg c) w := by
 obtain ⟨d, hd, hd2⟩ := A.desc
 obtain ⟨t', ht⟩ := heap_rowAt h
 simp only [Instr.loadAt, Instr.sureAddr, Sem.run_bind, Sem.run_pure, Result.andThen_ok]
 exact run_loadVar_row w g t' t c (0, 0) d ht hd (by cases d <;> simp_all) (by rw [hn]; exact A.size)

theorem run_store_agg {t : TypeId} {n : Nat} (A : AggOf P t n) (w : World) (g : Nat) {c : Array Value} (c' : Array Value) (h : rowAt w g = some c) (hn : c.size = n) (hn' : c'.size = n) (h1 : ∀ v ∈ c'.toList, v.oneCell' = true) :
 (Instr.storeAt t (.pointer (some ⟨g, 0, none⟩)) (.agg c')).run P w = .ok () (w.setRow g c') := by
 obtain ⟨t', ht⟩ := heap_rowAt h
 have hs : (sizeOf t).run P w = .ok n w := by
  have := A.size
  cases hq : P.info? t with
  | none => rw [hq] at this; cases this
  | some i =>
    rw [hq] at this
    have hi : i.size = n := by simpa using this
    simp [sizeOf, typeInfo, hq, hi]
 have hst := run_storeCells_at P g 0 t' c'.toList 0 c w ht (by simp; omega) h1
 simp only [Instr.storeAt, Instr.sureAddr, Sem.run_bind, Sem.run_pure, Result.andThen_ok, storeVar, hs, Value.cells]
 simp only [hn', ne_eq, not_true_eq_false, if_false]
 rw [hst]
 congr 2
 simp only [Nat.zero_add, List.take_zero, List.nil_append, Array.length_toList, hn']
 rw [List.drop_of_length_le (by simp [hn])]
 simp

def resultOne (r : ResultVar) (tmps : Array Value) : Sem Value :=
 match r with
 | .tmp t => pure (tmps.getD t undef)
 | .cell a t => do loadVar t (← asAddr (tmps.getD a undef))
theorem resOne_tmp (t : Tmp) (tmps : Array Value) (w : World) : (resultOne (.tmp t) tmps).run P w = .ok (tmps.getD t undef) w := rfl
theorem resOne_agg {ty : TypeId} {n : Nat} (A : AggOf P ty n) {p : Tmp} {tmps : Array Value} {w : World} {g : Nat} {c : Array Value} (hp : tmps.getD p undef = .pointer (some ⟨g, 0, none⟩)) (h : rowAt w g = some c) (hn : c.size = n) :
 (resultOne (.cell p ty) tmps).run P w = .ok (.agg c) w := by
 obtain ⟨d, hd, hd2⟩ := A.desc
 obtain ⟨t', ht⟩ := heap_rowAt h
 simp only [resultOne, hp, asAddr, Sem.run_bind, Sem.run_pure, Result.andThen_ok]
 exact run_loadVar_row w g t' ty c (0, 0) d ht hd (by cases d <;> simp_all) (by rw [hn]; exact A.size)
theorem results_one {fn : Func} {r : ResultVar} {tmps : Array Value} {w : World} {v : Value} (h : fn.results = #[r]) (h1 : (resultOne r tmps).run P w = .ok v w) : (results fn tmps).run P w = .ok v w := by
 have : results fn tmps = (do let vs ← #[r].mapM (fun r => resultOne r tmps); pure (if h : vs.size = 1 then vs[0] else .tuple vs)) := by
  simp only [results, h]; rfl
 rw [this]
 simp [h1]
theorem results_two {fn : Func} {r r2 : ResultVar} {tmps : Array Value} {w : World} {v v2 : Value} (h : fn.results = #[r, r2]) (h1 : (resultOne r tmps).run P w = .ok v w) (h2 : (resultOne r2 tmps).run P w = .ok v2 w) :
 (results fn tmps).run P w = .ok (.tuple #[v, v2]) w := by
 have : results fn tmps = (do let vs ← #[r, r2].mapM (fun r => resultOne r tmps); pure (if h : vs.size = 1 then vs[0] else .tuple vs)) := by
  simp only [results, h]; rfl
 rw [this]
 simp [h1, h2]
theorem results_three {fn : Func} {r r2 r3 : ResultVar} {tmps : Array Value} {w : World} {v v2 v3 : Value} (h : fn.results = #[r, r2, r3]) (h1 : (resultOne r tmps).run P w = .ok v w) (h2 : (resultOne r2 tmps).run P w = .ok v2 w)
 (h3 : (resultOne r3 tmps).run P w = .ok v3 w) : (results fn tmps).run P w = .ok (.tuple #[v, v2, v3]) w := by
 have : results fn tmps = (do let vs ← #[r, r2, r3].mapM (fun r => resultOne r tmps); pure (if h : vs.size = 1 then vs[0] else .tuple vs)) := by
  simp only [results, h]; rfl
 rw [this]
 simp [h1, h2, h3]
end
end
section
open Go.RowKit

theorem elemByte : Elem1 Tryz.prog 22 5 1 := .mk' Tryz.underlying22 (z := .int .u8 0) (by kernel_rfl) rfl (by decide)

def BRow (w : World) (B : Nat) (v : Value) (l : List UInt8) : Prop := w.ownsRow B 5 1 v l.length (l.map fun c => Value.int .u8 c.toNat)

theorem mk_bytes (n : Int) (w : World) (h0 : 0 ≤ n) (h1 : n ≤ 1000000) :
 (Instr.makeSlice 22 (.int .i64 n) (.int .i64 n)).run Tryz.prog w = .ok (.slice (some ⟨w.heap.size, 0, none⟩) n.toNat n.toNat) (w.alloc (.cells (List.replicate n.toNat (.int .u8 0)).toArray 5)) :=
 run_make1 _ _ _ (.int .u8 0) (by kernel_rfl) (Option.some_get (by kernel_rfl)).symm (by kernel_rfl) rfl (by kernel_rfl) (by decide +kernel) n w h0 h1

def highCells (v n i : Nat) : Array Value := (List.replicate i (Value.int .u8 0) ++ ((high v n).drop i).map fun c => Value.int .u8 c.toNat).toArray

theorem highCells_end (v n : Nat) : highCells v n n = (List.replicate n (Value.int .u8 0)).toArray := by
 unfold highCells
 rw [List.drop_of_length_le (by rw [high_length]; exact Nat.le_refl _)]; simp
theorem highCells_size (v n j : Nat) (h : j ≤ n) : (highCells v n j).size = n := by
 simp [highCells, high_length]; omega
theorem highCells_set (v n j : Nat) (h : j < n) : (highCells v n (j + 1)).setIfInBounds j (.int .u8 ((v / 256 ^ (n - 1 - j) % 256 : Nat) : Int)) = highCells v n j := by
 unfold highCells
 rw [high_drop v n j h, List.replicate_succ']
 simp only [qD, List.append_assoc]
 rw [List.set_append_right _ _ (by simp)]
 simp
theorem High_any (v : Int) (n : Nat) (w : World) (h0 : 0 ≤ v) (h1 : v ≤ 18446744073709551615) (hn : n ≤ 100) :
 Calls Tryz.prog 141 #[.int .u64 v, .int .i64 n] w fun e w' => (∃ r, e = .returned r ∧ BRow w' w.heap.size r (high v.toNat n)) ∧ Below w.heap.size w w' := by
 obtain ⟨V, rfl⟩ := Int.eq_ofNat_of_zero_le h0
 rw [Int.toNat_natCast]
 have hmk := mk_bytes n w (by omega) (by omega)
 rw [Int.toNat_natCast] at hmk
 go_enter Tryz.func141, Tryz.ntmps141
 go_wp2_with fail
 clear hmk
 obtain ⟨g, hg⟩ : ∃ g, g = w.heap.size := ⟨_, rfl⟩
 have hstart : (w.alloc (.cells (Array.replicate n (Value.int .u8 0)) 5)).heap[g]? = some (.cells (highCells V n n) 5) := by
  rw [heap_alloc_if, if_pos hg, highCells_end]; simp
 rw [← hg]
 have Hg := Lib.hid hg
 clear hg
 go_loopw [0, 6] (fun v i wr => ∃ (m : Int) (U : Nat), -1 ≤ m ∧ m < n ∧ i = .int .i64 m ∧ U ≤ V ∧ v = .int .u64 U ∧ U = V / 256 ^ (n - (m + 1).toNat) ∧ wr.heap[g]? = some (.cells (highCells V n (m + 1).toNat) 5) ∧ Below w.heap.size w wr) (fun _ i _ => (intOf i + 1).toNat)
 case atStart => exact ⟨(n : Int) - 1, V, by omega, by omega, rfl, Nat.le_refl _, rfl, by rw [show n - ((n : Int) - 1 + 1).toNat = 0 by omega]; simp, by rw [show ((n : Int) - 1 + 1).toNat = n by omega]; exact hstart, (Below.refl _ _).alloc (Nat.le_refl _) _⟩
 case round =>
  clear hstart
  obtain ⟨m, U, hm0, hm1, rfl, hUV, rfl, hU, hh, hb⟩ := hrel
  have HU := Lib.hid hU
  clear hU
  by_cases hm : 0 ≤ m
  · obtain ⟨j, rfl⟩ := Int.eq_ofNat_of_zero_le hm
    have hj1 : ((j : Int) + 1).toNat = j + 1 := by omega
    rw [hj1] at hh
    have hsz := highCells_size V n (j + 1) (by omega)
    have hcell : wr.cell? ⟨g, j, none⟩ = some ((highCells V n (j + 1))[j]'(by omega)) := by
     simp [World.cell?, hh, show j < (highCells V n (j + 1)).size by omega]
    have hfree : wr.frozen? ⟨g, j, none⟩ = false := by simp [World.frozen?, hh]
    generalize ((highCells V n (j + 1))[j]'(by omega)) = old at hcell
    have Hh := Lib.hid hh
    clear hh hj1 hsz
    go_wp2_with fail
    go_roundw
    case rel =>
     refine ⟨(j : Int) - 1, U / 256, by omega, by omega, rfl, by omega, rfl, ?_, ?_, hb.setCell (by show w.heap.size ≤ g; rw [Hg.out]; exact Nat.le_refl _) _⟩
     · rw [HU.out, Nat.div_div_eq_div_mul, ← Nat.pow_succ]
       congr 2; omega
     · rw [heap_setCell_same Hh.out]
       have e : ((j : Int) - 1 + 1).toNat = j := by omega
       rw [e, ← highCells_set V n j (by omega)]
       have e2 : n - ((j : Int) + 1).toNat = n - 1 - j := by omega
       have := HU.out
       rw [e2] at this
       rw [this]
       rfl
    case measure => simp [intOf]
  · have Hh := Lib.hid hh
    clear hh
    go_wp2_with fail
    go_ret
    refine ⟨⟨_, rfl, ?_⟩, hb⟩
    have e : (m + 1).toNat = 0 := by omega
    have hh := Hh.out
    rw [e] at hh
    refine ⟨by simp, .inr ⟨g, n, _, by simp [high_length], by rw [Hg.out]; exact Nat.le_refl _, hh, by rw [high_length]; exact Nat.le_refl _, by unfold maxLen; omega, by rw [highCells_size _ _ _ (Nat.zero_le _), Nat.mul_one], ?_⟩⟩
    rw [high_length, Nat.mul_one, List.take_of_length_le (by simp [highCells, high_length])]
    simp [highCells]

def BytesAt (w : World) (a : Option Addr) (l : List UInt8) : Prop :=
 ∃ b off, (0 < l.length → a = some ⟨b, off, none⟩) ∧ ∀ i (h : i < l.length), w.cell? ⟨b, off + i, none⟩ = some (.int .u8 (l[i].toNat : Int))

theorem BytesAt.below {w w' : World} {a : Option Addr} {l : List UInt8} (h : BytesAt w a l) (hb : Below w.heap.size w w') : BytesAt w' a l := by
 obtain ⟨b, off, h1, h2⟩ := h
 exact ⟨b, off, h1, fun i hi => (hb.cell (p := ⟨b, off + i, none⟩) (World.block_lt_of_cell? w _ (h2 i hi))).trans (h2 i hi)⟩

theorem BRow.bytes {w : World} {B : Nat} {v : Value} {l : List UInt8} (h : BRow w B v l) : ∃ a cap, v = .slice a l.length cap ∧ BytesAt w a l := by
 rcases h.2 with ⟨rfl, h0⟩ | ⟨g, cap, cur, rfl, _⟩
 · exact ⟨none, 0, by rw [h0], 0, 0, fun h => by omega, fun i hi => by omega⟩
 · refine ⟨_, _, rfl, g, 0, fun _ => rfl, fun i hi => ?_⟩
   have := World.ownsRow.cells h (g := g) rfl i (.int .u8 (l[i].toNat : Int)) (by simp [hi])
   rwa [add_off'] at this

theorem BRow.below {w w' : World} {B : Nat} {v : Value} {l : List UInt8} (h : BRow w B v l) (hb : Below w.heap.size w w') : BRow w' B v l := by
 refine World.ownsRow.kept h ⟨hb.os, hb.tape, hb.output, hb.size, fun k hk _ => hb.block k hk⟩ (row := none) ?_
 cases v.ownBlock <;> simp

theorem num_take_succ (l : List UInt8) (k : Nat) (h : k < l.length) : num (l.take (k + 1)) = num (l.take k) * 256 + (l[k]).toNat := by
 rw [List.take_succ_eq_append_getElem h, num_snoc]

theorem Num_any (a : Option Addr) (l : List UInt8) (cap : Nat) (w : World) (h : BytesAt w a l) (hl : l.length ≤ 8) :
 Calls Tryz.prog 139 #[.slice a l.length cap] w fun e w' => e = .returned (.int .u64 (num l : Nat)) ∧ w = w' := by
 obtain ⟨b, off, h1, h2⟩ := h
 go_enter Tryz.func139, Tryz.ntmps139
 go_wp2_with fail
 go_loop [3, 4] (fun v i => ∃ k : Nat, k ≤ l.length ∧ i = .int .i64 k ∧ v = .int .u64 (num (l.take k) : Nat)) (fun _ i => l.length - (intOf i).toNat)
 case atStart => exact ⟨0, Nat.zero_le _, rfl, rfl⟩
 case round =>
  obtain ⟨k, hk, rfl, rfl⟩ := hrel
  by_cases hlt : k < l.length
  · have hc := h2 k hlt
    obtain rfl := h1 (by omega)
    have Hs := Lib.hid (num_take_succ l k hlt)
    have hb1 : num (l.take k) < 256 ^ 7 := num_le _ 7 (by rw [List.length_take]; omega)
    have hb2 := (l[k]).toNat_lt
    generalize (l[k]).toNat = c at *
    generalize num (l.take k) = u at *
    clear h1 h2
    have hb3 : u < 72057594037927936 := hb1
    clear hb1
    go_wp2_with fail
    go_round
    case rel => exact ⟨k + 1, by omega, by go_num, by rw [Hs.out]; go_num⟩
    case measure => simp [intOf]; omega
  · go_wp2_with fail
    go_ret
    exact ⟨by rw [List.take_of_length_le (by omega : l.length ≤ k)]; rfl, rfl⟩

end
section
open Go.RowKit

structure Blk where
 kind : Int
 body : List UInt8
 len : body.length = 56
 deriving DecidableEq

def Blk.cells (b : Blk) : Array Value := (Value.int .i64 b.kind :: b.body.map fun c => Value.int .u8 (c.toNat : Int)).toArray
theorem Blk.size_cells (b : Blk) : b.cells.size = 57 := by simp [Blk.cells, b.len]
theorem Blk.one_cells (b : Blk) : ∀ v ∈ b.cells.toList, v.oneCell' = true := by
 intro v hv
 simp only [Blk.cells, List.mem_cons, List.mem_map] at hv
 rcases hv with rfl | ⟨c, _, rfl⟩ <;> rfl
theorem Blk.cell0 (b : Blk) : b.cells[0]? = some (.int .i64 b.kind) := by simp [Blk.cells]
theorem Blk.cellS (b : Blk) (i : Nat) (h : i < 56) : b.cells[i + 1]? = some (.int .u8 ((b.body[i]'(by rw [b.len]; exact h)).toNat : Int)) := by
 simp [Blk.cells, b.len, h]
def fill56 (l : List UInt8) : List UInt8 := (l ++ List.replicate 56 0).take 56
theorem fill56_len (l : List UInt8) : (fill56 l).length = 56 := by simp [fill56]
def Blk.of (kind : Int) (l : List UInt8) : Blk := ⟨kind, fill56 l, fill56_len l⟩
def Blk.zero : Blk := Blk.of 0 []
def Blk.setB (b : Blk) (i : Nat) (c : UInt8) : Blk := ⟨b.kind, b.body.set i c, by simp [b.len]⟩
theorem Blk.set_cells (b : Blk) (i : Nat) (c : UInt8) : b.cells.setIfInBounds (i + 1) (.int .u8 (c.toNat : Int)) = (b.setB i c).cells := by
 simp [Blk.cells, Blk.setB, List.map_set]

def BlkAt (w : World) (g : Nat) (b : Blk) : Prop := w.heap[g]? = some (.cells b.cells 37 (0, 0))
theorem BlkAt.row {w : World} {g : Nat} {b : Blk} (h : BlkAt w g b) : rowAt w g = some b.cells := rowAt_heap h

theorem aggBlk : AggOf Tryz.prog 37 57 := ⟨⟨_, Tryz.underlying37, rfl⟩, by kernel_rfl⟩

theorem build_kind' (k : Int) (w : World) : (Instr.build 37 #[(0, .int .i64 k)]).run Tryz.prog w = .ok (.agg (Blk.of k []).cells) w := by kernel_rfl
theorem build_zero' (w : World) : (Instr.build 37 #[]).run Tryz.prog w = .ok (.agg Blk.zero.cells) w := by kernel_rfl
theorem alloc_blk' (w : World) : (Instr.alloc 37 true (.tuple #[])).run Tryz.prog w = .ok (.pointer (some ⟨w.heap.size, 0, none⟩)) (w.alloc (.cells Blk.zero.cells 37)) := by kernel_rfl

attribute [irreducible] Blk.cells Blk.of Blk.zero
noncomputable def blkBuild (parts : Array (Nat × Value)) (w : World) : Result Value := Sem.run Tryz.prog (Instr.build 37 parts) w
noncomputable def blkAlloc (w : World) : Result Value := Sem.run Tryz.prog (Instr.alloc 37 true (.tuple #[])) w
noncomputable def blkLoad (x : Value) (w : World) : Result Value := Sem.run Tryz.prog (Instr.loadAt 37 x) w
noncomputable def blkStore (x y : Value) (w : World) : Result Unit := Sem.run Tryz.prog (Instr.storeAt 37 x y) w
@[go_sem] theorem build_kind (k : Int) (w : World) : blkBuild #[(0, .int .i64 k)] w = .ok (.agg (Blk.of k []).cells) w := build_kind' k w
@[go_sem] theorem build_zero (w : World) : blkBuild #[] w = .ok (.agg Blk.zero.cells) w := build_zero' w
@[go_sem] theorem alloc_blk (w : World) : blkAlloc w = .ok (.pointer (some ⟨w.heap.size, 0, none⟩)) (w.alloc (.cells Blk.zero.cells 37)) := alloc_blk' w
def hasBlk (w : World) (g : Nat) : Bool := (rowAt w g).any (·.size == 57)
theorem hasBlk_some {w : World} {g : Nat} (h : hasBlk w g = true) : ∃ c, rowAt w g = some c ∧ c.size = 57 := by
 unfold hasBlk at h
 cases hr : rowAt w g with
 | none => rw [hr] at h; cases h
 | some c => rw [hr] at h; exact ⟨c, rfl, by simpa using h⟩
@[go_sem] theorem hasBlk_cells (b : Blk) : (b.cells.size == 57) = true := by rw [b.size_cells]; rfl
@[go_sem] theorem load_blk (w : World) (g : Nat) (h : hasBlk w g = true) : blkLoad (.pointer (some ⟨g, 0, none⟩)) w = .ok (.agg ((rowAt w g).getD #[])) w := by
 obtain ⟨c, hc, hs⟩ := hasBlk_some h
 rw [hc]; exact run_load_agg aggBlk w g hc hs
@[go_sem] theorem store_blk (w : World) (g : Nat) (b' : Blk) (h : hasBlk w g = true) : blkStore (.pointer (some ⟨g, 0, none⟩)) (.agg b'.cells) w = .ok () (w.setRow g b'.cells) := by
 obtain ⟨c, hc, hs⟩ := hasBlk_some h
 exact run_store_agg aggBlk w g b'.cells hc hs b'.size_cells b'.one_cells
attribute [local go_sem] hasBlk
@[go_sem ↓] theorem exec_build_blk (ρ : Operand → Value) (w : World) (dst : Option Tmp) (parts : Array (Nat × Operand)) (ty : TypeId) (pos : String) (after : Array Edge) (gd : Option (Nat × Bool)) :
 (execOp ρ ⟨dst, .build 37 parts, ty, pos, after, gd⟩).run Tryz.prog w = (blkBuild (parts.map fun (i, x) => (i, ρ x)) w).andThen fun v w => .ok (.value v) w := by
 simp only [execOp, blkBuild, Sem.run_bind]; rfl
@[go_sem ↓] theorem exec_alloc_blk (ρ : Operand → Value) (w : World) (dst : Option Tmp) (ty : TypeId) (pos : String) (after : Array Edge) (gd : Option (Nat × Bool)) :
 (execOp ρ ⟨dst, .alloc 37, ty, pos, after, gd⟩).run Tryz.prog w = (blkAlloc w).andThen fun v w => .ok (.value v) w := by
 simp only [execOp, blkAlloc, Sem.run_bind]; rfl
@[go_sem ↓] theorem exec_load_blk (ρ : Operand → Value) (w : World) (dst : Option Tmp) (x : Operand) (ty : TypeId) (pos : String) (after : Array Edge) (gd : Option (Nat × Bool)) :
 (execOp ρ ⟨dst, .load 37 x, ty, pos, after, gd⟩).run Tryz.prog w = (blkLoad (ρ x) w).andThen fun v w => .ok (.value v) w := by
 simp only [execOp, blkLoad, Sem.run_bind]; rfl
@[go_sem ↓] theorem exec_store_blk (ρ : Operand → Value) (w : World) (dst : Option Tmp) (x y : Operand) (ty : TypeId) (pos : String) (after : Array Edge) (gd : Option (Nat × Bool)) :
 (execOp ρ ⟨dst, .store 37 x y, ty, pos, after, gd⟩).run Tryz.prog w = (blkStore (ρ x) (ρ y) w).andThen fun _ w => .ok .skip w := by
 simp only [execOp, blkStore, Sem.run_bind]; rfl
attribute [irreducible] blkBuild blkAlloc blkLoad blkStore
theorem Blk.ext' {a b : Blk} (h : a.kind = b.kind) (h2 : a.body = b.body) : a = b := by
 cases a; cases b; simp_all
theorem Blk.of_kind (kind : Int) (l : List UInt8) : (Blk.of kind l).kind = kind := by unfold Blk.of; rfl
theorem Blk.of_body (kind : Int) (l : List UInt8) : (Blk.of kind l).body = fill56 l := by unfold Blk.of; rfl
theorem fill56_step (l : List UInt8) (k : Nat) (h : k < l.length) (hk : k < 56) : (fill56 (l.take k)).set k l[k] = fill56 (l.take (k + 1)) := by
 apply List.ext_getElem
 · simp [fill56]
 · intro i h1 h2
   simp only [List.length_set, fill56_len] at h1
   simp only [fill56, List.getElem_set, List.getElem_take, List.getElem_append, List.length_take, List.getElem_replicate]
   by_cases hi : i < k
   · rw [if_neg (by omega), dif_pos (by omega), dif_pos (by omega)]
   · by_cases hi2 : i = k
     · subst hi2; rw [if_pos rfl, dif_pos (by omega)]
     · rw [if_neg (by omega), dif_neg (by omega), dif_neg (by omega)]
theorem Blk.of_step (kind : Int) (l : List UInt8) (k : Nat) (h : k < l.length) (hk : k < 56) : (Blk.of kind (l.take k)).setB k l[k] = Blk.of kind (l.take (k + 1)) := by
 apply Blk.ext'
 · simp [Blk.setB, Blk.of_kind]
 · simp only [Blk.setB, Blk.of_body]; exact fill56_step l k h hk
theorem fill56_all (l : List UInt8) (k : Nat) (h : k = l.length ∨ k = 56) : fill56 (l.take k) = fill56 l := by
 rcases h with rfl | rfl
 · rw [List.take_of_length_le (Nat.le_refl _)]
 · apply List.ext_getElem
   · simp [fill56]
   · intro i h1 h2
     simp only [fill56_len] at h1
     simp only [fill56, List.getElem_take, List.getElem_append, List.length_take, List.getElem_replicate]
     by_cases hi : i < l.length
     · rw [dif_pos (by omega), dif_pos hi]
     · rw [dif_neg (by omega), dif_neg hi]
theorem Blk.of_all (kind : Int) (l : List UInt8) (k : Nat) (h : k = l.length ∨ k = 56) : Blk.of kind (l.take k) = Blk.of kind l := by
 apply Blk.ext'
 · simp [Blk.of_kind]
 · simp only [Blk.of_body]; exact fill56_all l k h

theorem BlkAt.alloc_new (w : World) (b : Blk) : BlkAt (w.alloc (.cells b.cells 37)) w.heap.size b := by unfold BlkAt; rw [heap_alloc_if, if_pos rfl]
theorem BlkAt.alloc {w : World} {g : Nat} {b : Blk} (h : BlkAt w g b) (o : Obj) : BlkAt (w.alloc o) g b := by
 have := block_lt h
 unfold BlkAt; rw [heap_alloc_if, if_neg (by omega)]; exact h
theorem BlkAt.setCell_ne {w : World} {g : Nat} {b : Blk} (h : BlkAt w g b) (a : Addr) (v : Value) (hn : g ≠ a.block) : BlkAt (w.setCell a v) g b := by
 unfold BlkAt; rw [heap_setCell_ne hn]; exact h
theorem BlkAt.setCell {w : World} {g : Nat} {b : Blk} (h : BlkAt w g b) (i : Nat) (c : UInt8) : BlkAt (w.setCell ⟨g, 1 + i, none⟩ (.int .u8 (c.toNat : Int))) g (b.setB i c) := by
 rw [Nat.add_comm 1 i]; unfold BlkAt; rw [heap_setCell_same h, Blk.set_cells]
theorem BlkAt.cell {w : World} {g : Nat} {b : Blk} (h : BlkAt w g b) (i : Nat) (hi : i < 56) : w.cell? ⟨g, 1 + i, none⟩ = some (.int .u8 ((b.body[i]'(by rw [b.len]; exact hi)).toNat : Int)) := by
 rw [Nat.add_comm 1 i]; unfold BlkAt at h
 simp only [World.cell?, h]; exact b.cellS i hi
theorem BlkAt.free {w : World} {g : Nat} {b : Blk} (h : BlkAt w g b) (i : Nat) : w.frozen? ⟨g, i, none⟩ = false := by
 unfold BlkAt at h
 simp [World.frozen?, h]
theorem BlkAt.keeps {S : Nat → Prop} {w w' : World} {g : Nat} {b : Blk} (h : BlkAt w g b) (hk : Keeps S w w') (hn : ¬ S g) : BlkAt w' g b := by
 unfold BlkAt; rw [hk.block g (block_lt h) hn]; exact h
theorem BlkAt.below {B : Nat} {w w' : World} {g : Nat} {b : Blk} (h : BlkAt w g b) (hk : Below B w w') (hn : g < B) : BlkAt w' g b := by
 unfold BlkAt; rw [hk.block g hn]; exact h
theorem BlkAt.setRow {w : World} {g : Nat} {b : Blk} (h : BlkAt w g b) (b' : Blk) : BlkAt (w.setRow g b'.cells) g b' := setRow_heap w g b.cells b'.cells 37 (0, 0) h
theorem resOne_blk {p : Tmp} {tmps : Array Value} {w : World} {g : Nat} {b : Blk} (hp : tmps.getD p undef = .pointer (some ⟨g, 0, none⟩)) (h : rowAt w g = some b.cells) :
 (resultOne (.cell p 37) tmps).run Tryz.prog w = .ok (.agg b.cells) w := resOne_agg aggBlk hp h b.size_cells
theorem _root_.Go.RowKit.Below.setRow {B : Nat} {w w' : World} (h : Below B w w') {g : Nat} (hg : B ≤ g) (c : Array Value) : Below B w (w'.setRow g c) :=
 ⟨h.os, h.tape, h.output, by simp [World.setRow]; exact h.size, fun k hk => by
  rw [← h.block k hk]; simp only [World.setRow, Array.getElem?_modify]; rw [if_neg (by omega)]⟩
theorem BytesAt.get {w : World} {a : Option Addr} {l : List UInt8} (h : BytesAt w a l) (i : Nat) (hi : i < l.length) : ∃ b off, a = some ⟨b, off, none⟩ ∧ w.cell? ⟨b, off + i, none⟩ = some (.int .u8 (l[i].toNat : Int)) := by
 obtain ⟨b, off, h1, h2⟩ := h
 exact ⟨b, off, h1 (by omega), h2 i hi⟩

theorem body_any (kind : Int) (a : Option Addr) (l : List UInt8) (cap : Nat) (w : World) (h : BytesAt w a l) (_ : l.length ≤ 1000) :
 Calls Tryz.prog 142 #[.int .i64 kind, .slice a l.length cap] w fun e w' => e = .returned (.agg (Blk.of kind l).cells) ∧ Below w.heap.size w w' := by
 go_enter Tryz.func142, Tryz.ntmps142
 go_wp2_with fail
 have hA : BlkAt ((w.alloc (.cells Blk.zero.cells 37)).alloc (.cells (Blk.of kind []).cells 37)) w.heap.size Blk.zero := (BlkAt.alloc_new _ _).alloc _
 have hB : BlkAt ((w.alloc (.cells Blk.zero.cells 37)).alloc (.cells (Blk.of kind []).cells 37)) (w.heap.size + 1) (Blk.of kind []) := by
  have := BlkAt.alloc_new (w.alloc (.cells Blk.zero.cells 37)) (Blk.of kind [])
  rwa [size_alloc] at this
 have hC : Below w.heap.size w ((w.alloc (.cells Blk.zero.cells 37)).alloc (.cells (Blk.of kind []).cells 37)) :=
  ((Below.refl _ _).alloc (Nat.le_refl _) _).alloc (by rw [size_alloc]; omega) _
 generalize (w.alloc (.cells Blk.zero.cells 37)).alloc (.cells (Blk.of kind []).cells 37) = w1 at *
 obtain ⟨g, hg⟩ : ∃ g, g = w.heap.size := ⟨_, rfl⟩
 rw [← hg] at hA hB ⊢
 have Hg := Lib.hid hg
 clear hg
 go_loopw [6] (fun i wr => ∃ k : Nat, k ≤ l.length ∧ k ≤ 56 ∧ i = .int .i64 k ∧ BlkAt wr g Blk.zero ∧ BlkAt wr (g + 1) (Blk.of kind (l.take k)) ∧ Below w.heap.size w wr) (fun i _ => l.length - (intOf i).toNat)
 case atStart => exact ⟨0, Nat.zero_le _, Nat.zero_le _, rfl, hA, hB, hC⟩
 case round =>
  clear hA hB hC
  obtain ⟨k, hk, hk2, rfl, hA, hB, hC⟩ := hrel
  by_cases hlt : k < l.length
  · by_cases hlt2 : k < 56
    · obtain ⟨b, off, rfl, hcell⟩ := (h.below hC).get k hlt
      have hold := hB.cell k hlt2
      have hfree := hB.free (1 + k)
      have hstep := Blk.of_step kind l k hlt hlt2
      have HB := hB.setCell k l[k]
      have HA := hA.setCell_ne ⟨g + 1, 1 + k, none⟩ (.int .u8 (l[k].toNat : Int)) (by simp)
      have HC := hC.setCell (p := ⟨g + 1, 1 + k, none⟩) (by rw [Hg.out]; exact Nat.le_succ _) (.int .u8 (l[k].toNat : Int))
      rw [hstep] at HB
      have HB := Lib.hid HB
      have HA := Lib.hid HA
      generalize l[k] = c at *
      have Hh := Lib.hid h
      clear hA hB hC hstep h
      go_wp2_with fail
      go_roundw
      case rel => exact ⟨k + 1, by omega, by omega, by go_num, HA.out, HB.out, HC⟩
      case measure => simp [intOf]; omega
    · have hall := Blk.of_all kind l k (.inr (by omega))
      rw [hall] at hB
      have hBr := hB.row
      have hAr := hA.row
      have HA := Lib.hid hA
      have HB := Lib.hid hB
      have HC := Lib.hid hC
      have Hh := Lib.hid h
      clear hA hB hC h hall
      go_wp2_with fail
      have Hrow := (BlkAt.setRow HA.out (Blk.of kind l)).row
      refine bodyPost_ret (results_one rfl (resOne_blk rfl Hrow)) rfl ?_
      exact ⟨rfl, HC.out.setRow (by rw [Hg.out]; exact Nat.le_refl _) _⟩
  · have hall := Blk.of_all kind l k (.inl (by omega))
    rw [hall] at hB
    have hBr := hB.row
    have hAr := hA.row
    have HA := Lib.hid hA
    have HC := Lib.hid hC
    clear hA hB hC h hall
    go_wp2_with fail
    have Hrow := (BlkAt.setRow HA.out (Blk.of kind l)).row
    refine bodyPost_ret (results_one rfl (resOne_blk rfl Hrow)) rfl ?_
    exact ⟨rfl, HC.out.setRow (by rw [Hg.out]; exact Nat.le_refl _) _⟩
end
end Go.Proofs.YtbbnejehglonjaaGreat
