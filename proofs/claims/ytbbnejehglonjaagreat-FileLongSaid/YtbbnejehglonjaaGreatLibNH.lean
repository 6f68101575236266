/- DERIVED. Maps with small whole numbers as keys: the operations at a walk. -/
import Derived.Lib.SlKeysI
import Derived.Test.YtbbnejehglonjaaGreatLibMH
import Derived.Test.YtbbnejehglonjaaGreatMh00
import Derived.Test.YtbbnejehglonjaaGreatMh04
namespace Go.Proofs.YtbbnejehglonjaaGreat
set_option maxHeartbeats 8000000
set_option maxRecDepth 100000
set_option linter.unusedSimpArgs false
set_option linter.unusedVariables false
open Go.RowKit Go.ChangeMaps
section
variable {P : Program} {ops : Array Oper} {o : Oper} {a b0 : Act} {w : World} {K : Act → World → Prop} {Q : Exit → Act → World → Prop} {rest : List Oper} {F : Prop}
theorem wp_updateI (t kt et : TypeId) (x y u : Operand) (ho : o.op = .mapUpdate t x y u) {m : Nat} {L : ML} (h : MapI w m L) (ht : P.underlying t = some (.map kt et)) (hk : P.underlying kt = some (.int .i64)) (hx : a.eval x = .map (some m)) {k : Int} (hy : a.eval y = .int .i64 k) (h0 : 0 ≤ k) (h1 : k < 1000000)
 {v : Value} (hu : a.eval u = v) (hl : L.length < 1000000) (hK : ∀ w', MapI w' m (up L k v) → Keeps (fun g => g = m) w w' → K (a.put o.dst undef) w') : o.wp P a w K Q := by
 obtain ⟨w', hr, h2, h3⟩ := run_updateI h ht hk k h0 h1 v hl
 unfold Oper.wp execOp
 simp only [ho, hx, hy, hu, Sem.run_bind]
 rw [hr]
 exact hK w' h2 h3
theorem wp_clearI (t kt et : TypeId) (x : Operand) (ho : o.op = .call { callee := .builtin .clear, args := #[x], argTypes := #[t] }) {m : Nat} {L : ML} (h : MapI w m L) (ht : P.underlying t = some (.map kt et)) (hx : a.eval x = .map (some m))
 (hK : ∀ w', MapI w' m [] → Keeps (fun g => g = m) w w' → K (a.put o.dst (.tuple #[])) w') : o.wp P a w K Q := by
 obtain ⟨w', hr, h2, h3⟩ := run_clearI h ht o.type
 unfold Oper.wp execOp
 simp only [ho, resolve, invoke, builtin, Sem.run_bind, Sem.run_pure, Result.andThen_ok, List.map_toArray, List.map_cons, List.map_nil, hx]
 rw [hr]
 exact hK w' h2 h3
theorem list_updateI (hgd : o.guard = none) (t kt et : TypeId) (x y u : Operand) (ho : o.op = .mapUpdate t x y u) {m : Nat} {L : ML} (h : MapI w m L) (ht : P.underlying t = some (.map kt et)) (hk : P.underlying kt = some (.int .i64)) (hx : a.eval x = .map (some m)) {k : Int} (hy : a.eval y = .int .i64 k) (h0 : 0 ≤ k) (h1 : k < 1000000)
 {v : Value} (hu : a.eval u = v) (hl : L.length < 1000000) (hK : ∀ w', MapI w' m (up L k v) → Keeps (fun g => g = m) w w' → wpList P ops Q rest (a.put o.dst undef) w') : wpList P ops Q (o :: rest) a w :=
 wpList_plain hgd fun _ h' => wp_updateI t kt et x y u ho h ht hk hx hy h0 h1 hu hl fun w' h2 h3 => h' _ _ (hK w' h2 h3)
theorem list_clearI (hgd : o.guard = none) (t kt et : TypeId) (x : Operand) (ho : o.op = .call { callee := .builtin .clear, args := #[x], argTypes := #[t] }) {m : Nat} {L : ML} (h : MapI w m L) (ht : P.underlying t = some (.map kt et)) (hx : a.eval x = .map (some m))
 (hK : ∀ w', MapI w' m [] → Keeps (fun g => g = m) w w' → wpList P ops Q rest (a.put o.dst (.tuple #[])) w') : wpList P ops Q (o :: rest) a w :=
 wpList_plain hgd fun _ h' => wp_clearI t kt et x ho h ht hx fun w' h2 h3 => h' _ _ (hK w' h2 h3)
theorem step_wanted {h : o.guard = none} (hK : o.wp P a w K Q) : if Region.wanted o (yielded ops b0.tmps) = true then Oper.wp P o a w K Q else F := by
 have hw : Region.wanted o (yielded ops b0.tmps) = true := by simp [Region.wanted, h]
 rw [if_pos hw]; exact hK
end

theorem MapI.owns {P : Program} {H : Type} {w : World} {m : Nat} {L : ML} (h : MapI w m L) {kt : TypeId} (hk : P.underlying kt = some (.int .i64)) (t0 : DataW H) :
 ∃ D : DataW H, w.ownsMap P kt (fun _ => some (t0, [])) m L.length D ∧ Maps.size D = L.length ∧ (intKeys D).Perm (keysL L) := by
 obtain ⟨es, clock, h1, h2, h3⟩ := h.ex
 have hlen : es.toList.length = L.length := by have := congrArg List.length h2; simpa using this
 have hrd : ∀ x ∈ es.toList, ∃ k ∈ keysL L, x.key = .int .i64 k ∧ WideElems.rd P kt (fun _ => some (t0, [])) x = some (.int .i64 k, t0) := by
  intro x hx
  have hx2 : (x.key, x.val) ∈ L.map (fun p => (Value.int .i64 p.1, p.2)) := by rw [← h2]; exact List.mem_map.2 ⟨x, hx, rfl⟩
  obtain ⟨p, hp, he⟩ := List.mem_map.1 hx2
  simp only [Prod.mk.injEq] at he
  have hkm : p.1 ∈ keysL L := List.mem_map.2 ⟨p, hp, rfl⟩
  have hr := h.range _ hkm
  refine ⟨p.1, hkm, he.1.symm, ?_⟩
  have hkey := Maps.keyOf_int_mk (P := P) hk (a := p.1) (by simp [Lit.wf, min_i64]; omega)
  unfold WideElems.rd
  rw [← he.1, hkey]; rfl
 have hsz : es.size ≤ maxLen := by
  have := h.small
  have h9 : es.size = L.length := by simpa using hlen
  unfold maxLen; omega
 have hfit : WideElems.Fit P kt (fun _ => some (t0, [])) es clock := ⟨hsz, h3, fun x hx => by obtain ⟨k, _, _, hr⟩ := hrd x hx; exact ⟨_, hr⟩⟩
 refine ⟨.map ((es.toList.map (WideElems.rg P kt (fun _ => some (t0, [])))).foldr DataW.insert []), ⟨es, clock, h1, hfit, by simp at hlen; omega, rfl⟩, ?_, ?_⟩
 · show ((es.toList.map (WideElems.rg P kt (fun _ => some (t0, [])))).foldr DataW.insert []).length = _
   rw [length_sorted, List.length_map, hlen]
 · show (((es.toList.map (WideElems.rg P kt (fun _ => some (t0, [])))).foldr DataW.insert []).map fun p => _root_.Go.intOf p.1).Perm _
   refine ((WideShapes.sorted_perm _).map _).trans ?_
   rw [List.map_map]
   have e : es.toList.map ((fun p : Lit × DataW H => _root_.Go.intOf p.1) ∘ WideElems.rg P kt (fun _ => some (t0, []))) = keysL L := by
    have h4 : es.toList.map (fun x => x.key) = (keysL L).map (Value.int .i64) := by
     have := congrArg (List.map Prod.fst) h2
     simpa [keysL, Function.comp_def] using this
    apply List.ext_getElem
    · simp [keysL]; simpa using hlen
    · intro i h5 h6
      simp only [List.length_map] at h5
      obtain ⟨k, _, hkk, hr⟩ := hrd (es.toList[i]) (List.getElem_mem h5)
      simp only [List.getElem_map, Function.comp_apply, WideElems.rg, hr, Option.getD_some, _root_.Go.intOf]
      have := congrArg (fun l => l[i]?) h4
      simp only [List.getElem?_map, List.getElem?_eq_getElem h5, List.getElem?_eq_getElem h6, Option.map_some, hkk, Option.some.injEq, Value.int.injEq, true_and] at this
      exact this
   rw [e]
end Go.Proofs.YtbbnejehglonjaaGreat
