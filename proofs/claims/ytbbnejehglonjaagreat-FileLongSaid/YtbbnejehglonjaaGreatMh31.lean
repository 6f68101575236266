/- DERIVED. Contracts and laws that the proofs of this seat share, part 31 of 36: FiN. -/
import Derived.Test.YtbbnejehglonjaaGreatMh00
import Derived.Test.YtbbnejehglonjaaGreatMh30
namespace Go.Proofs.YtbbnejehglonjaaGreat
set_option maxHeartbeats 8000000
set_option maxRecDepth 100000
set_option linter.unusedSimpArgs false
set_option linter.unusedVariables false
section
open Go.RowKit
attribute [local irreducible] Calls

def wOut (bs : List Blk) (a off : Int) (e : Nat) (r : Bool × Ws) : (Int × Int) × PL × ML := match r with
 | (false, s) => ((0, 9), s.L, s.T)
 | (true, s) => (((e : Int) - off, 0), keepF bs a ⟨s.L, s.T, s.f.sized (max s.f.n.size (e : Int))⟩, s.T)
theorem writeF_main {bs : List Blk} {L : PL} {T : ML} {a : Int} {off : Nat} {data : List UInt8} {f : Fl} (hf : flOf (txV L bs) a = some f) (hd : data ≠ []) (ho : off < 1120) :
 writeF bs L T a (off : Int) data = wOut bs a (off : Int) (wEnd (wPcs off data)) (wRun bs off data (wPcs off data) ⟨L, T, f⟩) := by
 unfold writeF
 rw [hf]
 dsimp only
 rw [if_neg (by omega), if_neg hd, if_neg (by omega), Int.toNat_natCast]
 unfold wOut
 rfl
theorem Fl.put_wf {f : Fl} (h : f.n.wf) (k : Nat) (x : Int) : (f.put k x).n.wf := by
 unfold Fl.put; split
 · exact Nd.setDirect_wf h k x
 · exact h
theorem blkF_wf {bs : List Blk} {s : Ws} {k : Nat} (h : s.f.n.wf) : (blkF bs s k).2.f.n.wf := by
 unfold blkF
 split
 · exact h
 · cases ht : takeIx bs s k with
   | none => exact h
   | some s1 =>
     have h1 : s1.f.n.wf := by
      unfold takeIx at ht
      split at ht
      · cases hp : pickT (txV s.L bs) s.T with
        | none => rw [hp] at ht; cases ht
        | some i => rw [hp] at ht; obtain rfl := Option.some.inj ht; exact ⟨h.1, h.2, h.3⟩
      · obtain rfl := Option.some.inj ht; exact h
     dsimp only
     cases pickT (txV s1.L bs) s1.T with
     | none => exact h1
     | some i => exact Fl.put_wf h1 k _
theorem wRun_cons (bs : List Blk) (off : Nat) (data : List UInt8) (p : Pc) (ps : List Pc) (s : Ws) : wRun bs off data (p :: ps) s = match blkF bs s p.k with
 | (none, s1) => (false, s1)
 | (some x, s1) => wRun bs off data ps (putP bs off data s1 p x) := rfl
theorem RowG.capGe {α : Type} {w : World} {S : Nat → Prop} {e : TypeId} {k : Nat} {R : World → α → List Value → Prop} {al : List α} {a : Option Addr} {n cap : Nat} (h : RowG w S e k R (.slice a n cap) al) : al.length ≤ cap := by
 obtain ⟨xs, h1, _⟩ := h.ex
 rcases h1.2 with ⟨h', h0⟩ | ⟨g', cap', cur', h', hb, hg', hnc, _⟩
 · omega
 · simp only [Value.slice.injEq] at h'
   obtain ⟨_, _, rfl⟩ := h'
   exact hnc
theorem MapI.neCellAt {w : World} {m : Nat} {M : ML} (h : MapI w m M) {g o : Nat} {v : Value} (hc : w.cell? ⟨g, o, none⟩ = some v) : g ≠ m := fun e => by
 subst e
 obtain ⟨es, ck, h1, _⟩ := h.ex
 simp only [World.cell?, objAt_heap h1] at hc
 cases hc
theorem frame126 (A : Array Value) (h : A.size = 126) : A = #[A.getD 0 undef, A.getD 1 undef, A.getD 2 undef, A.getD 3 undef, A.getD 4 undef, A.getD 5 undef, A.getD 6 undef, A.getD 7 undef, A.getD 8 undef, A.getD 9 undef, A.getD 10 undef, A.getD 11 undef, A.getD 12 undef, A.getD 13 undef, A.getD 14 undef, A.getD 15 undef, A.getD 16 undef, A.getD 17 undef, A.getD 18 undef, A.getD 19 undef, A.getD 20 undef, A.getD 21 undef, A.getD 22 undef, A.getD 23 undef, A.getD 24 undef, A.getD 25 undef, A.getD 26 undef, A.getD 27 undef, A.getD 28 undef, A.getD 29 undef, A.getD 30 undef, A.getD 31 undef, A.getD 32 undef, A.getD 33 undef, A.getD 34 undef, A.getD 35 undef, A.getD 36 undef, A.getD 37 undef, A.getD 38 undef, A.getD 39 undef, A.getD 40 undef, A.getD 41 undef, A.getD 42 undef, A.getD 43 undef, A.getD 44 undef, A.getD 45 undef, A.getD 46 undef, A.getD 47 undef, A.getD 48 undef, A.getD 49 undef, A.getD 50 undef, A.getD 51 undef, A.getD 52 undef, A.getD 53 undef, A.getD 54 undef, A.getD 55 undef, A.getD 56 undef, A.getD 57 undef, A.getD 58 undef, A.getD 59 undef, A.getD 60 undef, A.getD 61 undef, A.getD 62 undef, A.getD 63 undef, A.getD 64 undef, A.getD 65 undef, A.getD 66 undef, A.getD 67 undef, A.getD 68 undef, A.getD 69 undef, A.getD 70 undef, A.getD 71 undef, A.getD 72 undef, A.getD 73 undef, A.getD 74 undef, A.getD 75 undef, A.getD 76 undef, A.getD 77 undef, A.getD 78 undef, A.getD 79 undef, A.getD 80 undef, A.getD 81 undef, A.getD 82 undef, A.getD 83 undef, A.getD 84 undef, A.getD 85 undef, A.getD 86 undef, A.getD 87 undef, A.getD 88 undef, A.getD 89 undef, A.getD 90 undef, A.getD 91 undef, A.getD 92 undef, A.getD 93 undef, A.getD 94 undef, A.getD 95 undef, A.getD 96 undef, A.getD 97 undef, A.getD 98 undef, A.getD 99 undef, A.getD 100 undef, A.getD 101 undef, A.getD 102 undef, A.getD 103 undef, A.getD 104 undef, A.getD 105 undef, A.getD 106 undef, A.getD 107 undef, A.getD 108 undef, A.getD 109 undef, A.getD 110 undef, A.getD 111 undef, A.getD 112 undef, A.getD 113 undef, A.getD 114 undef, A.getD 115 undef, A.getD 116 undef, A.getD 117 undef, A.getD 118 undef, A.getD 119 undef, A.getD 120 undef, A.getD 121 undef, A.getD 122 undef, A.getD 123 undef, A.getD 124 undef, A.getD 125 undef] := frame_list A 126 h
section
variable {w w' : World} {Sd : Nat → Prop} {t v mp mt : Nat} {L : PL} {T : ML} {d reg : Nat} {s : Sh} {gb cap m : Nat} {st : VSt} {c : Nat}
theorem BytesAt.fl {w w1 w' : World} {L : PL} {T : ML} {F gi : Nat} {ad : Option Addr} {data : List UInt8} (h : BytesAt w ad data) (H : TxV w Sd t v mp mt L T d reg s gb cap m st c) (hb : Below w.heap.size w w1) (hF : w.heap.size ≤ F) (hg : w.heap.size ≤ gi) (hk : Keeps (fS F gi mp mt) w1 w') : BytesAt w' ad data := by
 obtain ⟨b, off, h1, h2⟩ := h
 refine ⟨b, off, h1, fun i hi => ?_⟩
 have hc := h2 i hi
 have hlt := World.block_lt_of_cell? _ _ hc
 have hc1 := grow_cell hb hc
 have n1 := H.tx.put.neCellAt hc
 have n2 := H.tx.tk.neCellAt hc
 have hlt' : b < w.heap.size := hlt
 rw [← hc1]
 refine World.cell?_of_block (hk.block b (Nat.lt_of_lt_of_le hlt' hb.size) (fun e => ?_))
 rcases e with e | e | e | e
 · omega
 · omega
 · exact n1 e
 · exact n2 e
theorem Keeps.fl {w w1 w2 : World} {F gi : Nat} (h : Keeps (fun q => q = mp ∨ q = mt) w w1) (hk : Keeps (fS F gi mp mt) w1 w2) (hF : w.heap.size ≤ F) (hg : w.heap.size ≤ gi) : Keeps (fun q => q = mp ∨ q = mt) w w2 :=
 ⟨hk.os.trans h.os, hk.tape.trans h.tape, hk.output.trans h.output, Nat.le_trans h.size hk.size, fun k hlt hn => (hk.block k (Nat.lt_of_lt_of_le hlt h.size) (fun e => by
  rcases e with e | e | e | e
  · omega
  · omega
  · exact hn (.inl e)
  · exact hn (.inr e))).trans (h.block k hlt hn)⟩
def WrJ (w : World) (Sd : Nat → Prop) (t v mp mt d reg : Nat) (sh : Sh) (gb cap m : Nat) (st : VSt) (c : Nat) (a : Int) (off : Nat) (data : List UInt8) (bd od dc : Nat) (pcs : List Pc) (n4 : Nat) (R : Bool × Ws) (l : Nat) (a' : Act) (w' : World) : Prop :=
 l = 0 ∧ ∃ (k : Nat) (q : Ws) (F gi ci gp cv : Nat), k ≤ n4 ∧ wRun st.bs off data ((pcs.take 4).drop k) q = R ∧ TxV w' Sd t v mp mt q.L q.T d reg sh gb cap m st c ∧ FlAt w' w.heap.size F t a q.f gi ci ∧ q.f.n.wf ∧ Keeps (fun q => q = mp ∨ q = mt) w w' ∧ PcRow w' (fun q => w.heap.size ≤ q) (.slice (some ⟨gp, 0, none⟩) pcs.length cv) pcs ∧
   ∃ A : Array Value, A.size = 126 ∧ (A.getD 0 undef = .pointer (some ⟨t, 0, none⟩) ∧ A.getD 2 undef = .int .i64 (off : Int) ∧ A.getD 3 undef = .slice (some ⟨bd, od, none⟩) data.length dc ∧ A.getD 10 undef = .pointer (some ⟨F, 0, none⟩) ∧ A.getD 12 undef = .slice (some ⟨gp, 0, none⟩) n4 cv ∧ A.getD 13 undef = .int .i64 (k : Int) ∧ True) ∧ a' = { tmps := A, defers := [] }
theorem slice_data (g o n cp k : Nat) (h : k < n) (hc : n ≤ cp) (w : World) : (Instr.sliceAt 22 (.slice (some ⟨g, o, none⟩) n cp) (some (.int .i64 (k : Int))) none none).run Tryz.prog w = .ok (.slice (some ⟨g, o + k, none⟩) (n - k) (cp - k)) w := by
 have hs : (sizeOf (Tryz.prog.elem 22)).run Tryz.prog w = .ok 1 w := by kernel_rfl
 rw [run_sliceAt_slice w 22 _ _ _ _ Tryz.underlying22, run_slice_l w 22 (some ⟨g, o, none⟩) n cp Tryz.underlying22 .i64 (k : Int) (by omega) (by omega), hs]
 simp only [Result.andThen_ok, sliced, Int.toNat_natCast, Nat.mul_one, Option.map_some]
 rw [if_neg (by omega), add_at]
theorem PcRow.fl {w w' : World} {S : Nat → Prop} {B F gi gp n cv : Nat} {l : List Pc} {a : Int} {f : Fl} {ci : Nat} {L : PL} {T : ML} (h : PcRow w S (.slice (some ⟨gp, 0, none⟩) n cv) l) (H : TxV w Sd t v mp mt L T d reg s gb cap m st c) (hf : FlAt w B F t a f gi ci) (hk : Keeps (fS F gi mp mt) w w') : PcRow w' S (.slice (some ⟨gp, 0, none⟩) n cv) l := by
 obtain ⟨cc, hc⟩ := RowG.obj h (g := gp) rfl
 obtain ⟨ci', hci⟩ := hf.gi_obj
 refine RowG.keeps h hk (fun g hg e => ?_) (fun _ h => h) (fun _ _ h => h)
 cases hg
 rcases e with e | e | e | e
 · exact ne_of_obj hc hf.obj (by decide) e
 · exact ne_of_obj hc hci (by decide) e
 · exact H.tx.put.neObj hc e.symm
 · exact H.tx.tk.neObj hc e.symm
theorem fWrite_any (H : TxV w Sd t v mp mt L T d reg s gb cap m st c) (a off : Int) {ad : Option Addr} {data : List UInt8} {dc : Nat} (hda : BytesAt w ad data) (hdl : data.length ≤ 100000) (hdc : data.length ≤ dc) :
 Calls Tryz.prog 35 #[.pointer (some ⟨t, 0, none⟩), .int .i64 a, .int .i64 off, .slice ad data.length dc] w fun e w' => e = .returned (.tuple #[.int .i64 (writeF st.bs L T a off data).1.1, .int .i64 (writeF st.bs L T a off data).1.2]) ∧
  TxV w' Sd t v mp mt (writeF st.bs L T a off data).2.1 (writeF st.bs L T a off data).2.2 d reg s gb cap m st c ∧ Keeps (fun q => q = mp ∨ q = mt) w w' := by
 have HO := Lib.hid (fOf_any H a)
 have hS : ∀ q, Sd q → q < w.heap.size := fun q hq => H.vol.dev.lt q hq
 have H0 := Lib.hid (And.intro H (And.intro hS (And.intro hda hdc)))
 obtain ⟨o, hf⟩ : ∃ o, o = flOf (txV L st.bs) a := ⟨_, rfl⟩
 rw [← hf] at HO
 have hdi : (data.length : Int) ≤ 100000 := by omega
 clear H hS hda hdc
 cases o with
 | none =>
   have hw : writeF st.bs L T a off data = ((0, 2), L, T) := by unfold writeF; rw [← hf]
   rw [hw]
   dsimp only at HO ⊢
   clear hf hw
   go_enter Tryz.func35, Tryz.ntmps35
   go_wp2_with fail
   refine wp_scope_labels (fun _ _ _ => False) (fun l _ _ => l) (fun _ _ _ h => h.elim) (fun _ _ _ _ h => h.elim) ?_
   intro _
   go_wp2_with (go_at_call 84; refine HO.out.mono ?_; rintro e w1 ⟨b1, rfl⟩)
   try rw [jumps_ret]
   refine bodyPost_ret (results_two rfl (resOne_tmp _ _ _) (resOne_tmp _ _ _)) rfl ?_
   exact ⟨rfl, H0.out.1.below b1, Keeps.of_below b1⟩
 | some f =>
   dsimp only at HO
   by_cases h1 : off < 0
   · have hw : writeF st.bs L T a off data = ((0, 1), L, T) := by unfold writeF; rw [← hf]; dsimp only; rw [if_pos h1]
     rw [hw]
     dsimp only
     clear hf hw
     go_enter Tryz.func35, Tryz.ntmps35
     go_wp2_with fail
     refine wp_scope_labels (fun _ _ _ => False) (fun l _ _ => l) (fun _ _ _ h => h.elim) (fun _ _ _ _ h => h.elim) ?_
     intro _
     go_wp2_with (go_at_call 84; refine HO.out.mono ?_; rintro e w1 ⟨b1, F, gi, ci, rfl, hF⟩)
     try rw [jumps_ret]
     refine bodyPost_ret (results_two rfl (resOne_tmp _ _ _) (resOne_tmp _ _ _)) rfl ?_
     exact ⟨rfl, H0.out.1.below b1, Keeps.of_below b1⟩
   · by_cases h2 : data = []
     · have hw : writeF st.bs L T a off data = ((0, 0), L, T) := by unfold writeF; rw [← hf]; dsimp only; rw [if_neg h1, if_pos h2]
       rw [hw]
       subst h2
       dsimp only
       clear hf hw
       go_enter Tryz.func35, Tryz.ntmps35
       go_wp2_with fail
       refine wp_scope_labels (fun _ _ _ => False) (fun l _ _ => l) (fun _ _ _ h => h.elim) (fun _ _ _ _ h => h.elim) ?_
       intro _
       go_wp2_with (go_at_call 84; refine HO.out.mono ?_; rintro e w1 ⟨b1, F, gi, ci, rfl, hF⟩)
       try rw [jumps_ret]
       refine bodyPost_ret (results_two rfl (resOne_tmp _ _ _) (resOne_tmp _ _ _)) rfl ?_
       exact ⟨rfl, H0.out.1.below b1, Keeps.of_below b1⟩
     · have hpos : 0 < data.length := List.length_pos_iff.2 h2
       have hpi : ¬ ((data.length : Int) = 0) := by omega
       by_cases h3 : 1120 ≤ off
       · have hw : writeF st.bs L T a off data = ((0, 13), L, T) := by unfold writeF; rw [← hf]; dsimp only; rw [if_neg h1, if_neg h2, if_pos h3]
         rw [hw]
         dsimp only
         clear hf hw h2
         go_enter Tryz.func35, Tryz.ntmps35
         go_wp2_with fail
         refine wp_scope_labels (fun _ _ _ => False) (fun l _ _ => l) (fun _ _ _ h => h.elim) (fun _ _ _ _ h => h.elim) ?_
         intro _
         go_wp2_with (go_at_call 84; refine HO.out.mono ?_; rintro e w1 ⟨b1, F, gi, ci, rfl, hF⟩)
         try rw [jumps_ret]
         refine bodyPost_ret (results_two rfl (resOne_tmp _ _ _) (resOne_tmp _ _ _)) rfl ?_
         exact ⟨rfl, H0.out.1.below b1, Keeps.of_below b1⟩
       · obtain ⟨o0, rfl⟩ : ∃ o0 : Nat, off = (o0 : Int) := ⟨off.toNat, by omega⟩
         have ho : o0 < 1120 := by omega
         rw [writeF_main hf.symm h2 ho]
         have hfw := (flOf_may hf.symm).2
         obtain ⟨R, hR⟩ : ∃ R, R = wRun st.bs o0 data (wPcs o0 data) ⟨L, T, f⟩ := ⟨_, rfl⟩
         obtain ⟨E, hE⟩ : ∃ E, E = wEnd (wPcs o0 data) := ⟨_, rfl⟩
         rw [← hR, ← hE]
         obtain ⟨mm, hmm⟩ : ∃ mm : Nat, min (data.length : Int) (1120 - (o0 : Int)) = (mm : Int) := ⟨(min (data.length : Int) (1120 - (o0 : Int))).toNat, by omega⟩
         have hmn : mm = min data.length (1120 - o0) := by omega
         have hm0 : 0 < mm := by omega
         have hle : o0 + mm ≤ 1120 := by omega
         have u1 : IntKind.i64.wrap (1120 - (o0 : Int)) = 1120 - (o0 : Int) := IntWalk.i64_in _ (by omega)
         have HP := Lib.hid (fun w => pieces_any o0 mm w (.inl hle) (by omega))
         obtain ⟨pcs, hpc⟩ : ∃ pcs, pcs = pieces o0 (o0 + mm) := ⟨_, rfl⟩
         have hpm : ∀ p ∈ pcs, PcOk o0 (o0 + mm) p := by rw [hpc]; exact pieces_mem hle _ o0 rfl
         have hp0 : 0 < pcs.length := by rw [hpc, pieces_step (by omega)]; simp
         have hpl : pcs.length ≤ 1120 := by
          rw [hpc]; have := pieces_length (o0 + mm) _ o0 rfl; omega
         have hw4 : wPcs o0 data = pcs.take 4 := by unfold wPcs; rw [hpc, hmn]
         rw [← hpc] at HP
         rw [hw4] at hR hE
         obtain ⟨n4, hn4⟩ : ∃ n4 : Nat, min (pcs.length : Int) 4 = (n4 : Int) := ⟨(min (pcs.length : Int) 4).toNat, by omega⟩
         have hn4' : n4 = (pcs.take 4).length := by rw [List.length_take]; omega
         have HM := Lib.hid (And.intro hpm (And.intro hp0 (And.intro hpl (And.intro hn4' (And.intro hR (And.intro hE (And.intro hfw (And.intro hle (And.intro hmn hpos)))))))))
         clear hf hfw hR hE hmn hm0 hle hpc hpm hp0 hpl hw4 hn4' h2 h1 h3 hpos
         obtain ⟨bd, od, had⟩ : ∃ bd od, ad = some ⟨bd, od, none⟩ := by
          obtain ⟨b, o, h1, _⟩ := H0.out.2.2.1
          exact ⟨b, o, h1 HM.out.2.2.2.2.2.2.2.2.2⟩
         subst had
         go_enter Tryz.func35, Tryz.ntmps35
         go_wp2_with fail
         refine wp_scope_labels (WrJ w Sd t v mp mt d reg s gb cap m st c a o0 data bd od dc pcs n4 R) (fun l a _ => 10 - (Go.RowKit.intOf (a.tmps.getD 13 undef)).toNat) ?_ ?_ ?_
         · rintro l a' w' ⟨rfl, _⟩; exact ⟨_, rfl⟩
         · rintro l rest a' w' ⟨rfl, k, q, F, gi, ci, gp, cv, hk, hrun, hT, hF, hqw, hK, hrow, ⟨A, hA, ⟨hA0, hA2, hA3, hA10, hA12, hA13, _⟩, rfl⟩⟩ hrest
           obtain rfl := (Code.seq.inj (Option.some.inj hrest)).2
           rw [frame126 A hA, hA0, hA2, hA3, hA10, hA12, hA13]
           clear hrest
           have HR := Lib.hid (And.intro hrun (And.intro hT (And.intro hF (And.intro hqw (And.intro hK hrow)))))
           clear hrun hT hF hqw hK hrow
           have hn4i : (n4 : Int) ≤ 4 := by omega
           by_cases hlt : k < n4
           · have hk4 : k < (pcs.take 4).length := by rw [← HM.out.2.2.2.1]; exact hlt
             obtain ⟨p, hp⟩ : ∃ p, p = (pcs.take 4)[k] := ⟨_, rfl⟩
             have hp' : pcs[k]? = some p := by
              rw [hp, List.getElem_take]
              exact List.getElem?_eq_getElem _
             have hok := HM.out.1 p (List.mem_of_getElem? hp')
             have hcons : (pcs.take 4).drop k = p :: (pcs.take 4).drop (k + 1) := by rw [hp]; exact List.drop_eq_getElem_cons hk4
             have hlti : (k : Int) < (n4 : Int) := by omega
             have hk2 : (k : Int) < 4 := by omega
             obtain ⟨p0, p1, p2⟩ := PcRow.at_ HR.out.2.2.2.2.2 hp'
             obtain ⟨wx, hwx⟩ : ∃ wx, wx = w'.alloc (.cells #[.int .i64 p.k, .int .i64 p.from_, .int .i64 p.to_] 174) := ⟨_, rfl⟩
             obtain ⟨G, hG⟩ : ∃ G, G = w'.heap.size := ⟨_, rfl⟩
             have hbx : Below w'.heap.size w' wx := below_alloc hwx
             have hox : objAt wx G = some (.cells #[.int .i64 p.k, .int .i64 p.from_, .int .i64 p.to_] 174 (0, 0)) := by rw [hG]; exact obj_alloc hwx
             have hTx := HR.out.2.1.below hbx
             have hFx := HR.out.2.2.1.below hbx
             have HB := Lib.hid (block_any hTx hFx H0.out.2.1 hok.k)
             have hrun := HR.out.1
             rw [hcons, wRun_cons] at hrun
             have hqw := blkF_wf (bs := st.bs) (k := p.k) HR.out.2.2.2.1
             obtain ⟨⟨br, s1⟩, hbr⟩ : ∃ x, x = blkF st.bs q p.k := ⟨_, rfl⟩
             have hbr' : blkF st.bs ⟨q.L, q.T, q.f⟩ p.k = (br, s1) := hbr.symm
             rw [hbr'] at HB
             rw [← hbr] at hrun hqw
             dsimp only at hrun HB hqw
             have hne : G ≠ F ∧ G ≠ gi ∧ G ≠ mp ∧ G ≠ mt := by
              obtain ⟨cg, hcg⟩ := HR.out.2.2.1.gi_obj
              have e1 := HR.out.2.2.1.lt
              have e2 := block_lt hcg
              have e3 := HR.out.2.1.tx.put.lt
              have e4 := HR.out.2.1.tx.tk.lt
              rw [hG]
              refine ⟨?_, ?_, ?_, ?_⟩ <;> omega
             have HX := Lib.hid (And.intro hbx (And.intro hox (And.intro hTx (And.intro hFx (And.intro hok (And.intro hrun (And.intro hqw hne)))))))
             clear hp hp' hcons hbx hox hTx hFx hok hrun hbr hbr' hqw hne hk4
             go_upto_region 15 with fail
             rw [← hwx, ← hG]
             clear hwx hG p0 p1 p2
             have q0 : wx.cell? ⟨G, 0, none⟩ = some (.int .i64 p.k) := cell_obj HX.out.2.1 0
             cases br with
             | none =>
               dsimp only at HX
               go_wp2_with (go_at_call 86; refine HB.out.mono ?_; rintro e w5 ⟨rfl, hT5, hF5, hk5⟩)
               try rw [jumps_ret]
               refine bodyPost_ret (results_two rfl (resOne_tmp _ _ _) (resOne_tmp _ _ _)) rfl ?_
               rw [← HX.out.2.2.2.2.2.1]
               exact ⟨rfl, hT5, (HR.out.2.2.2.2.1.trans (Keeps.of_below HX.out.1)).fl hk5 HR.out.2.2.1.ge HR.out.2.2.1.gi_ge⟩
             | some x =>
               dsimp only at HX
               go_upto_region 18 with (go_at_call 86; refine HB.out.mono ?_; rintro e w5 ⟨rfl, hT5, hF5, hk5⟩)
               have hox5 := hk5.obj HX.out.2.1 (fun e => by have := HX.out.2.2.2.2.2.2.2; unfold fS at e; omega)
               have HG := Lib.hid (hT5.get x)
               obtain ⟨sb, hsb⟩ : ∃ sb, sb = getB (txV s1.L st.bs) x := ⟨_, rfl⟩
               rw [← hsb] at HG
               have hK5 := (HR.out.2.2.2.2.1.trans (Keeps.of_below HX.out.1)).fl hk5 HR.out.2.2.1.ge HR.out.2.2.1.gi_ge
               have hp5 := PcRow.fl (HR.out.2.2.2.2.2.grow HX.out.1 (fun _ _ h => h)) HX.out.2.2.1 HX.out.2.2.2.1 hk5
               have H5 := Lib.hid (And.intro hT5 (And.intro hF5 (And.intro hox5 (And.intro hsb (And.intro hK5 hp5)))))
               clear hT5 hF5 hk5 hox5 hsb hK5 hp5 q0
               go_upto_region 19 with (go_at_call 26; refine HG.out.mono ?_; rintro e w6 ⟨rfl, b6⟩)
               obtain ⟨KB, hKe⟩ : ∃ KB, KB = w6.heap.size := ⟨_, rfl⟩
               obtain ⟨w7, hw7⟩ : ∃ w7, w7 = w6.alloc (.cells sb.cells 37) := ⟨_, rfl⟩
               have hb7 : Below w5.heap.size w5 w7 := grow_trans b6 (below_alloc hw7)
               have hX7 : BlkAt w7 KB sb := by rw [hKe]; exact obj_alloc hw7
               rw [← hw7, ← hKe]
               have hlt5 : w5.heap.size ≤ KB := by rw [hKe]; exact b6.size
               have hox7 := grow_obj hb7 H5.out.2.2.1
               have q0 : w7.cell? ⟨G, 0, none⟩ = some (.int .i64 p.k) := cell_obj hox7 0
               have q1 : w7.cell? ⟨G, 1, none⟩ = some (.int .i64 p.from_) := cell_obj hox7 1
               have q2 : w7.cell? ⟨G, 2, none⟩ = some (.int .i64 p.to_) := cell_obj hox7 2
               have hok := HX.out.2.2.2.2.1
               have ok1 := hok.k
               have ok2 := hok.lt
               have ok3 := hok.le
               have ok4 := hok.lo
               have ok5 := hok.hi
               have hle := HM.out.2.2.2.2.2.2.2.1
               have hmn := HM.out.2.2.2.2.2.2.2.2.1
               obtain ⟨dd, hdd⟩ : ∃ dd, dd = p.k * 56 + p.from_ - o0 := ⟨_, rfl⟩
               have hbody := slice_body KB p.from_ p.to_ ok2 ok3
               have hddl : dd < data.length := by omega
               have hdat := slice_data bd od data.length dc dd hddl H0.out.2.2.2
               have v1 : IntKind.i64.wrap ((p.k : Int) * 56) = (p.k : Int) * 56 := IntWalk.i64_in _ (by omega)
               have v2 : IntKind.i64.wrap ((p.k : Int) * 56 + (p.from_ : Int)) = (p.k : Int) * 56 + (p.from_ : Int) := IntWalk.i64_in _ (by omega)
               have v3 : IntKind.i64.wrap ((p.k : Int) * 56 + (p.from_ : Int) - (o0 : Int)) = (dd : Int) := by rw [IntWalk.i64_in _ (by omega)]; omega
               have hby : BytesAt w7 (some ⟨bd, od, none⟩) data := by
                have h5 : BytesAt w5 (some ⟨bd, od, none⟩) data := by
                 obtain ⟨b, off, e1, e2⟩ := H0.out.2.2.1
                 refine ⟨b, off, e1, fun i hi => ?_⟩
                 have hc := e2 i hi
                 have n1 := H0.out.1.tx.put.neCellAt hc
                 have n2 := H0.out.1.tx.tk.neCellAt hc
                 rw [← hc]
                 exact World.cell?_of_block (H5.out.2.2.2.2.1.block b (World.block_lt_of_cell? _ _ hc) (fun e => e.elim n1 n2))
                exact h5.below hb7
               have Hn := Lib.hid (show p.to_ - p.from_ ≤ (data.drop dd).length by rw [List.length_drop]; omega)
               have H7 := Lib.hid (And.intro hb7 (And.intro hX7 (And.intro hlt5 (And.intro hox7 (And.intro hby (And.intro hdd (And.intro ok2 (And.intro ok3 hddl))))))))
               clear hb7 hX7 hlt5 hox7 hby hdd hddl hok ok1 ok2 ok3 ok4 ok5 hle hmn hw7 hKe b6
               refine wp_region_F [16] (S := fun w' => w'.cell? ⟨G, 0, none⟩ = some (.int .i64 p.k) ∧ w'.cell? ⟨G, 1, none⟩ = some (.int .i64 p.from_) ∧ w'.cell? ⟨G, 2, none⟩ = some (.int .i64 p.to_) ∧ True) (by kernel_rfl) (⟨q0, q1, q2, trivial⟩) (fun hHeld => ?_)
               show wpAnyF _ _ _ _ _ _ 17 #[false, false, false, false, false, false, false, false, false, false, false, false, false, false, false, false, false] _ _
               refine gF 0 [0, 5, 16] ?_; try simp only [Act.put, qs]
               refine gF 1 [1, 2, 5, 16] ?_; try simp only [Act.put, qs]
               refine gF 2 [2, 5, 16] ?_; try simp only [Act.put, qs]
               refine gF 3 [3, 4, 5, 16] ?_; try simp only [Act.put, qs]
               refine gF 4 [4, 5, 16] ?_; try simp only [Act.put, qs]
               refine gF 5 [5, 16] ?_; try simp only [Act.put, qs]
               refine gF 6 [6, 15, 16] ?_; try simp only [Act.put, qs]
               refine gF 7 [7, 8, 9, 12, 14, 15, 16] ?_; try simp only [Act.put, qs]
               refine gF 8 [8, 9, 12, 14, 15, 16] ?_; try simp only [Act.put, qs]
               refine gF 9 [9, 12, 14, 15, 16] ?_; try simp only [Act.put, qs]
               refine gF 10 [10, 11, 12, 14, 15, 16] ?_; try simp only [Act.put, qs]
               refine gF 11 [11, 12, 14, 15, 16] ?_; try simp only [Act.put, qs]
               refine gF 12 [12, 14, 15, 16] ?_; try simp only [Act.put, qs]
               refine gF 13 [13, 14, 15, 16] ?_; try simp only [Act.put, qs]
               refine gF 14 [14, 15, 16] ?_; try simp only [Act.put, qs]
               refine gF 15 [15, 16] ?_; try simp only [Act.put, qs]
               refine gV 16 fun K hK => ?_
               refine step_copyAt rfl _ _ rfl rfl rfl (by rw [List.length_drop]) (show BlkAt w7.drew KB sb from H7.out.2.1) (show BytesAt w7.drew _ _ from BytesAt.drop H7.out.2.2.2.2.1 (by have := H7.out.2.2.2.2.2.2.2.2; omega)) (by have := H7.out.2.2.2.2.2.2.1; have := H7.out.2.2.2.2.2.2.2.1; omega) Hn.out ?_
               refine hK.out _ _ (trivial) (fun hN => ?_); replace hHeld := hN; clear hK K hN
               try simp only [Act.put, qs]
               refine wpAnyF_done (by kernel_rfl) ?_ _
               obtain ⟨cb, hcb⟩ : ∃ cb, cb = sb.cover p.from_ ((data.drop dd).take (p.to_ - p.from_)) := ⟨_, rfl⟩
               rw [← hcb]
               have hX8 : BlkAt (w7.drew.setRow KB cb.cells) KB cb := BlkAt.setRow (w := w7.drew) H7.out.2.1 cb
               have hb8 : Below w5.heap.size w5 (w7.drew.setRow KB cb.cells) := H7.out.1.drew.setRow H7.out.2.2.1 _
               obtain ⟨w8, hw8⟩ : ∃ w8, w8 = w7.drew.setRow KB cb.cells := ⟨_, rfl⟩
               rw [← hw8] at hX8 hb8 ⊢
               have hT8 := H5.out.1.below hb8
               have HP8 := Lib.hid (hT8.putC x cb)
               have i1 := hX8.has
               have i2 := hX8.row
               have H8 := Lib.hid (And.intro hb8 (And.intro hT8 hcb))
               clear hX8 hb8 hT8 hcb hw8 hHeld q0 q1 q2 hbody hdat v1 v2 v3
               go_wp2_with (go_at_call 24; refine HP8.out.mono ?_; rintro e w9 ⟨rfl, hk9, hT9⟩)
               have hF9 := (H5.out.2.1.below H8.out.1).tx H8.out.2.1 hk9
               have hp9 := PcRow.fl (F := F) (gi := gi) (H5.out.2.2.2.2.2.grow H8.out.1 (fun _ _ h => h)) H8.out.2.1 (H5.out.2.1.below H8.out.1) (hk9.mono fun _ _ e => .inr (.inr e))
               have hK9 : Keeps (fun q => q = mp ∨ q = mt) w w9 := (H5.out.2.2.2.2.1.trans (Keeps.of_below H8.out.1)).trans hk9
               have H9 := Lib.hid (And.intro hF9 (And.intro hp9 (And.intro hK9 hT9)))
               clear hF9 hp9 hK9 hT9 hk9
               have hrun9 : wRun st.bs o0 data ((pcs.take 4).drop (k + 1)) ⟨putL s1.L st.bs x cb, s1.T, s1.f⟩ = R := by
                have := HX.out.2.2.2.2.2.1
                rw [← this, H8.out.2.2, H7.out.2.2.2.2.2.1, H5.out.2.2.2.1]; rfl
               have hqw9 : s1.f.n.wf := HX.out.2.2.2.2.2.2.1
               have Hr9 := Lib.hid (And.intro hrun9 hqw9)
               clear hrun9 hqw9
               go_step3
               refine ⟨⟨rfl, k + 1, ⟨putL s1.L st.bs x cb, s1.T, s1.f⟩, F, gi, ci, gp, cv, by omega, Hr9.out.1, H9.out.2.2.2, H9.out.1, Hr9.out.2, H9.out.2.2.1, H9.out.2.1, ⟨_, rfl, ⟨rfl, rfl, rfl, rfl, rfl, rfl, trivial⟩, rfl⟩⟩, ?_⟩
               simp [Go.RowKit.intOf]; omega
           · obtain rfl : k = n4 := by omega
             have h0k : 0 < k := by rw [HM.out.2.2.2.1, List.length_take]; have := HM.out.2.1; omega
             obtain ⟨z, hz⟩ : ∃ z, z = k - 1 := ⟨_, rfl⟩
             have hz4 : z < (pcs.take 4).length := by rw [← HM.out.2.2.2.1]; omega
             obtain ⟨p, hp⟩ : ∃ p, p = (pcs.take 4)[z] := ⟨_, rfl⟩
             have hp' : pcs[z]? = some p := by
              rw [hp, List.getElem_take]
              exact List.getElem?_eq_getElem _
             have hE : E = p.k * 56 + p.to_ := by
              rw [HM.out.2.2.2.2.2.1]
              unfold wEnd
              have : (pcs.take 4).getLast? = some p := by
               rw [List.getLast?_eq_getElem?, ← HM.out.2.2.2.1, ← hz, hp]
               exact List.getElem?_eq_getElem _
              rw [this]
             have hok := HM.out.1 p (List.mem_of_getElem? hp')
             have hrun : R = (true, q) := by
              have := HR.out.1
              rw [List.drop_of_length_le (by rw [← HM.out.2.2.2.1]; exact Nat.le_refl _)] at this
              exact this.symm
             obtain ⟨p0, p1, p2⟩ := PcRow.at_ HR.out.2.2.2.2.2 hp'
             have z1 : (k : Int) - 1 = (z : Int) := by omega
             have z2 : IntKind.i64.wrap ((k : Int) - 1) = (z : Int) := by rw [IntWalk.i64_in _ (by omega)]; exact z1
             have z3 : (z : Int) < (k : Int) := by omega
             have z4 : (0 : Int) ≤ (z : Int) := Int.natCast_nonneg _
             have ok1 := hok.k
             have ok2 := hok.hi
             have ok3 := HM.out.2.2.2.2.2.2.2.1
             have ok4 := hok.lo
             have ok5 := hok.lt
             obtain ⟨wx, hwx⟩ : ∃ wx, wx = w'.alloc (.cells #[.int .i64 p.k, .int .i64 p.from_, .int .i64 p.to_] 174) := ⟨_, rfl⟩
             obtain ⟨G, hG⟩ : ∃ G, G = w'.heap.size := ⟨_, rfl⟩
             have hbx : Below w'.heap.size w' wx := below_alloc hwx
             have hox : objAt wx G = some (.cells #[.int .i64 p.k, .int .i64 p.from_, .int .i64 p.to_] 174 (0, 0)) := by rw [hG]; exact obj_alloc hwx
             have hTx := HR.out.2.1.below hbx
             have hFx := HR.out.2.2.1.below hbx
             have hKx : Keeps (fun q => q = mp ∨ q = mt) w wx := HR.out.2.2.2.2.1.trans (Keeps.of_below hbx)
             have v1 : IntKind.i64.wrap ((p.k : Int) * 56) = (p.k : Int) * 56 := IntWalk.i64_in _ (by omega)
             have v2 : IntKind.i64.wrap ((p.k : Int) * 56 + (p.to_ : Int)) = (E : Int) := by rw [IntWalk.i64_in _ (by omega)]; omega
             have v3 : IntKind.i64.wrap ((E : Int) - (o0 : Int)) = (E : Int) - (o0 : Int) := IntWalk.i64_in _ (by omega)
             have HX := Lib.hid (And.intro hox (And.intro hTx (And.intro hFx (And.intro hKx hrun))))
             clear hp hp' hE hok hrun hz hz4 hbx hox hTx hFx hKx z1 ok1 ok2 ok3 ok4 ok5 hlt h0k
             go_upto_region 23 with fail
             rw [← hwx, ← hG]
             clear hwx hG p0 p1 p2 z2 z3
             have q0 : wx.cell? ⟨G, 0, none⟩ = some (.int .i64 p.k) := cell_obj HX.out.1 0
             have q2 : wx.cell? ⟨G, 2, none⟩ = some (.int .i64 p.to_) := cell_obj HX.out.1 2
             have e4 : wx.cell? ⟨F, 4, none⟩ = some (.int .i64 q.f.n.size) := HX.out.2.2.1.c 4
             have z4' : wx.frozen? ⟨F, 4, none⟩ = false := free_obj HX.out.2.2.1.obj 4
             obtain ⟨M, hM⟩ : ∃ M, M = max q.f.n.size (E : Int) := ⟨_, rfl⟩
             have hF5 := HX.out.2.2.1.putSize M
             have hk5 : Keeps (fun r => r = F ∨ r = gi) wx (wx.setCell ⟨F, 4, none⟩ (.int .i64 M)) := Keeps.setCell _ _ _ (.inl rfl)
             have hT5 := HX.out.2.1.fl HX.out.2.2.1 H0.out.2.1 hk5
             obtain ⟨w5, hw5⟩ : ∃ w5, w5 = wx.setCell ⟨F, 4, none⟩ (.int .i64 M) := ⟨_, rfl⟩
             have hK5 := HX.out.2.2.2.1.fl (hk5.mono (S' := fS F gi mp mt) fun _ _ e => e.elim .inl fun e => .inr (.inl e)) HX.out.2.2.1.ge HX.out.2.2.1.gi_ge
             rw [← hw5] at hF5 hT5 hK5
             have hqw5 : (q.f.sized M).n.wf := ⟨HR.out.2.2.2.1.1, HR.out.2.2.2.1.2, HR.out.2.2.2.1.3⟩
             have HKp := Lib.hid (keep_any hT5 hF5 hqw5)
             have H5 := Lib.hid (And.intro hK5 hM)
             go_upto_region 25 with fail
             rw [← hM, ← hw5]
             clear hM hw5 hF5 hT5 hK5 hqw5 hk5 q0 q2 e4 z4'
             go_wp2_with (go_at_call 87; refine HKp.out.mono ?_; rintro e w6 ⟨rfl, hk6, hT6⟩)
             try rw [jumps_ret]
             refine bodyPost_ret (results_two rfl (resOne_tmp _ _ _) (resOne_tmp _ _ _)) rfl ?_
             rw [HX.out.2.2.2.2]
             unfold wOut
             dsimp only
             rw [← H5.out.2]
             exact ⟨rfl, hT6, H5.out.1.trans hk6⟩
         · intro hfall
           have HFl := Lib.hid hfall
           clear hfall
           go_upto_region 10 with (go_at_call 84; refine HO.out.mono ?_; rintro e w1 ⟨b1, F, gi, ci, rfl, hF⟩)
           have H1 := Lib.hid (And.intro b1 hF)
           clear b1 hF
           go_upto_region 11 with (go_at_call 85; refine (HP.out _).mono ?_; rintro e w2 ⟨u, rfl, hu, b2⟩; obtain ⟨gp, cv, hv⟩ := RowG.form hu HM.out.2.1; subst hv)
           have hcv : (n4 : Int) ≤ (cv : Int) := by
            have h1 := RowG.capGe hu
            omega
           have H2 := Lib.hid (And.intro hu b2)
           clear hu b2 hmm u1
           have hn4r := hn4
           go_upto_region 13 with fail
           go_step3
           simp only [Exit.then]
           go_step
           refine HFl.out 0 _ _ _ ?_ rfl
           have hb := grow_trans H1.out.1 H2.out.2
           refine ⟨rfl, 0, ⟨L, T, f⟩, F, gi, ci, gp, cv, Nat.zero_le _, by rw [List.drop_zero]; exact HM.out.2.2.2.2.1.symm, H0.out.1.below hb, H1.out.2.below H2.out.2, HM.out.2.2.2.2.2.2.1, Keeps.of_below hb, RowG.mono H2.out.1 (fun g hg => Nat.le_trans H1.out.1.size hg), ⟨_, rfl, ⟨rfl, rfl, rfl, rfl, rfl, rfl, trivial⟩, rfl⟩⟩
end
end
end Go.Proofs.YtbbnejehglonjaaGreat
