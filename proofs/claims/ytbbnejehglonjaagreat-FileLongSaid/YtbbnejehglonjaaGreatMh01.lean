/- DERIVED. Contracts and laws that the proofs of this seat share, part 1 of 36: Ref1B. -/
import Derived.Deep.DeepCutAuto
import Derived.Deep.QuietTactic
import Derived.BigQuiet
import Derived.Test.YtbbnejehglonjaaGreatMh00
namespace Go.Proofs.YtbbnejehglonjaaGreat
set_option maxHeartbeats 8000000
set_option maxRecDepth 100000
set_option linter.unusedSimpArgs false
set_option linter.unusedVariables false
section
open Go.RowKit
attribute [local go_sem] hasBlk
def Nd.cells (n : Nd) : Array Value := #[.int .u32 n.gen, .int .i64 n.links, .int .i64 n.size, .int .i64 n.d0, .int .i64 n.d1, .int .i64 n.d2, .int .i64 n.d3, .int .i64 n.index, .string n.target]
structure Nd.wf (n : Nd) : Prop where
 gen0 : 0 ≤ n.gen
 gen1 : n.gen ≤ 4294967295
 long : n.target.size ≤ 1000000

theorem elemInt : Elem1 Tryz.prog 33 3 8 := .mk' Tryz.underlying33 (z := .int .i64 0) (by kernel_rfl) rfl (by decide)
theorem owns_none {w : World} {base : Nat} {e : TypeId} {g : Nat} (h : objAt w g = some (.cells #[] e (0, 0))) (hb : base ≤ g) : w.ownsRow base e 1 (.slice (some ⟨g, 0, none⟩) 0 0) 0 [] :=
 ⟨rfl, .inr ⟨g, 0, #[], rfl, hb, h, Nat.le_refl _, by decide, rfl, rfl⟩⟩
theorem news_mid {w : World} {B off m : Nat} {cs : Array Value} {t : TypeId} {fr : Nat × Nat} {news : List Value} (hb : objAt w B = some (.cells cs t fr)) (h : news = (cs.toList.drop off).take m) :
 ∀ j u, news[j]? = some u → w.cell? ((⟨B, off, none⟩ : Addr).add j) = some u := fun j u hu => by
 have hadd : (⟨B, off, none⟩ : Addr).add j = ⟨B, off + j, none⟩ := by unfold Addr.add; split <;> simp_all
 rw [hadd, cell_of_row w B (off + j) cs t fr hb]
 rw [h] at hu
 simp only [List.getElem?_take, List.getElem?_drop] at hu
 split at hu
 · simpa using hu
 · cases hu

theorem mayAt_any (a : Int) (w : World) : Calls Tryz.prog 152 #[.int .i64 a] w fun e w' => e = .returned (.bool (okAt a)) ∧ w = w' := by
 by_cases h1 : 1 ≤ a
 · by_cases h2 : a < 200
   · have Hr := Lib.hid (show okAt a = true by simp [okAt, h1, h2])
     go_enter Tryz.func152, Tryz.ntmps152
     go_wp2_with fail
     go_ret
     exact ⟨by rw [Hr.out]; rfl, rfl⟩
   · have Hr := Lib.hid (show okAt a = false by simp [okAt, h2])
     go_enter Tryz.func152, Tryz.ntmps152
     go_wp2_with fail
     go_ret
     exact ⟨by rw [Hr.out]; rfl, rfl⟩
 · have Hr := Lib.hid (show okAt a = false by simp [okAt, h1])
   go_enter Tryz.func152, Tryz.ntmps152
   go_wp2_with fail
   go_ret
   exact ⟨by rw [Hr.out]; rfl, rfl⟩

theorem MayTarget_any (s : ByteArray) (w : World) (hs : s.size ≤ 1000000) : Calls Tryz.prog 78 #[.string s] w fun e w' => e = .returned (.bool (mayTarget s.data.toList)) ∧ w = w' := by
 have hlen : s.data.toList.length = s.size := by simp
 have Hlen := Lib.hid hlen
 clear hlen
 go_enter Tryz.func78, Tryz.ntmps78
 go_wp2_with fail
 go_loop [3] (fun i => ∃ k : Nat, k ≤ s.size ∧ i = .int .i64 k ∧ (s.data.toList.take k).any (fun c => badSign c.toNat) = false) (fun i => s.size - (intOf i).toNat)
 case atStart => exact ⟨0, Nat.zero_le _, rfl, rfl⟩
 case round =>
  obtain ⟨k, hk, rfl, hnb⟩ := hrel
  have Hnb := Lib.hid hnb
  clear hnb
  by_cases hlt : k < s.size
  · have hget : s.data.toList[k]'(by rw [Hlen.out]; exact hlt) = s[k] := rfl
    rcases badSign_cases (s[k]).toNat with ⟨hb, h1⟩ | ⟨hb, h1, h2⟩ | ⟨hb, h1, h2⟩
    · have Hbad := Lib.hid (mayTarget_bad (any_at (p := fun c => badSign c.toNat) (l := s.data.toList) (by rw [Hlen.out]; exact hlt) (by rw [hget]; exact hb)))
      clear hget hb
      go_wp2_with fail
      go_ret
      exact ⟨by rw [Hbad.out]; rfl, rfl⟩
    · have Hbad := Lib.hid (mayTarget_bad (any_at (p := fun c => badSign c.toNat) (l := s.data.toList) (by rw [Hlen.out]; exact hlt) (by rw [hget]; exact hb)))
      clear hget hb
      go_wp2_with fail
      go_ret
      exact ⟨by rw [Hbad.out]; rfl, rfl⟩
    · have Hstep := Lib.hid (any_take_false (p := fun c => badSign c.toNat) (l := s.data.toList) Hnb.out (by rw [Hlen.out]; exact hlt) (by rw [hget]; exact hb))
      clear hget hb
      go_wp2_with fail
      go_round
      case rel => exact ⟨k + 1, by omega, by go_num, Hstep.out⟩
      case measure => simp [intOf]; omega
  · have hall := Hnb.out
    rw [List.take_of_length_le (by rw [Hlen.out]; omega)] at hall
    have Hr := Lib.hid (show mayTarget s.data.toList = (decide (1 ≤ s.size) && decide (s.size ≤ 32)) by unfold mayTarget; rw [hall, Hlen.out]; rfl)
    clear hall
    by_cases h3 : 1 ≤ s.size
    · by_cases h4 : s.size ≤ 32
      · have Hx := Lib.hid (show mayTarget s.data.toList = decide ((s.size : Int) ≤ 32) by rw [Hr.out]; simp [h3]; omega)
        go_wp2_with fail
        go_ret
        exact ⟨by rw [Hx.out]; rfl, rfl⟩
      · have Hx := Lib.hid (show mayTarget s.data.toList = decide ((s.size : Int) ≤ 32) by rw [Hr.out]; simp [h3]; omega)
        go_wp2_with fail
        go_ret
        exact ⟨by rw [Hx.out]; rfl, rfl⟩
    · have Hx := Lib.hid (show mayTarget s.data.toList = false by rw [Hr.out]; simp; omega)
      go_wp2_with fail
      go_ret
      exact ⟨by rw [Hx.out]; rfl, rfl⟩

def Nd.box (n : Nd) : Obj := .cells n.cells 165 (0, 0)
theorem Nd.places_length (n : Nd) : n.places.length = 5 := rfl
def okPre (l : List Int) (k : Nat) : Prop := ∀ j, j < k → okNew (l.take j) (l.getD j 0) = true
theorem okPre_succ {l : List Int} {k : Nat} (h : okPre l k) (h2 : okNew (l.take k) (l.getD k 0) = true) : okPre l (k + 1) := fun j hj => by
 rcases Nat.lt_succ_iff_lt_or_eq.1 hj with h' | rfl
 · exact h j h'
 · exact h2
theorem none5_succ {l : List Int} {k : Nat} (h : k < l.length) : none5 (l.take (k + 1)) = (none5 (l.take k) && (l.getD k 0 == -1)) := by
 rw [List.take_succ_eq_append_getElem h]
 simp only [none5, List.all_append, List.all_cons, List.all_nil, Bool.and_true, List.getD_eq_getElem?_getD, List.getElem?_eq_getElem h, Option.getD_some]
theorem placesOk_all {l : List Int} (h : okPre l l.length) : placesOk l = true := placesOk_iff.2 fun k hk => h k hk
theorem mayNode_eq {kind : Int} {n : Nd} (h1 : 1 ≤ n.gen) (h2 : 0 ≤ n.links) (h3 : n.links ≤ 1000) : mayNode kind n = (placesOk n.places && kindOk kind n) := by
 simp [mayNode, h1, h2, h3]

theorem okNew_none (pre : List Int) : okNew pre (-1) = true := by simp [okNew]
theorem okNew_good {l : List Int} {k : Nat} {x : Int} (hk : k ≤ l.length) (h1 : okAt x = true) (h2 : ∀ j, j < k → l.getD j 0 ≠ x) : okNew (l.take k) x = true := by
 have : (l.take k).contains x = false := by
  rw [← Bool.not_eq_true, List.contains_iff_mem]
  intro hmem
  obtain ⟨j, hj, he⟩ := List.getElem_of_mem hmem
  rw [List.length_take] at hj
  refine h2 j (by omega) ?_
  rw [← he, List.getElem_take, List.getD_eq_getElem?_getD, List.getElem?_eq_getElem (by omega)]; rfl
 simp only [okNew, h1, this, Bool.not_false, Bool.and_true, Bool.or_true]
theorem okNew_bad {pre : List Int} {x : Int} (h0 : (x == -1) = false) (h1 : okAt x = false) : okNew pre x = false := by simp [okNew, h0, h1]
theorem okNew_twice {l : List Int} {k j : Nat} {x : Int} (h0 : (x == -1) = false) (hj : j < k) (hk : k ≤ l.length) (h : l.getD j 0 = x) : okNew (l.take k) x = false := by
 have : (l.take k).contains x = true := by
  rw [List.contains_iff_mem]
  refine List.mem_of_getElem (i := j) (h := by rw [List.length_take]; omega) ?_
  rw [List.getElem_take]
  rw [List.getD_eq_getElem?_getD, List.getElem?_eq_getElem (by omega)] at h
  exact h
 simp only [okNew, h0, this, Bool.not_true, Bool.and_false, Bool.or_false]

structure PlaceRow (w wr : World) (G g : Nat) (n : Nd) : Prop where
 grow : Below w.heap.size w wr
 box : objAt wr G = some n.box
 at_ : ∀ j, (h : j < 5) → wr.cell? ⟨g, j, none⟩ = some (.int .i64 (n.places.getD j 0))
theorem PlaceRow.on {w wr wx : World} {G g : Nat} {n : Nd} (h : PlaceRow w wr G g n) (hb : Below wr.heap.size wr wx) : PlaceRow w wx G g n :=
 ⟨grow_trans h.grow hb, grow_obj hb h.box, fun j hj => grow_cell hb (h.at_ j hj)⟩
def drewN (w : World) (n : Nat) : World := { w with drawn := n }
theorem PlaceRow.drawn {w wr : World} {G g : Nat} {n : Nd} (h : PlaceRow w wr G g n) (k : Nat) : PlaceRow w { wr with drawn := k } G g n :=
 ⟨⟨h.grow.os, h.grow.tape, h.grow.output, h.grow.size, h.grow.block⟩, h.box, h.at_⟩
theorem PlaceRow.cell {w wr : World} {G g : Nat} {n : Nd} (h : PlaceRow w wr G g n) (i : Nat) : wr.cell? ⟨G, i, none⟩ = n.cells[i]? := cell_of_row wr G i _ _ _ h.box

theorem MayNode_any (kind : Int) (n : Nd) (w : World) (hn : n.wf) : Calls Tryz.prog 140 #[.int .i64 kind, .agg n.cells] w fun e w' => e = .returned (.bool (mayNode kind n)) ∧ Below w.heap.size w w' := by
 obtain ⟨N, hN⟩ : ∃ N, N = n := ⟨n, rfl⟩
 rw [← hN]
 have HN := Lib.hid hN
 clear hN
 obtain ⟨gen, links, size, d0, d1, d2, d3, index, t⟩ := n
 obtain ⟨hg0, hg1, hl⟩ := hn
 dsimp only at hg0 hg1 hl
 rw [show N.cells = #[.int .u32 gen, .int .i64 links, .int .i64 size, .int .i64 d0, .int .i64 d1, .int .i64 d2, .int .i64 d3, .int .i64 index, .string t] by rw [HN.out]; rfl]
 by_cases hall : 1 ≤ gen ∧ 0 ≤ links ∧ links ≤ 1000
 · obtain ⟨ha, hb, hc⟩ := hall
   have Heq := Lib.hid (show mayNode kind N = (placesOk N.places && kindOk kind N) by rw [HN.out]; exact mayNode_eq ha hb hc)
   go_enter Tryz.func140, Tryz.ntmps140
   go_upto_region 3 with (fail)
   obtain ⟨W0, hW0⟩ : ∃ W0, W0 = w.alloc (.cells #[.int .u32 gen, .int .i64 links, .int .i64 size, .int .i64 d0, .int .i64 d1, .int .i64 d2, .int .i64 d3, .int .i64 index, .string t] 165) := ⟨_, rfl⟩
   rw [← hW0]
   obtain ⟨G, hG⟩ : ∃ G, G = w.heap.size := ⟨_, rfl⟩
   rw [← hG]
   have ho : objAt W0 G = some (.cells #[.int .u32 gen, .int .i64 links, .int .i64 size, .int .i64 d0, .int .i64 d1, .int .i64 d2, .int .i64 d3, .int .i64 index, .string t] 165 (0, 0)) := by rw [hW0, objAt_alloc, if_pos hG]
   have hc7 : W0.cell? ⟨G, 7, none⟩ = some (.int .i64 index) := by rw [cell_of_row W0 G 7 _ _ _ ho]; rfl
   have hw : Below w.heap.size w W0 := by rw [hW0]; exact (Below.refl _ _).alloc (Nat.le_refl _) _
   have HW := Lib.hid (And.intro hW0 (And.intro hG (And.intro ho hw)))
   clear hW0 hG ho hw
   go_cut [5] (fun s5 wx => ∃ g cap, s5 = .slice (some ⟨g, 0, none⟩) 5 cap ∧ PlaceRow w wx G g N)
   case first =>
    have hS : ∀ w', Below W0.heap.size W0 w' → (w'.cell? ⟨G, 7, none⟩ = some (.int .i64 index) ∧ Below W0.heap.size W0 w') := fun w' hb => ⟨grow_cell hb hc7, hb⟩
    have hB0 := Below.refl W0.heap.size W0
    go_region_held3 (fun w' => w'.cell? ⟨G, 7, none⟩ = some (.int .i64 index) ∧ Below W0.heap.size W0 w')
     (exact hS _ (by go_split_ands; first | assumption | (exact grow_drew (by assumption)) | (exact grow_alloc (by assumption) _) | (exact grow_drew (grow_alloc (by assumption) _)) | (exact grow_alloc (grow_drew (by assumption)) _) | (exact Below.trans (by assumption) hbel) | (exact Below.trans (by assumption) hbel2)))
     (first | ((refine step_at 25 ?_; refine step_app elemInt (by rfl) (.tmp 22) (.tmp 24) (by rfl) (base := W0.heap.size) (by rfl) (owns_none (by first | (simp [objAt_alloc, objAt_drew]; done) | (go_split_ands; simp [objAt_alloc, objAt_drew, *]; done)) (by simp)) ⟨G, 3, none⟩ 4 _ [.int .i64 d0, .int .i64 d1, .int .i64 d2, .int .i64 d3] (by rfl) rfl (news_mid (m := 4) (grow_obj (by go_split_ands; assumption) HW.out.2.2.1) rfl) (by simp [Value.oneCell']) (by omega) (by omega) (by go_split_ands; exact grow_le (by assumption)) ?_; intro g cap w1 hown hgrow hlt hbel)) | ((refine step_at 29 ?_; refine step_app elemInt (by rfl) (.tmp 25) (.tmp 28) (by rfl) (base := W0.heap.size) (by rfl) (by first | exact hown | exact hown.alloc _) ⟨_, 0, none⟩ 1 _ [.int .i64 index] (by rfl) rfl (news_mid (m := 1) (cs := #[.int .i64 index]) (t := 3) (fr := (0, 0)) (by first | (simp [objAt_alloc]; done) | (rw [objAt_grown hgrow (by simp only [World.size_drew, World.size_alloc]; omega) (by simp [Value.ownBlock])]; simp [objAt_alloc, objAt_drew]; done)) rfl) (by simp [Value.oneCell']) (by omega) (by omega) (by go_split_ands; exact grow_le (by assumption)) ?_; intro g2 cap2 w2 hown2 hgrow2 hlt2 hbel2; have hfin : Below W0.heap.size W0 w2 := Below.trans (by go_split_ands; assumption) hbel2)))
    all_goals clear hgrow hgrow2 hbel hown
    all_goals go_wp2_with fail
    all_goals go_meet
    all_goals (refine ⟨g2, cap2, rfl, ⟨grow_trans HW.out.2.2.2 hfin, ?_, ?_⟩⟩)
    all_goals first | (rw [HN.out]; exact grow_obj hfin HW.out.2.2.1) | skip
    all_goals
     rw [HN.out]
     intro j hj
     rw [hown2.cellAt j (by omega)]
     match j, hj with
     | 0, _ => rfl
     | 1, _ => rfl
     | 2, _ => rfl
     | 3, _ => rfl
     | 4, _ => rfl
   case rest =>
    obtain ⟨g, cap, rfl, hrow⟩ := hcut
    clear hc7
    have Hn := Lib.hid (And.intro hg0 (And.intro hg1 hl))
    clear HW hg0 hg1 hl
    go_wp2_with fail
    go_loopw [6, 7] (fun s6 s7 wr => ∃ k : Nat, k ≤ 5 ∧ s7 = .int .i64 k ∧ s6 = .bool (none5 (N.places.take k)) ∧ okPre N.places k ∧ PlaceRow w wr G g N) (fun _ i _ => 5 - (intOf i).toNat)
    case atStart => exact ⟨0, Nat.zero_le _, rfl, rfl, fun j hj => by omega, hrow⟩
    case round =>
     clear hrow
     obtain ⟨k, hk, rfl, rfl, hpre, hrow⟩ := hrel
     by_cases hlt : k < 5
     · have hcell := hrow.at_ k hlt
       have Hnone := Lib.hid (none5_succ (l := N.places) (k := k) hlt)
       have Hpre := Lib.hid hpre
       have Hrow := Lib.hid hrow
       clear hpre hrow
       obtain ⟨x, hx⟩ : ∃ x, x = N.places.getD k 0 := ⟨_, rfl⟩
       rw [← hx] at hcell
       have Hx := Lib.hid hx
       clear hx
       generalize hnn : none5 (N.places.take k) = nn
       have Hnn := Lib.hid hnn
       clear hnn
       by_cases hm : x = -1
       · have e1 : (x == -1) = true := by simpa using hm
         have e1' : (x != -1) = false := by rw [bne, e1]; rfl
         clear hm
         cases nn
         · go_wp2_with fail
           go_loopw [8] (fun s8 wi => ∃ m : Nat, m ≤ k ∧ s8 = .int .i64 m ∧ ((x == -1) = false → ∀ j, j < m → N.places.getD j 0 ≠ x) ∧ PlaceRow w wi G g N) (fun i _ => k - (intOf i).toNat)
           case atStart => exact ⟨0, Nat.zero_le _, rfl, fun _ j hj => by omega, Hrow.out⟩
           case round =>
            obtain ⟨m, hmk, rfl, hno, hrowi⟩ := hrel
            by_cases hlm : m < k
            · have hcm := hrowi.at_ m (by omega)
              have hck := hrowi.at_ k hlt
              rw [← Hx.out] at hck
              obtain ⟨y, hy⟩ : ∃ y, y = N.places.getD m 0 := ⟨_, rfl⟩
              rw [← hy] at hcm
              have Hy := Lib.hid hy
              have Hno := Lib.hid hno
              have Hrowi := Lib.hid hrowi
              clear hy hno hrowi hcell
              have i0 : (0 : Int) ≤ (m : Int) := Int.natCast_nonneg _
              have i1 : (m : Int) < 5 := by omega
              have i2 : (0 : Int) ≤ (k : Int) := Int.natCast_nonneg _
              have i3 : (k : Int) < 5 := by omega
              go_wp2_with fail
              go_quiet (fail)
              go_wp2_with fail
              go_roundw
              case rel => exact ⟨m + 1, by omega, by go_num, (fun h => by rw [e1] at h; cases h), Hrowi.out.drawn _⟩
              case measure => simp [intOf]; omega
            · have Hno := Lib.hid hno
              have Hrowi := Lib.hid hrowi
              clear hno hrowi hcell
              go_wp2_with fail
              go_roundw
              case rel =>
               obtain rfl : m = k := by omega
               refine ⟨m + 1, by omega, by go_num, ?_, okPre_succ Hpre.out ?_, Hrowi.out⟩
               · rw [Hnone.out, Hnn.out, ← Hx.out, e1]; rfl
               · rw [← Hx.out]; rw [show x = -1 by simpa using e1]; exact okNew_none _
              case measure => simp [intOf]; omega
         · go_wp2_with fail
           go_loopw [8] (fun s8 wi => ∃ m : Nat, m ≤ k ∧ s8 = .int .i64 m ∧ ((x == -1) = false → ∀ j, j < m → N.places.getD j 0 ≠ x) ∧ PlaceRow w wi G g N) (fun i _ => k - (intOf i).toNat)
           case atStart => exact ⟨0, Nat.zero_le _, rfl, fun _ j hj => by omega, Hrow.out⟩
           case round =>
            obtain ⟨m, hmk, rfl, hno, hrowi⟩ := hrel
            by_cases hlm : m < k
            · have hcm := hrowi.at_ m (by omega)
              have hck := hrowi.at_ k hlt
              rw [← Hx.out] at hck
              obtain ⟨y, hy⟩ : ∃ y, y = N.places.getD m 0 := ⟨_, rfl⟩
              rw [← hy] at hcm
              have Hy := Lib.hid hy
              have Hno := Lib.hid hno
              have Hrowi := Lib.hid hrowi
              clear hy hno hrowi hcell
              have i0 : (0 : Int) ≤ (m : Int) := Int.natCast_nonneg _
              have i1 : (m : Int) < 5 := by omega
              have i2 : (0 : Int) ≤ (k : Int) := Int.natCast_nonneg _
              have i3 : (k : Int) < 5 := by omega
              go_wp2_with fail
              go_quiet (fail)
              go_wp2_with fail
              go_roundw
              case rel => exact ⟨m + 1, by omega, by go_num, (fun h => by rw [e1] at h; cases h), Hrowi.out.drawn _⟩
              case measure => simp [intOf]; omega
            · have Hno := Lib.hid hno
              have Hrowi := Lib.hid hrowi
              clear hno hrowi hcell
              go_wp2_with fail
              go_roundw
              case rel =>
               obtain rfl : m = k := by omega
               refine ⟨m + 1, by omega, by go_num, ?_, okPre_succ Hpre.out ?_, Hrowi.out⟩
               · rw [Hnone.out, Hnn.out, ← Hx.out, e1]; rfl
               · rw [← Hx.out]; rw [show x = -1 by simpa using e1]; exact okNew_none _
              case measure => simp [intOf]; omega
       · have e1 : (x == -1) = false := by simpa using hm
         have e1' : (x != -1) = true := by rw [bne, e1]; rfl
         clear hm
         cases hok : okAt x
         · have Hf := Lib.hid (show mayNode kind N = false by rw [Heq.out, placesOk_not k (by rw [Nd.places_length]; omega) (by rw [← Hx.out]; exact okNew_bad e1 hok)]; rfl)
           go_wp2_with (go_at_call 152; refine (mayAt_any x _).mono ?_; rw [hok]; rintro e w2 ⟨rfl, rfl⟩)
           go_ret
           exact ⟨by rw [Hf.out]; rfl, Hrow.out.grow⟩
         · have Hok := Lib.hid hok
           cases nn
           · go_wp2_with (go_at_call 152; refine (mayAt_any x _).mono ?_; rw [Hok.out]; rintro e w2 ⟨rfl, rfl⟩)
             go_loopw [8] (fun s8 wi => ∃ m : Nat, m ≤ k ∧ s8 = .int .i64 m ∧ ((x == -1) = false → ∀ j, j < m → N.places.getD j 0 ≠ x) ∧ PlaceRow w wi G g N) (fun i _ => k - (intOf i).toNat)
             case atStart => exact ⟨0, Nat.zero_le _, rfl, fun _ j hj => by omega, Hrow.out⟩
             case round =>
              obtain ⟨m, hmk, rfl, hno, hrowi⟩ := hrel
              by_cases hlm : m < k
              · have hcm := hrowi.at_ m (by omega)
                have hck := hrowi.at_ k hlt
                rw [← Hx.out] at hck
                obtain ⟨y, hy⟩ : ∃ y, y = N.places.getD m 0 := ⟨_, rfl⟩
                rw [← hy] at hcm
                have Hy := Lib.hid hy
                have Hno := Lib.hid hno
                have Hrowi := Lib.hid hrowi
                clear hy hno hrowi hcell
                have i0 : (0 : Int) ≤ (m : Int) := Int.natCast_nonneg _
                have i1 : (m : Int) < 5 := by omega
                have i2 : (0 : Int) ≤ (k : Int) := Int.natCast_nonneg _
                have i3 : (k : Int) < 5 := by omega
                by_cases hyx : y = x
                · have e2 : (y == x) = true := by simpa using hyx
                  have Hf := Lib.hid (show mayNode kind N = false by rw [Heq.out, placesOk_not k (by rw [Nd.places_length]; omega) (by rw [← Hx.out]; exact okNew_twice e1 hlm (by rw [Nd.places_length]; omega) (by rw [← Hy.out, hyx]))]; rfl)
                  clear hyx
                  go_wp2_with fail
                  go_quiet (fail)
                  go_wp2_with fail
                  go_ret
                  exact ⟨by rw [Hf.out]; rfl, (Hrowi.out.drawn _).grow⟩
                · have e2 : (y == x) = false := by simpa using hyx
                  have Hyx := Lib.hid hyx
                  clear hyx
                  go_wp2_with fail
                  go_quiet (fail)
                  go_wp2_with fail
                  go_roundw
                  case rel =>
                   refine ⟨m + 1, by omega, by go_num, fun h j hj => ?_, Hrowi.out.drawn _⟩
                   rcases Nat.lt_succ_iff_lt_or_eq.1 hj with h' | rfl
                   · exact Hno.out h j h'
                   · rw [← Hy.out]; exact Hyx.out
                  case measure => simp [intOf]; omega
              · have Hno := Lib.hid hno
                have Hrowi := Lib.hid hrowi
                clear hno hrowi hcell
                go_wp2_with fail
                go_roundw
                case rel =>
                 obtain rfl : m = k := by omega
                 refine ⟨m + 1, by omega, by go_num, ?_, okPre_succ Hpre.out ?_, Hrowi.out⟩
                 · rw [Hnone.out, Hnn.out, ← Hx.out, e1]; rfl
                 · rw [← Hx.out]; exact okNew_good (by rw [Nd.places_length]; omega) Hok.out (Hno.out e1)
                case measure => simp [intOf]; omega
           · go_wp2_with (go_at_call 152; refine (mayAt_any x _).mono ?_; rw [Hok.out]; rintro e w2 ⟨rfl, rfl⟩)
             go_loopw [8] (fun s8 wi => ∃ m : Nat, m ≤ k ∧ s8 = .int .i64 m ∧ ((x == -1) = false → ∀ j, j < m → N.places.getD j 0 ≠ x) ∧ PlaceRow w wi G g N) (fun i _ => k - (intOf i).toNat)
             case atStart => exact ⟨0, Nat.zero_le _, rfl, fun _ j hj => by omega, Hrow.out⟩
             case round =>
              obtain ⟨m, hmk, rfl, hno, hrowi⟩ := hrel
              by_cases hlm : m < k
              · have hcm := hrowi.at_ m (by omega)
                have hck := hrowi.at_ k hlt
                rw [← Hx.out] at hck
                obtain ⟨y, hy⟩ : ∃ y, y = N.places.getD m 0 := ⟨_, rfl⟩
                rw [← hy] at hcm
                have Hy := Lib.hid hy
                have Hno := Lib.hid hno
                have Hrowi := Lib.hid hrowi
                clear hy hno hrowi hcell
                have i0 : (0 : Int) ≤ (m : Int) := Int.natCast_nonneg _
                have i1 : (m : Int) < 5 := by omega
                have i2 : (0 : Int) ≤ (k : Int) := Int.natCast_nonneg _
                have i3 : (k : Int) < 5 := by omega
                by_cases hyx : y = x
                · have e2 : (y == x) = true := by simpa using hyx
                  have Hf := Lib.hid (show mayNode kind N = false by rw [Heq.out, placesOk_not k (by rw [Nd.places_length]; omega) (by rw [← Hx.out]; exact okNew_twice e1 hlm (by rw [Nd.places_length]; omega) (by rw [← Hy.out, hyx]))]; rfl)
                  clear hyx
                  go_wp2_with fail
                  go_quiet (fail)
                  go_wp2_with fail
                  go_ret
                  exact ⟨by rw [Hf.out]; rfl, (Hrowi.out.drawn _).grow⟩
                · have e2 : (y == x) = false := by simpa using hyx
                  have Hyx := Lib.hid hyx
                  clear hyx
                  go_wp2_with fail
                  go_quiet (fail)
                  go_wp2_with fail
                  go_roundw
                  case rel =>
                   refine ⟨m + 1, by omega, by go_num, fun h j hj => ?_, Hrowi.out.drawn _⟩
                   rcases Nat.lt_succ_iff_lt_or_eq.1 hj with h' | rfl
                   · exact Hno.out h j h'
                   · rw [← Hy.out]; exact Hyx.out
                  case measure => simp [intOf]; omega
              · have Hno := Lib.hid hno
                have Hrowi := Lib.hid hrowi
                clear hno hrowi hcell
                go_wp2_with fail
                go_roundw
                case rel =>
                 obtain rfl : m = k := by omega
                 refine ⟨m + 1, by omega, by go_num, ?_, okPre_succ Hpre.out ?_, Hrowi.out⟩
                 · rw [Hnone.out, Hnn.out, ← Hx.out, e1]; rfl
                 · rw [← Hx.out]; exact okNew_good (by rw [Nd.places_length]; omega) Hok.out (Hno.out e1)
                case measure => simp [intOf]; omega
     · have hpre5 : placesOk N.places = true := placesOk_all (fun j hj => hpre j (by rw [Nd.places_length] at hj; omega))
       have hnone : none5 (N.places.take k) = none5 N.places := by rw [List.take_of_length_le (by rw [Nd.places_length]; omega)]
       rw [hnone]
       have Heq2 := Lib.hid (show mayNode kind N = kindOk kind N by rw [Heq.out, hpre5]; rfl)
       have hc1 : wr.cell? ⟨G, 1, none⟩ = some (.int .i64 links) := by rw [hrow.cell, HN.out]; rfl
       have hc2 : wr.cell? ⟨G, 2, none⟩ = some (.int .i64 size) := by rw [hrow.cell, HN.out]; rfl
       have hc8 : wr.cell? ⟨G, 8, none⟩ = some (.string t) := by rw [hrow.cell, HN.out]; rfl
       have Hrow := Lib.hid hrow
       have Hk := Lib.hid (show kindOk kind N = if kind = 1 then decide (0 ≤ size) && decide (size ≤ 1120) && t.toList.isEmpty else if kind = 2 then decide (size = 0) && none5 N.places && t.toList.isEmpty && decide (links ≤ 1)
        else if kind = 3 then none5 N.places && mayTarget t.data.toList && decide (size = t.size) else false by
        unfold kindOk; rw [ByteArray.toList_eq]; rw [HN.out])
       clear hpre hpre5 hnone hrow
       generalize none5 N.places = nn at *
       by_cases hk1 : kind = 1
       · have e1 : (kind == 1) = true := by simpa using hk1
         have Hf := Lib.hid (show mayNode kind N = (decide (0 ≤ size) && decide (size ≤ 1120) && t.toList.isEmpty) by rw [Heq2.out, Hk.out, if_pos hk1])
         clear hk1
         go_wp2_with fail
         all_goals (go_ret; refine ⟨?_, Hrow.out.grow⟩; rw [Hf.out]; simp [*])
         all_goals (intros; omega)
       · have e1 : (kind == 1) = false := by simpa using hk1
         by_cases hk2 : kind = 2
         · have e2 : (kind == 2) = true := by simpa using hk2
           have Hf := Lib.hid (show mayNode kind N = (decide (size = 0) && nn && t.toList.isEmpty && decide (links ≤ 1)) by rw [Heq2.out, Hk.out, if_neg hk1, if_pos hk2])
           clear hk1 hk2
           go_wp2_with fail
           all_goals (go_ret; refine ⟨?_, Hrow.out.grow⟩; rw [Hf.out]; simp [*])
         · have e2 : (kind == 2) = false := by simpa using hk2
           by_cases hk3 : kind = 3
           · have e3 : (kind == 3) = true := by simpa using hk3
             have Hf := Lib.hid (show mayNode kind N = (nn && mayTarget t.data.toList && decide (size = t.size)) by rw [Heq2.out, Hk.out, if_neg hk1, if_neg hk2, if_pos hk3])
             clear hk1 hk2 hk3
             generalize hmt : mayTarget t.data.toList = mt
             have Hmt := Lib.hid hmt
             have Hl := Lib.hid Hn.out.2.2
             rw [hmt] at Hf
             clear hmt
             go_wp2_with (go_at_call 78; refine (MayTarget_any t _ Hl.out).mono ?_; rw [Hmt.out]; rintro e w2 ⟨rfl, rfl⟩)
             all_goals (go_ret; refine ⟨?_, Hrow.out.grow⟩; rw [Hf.out]; simp [*])
             all_goals (rw [Bool.eq_iff_iff]; simp)
           · have e3 : (kind == 3) = false := by simpa using hk3
             have Hf := Lib.hid (show mayNode kind N = false by rw [Heq2.out, Hk.out, if_neg hk1, if_neg hk2, if_neg hk3])
             clear hk1 hk2 hk3
             go_wp2_with fail
             all_goals (go_ret; refine ⟨?_, Hrow.out.grow⟩; rw [Hf.out]; rfl)
 · have Hf := Lib.hid (show mayNode kind N = false by
    have : (decide (1 ≤ gen) && decide (0 ≤ links) && decide (links ≤ 1000)) = false := by
     rw [← Bool.not_eq_true]; simpa [and_assoc] using hall
    rw [HN.out]; simp only [mayNode, this, Bool.false_and])
   by_cases ha : 1 ≤ gen
   · by_cases hb : 0 ≤ links
     · have hc : ¬ links ≤ 1000 := fun h => hall ⟨ha, hb, h⟩
       clear hall
       go_enter Tryz.func140, Tryz.ntmps140
       go_wp2_with fail
       all_goals (go_ret; exact ⟨by rw [Hf.out]; rfl, (Below.refl _ _).alloc (Nat.le_refl _) _⟩)
     · clear hall
       go_enter Tryz.func140, Tryz.ntmps140
       go_wp2_with fail
       all_goals (go_ret; exact ⟨by rw [Hf.out]; rfl, (Below.refl _ _).alloc (Nat.le_refl _) _⟩)
   · clear hall
     go_enter Tryz.func140, Tryz.ntmps140
     go_wp2_with fail
     all_goals (go_ret; exact ⟨by rw [Hf.out]; rfl, (Below.refl _ _).alloc (Nat.le_refl _) _⟩)
end
end Go.Proofs.YtbbnejehglonjaaGreat
