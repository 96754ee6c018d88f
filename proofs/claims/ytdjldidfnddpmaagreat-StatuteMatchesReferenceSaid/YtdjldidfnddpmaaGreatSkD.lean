/- Laws and queries as arguments, opened. No condition. -/
import Derived.Test.YtdjldidfnddpmaaGreatSkC
import Derived.Test.YtdjldidfnddpmaaGreatSwF
import Derived.Test.YtdjldidfnddpmaaGreatSkA
import Derived.Test.YtdjldidfnddpmaaGreatSpA
import Derived.Test.YtdjldidfnddpmaaGreatSrL
import Derived.Test.YtdjldidfnddpmaaGreatSvB
import Derived.Test.YtdjldidfnddpmaaGreatRegM
import Derived.Deep.DeepCutAuto
import Derived.Test.YtdjldidfnddpmaaGreatWrap
/- The walk of the law's few: it returns some laws. Conditions: how the laws lie in memory. -/
namespace Go.Proofs.YtdjldidfnddpmaaGreat
open Go.RowKit
theorem ints_take {c : Rd} {a : Option Addr} {n m M : Nat} {l : List Int} (h : IntsIn c (.slice a n m) l) (hM : M ≤ l.length) : IntsIn c (.slice a M m) (l.take M) := by
  obtain ⟨a', n', e, h1, h2, h3⟩ := h
  cases e
  have e : (l.take M).length = M := by rw [List.length_take, Nat.min_eq_left hM]
  refine ⟨a, m, by rw [e], by omega, h2, fun i hi => ?_⟩
  rw [e] at hi
  have e2 : (l.take M).getD i 0 = l.getD i 0 := by
    rw [List.getD_eq_getElem?_getD, List.getElem?_take_of_lt hi, ← List.getD_eq_getElem?_getD]
  rw [e2]
  exact h3 i (by omega)
theorem rec_take {α : Type} {f : α → List Value} {d : α} {k : Nat} {c : Rd} {a : Option Addr} {n m M : Nat} {l : List α} (h : RecIn f d k c (.slice a n m) l) (hM : M ≤ l.length) : RecIn f d k c (.slice a M m) (l.take M) := by
  obtain ⟨a', n', e, h1, h2, h3⟩ := h
  cases e
  have e : (l.take M).length = M := by rw [List.length_take, Nat.min_eq_left hM]
  refine ⟨a, m, by rw [e], by omega, h2, fun i hi => ?_⟩
  rw [e] at hi
  have e2 : (l.take M).getD i d = l.getD i d := by
    rw [List.getD_eq_getElem?_getD, List.getElem?_take_of_lt hi, ← List.getD_eq_getElem?_getD]
  rw [e2]
  exact h3 i (by omega)
/-- own clauses whose numbers lie in old memory -/
def FewOwn (w0 w : World) (B : Nat) (v : Value) (l : List ClauseD) : Prop :=
  ∃ L, OwnR w B 67 6 v L ∧ L.length = l.length ∧ ∀ i, i < l.length → ∃ nv bv, L.getD i [] = clauseC (l.getD i clause0) nv bv ∧ IntsIn w0.cell? nv (l.getD i clause0).needs ∧ IntsIn w0.cell? bv (l.getD i clause0).bars
theorem FewOwn.at {w0 w : World} {B : Nat} {v : Value} {l : List ClauseD} (h : FewOwn w0 w B v l) (hb : Below w0.heap.size w0 w) : ClausesIn w.cell? v l := by
  obtain ⟨L, hOR, hl, hs⟩ := h
  rcases hOR.form with ⟨rfl, e2⟩ | ⟨g, c, cur, rfl, e1, e2, e3, e4⟩
  · rw [e2] at hl
    exact ⟨none, 0, by rw [← hl]; rfl, by rw [← hl]; simp, by omega, fun k hk => by rw [← hl] at hk; simp at hk⟩
  · refine ⟨some ⟨g, 0, none⟩, c, by rw [hl], by omega, by simpa [maxLen] using e4, fun k hk => ?_⟩
    obtain ⟨nv, bv, e, hn, hc⟩ := hs k hk
    have cc : ∀ (j : Nat) (u : Value), j < 6 → (clauseC (l.getD k clause0) nv bv)[j]? = some u → w.cell? ⟨g, 0 + k * 6 + j, none⟩ = some u := fun j u hj hu => by
      rw [Nat.zero_add]; exact hOR.cell k j (by omega) hj (by rw [e]; exact hu)
    exact ⟨g, 0, nv, bv, rfl, cc 0 _ (by omega) rfl, cc 1 _ (by omega) rfl, cc 2 _ (by omega) rfl, cc 3 _ (by omega) rfl, cc 4 _ (by omega) rfl, cc 5 _ (by omega) rfl, IntsAt.below hb hn, IntsAt.below hb hc⟩
theorem FewOwn.app {w0 w' : World} {B : Nat} {v' : Value} {l : List ClauseD} {L : List (List Value)} {x : ClauseD} {nv bv : Value} (hL : L.length = l.length)
    (h3 : ∀ i, i < l.length → ∃ nv bv, L.getD i [] = clauseC (l.getD i clause0) nv bv ∧ IntsIn w0.cell? nv (l.getD i clause0).needs ∧ IntsIn w0.cell? bv (l.getD i clause0).bars)
    (hn : IntsIn w0.cell? nv x.needs) (hb : IntsIn w0.cell? bv x.bars) (h' : OwnR w' B 67 6 v' (L ++ [clauseC x nv bv])) : FewOwn w0 w' B v' (l ++ [x]) := by
  refine ⟨_, h', by simp [hL], fun i hi => ?_⟩
  rcases Nat.lt_or_ge i l.length with h1 | h1
  · obtain ⟨nv, bv, e, hc, hd⟩ := h3 i h1
    refine ⟨nv, bv, ?_, ?_, ?_⟩
    · rw [getD_app_left _ _ _ _ (by rw [hL]; exact h1), getD_app_left _ _ _ _ h1]; exact e
    · rw [getD_app_left _ _ _ _ h1]; exact hc
    · rw [getD_app_left _ _ _ _ h1]; exact hd
  · have hi' : i = l.length := by simp at hi; omega
    subst hi'
    rw [getD_app_right _ _ _ _ (by rw [hL]; exact Nat.le_refl _), getD_app_right _ _ _ _ (Nat.le_refl _), hL, Nat.sub_self]
    exact ⟨nv, bv, rfl, hn, hb⟩
theorem FewOwn.set {w0 w : World} {B O : Nat} {v : Value} {l : List ClauseD} {vs : List Value} {t : TypeId} (h : FewOwn w0 w B v l) (hO : Blk w O vs t) (ht : t ≠ 67) (j : Nat) (u : Value) : FewOwn w0 (w.setCell ⟨O, j, none⟩ u) B v l := by
  obtain ⟨L, h1, h2, h3⟩ := h
  exact ⟨L, h1.setO hO ht u, h2, h3⟩
theorem FewOwn.form {w0 w : World} {B : Nat} {v : Value} {l : List ClauseD} (h : FewOwn w0 w B v l) : ∃ a c, v = .slice a l.length c := by
  obtain ⟨L, hOR, hl, -⟩ := h
  rcases hOR.form with ⟨rfl, e2⟩ | ⟨g, c, cur, rfl, -⟩
  · exact ⟨none, 0, by rw [← hl, e2]; rfl⟩
  · exact ⟨_, c, by rw [hl]⟩
set_option maxRecDepth 100000 in
set_option maxHeartbeats 4000000 in
theorem few31_any (c : CodeD) (cv rv fv : Value) (w : World) (h : CodeIn w.cell? cv rv fv c) : Calls Tryz.prog 7 #[codeV cv rv fv] w (SomeCodeQ w) := by
  have HC := hide h
  obtain ⟨⟨ca, cn, rfl, hc1, hc2, -⟩, ⟨ra, rn, rfl, hr1, hr2, -⟩, ⟨fa, fn, rfl, hf1, hf2, -⟩⟩ := id h
  have HLN : Hid (c.clauses.length ≤ 9223372036854775807 ∧ c.repeals.length ≤ rn ∧ rn ≤ 9223372036854775807 ∧ c.facts.length ≤ fn ∧ fn ≤ 9223372036854775807) := hide ⟨by omega, hr1, hr2, hf1, hf2⟩
  clear h hc1 hc2 hr1 hr2 hf1 hf2
  go_enter Tryz.func7, Tryz.ntmps7
  go_wp2_with fail
  generalize hX1 : World.alloc w _ = X1
  have zX1 : X1.heap.size = w.heap.size + 1 := by rw [← hX1]; simp
  have bX1 : Below w.heap.size w X1 := by rw [← hX1]; exact bal w _
  have bI_1 : Blk X1 (w.heap.size) [.slice ca c.clauses.length cn, .slice ra c.repeals.length rn, .slice fa c.facts.length fn] 30 := by rw [← hX1]; exact Blk.newA w _ (by first | rfl | simp)
  generalize hX2 : World.alloc X1 _ = X2
  have zX2 : X2.heap.size = w.heap.size + 1 + 1 := by rw [← hX2]; simp [zX1]
  have bX2 : Below X1.heap.size X1 X2 := by rw [← hX2]; exact bal X1 _
  have bR_2 : Blk X2 (w.heap.size + 1) [.slice none 0 0, .slice none 0 0, .slice none 0 0] 30 := by rw [← hX2, ← zX1]; exact Blk.newA X1 _ (by first | rfl | simp)
  have bI_2 := bI_1.later bX2
  generalize hX3 : World.alloc X2 _ = X3
  have zX3 : X3.heap.size = w.heap.size + 1 + 1 + 1 := by rw [← hX3]; simp [zX2]
  have bX3 : Below X2.heap.size X2 X3 := by rw [← hX3]; exact bal X2 _
  have bC : Blk X3 (w.heap.size + 1 + 1) [.slice none 0 0, .slice none 0 0, .slice none 0 0] 30 := by rw [← hX3, ← zX2]; exact Blk.newA X2 _ (by first | rfl | simp)
  have bI := bI_2.later bX3
  have bR := bR_2.later bX3
  have Xb := below2 (below2 (bX1) bX2) bX3
  have Xz := zX3
  clear hX1 zX1 bX1 hX2 zX2 bX2 hX3 zX3 bX3 bI_1 bI_2 bR_2
  go_loopw [4] (fun i wr => ∃ (k : Nat) (ov : Value) (lc : List ClauseD), k ≤ c.clauses.length ∧ k ≤ 4 ∧ i = .int .i64 k ∧ lc.length = k ∧ FewOwn w wr (w.heap.size + 1 + 1 + 1) ov lc ∧ Blk wr (w.heap.size + 1 + 1) [ov, .slice none 0 0, .slice none 0 0] 30 ∧ Blk wr w.heap.size [.slice ca c.clauses.length cn, .slice ra c.repeals.length rn, .slice fa c.facts.length fn] 30 ∧ Blk wr (w.heap.size + 1) [.slice none 0 0, .slice none 0 0, .slice none 0 0] 30 ∧ Below w.heap.size w wr ∧ w.heap.size + 1 + 1 + 1 ≤ wr.heap.size) (fun i _ => c.clauses.length - (intOf i).toNat)
  case atStart => exact ⟨0, _, [], by omega, by omega, rfl, rfl, ⟨[], OwnR.nil _ _ _ _, rfl, fun i hi => by simp at hi⟩, bC, bI, bR, Xb, by omega⟩
  case round =>
    obtain ⟨k, ov, lc, hk, hk4, rfl, hlk, hown, hbC, hbI, hbR, hbr, hsz⟩ := hrel
    have i0 := hbI.cell 0 rfl
    clear bI bR bC Xb
    by_cases hlt : k < c.clauses.length
    · by_cases hlt4 : k < 4
      · have HK := hide hlt
        have HK4 := hide hlt4
        obtain ⟨a', n', e', -, -, hcc⟩ := (HC.out.below hbr).cl
        cases e'
        obtain ⟨b, o, nv, bv, rfl, k0, k1, k2, k3, k4, k5, -, -⟩ := hcc k hlt
        obtain ⟨a', n', e', -, -, hcd⟩ := HC.out.cl
        cases e'
        obtain ⟨b', o', nv', bv', e', -, -, -, k3', k4', -, hn, hb⟩ := hcd k hlt
        cases e'
        have e1 : nv' = nv := by have := (keep hbr k3').symm.trans k3; exact Option.some.inj this
        have e2 : bv' = bv := by have := (keep hbr k4').symm.trans k4; exact Option.some.inj this
        subst e1 e2
        clear k3' k4' hcc hcd
        have hltI : (k : Int) < c.clauses.length := by omega
        have hlt4I : (k : Int) < 4 := by omega
        generalize c.clauses.getD k clause0 = y at k0 k1 k2 k3 k4 k5 hn hb
        obtain ⟨na, nn, rfl, hnn1, hnn2, -⟩ := id hn
        obtain ⟨ba, bn, rfl, hbb1, hbb2, -⟩ := id hb
        obtain ⟨M, hM⟩ : ∃ M : Nat, M = min y.needs.length 5 := ⟨_, rfl⟩
        obtain ⟨M', hM'⟩ : ∃ M : Nat, M = min y.bars.length 5 := ⟨_, rfl⟩
        have hmin : min (y.needs.length : Int) 5 = (M : Int) := by omega
        have hmin' : min (y.bars.length : Int) 5 = (M' : Int) := by omega
        have hMn : M ≤ nn := by omega
        have hMb : M' ≤ bn := by omega
        have hnl : (y.needs.length : Int) ≤ 9223372036854775807 := by omega
        have hbl : (y.bars.length : Int) ≤ 9223372036854775807 := by omega
        have HN := hide (ints_take hn (show M ≤ y.needs.length by omega))
        have HB := hide (ints_take hb (show M' ≤ y.bars.length by omega))
        have HML : Hid ((y.needs.take M).length = M ∧ (y.bars.take M').length = M') := hide ⟨by rw [List.length_take]; omega, by rw [List.length_take]; omega⟩
        clear hn hb hM hM' hnn1 hnn2 hbb1 hbb2
        obtain ⟨Lr, hOR, hLl, hLs⟩ := hown
        obtain ⟨oa, oc, rfl⟩ := own_form hOR
        have hln : Lr.length ≤ 1000 := by omega
        have HLS := hide hLs
        have HLL := hide hLl
        have HI := hide hbI
        have HR := hide hbR
        have HBR := hide hbr
        have cc0 := fun o => keep (bal wr o) (hbC.cell 0 rfl)
        have HTK : Hid (lc.length + 1 = (lc ++ [({ y with needs := y.needs.take M, bars := y.bars.take M' } : ClauseD)]).length) := hide (by simp)
        clear hLs hLl hbI hbR hbr
        go_wp2_with (at_builtin; generalize hW0 : World.alloc wr _ = W0; have z0 : W0.heap.size = wr.heap.size + 1 := (by rw [← hW0]; simp); have hb0 : Below wr.heap.size wr W0 := (by rw [← hW0]; exact bal wr _); clear hW0; have hOW := hOR.later' hb0; refine app_recE infoClause rfl (by decide) Tryz.underlying26 rfl _ _ rfl (w.heap.size + 1 + 1 + 1) _ Lr rfl hOW (clauseC { y with needs := y.needs.take M, bars := y.bars.take M' } (.slice na M nn) (.slice ba M' bn)) rfl clauseC_one _ rfl z0.symm (by omega) (by omega) (by omega) ?_; intro v3 w3 hO3 hE3 hob3; obtain ⟨g3', c3', rfl⟩ := own_some hO3; have hbC3 : Blk w3 (w.heap.size + 1 + 1) [.slice oa Lr.length oc, .slice none 0 0, .slice none 0 0] 30 := (hbC.later hb0).eff hE3 (fun e => hOW.neT (hbC.later hb0) (by decide) e.symm); have r0 := hbC3.cell 0 rfl; have rf := hbC3.frozen 0)
        have hEE : EffE (w.heap.size + 1 + 1 + 1) 67 W0 w3 := effE_of_grown hOW ⟨hE3.os, hE3.tape, hE3.output, hE3.size, fun b hb hn => hE3.block b hb hn⟩
        have hEY : EffY (w.heap.size + 1 + 1 + 1) 67 (w.heap.size + 1 + 1) wr (w3.setCell ⟨w.heap.size + 1 + 1, 0, none⟩ (.slice (some ⟨g3', 0, none⟩) (Lr.length + 1) c3')) := ((EffY.of_below hb0).app hEE).set 0 _
        have HCL := hide (FewOwn.app HLL.out HLS.out HN.out HB.out (OwnR.setO hO3 hbC3 (by decide) (j := 0) (.slice (some ⟨g3', 0, none⟩) (Lr.length + 1) c3')))
        have HC3 := hide (hbC3.set 0 (.slice (some ⟨g3', 0, none⟩) (Lr.length + 1) c3'))
        have HI3 := hide (hEY.blk HI.out (show w.heap.size ≠ w.heap.size + 1 + 1 by omega) (by decide))
        have HR3 := hide (hEY.blk HR.out (show w.heap.size + 1 ≠ w.heap.size + 1 + 1 by omega) (by decide))
        have HB3 := hide (keeps_low_effY hEY (show w.heap.size ≤ w.heap.size + 1 + 1 + 1 by omega) (show w.heap.size ≤ w.heap.size + 1 + 1 by omega) HBR.out)
        have HS3 : Hid (w.heap.size + 1 + 1 + 1 ≤ _) := hide (Nat.le_trans hsz hEY.size)
        clear hEY hEE
        go_roundw
        case rel => exact ⟨k + 1, _, _, by have := HK.out; omega, by have := HK4.out; omega, by go_num, HTK.out.symm.trans (by omega), HCL.out, HC3.out, HI3.out, HR3.out, HB3.out, HS3.out⟩
        case measure => have := HK.out; simp [intOf]; omega
      · obtain rfl : k = 4 := by omega
        have hltI : ((4 : Nat) : Int) < c.clauses.length := by omega
        have h4d : decide (((4 : Nat) : Int) < 4) = false := rfl
        obtain ⟨oa, oc, rfl⟩ := hown.form
        obtain ⟨M, hM⟩ : ∃ M : Nat, M = min c.repeals.length 4 := ⟨_, rfl⟩
        obtain ⟨M', hM'⟩ : ∃ M : Nat, M = min c.facts.length 4 := ⟨_, rfl⟩
        obtain ⟨-, hq1, hq2, hq3, hq4⟩ := HLN.out
        have hmin : min (c.repeals.length : Int) 4 = (M : Int) := by omega
        have hmin' : min (c.facts.length : Int) 4 = (M' : Int) := by omega
        have hMr : M ≤ rn := by omega
        have hMf : M' ≤ fn := by omega
        have hrl : (c.repeals.length : Int) ≤ 9223372036854775807 := by omega
        have hfl : (c.facts.length : Int) ≤ 9223372036854775807 := by omega
        have HRE := hide (rec_take HC.out.re (show M ≤ c.repeals.length by omega))
        have HFA := hide (rec_take HC.out.fa (show M' ≤ c.facts.length by omega))
        clear hlk
        generalize lc.length = LL at *
        clear hM hM' hq1 hq2 hq3 hq4
        have i1 := hbI.cell 1 rfl
        have bC1 := hbC.set 1 (.slice ra M rn)
        have bC2 := bC1.set 2 (.slice fa M' fn)
        have bI1 := hbI.other (show w.heap.size ≠ w.heap.size + 1 + 1 by omega) 1 (.slice ra M rn)
        have i2 := bI1.cell 2 rfl
        have cf1 := hbC.frozen 1
        have cf2 := bC1.frozen 2
        have cc1 := hbC.cell 1 rfl
        have cc2 := bC1.cell 2 rfl
        have o0 := bC2.cell 0 rfl
        have o1 := bC2.cell 1 rfl
        have o2 := bC2.cell 2 rfl
        have bR2 := (hbR.other (show w.heap.size + 1 ≠ w.heap.size + 1 + 1 by omega) 1 (.slice ra M rn)).other (show w.heap.size + 1 ≠ w.heap.size + 1 + 1 by omega) 2 (.slice fa M' fn)
        have r0 := bR2.cell 0 rfl
        have r1 := bR2.cell 1 rfl
        have r2 := bR2.cell 2 rfl
        have rf0 := bR2.frozen 0
        have rf1 := bR2.frozen 1
        have rf2 := bR2.frozen 2
        have HOW := hide ((hown.set hbC (by decide) 1 (.slice ra M rn)).set bC1 (by decide) 2 (.slice fa M' fn))
        have HBW := hide ((hbr.setCell (p := ⟨w.heap.size + 1 + 1, 1, none⟩) (by show w.heap.size ≤ w.heap.size + 1 + 1; omega) (.slice ra M rn)).setCell (p := ⟨w.heap.size + 1 + 1, 2, none⟩) (by show w.heap.size ≤ w.heap.size + 1 + 1; omega) (.slice fa M' fn))
        clear hown hbr
        go_wp2_with fail
        have q1 := bR2.set 0 (.slice oa LL oc)
        have q2 := q1.set 1 (.slice ra M rn)
        have q := q2.set 2 (.slice fa M' fn)
        have x0 := q.cell 0 rfl
        have x1 := q.cell 1 rfl
        have x2 := q.cell 2 rfl
        refine bodyPost_ret (v := .agg #[.slice oa LL oc, .slice ra M rn, .slice fa M' fn]) (by simp [results, Tryz.results7, go_sem, x0, x1, x2]) rfl ?_
        have hb := ((HBW.out.setCell (p := ⟨w.heap.size + 1, 0, none⟩) (by show w.heap.size ≤ w.heap.size + 1; omega) (.slice oa LL oc)).setCell (p := ⟨w.heap.size + 1, 1, none⟩) (by show w.heap.size ≤ w.heap.size + 1; omega) (.slice ra M rn)).setCell (p := ⟨w.heap.size + 1, 2, none⟩) (by show w.heap.size ≤ w.heap.size + 1; omega) (.slice fa M' fn)
        exact ⟨_, _, _, ⟨lc, c.repeals.take M, c.facts.take M'⟩, rfl, ⟨(((HOW.out.set bR2 (by decide) 0 _).set q1 (by decide) 1 _).set q2 (by decide) 2 _).at hb, RecIn.below hb HRE.out, RecIn.below hb HFA.out⟩, hb⟩
    · obtain rfl : k = c.clauses.length := by omega
      obtain ⟨oa, oc, rfl⟩ := hown.form
      obtain ⟨M, hM⟩ : ∃ M : Nat, M = min c.repeals.length 4 := ⟨_, rfl⟩
      obtain ⟨M', hM'⟩ : ∃ M : Nat, M = min c.facts.length 4 := ⟨_, rfl⟩
      obtain ⟨-, hq1, hq2, hq3, hq4⟩ := HLN.out
      have hmin : min (c.repeals.length : Int) 4 = (M : Int) := by omega
      have hmin' : min (c.facts.length : Int) 4 = (M' : Int) := by omega
      have hMr : M ≤ rn := by omega
      have hMf : M' ≤ fn := by omega
      have hrl : (c.repeals.length : Int) ≤ 9223372036854775807 := by omega
      have hfl : (c.facts.length : Int) ≤ 9223372036854775807 := by omega
      have HRE := hide (rec_take HC.out.re (show M ≤ c.repeals.length by omega))
      have HFA := hide (rec_take HC.out.fa (show M' ≤ c.facts.length by omega))
      clear hlk
      generalize lc.length = LL at *
      clear hM hM' hq1 hq2 hq3 hq4
      have i1 := hbI.cell 1 rfl
      have bC1 := hbC.set 1 (.slice ra M rn)
      have bC2 := bC1.set 2 (.slice fa M' fn)
      have bI1 := hbI.other (show w.heap.size ≠ w.heap.size + 1 + 1 by omega) 1 (.slice ra M rn)
      have i2 := bI1.cell 2 rfl
      have cf1 := hbC.frozen 1
      have cf2 := bC1.frozen 2
      have cc1 := hbC.cell 1 rfl
      have cc2 := bC1.cell 2 rfl
      have o0 := bC2.cell 0 rfl
      have o1 := bC2.cell 1 rfl
      have o2 := bC2.cell 2 rfl
      have bR2 := (hbR.other (show w.heap.size + 1 ≠ w.heap.size + 1 + 1 by omega) 1 (.slice ra M rn)).other (show w.heap.size + 1 ≠ w.heap.size + 1 + 1 by omega) 2 (.slice fa M' fn)
      have r0 := bR2.cell 0 rfl
      have r1 := bR2.cell 1 rfl
      have r2 := bR2.cell 2 rfl
      have rf0 := bR2.frozen 0
      have rf1 := bR2.frozen 1
      have rf2 := bR2.frozen 2
      have HOW := hide ((hown.set hbC (by decide) 1 (.slice ra M rn)).set bC1 (by decide) 2 (.slice fa M' fn))
      have HBW := hide ((hbr.setCell (p := ⟨w.heap.size + 1 + 1, 1, none⟩) (by show w.heap.size ≤ w.heap.size + 1 + 1; omega) (.slice ra M rn)).setCell (p := ⟨w.heap.size + 1 + 1, 2, none⟩) (by show w.heap.size ≤ w.heap.size + 1 + 1; omega) (.slice fa M' fn))
      clear hown hbr
      go_wp2_with fail
      have q1 := bR2.set 0 (.slice oa LL oc)
      have q2 := q1.set 1 (.slice ra M rn)
      have q := q2.set 2 (.slice fa M' fn)
      have x0 := q.cell 0 rfl
      have x1 := q.cell 1 rfl
      have x2 := q.cell 2 rfl
      refine bodyPost_ret (v := .agg #[.slice oa LL oc, .slice ra M rn, .slice fa M' fn]) (by simp [results, Tryz.results7, go_sem, x0, x1, x2]) rfl ?_
      have hb := ((HBW.out.setCell (p := ⟨w.heap.size + 1, 0, none⟩) (by show w.heap.size ≤ w.heap.size + 1; omega) (.slice oa LL oc)).setCell (p := ⟨w.heap.size + 1, 1, none⟩) (by show w.heap.size ≤ w.heap.size + 1; omega) (.slice ra M rn)).setCell (p := ⟨w.heap.size + 1, 2, none⟩) (by show w.heap.size ≤ w.heap.size + 1; omega) (.slice fa M' fn)
      exact ⟨_, _, _, ⟨lc, c.repeals.take M, c.facts.take M'⟩, rfl, ⟨(((HOW.out.set bR2 (by decide) 0 _).set q1 (by decide) 1 _).set q2 (by decide) 2 _).at hb, RecIn.below hb HRE.out, RecIn.below hb HFA.out⟩, hb⟩
end Go.Proofs.YtdjldidfnddpmaaGreat
/- The law's example, and what the functions answer at it. Conditions: how the laws lie in memory. -/
namespace Go.Proofs.YtdjldidfnddpmaaGreat
open Go.RowKit
def exC : CodeD := ⟨[⟨100, 200, 1000, [0], [2], 3⟩, ⟨300, 250, 1000, [1], [], 3⟩], [], [⟨7, 0, 0, 1000, 150, 1000⟩, ⟨7, 2, 500, 1000, 600, 1000⟩]⟩
def exR : CodeD := ⟨[⟨100, 200, 1000, [0], [2], 3⟩, ⟨300, 250, 1000, [1], [], 3⟩], [⟨0, 350, 300⟩], [⟨7, 0, 0, 1000, 150, 1000⟩, ⟨7, 2, 500, 1000, 600, 1000⟩]⟩
def first31 : List FindD := [⟨0, true, 0, -1⟩, ⟨2, false, -1, -1⟩, ⟨3, true, -1, 0⟩]
def second31 : List FindD := [⟨1, false, -1, -1⟩, ⟨2, true, 1, -1⟩, ⟨3, false, -1, -1⟩]
def last31 : List FindD := [⟨3, false, -1, -1⟩]
def decAns (c : CodeD) (q : QueryD) : Bool × List FindD × Int := (validC c && asksB q && answerB c q, if validC c && asksB q then decideP c q else [], errS c q)
theorem ans1 : decAns exC ⟨7, 3, 400, 400⟩ = (true, first31, 0) := by decide +kernel
theorem ans2 : decAns exC ⟨7, 3, 700, 650⟩ = (false, second31, 0) := by decide +kernel
theorem ans3 : (decAns exC ⟨7, 3, 700, 550⟩).1 = true ∧ (decAns exC ⟨7, 3, 700, 550⟩).2.2 = 0 := by decide +kernel
theorem ans4 : decAns exC ⟨7, 3, 199, 650⟩ = (false, last31, 0) := by decide +kernel
theorem ans5 : (decAns exC ⟨7, 3, 400, 120⟩).1 = false ∧ (decAns exC ⟨7, 3, 400, 120⟩).2.2 = 0 := by decide +kernel
theorem ans6 : (decAns exR ⟨7, 3, 400, 400⟩).1 = false ∧ (decAns exR ⟨7, 3, 400, 400⟩).2.2 = 0 := by decide +kernel
theorem use1 : usesFacts exC ⟨7, 3, 700, 650⟩ second31 = [1] ∧ usesClauses exC ⟨7, 3, 700, 650⟩ second31 = [0, 1] ∧ usesErr exC ⟨7, 3, 700, 650⟩ second31 = 0 := by decide +kernel
theorem app1 : appliesF exC ⟨7, 3, 400, 400⟩ = [0] ∧ appliesC exC ⟨7, 3, 400, 400⟩ = [0, 1] ∧ errS exC ⟨7, 3, 400, 400⟩ = 0 := by decide +kernel
theorem chk1 : checkB exC ⟨7, 3, 400, 400⟩ true first31 = true ∧ checkB exC ⟨7, 3, 400, 400⟩ false first31 = false ∧ checkB exC ⟨7, 3, 700, 650⟩ true first31 = false ∧ checkB exC ⟨7, 3, 700, 650⟩ false second31 = true := by decide +kernel
theorem val1 : validC exC = true ∧ validC ⟨[clause0], [], []⟩ = false ∧ asksB ⟨7, 3, 400, 400⟩ = true ∧ asksB ⟨0, 0, -1, 0⟩ = false := by decide +kernel
/-- Decide at laws and a query of which the answer is known -/
theorem decide_at {c : CodeD} {q : QueryD} {b : Bool} {l : List FindD} {n : Int} (h : decAns c q = (b, l, n)) (cv rv fv : Value) (w : World) (hc : CodeIn w.cell? cv rv fv c) : Calls Tryz.prog 11 #[codeV cv rv fv, queryV q] w (fun e w' => ∃ a m, e = .returned (.tuple #[.bool b, .slice a l.length m, .int .i64 n]) ∧ FindsIn (frm w.heap.size w') (.slice a l.length m) l ∧ Below w.heap.size w w') := by
  have h1 : (validC c && asksB q && answerB c q) = b := congrArg (·.1) h
  have h2 : (if validC c && asksB q then decideP c q else []) = l := congrArg (·.2.1) h
  have h3 : errS c q = n := congrArg (·.2.2) h
  refine (decideS_any c q cv rv fv w hc).mono ?_
  rintro e w' ⟨lv, rfl, hl, hb⟩
  rw [h1, h3]
  rw [h2] at hl
  obtain ⟨a, m, rfl, -⟩ := id hl
  exact ⟨a, m, rfl, hl, hb⟩
theorem decide_at2 {c : CodeD} {q : QueryD} {b : Bool} {n : Int} (h : (decAns c q).1 = b ∧ (decAns c q).2.2 = n) (cv rv fv : Value) (w : World) (hc : CodeIn w.cell? cv rv fv c) : Calls Tryz.prog 11 #[codeV cv rv fv, queryV q] w (fun e w' => ∃ a k m, e = .returned (.tuple #[.bool b, .slice a k m, .int .i64 n]) ∧ Below w.heap.size w w') := by
  have h1 : (validC c && asksB q && answerB c q) = b := h.1
  have h3 : errS c q = n := h.2
  refine (decideS_any c q cv rv fv w hc).mono ?_
  rintro e w' ⟨lv, rfl, hl, hb⟩
  rw [h1, h3]
  obtain ⟨a, m, rfl, -⟩ := id hl
  exact ⟨a, _, m, rfl, hb⟩
theorem clauses_blk {w : World} {b : Nat} {T : TypeId} {x y : ClauseD} {nv bv mv dv : Value} (h : Blk w b (clauseC x nv bv ++ clauseC y mv dv) T) (h1 : IntsIn w.cell? nv x.needs) (h2 : IntsIn w.cell? bv x.bars) (h3 : IntsIn w.cell? mv y.needs) (h4 : IntsIn w.cell? dv y.bars) : ClausesIn w.cell? (.slice (some ⟨b, 0, none⟩) 2 2) [x, y] :=
  ⟨some ⟨b, 0, none⟩, 2, rfl, by simp, by omega, fun i hi => by
    match i, hi with
    | 0, _ => exact ⟨b, 0, nv, bv, rfl, h.cell 0 rfl, h.cell 1 rfl, h.cell 2 rfl, h.cell 3 rfl, h.cell 4 rfl, h.cell 5 rfl, h1, h2⟩
    | 1, _ => exact ⟨b, 0, mv, dv, rfl, h.cell 6 rfl, h.cell 7 rfl, h.cell 8 rfl, h.cell 9 rfl, h.cell 10 rfl, h.cell 11 rfl, h3, h4⟩⟩
theorem rec_blk {α : Type} {f : α → List Value} {d : α} {k : Nat} (hk : ∀ x, (f x).length = k) {w : World} {b : Nat} {T : TypeId} {l : List α} (h : Blk w b (l.map f).flatten T) (hl : l.length ≤ 1000) : RecIn f d k w.cell? (.slice (some ⟨b, 0, none⟩) l.length l.length) l :=
  ⟨some ⟨b, 0, none⟩, l.length, rfl, Nat.le_refl _, by omega, fun i hi => ⟨b, 0, rfl, fun j u hu => by
    have hL : ∀ r ∈ l.map f, r.length = k := fun r hr => by obtain ⟨x, -, rfl⟩ := List.mem_map.1 hr; exact hk x
    have hj : j < k := by rw [← hk (l.getD i d)]; exact (List.getElem?_eq_some_iff.1 hu).1
    have h1 := flat_get hL i j hj
    have hi' : (l.map f).getD i [] = f (l.getD i d) := by
      rw [List.getD_eq_getElem?_getD, List.getElem?_map, List.getElem?_eq_getElem hi, List.getD_eq_getElem?_getD, List.getElem?_eq_getElem hi]; rfl
    rw [hi', hu] at h1
    rw [Nat.zero_add]
    exact h.cell (i * k + j) h1⟩⟩
theorem ints_blk {w : World} {b : Nat} {T : TypeId} {l : List Int} (h : Blk w b (l.map (Value.int .i64)) T) (hl : l.length ≤ 1000) : IntsIn w.cell? (.slice (some ⟨b, 0, none⟩) l.length l.length) l :=
  ⟨some ⟨b, 0, none⟩, l.length, rfl, Nat.le_refl _, by omega, fun k hk => ⟨b, 0, rfl, by
    rw [Nat.zero_add]
    refine h.cell k ?_
    rw [List.getElem?_map, List.getElem?_eq_getElem hk, List.getD_eq_getElem?_getD, List.getElem?_eq_getElem hk]; rfl⟩⟩
/-- the call returns laws -/
def CodeR (c : CodeD) (w : World) (e : Ending) (w' : World) : Prop := ∃ ca cn ra rn fa fn, e = .returned (codeV (.slice ca c.clauses.length cn) (.slice ra c.repeals.length rn) (.slice fa c.facts.length fn)) ∧ CodeIn w'.cell? (.slice ca c.clauses.length cn) (.slice ra c.repeals.length rn) (.slice fa c.facts.length fn) c ∧ Below w.heap.size w w'
set_option maxRecDepth 100000 in
set_option maxHeartbeats 1000000 in
theorem example31_any (w : World) : Calls Tryz.prog 23 #[] w (CodeR exC w) := by
  go_enter Tryz.func23, Tryz.ntmps23
  go_wp2_with fail
  generalize hX1 : World.alloc w _ = X1
  have zX1 : X1.heap.size = w.heap.size + 1 := by rw [← hX1]; simp
  have bX1 : Below w.heap.size w X1 := by rw [← hX1]; exact bal w _
  have bR_1 : Blk X1 (w.heap.size) [.slice (some ⟨w.heap.size + 1 + 1 + 1 + 1, 0, none⟩) 2 2, .slice none 0 0, .slice (some ⟨w.heap.size + 1 + 1 + 1 + 1 + 1, 0, none⟩) 2 2] 30 := by rw [← hX1]; exact Blk.newA w _ (by first | rfl | simp)
  generalize hX2 : World.alloc X1 _ = X2
  have zX2 : X2.heap.size = w.heap.size + 1 + 1 := by rw [← hX2]; simp [zX1]
  have bX2 : Below X1.heap.size X1 X2 := by rw [← hX2]; exact bal X1 _
  have i1_2 : Blk X2 (w.heap.size + 1) [.int .i64 0] 3 := by rw [← hX2, ← zX1]; exact Blk.newA X1 _ (by first | rfl | simp)
  have bR_2 := bR_1.later bX2
  generalize hX3 : World.alloc X2 _ = X3
  have zX3 : X3.heap.size = w.heap.size + 1 + 1 + 1 := by rw [← hX3]; simp [zX2]
  have bX3 : Below X2.heap.size X2 X3 := by rw [← hX3]; exact bal X2 _
  have i2_3 : Blk X3 (w.heap.size + 1 + 1) [.int .i64 2] 3 := by rw [← hX3, ← zX2]; exact Blk.newA X2 _ (by first | rfl | simp)
  have bR_3 := bR_2.later bX3
  have i1_3 := i1_2.later bX3
  generalize hX4 : World.alloc X3 _ = X4
  have zX4 : X4.heap.size = w.heap.size + 1 + 1 + 1 + 1 := by rw [← hX4]; simp [zX3]
  have bX4 : Below X3.heap.size X3 X4 := by rw [← hX4]; exact bal X3 _
  have i3_4 : Blk X4 (w.heap.size + 1 + 1 + 1) [.int .i64 1] 3 := by rw [← hX4, ← zX3]; exact Blk.newA X3 _ (by first | rfl | simp)
  have bR_4 := bR_3.later bX4
  have i1_4 := i1_3.later bX4
  have i2_4 := i2_3.later bX4
  generalize hX5 : World.alloc X4 _ = X5
  have zX5 : X5.heap.size = w.heap.size + 1 + 1 + 1 + 1 + 1 := by rw [← hX5]; simp [zX4]
  have bX5 : Below X4.heap.size X4 X5 := by rw [← hX5]; exact bal X4 _
  have bC_5 : Blk X5 (w.heap.size + 1 + 1 + 1 + 1) [.int .i64 100, .int .i64 200, .int .i64 1000, .slice (some ⟨w.heap.size + 1, 0, none⟩) 1 1, .slice (some ⟨w.heap.size + 1 + 1, 0, none⟩) 1 1, .int .i64 3, .int .i64 300, .int .i64 250, .int .i64 1000, .slice (some ⟨w.heap.size + 1 + 1 + 1, 0, none⟩) 1 1, .slice none 0 0, .int .i64 3] 67 := by rw [← hX5, ← zX4]; exact Blk.newA X4 _ (by first | rfl | simp)
  have bR_5 := bR_4.later bX5
  have i1_5 := i1_4.later bX5
  have i2_5 := i2_4.later bX5
  have i3_5 := i3_4.later bX5
  generalize hX6 : World.alloc X5 _ = X6
  have zX6 : X6.heap.size = w.heap.size + 1 + 1 + 1 + 1 + 1 + 1 := by rw [← hX6]; simp [zX5]
  have bX6 : Below X5.heap.size X5 X6 := by rw [← hX6]; exact bal X5 _
  have bF : Blk X6 (w.heap.size + 1 + 1 + 1 + 1 + 1) [.int .i64 7, .int .i64 0, .int .i64 0, .int .i64 1000, .int .i64 150, .int .i64 1000, .int .i64 7, .int .i64 2, .int .i64 500, .int .i64 1000, .int .i64 600, .int .i64 1000] 74 := by rw [← hX6, ← zX5]; exact Blk.newA X5 _ (by first | rfl | simp)
  have bR := bR_5.later bX6
  have i1 := i1_5.later bX6
  have i2 := i2_5.later bX6
  have i3 := i3_5.later bX6
  have bC := bC_5.later bX6
  have Xb := below2 (below2 (below2 (below2 (below2 (bX1) bX2) bX3) bX4) bX5) bX6
  have Xz := zX6
  clear hX1 zX1 bX1 hX2 zX2 bX2 hX3 zX3 bX3 hX4 zX4 bX4 hX5 zX5 bX5 hX6 zX6 bX6 bR_1 bR_2 bR_3 bR_4 bR_5 i1_2 i1_3 i1_4 i1_5 i2_3 i2_4 i2_5 i3_4 i3_5 bC_5
  have x0 := bR.cell 0 rfl
  have x1 := bR.cell 1 rfl
  have x2 := bR.cell 2 rfl
  have h1 := clauses_blk (x := ⟨100, 200, 1000, [0], [2], 3⟩) (y := ⟨300, 250, 1000, [1], [], 3⟩) bC (ints_blk (l := [0]) i1 (by decide)) (ints_blk (l := [2]) i2 (by decide)) (ints_blk (l := [1]) i3 (by decide)) (IntsIn.nil _)
  have h2 := rec_blk (f := factC) (d := fact0) (k := 6) (fun _ => rfl) (l := exC.facts) bF (by decide)
  refine bodyPost_ret (v := .agg #[.slice (some ⟨w.heap.size + 1 + 1 + 1 + 1, 0, none⟩) 2 2, .slice none 0 0, .slice (some ⟨w.heap.size + 1 + 1 + 1 + 1 + 1, 0, none⟩) 2 2]) (by simp [results, Tryz.results23, go_sem, x0, x1, x2]) rfl ?_
  exact ⟨_, _, _, _, _, _, rfl, ⟨h1, RecIn.nil _, h2⟩, Xb⟩
end Go.Proofs.YtdjldidfnddpmaaGreat
/- The walk of the law's sane: it returns true. No condition. -/
namespace Go.Proofs.YtdjldidfnddpmaaGreat
open Go.RowKit
set_option maxRecDepth 100000 in
set_option maxHeartbeats 4000000 in
theorem sane31_any (w : World) : Calls Tryz.prog 4 #[] w (Ret (.bool true) w) := by
  have lC : exC.clauses.length = 2 := rfl
  have lR : exC.repeals.length = 0 := rfl
  have lF : exC.facts.length = 2 := rfl
  have LC := hide lC
  have LR := hide lR
  have LF := hide lF
  clear lC lR lF
  go_enter Tryz.func4, Tryz.ntmps4
  go_wp2_with fail
  refine (example31_any _).mono ?_
  rintro e w1 ⟨ca, cn, ra, rn, fa, fn, rfl, hC, hw⟩
  rw [LC.out, LR.out, LF.out] at hC ⊢
  go_wp2_with fail
  generalize hX1 : World.alloc w1 _ = X1
  have zX1 : X1.heap.size = w1.heap.size + 1 := by rw [← hX1]; simp
  have bX1 : Below w1.heap.size w1 X1 := by rw [← hX1]; exact bal w1 _
  have bE_1 : Blk X1 (w1.heap.size) [.slice ca 2 cn, .slice ra 0 rn, .slice fa 2 fn] 30 := by rw [← hX1]; exact Blk.newA w1 _ (by first | rfl | simp)
  generalize hX2 : World.alloc X1 _ = X2
  have zX2 : X2.heap.size = w1.heap.size + 1 + 1 := by rw [← hX2]; simp [zX1]
  have bX2 : Below X1.heap.size X1 X2 := by rw [← hX2]; exact bal X1 _
  have bQ_2 : Blk X2 (w1.heap.size + 1) [.int .i64 7, .int .i64 3, .int .i64 400, .int .i64 400] 33 := by rw [← hX2, ← zX1]; exact Blk.newA X1 _ (by first | rfl | simp)
  have bE_2 := bE_1.later bX2
  generalize hX3 : World.alloc X2 _ = X3
  have zX3 : X3.heap.size = w1.heap.size + 1 + 1 + 1 := by rw [← hX3]; simp [zX2]
  have bX3 : Below X2.heap.size X2 X3 := by rw [← hX3]; exact bal X2 _
  have bL : Blk X3 (w1.heap.size + 1 + 1) [.int .i64 7, .int .i64 3, .int .i64 700, .int .i64 650] 33 := by rw [← hX3, ← zX2]; exact Blk.newA X2 _ (by first | rfl | simp)
  have bE := bE_2.later bX3
  have bQ := bQ_2.later bX3
  have Xb := below2 (below2 (bX1) bX2) bX3
  have Xz := zX3
  clear hX1 zX1 bX1 hX2 zX2 bX2 hX3 zX3 bX3 bE_1 bE_2 bQ_2
  replace hC := hC.below Xb
  replace hw := below2 hw Xb
  have e0 := bE.cell 0 rfl
  have e1 := bE.cell 1 rfl
  have e2 := bE.cell 2 rfl
  have q0 := bQ.cell 0 rfl
  have q1 := bQ.cell 1 rfl
  have q2 := bQ.cell 2 rfl
  have q3 := bQ.cell 3 rfl
  have l0 := bL.cell 0 rfl
  have l1 := bL.cell 1 rfl
  have l2 := bL.cell 2 rfl
  have l3 := bL.cell 3 rfl
  clear Xb Xz
  refine (decide_at ans1 _ _ _ _ hC).mono ?_
  rintro e w2 ⟨p1, m1, rfl, hp1, hb⟩
  replace hp1 := hp1.at
  replace bE := bE.later hb
  replace bQ := bQ.later hb
  replace bL := bL.later hb
  replace hC := hC.below hb
  replace hw := below2 hw hb
  replace e0 := bE.cell 0 rfl
  replace e1 := bE.cell 1 rfl
  replace e2 := bE.cell 2 rfl
  replace q0 := bQ.cell 0 rfl
  replace q1 := bQ.cell 1 rfl
  replace q2 := bQ.cell 2 rfl
  replace q3 := bQ.cell 3 rfl
  replace l0 := bL.cell 0 rfl
  replace l1 := bL.cell 1 rfl
  replace l2 := bL.cell 2 rfl
  replace l3 := bL.cell 3 rfl
  clear hb
  go_wp2_with fail
  refine (decide_at ans2 _ _ _ _ hC).mono ?_
  rintro e w3 ⟨p2, m2, rfl, hp2, hb⟩
  replace hp2 := hp2.at
  replace hp1 := hp1.below hb
  replace bE := bE.later hb
  replace bQ := bQ.later hb
  replace bL := bL.later hb
  replace hC := hC.below hb
  replace hw := below2 hw hb
  replace e0 := bE.cell 0 rfl
  replace e1 := bE.cell 1 rfl
  replace e2 := bE.cell 2 rfl
  replace q0 := bQ.cell 0 rfl
  replace q1 := bQ.cell 1 rfl
  replace q2 := bQ.cell 2 rfl
  replace q3 := bQ.cell 3 rfl
  replace l0 := bL.cell 0 rfl
  replace l1 := bL.cell 1 rfl
  replace l2 := bL.cell 2 rfl
  replace l3 := bL.cell 3 rfl
  clear hb
  go_wp2_with fail
  refine (decide_at2 ans3 _ _ _ _ hC).mono ?_
  rintro e w4 ⟨p3, k3, m3, rfl, hb⟩
  replace hp1 := hp1.below hb
  replace hp2 := hp2.below hb
  replace bE := bE.later hb
  replace bQ := bQ.later hb
  replace bL := bL.later hb
  replace hC := hC.below hb
  replace hw := below2 hw hb
  replace e0 := bE.cell 0 rfl
  replace e1 := bE.cell 1 rfl
  replace e2 := bE.cell 2 rfl
  replace q0 := bQ.cell 0 rfl
  replace q1 := bQ.cell 1 rfl
  replace q2 := bQ.cell 2 rfl
  replace q3 := bQ.cell 3 rfl
  replace l0 := bL.cell 0 rfl
  replace l1 := bL.cell 1 rfl
  replace l2 := bL.cell 2 rfl
  replace l3 := bL.cell 3 rfl
  clear hb
  go_wp2_with fail
  refine (decide_at ans4 _ _ _ _ hC).mono ?_
  rintro e w5 ⟨p4, m4, rfl, hp4, hb⟩
  replace hp4 := hp4.at
  replace hp1 := hp1.below hb
  replace hp2 := hp2.below hb
  replace bE := bE.later hb
  replace bQ := bQ.later hb
  replace bL := bL.later hb
  replace hC := hC.below hb
  replace hw := below2 hw hb
  replace e0 := bE.cell 0 rfl
  replace e1 := bE.cell 1 rfl
  replace e2 := bE.cell 2 rfl
  replace q0 := bQ.cell 0 rfl
  replace q1 := bQ.cell 1 rfl
  replace q2 := bQ.cell 2 rfl
  replace q3 := bQ.cell 3 rfl
  replace l0 := bL.cell 0 rfl
  replace l1 := bL.cell 1 rfl
  replace l2 := bL.cell 2 rfl
  replace l3 := bL.cell 3 rfl
  clear hb
  go_wp2_with fail
  refine (decide_at2 ans5 _ _ _ _ hC).mono ?_
  rintro e w6 ⟨p5, k5, m5, rfl, hb⟩
  replace hp1 := hp1.below hb
  replace hp2 := hp2.below hb
  replace hp4 := hp4.below hb
  replace bE := bE.later hb
  replace bQ := bQ.later hb
  replace bL := bL.later hb
  replace hC := hC.below hb
  replace hw := below2 hw hb
  replace e0 := bE.cell 0 rfl
  replace e1 := bE.cell 1 rfl
  replace e2 := bE.cell 2 rfl
  replace q0 := bQ.cell 0 rfl
  replace q1 := bQ.cell 1 rfl
  replace q2 := bQ.cell 2 rfl
  replace q3 := bQ.cell 3 rfl
  replace l0 := bL.cell 0 rfl
  replace l1 := bL.cell 1 rfl
  replace l2 := bL.cell 2 rfl
  replace l3 := bL.cell 3 rfl
  clear hb
  have qa := fun o1 o2 => keep (below2 (bal w6 o1) (bal _ o2)) q0
  have qb := fun o1 o2 => keep (below2 (bal w6 o1) (bal _ o2)) q1
  have qc := fun o1 o2 => keep (below2 (bal w6 o1) (bal _ o2)) q2
  have qd := fun o1 o2 => keep (below2 (bal w6 o1) (bal _ o2)) q3
  go_wp2_with fail
  generalize hY1 : World.alloc w6 _ = Y1
  have zY1 : Y1.heap.size = w6.heap.size + 1 := by rw [← hY1]; simp
  have bY1 : Below w6.heap.size w6 Y1 := by rw [← hY1]; exact bal w6 _
  have bP_1 : Blk Y1 (w6.heap.size) [.slice ca 2 cn, .slice (some ⟨w6.heap.size + 1, 0, none⟩) 1 1, .slice fa 2 fn] 30 := by rw [← hY1]; exact Blk.newA w6 _ (by first | rfl | simp)
  generalize hY2 : World.alloc Y1 _ = Y2
  have zY2 : Y2.heap.size = w6.heap.size + 1 + 1 := by rw [← hY2]; simp [zY1]
  have bY2 : Below Y1.heap.size Y1 Y2 := by rw [← hY2]; exact bal Y1 _
  have bZ : Blk Y2 (w6.heap.size + 1) [.int .i64 0, .int .i64 350, .int .i64 300] 60 := by rw [← hY2, ← zY1]; exact Blk.newA Y1 _ (by first | rfl | simp)
  have bP := bP_1.later bY2
  have Yb := below2 (bY1) bY2
  have Yz := zY2
  clear hY1 zY1 bY1 hY2 zY2 bY2 bP_1
  clear qa qb qc qd
  replace hp1 := hp1.below Yb
  replace hp2 := hp2.below Yb
  replace hp4 := hp4.below Yb
  replace bE := bE.later Yb
  replace bQ := bQ.later Yb
  replace bL := bL.later Yb
  replace hC := hC.below Yb
  replace hw := below2 hw Yb
  replace e0 := bE.cell 0 rfl
  replace e1 := bE.cell 1 rfl
  replace e2 := bE.cell 2 rfl
  replace q0 := bQ.cell 0 rfl
  replace q1 := bQ.cell 1 rfl
  replace q2 := bQ.cell 2 rfl
  replace q3 := bQ.cell 3 rfl
  replace l0 := bL.cell 0 rfl
  replace l1 := bL.cell 1 rfl
  replace l2 := bL.cell 2 rfl
  replace l3 := bL.cell 3 rfl
  have hR : CodeIn Y2.cell? (.slice ca 2 cn) (.slice (some ⟨w6.heap.size + 1, 0, none⟩) 1 1) (.slice fa 2 fn) exR := ⟨hC.cl, rec_blk (f := repealC) (d := repeal0) (k := 3) (fun _ => rfl) (l := [⟨0, 350, 300⟩]) bZ (by decide), hC.fa⟩
  clear Yb Yz bZ
  refine (decide_at2 ans6 _ _ _ _ hR).mono ?_
  rintro e w7 ⟨p6, k6, m6, rfl, hb⟩
  replace hp1 := hp1.below hb
  replace hp2 := hp2.below hb
  replace hp4 := hp4.below hb
  replace bE := bE.later hb
  replace bQ := bQ.later hb
  replace bL := bL.later hb
  replace hC := hC.below hb
  replace hw := below2 hw hb
  replace e0 := bE.cell 0 rfl
  replace e1 := bE.cell 1 rfl
  replace e2 := bE.cell 2 rfl
  replace q0 := bQ.cell 0 rfl
  replace q1 := bQ.cell 1 rfl
  replace q2 := bQ.cell 2 rfl
  replace q3 := bQ.cell 3 rfl
  replace l0 := bL.cell 0 rfl
  replace l1 := bL.cell 1 rfl
  replace l2 := bL.cell 2 rfl
  replace l3 := bL.cell 3 rfl
  clear hb hR bP
  go_wp2_with fail
  refine (usesS_any exC ⟨7, 3, 700, 650⟩ _ _ _ _ second31 _ hC hp2).mono ?_
  rw [use1.1, use1.2.1, use1.2.2]
  rintro e w8 ⟨u1, u2, rfl, hu1, hu2, hb⟩
  replace hu1 : IntsAt w8 u1 [1] := hu1.at
  replace hu2 : IntsAt w8 u2 [0, 1] := hu2.at
  replace hp1 := hp1.below hb
  replace hp2 := hp2.below hb
  replace hp4 := hp4.below hb
  replace bE := bE.later hb
  replace bQ := bQ.later hb
  replace bL := bL.later hb
  replace hC := hC.below hb
  replace hw := below2 hw hb
  replace e0 := bE.cell 0 rfl
  replace e1 := bE.cell 1 rfl
  replace e2 := bE.cell 2 rfl
  replace q0 := bQ.cell 0 rfl
  replace q1 := bQ.cell 1 rfl
  replace q2 := bQ.cell 2 rfl
  replace q3 := bQ.cell 3 rfl
  replace l0 := bL.cell 0 rfl
  replace l1 := bL.cell 1 rfl
  replace l2 := bL.cell 2 rfl
  replace l3 := bL.cell 3 rfl
  clear hb
  obtain ⟨u1a, u1n, rfl, -⟩ := id hu1
  obtain ⟨u2a, u2n, rfl, -⟩ := id hu2
  go_wp2_with fail
  refine (appliesS_any exC ⟨7, 3, 400, 400⟩ _ _ _ _ hC).mono ?_
  rw [app1.1, app1.2.1, app1.2.2]
  rintro e w9 ⟨v1, v2, rfl, hv1, hv2, hb⟩
  replace hv1 : IntsAt w9 v1 [0] := hv1.at
  replace hv2 : IntsAt w9 v2 [0, 1] := hv2.at
  replace hu1 := hu1.below hb
  replace hu2 := hu2.below hb
  replace hp1 := hp1.below hb
  replace hp2 := hp2.below hb
  replace hp4 := hp4.below hb
  replace bE := bE.later hb
  replace bQ := bQ.later hb
  replace bL := bL.later hb
  replace hC := hC.below hb
  replace hw := below2 hw hb
  replace e0 := bE.cell 0 rfl
  replace e1 := bE.cell 1 rfl
  replace e2 := bE.cell 2 rfl
  replace q0 := bQ.cell 0 rfl
  replace q1 := bQ.cell 1 rfl
  replace q2 := bQ.cell 2 rfl
  replace q3 := bQ.cell 3 rfl
  replace l0 := bL.cell 0 rfl
  replace l1 := bL.cell 1 rfl
  replace l2 := bL.cell 2 rfl
  replace l3 := bL.cell 3 rfl
  clear hb
  obtain ⟨v1a, v1n, rfl, -⟩ := id hv1
  obtain ⟨v2a, v2n, rfl, -⟩ := id hv2
  go_wp2_with fail
  generalize hZ1 : World.alloc w9 _ = Z1
  have zZ1 : Z1.heap.size = w9.heap.size + 1 := by rw [← hZ1]; simp
  have bZ1 : Below w9.heap.size w9 Z1 := by rw [← hZ1]; exact bal w9 _
  have bF_1 : Blk Z1 (w9.heap.size) [.int .i64 0, .bool true, .int .i64 0, .int .i64 (-1), .int .i64 2, .bool false, .int .i64 (-1), .int .i64 (-1), .int .i64 3, .bool true, .int .i64 (-1), .int .i64 0] 62 := by rw [← hZ1]; exact Blk.newA w9 _ (by first | rfl | simp)
  generalize hZ2 : World.alloc Z1 _ = Z2
  have zZ2 : Z2.heap.size = w9.heap.size + 1 + 1 := by rw [← hZ2]; simp [zZ1]
  have bZ2 : Below Z1.heap.size Z1 Z2 := by rw [← hZ2]; exact bal Z1 _
  have bS : Blk Z2 (w9.heap.size + 1) [.int .i64 1, .bool false, .int .i64 (-1), .int .i64 (-1), .int .i64 2, .bool true, .int .i64 1, .int .i64 (-1), .int .i64 3, .bool false, .int .i64 (-1), .int .i64 (-1)] 62 := by rw [← hZ2, ← zZ1]; exact Blk.newA Z1 _ (by first | rfl | simp)
  have bF := bF_1.later bZ2
  have Zb := below2 (bZ1) bZ2
  have Zz := zZ2
  clear hZ1 zZ1 bZ1 hZ2 zZ2 bZ2 bF_1
  replace hu1 := hu1.below Zb
  replace hu2 := hu2.below Zb
  replace hv1 := hv1.below Zb
  replace hv2 := hv2.below Zb
  replace hp1 := hp1.below Zb
  replace hp2 := hp2.below Zb
  replace hp4 := hp4.below Zb
  have hf : FindsIn Z2.cell? (.slice (some ⟨w9.heap.size, 0, none⟩) 3 3) first31 := rec_blk (f := findC) (d := find0) (k := 4) (fun _ => rfl) (l := first31) bF (by decide)
  have hs : FindsIn Z2.cell? (.slice (some ⟨w9.heap.size + 1, 0, none⟩) 3 3) second31 := rec_blk (f := findC) (d := find0) (k := 4) (fun _ => rfl) (l := second31) bS (by decide)
  replace bE := bE.later Zb
  replace bQ := bQ.later Zb
  replace bL := bL.later Zb
  replace hC := hC.below Zb
  replace hw := below2 hw Zb
  replace e0 := bE.cell 0 rfl
  replace e1 := bE.cell 1 rfl
  replace e2 := bE.cell 2 rfl
  replace q0 := bQ.cell 0 rfl
  replace q1 := bQ.cell 1 rfl
  replace q2 := bQ.cell 2 rfl
  replace q3 := bQ.cell 3 rfl
  replace l0 := bL.cell 0 rfl
  replace l1 := bL.cell 1 rfl
  replace l2 := bL.cell 2 rfl
  replace l3 := bL.cell 3 rfl
  clear Zb Zz bF bS
  refine (same_any first31 _ _ _ hp1 hf).mono ?_
  rintro e wa ⟨rfl, hb⟩
  replace hu1 := hu1.below hb
  replace hu2 := hu2.below hb
  replace hv1 := hv1.below hb
  replace hv2 := hv2.below hb
  replace hp1 := hp1.below hb
  replace hp2 := hp2.below hb
  replace hp4 := hp4.below hb
  replace hf := hf.below hb
  replace hs := hs.below hb
  replace bE := bE.later hb
  replace bQ := bQ.later hb
  replace bL := bL.later hb
  replace hC := hC.below hb
  replace hw := below2 hw hb
  replace e0 := bE.cell 0 rfl
  replace e1 := bE.cell 1 rfl
  replace e2 := bE.cell 2 rfl
  replace q0 := bQ.cell 0 rfl
  replace q1 := bQ.cell 1 rfl
  replace q2 := bQ.cell 2 rfl
  replace q3 := bQ.cell 3 rfl
  replace l0 := bL.cell 0 rfl
  replace l1 := bL.cell 1 rfl
  replace l2 := bL.cell 2 rfl
  replace l3 := bL.cell 3 rfl
  clear hb
  go_wp2_with fail
  refine (same_any second31 _ _ _ hp2 hs).mono ?_
  rintro e wb ⟨rfl, hb⟩
  replace hu1 := hu1.below hb
  replace hu2 := hu2.below hb
  replace hv1 := hv1.below hb
  replace hv2 := hv2.below hb
  replace hp1 := hp1.below hb
  replace hp2 := hp2.below hb
  replace hp4 := hp4.below hb
  replace hf := hf.below hb
  replace hs := hs.below hb
  replace bE := bE.later hb
  replace bQ := bQ.later hb
  replace bL := bL.later hb
  replace hC := hC.below hb
  replace hw := below2 hw hb
  replace e0 := bE.cell 0 rfl
  replace e1 := bE.cell 1 rfl
  replace e2 := bE.cell 2 rfl
  replace q0 := bQ.cell 0 rfl
  replace q1 := bQ.cell 1 rfl
  replace q2 := bQ.cell 2 rfl
  replace q3 := bQ.cell 3 rfl
  replace l0 := bL.cell 0 rfl
  replace l1 := bL.cell 1 rfl
  replace l2 := bL.cell 2 rfl
  replace l3 := bL.cell 3 rfl
  clear hb
  go_wp2_with fail
  generalize hV1 : World.alloc wb _ = V1
  have zV1 : V1.heap.size = wb.heap.size + 1 := by rw [← hV1]; simp
  have bV1 : Below wb.heap.size wb V1 := by rw [← hV1]; exact bal wb _
  have bT : Blk V1 (wb.heap.size) [.int .i64 3, .bool false, .int .i64 (-1), .int .i64 (-1)] 62 := by rw [← hV1]; exact Blk.newA wb _ (by first | rfl | simp)
  have Vb := bV1
  have Vz := zV1
  clear hV1 zV1 bV1
  have ht : FindsIn V1.cell? (.slice (some ⟨wb.heap.size, 0, none⟩) 1 1) last31 := rec_blk (f := findC) (d := find0) (k := 4) (fun _ => rfl) (l := last31) bT (by decide)
  replace hu1 := hu1.below Vb
  replace hu2 := hu2.below Vb
  replace hv1 := hv1.below Vb
  replace hv2 := hv2.below Vb
  replace hp1 := hp1.below Vb
  replace hp2 := hp2.below Vb
  replace hp4 := hp4.below Vb
  replace hf := hf.below Vb
  replace hs := hs.below Vb
  replace bE := bE.later Vb
  replace bQ := bQ.later Vb
  replace bL := bL.later Vb
  replace hC := hC.below Vb
  replace hw := below2 hw Vb
  replace e0 := bE.cell 0 rfl
  replace e1 := bE.cell 1 rfl
  replace e2 := bE.cell 2 rfl
  replace q0 := bQ.cell 0 rfl
  replace q1 := bQ.cell 1 rfl
  replace q2 := bQ.cell 2 rfl
  replace q3 := bQ.cell 3 rfl
  replace l0 := bL.cell 0 rfl
  replace l1 := bL.cell 1 rfl
  replace l2 := bL.cell 2 rfl
  replace l3 := bL.cell 3 rfl
  clear Vb
  clear Vz bT
  refine (same_any last31 _ _ _ hp4 ht).mono ?_
  rintro e wc ⟨rfl, hb⟩
  clear ht
  replace hu1 := hu1.below hb
  replace hu2 := hu2.below hb
  replace hv1 := hv1.below hb
  replace hv2 := hv2.below hb
  replace hp1 := hp1.below hb
  replace hp2 := hp2.below hb
  replace hp4 := hp4.below hb
  replace hf := hf.below hb
  replace hs := hs.below hb
  replace bE := bE.later hb
  replace bQ := bQ.later hb
  replace bL := bL.later hb
  replace hC := hC.below hb
  replace hw := below2 hw hb
  replace e0 := bE.cell 0 rfl
  replace e1 := bE.cell 1 rfl
  replace e2 := bE.cell 2 rfl
  replace q0 := bQ.cell 0 rfl
  replace q1 := bQ.cell 1 rfl
  replace q2 := bQ.cell 2 rfl
  replace q3 := bQ.cell 3 rfl
  replace l0 := bL.cell 0 rfl
  replace l1 := bL.cell 1 rfl
  replace l2 := bL.cell 2 rfl
  replace l3 := bL.cell 3 rfl
  clear hb
  go_wp2_with fail
  refine (checkS_any exC ⟨7, 3, 400, 400⟩ _ _ _ _ true first31 _ hC hf).mono ?_
  rw [chk1.1]
  rintro e wd ⟨rfl, hb⟩
  replace hu1 := hu1.below hb
  replace hu2 := hu2.below hb
  replace hv1 := hv1.below hb
  replace hv2 := hv2.below hb
  replace hp1 := hp1.below hb
  replace hp2 := hp2.below hb
  replace hp4 := hp4.below hb
  replace hf := hf.below hb
  replace hs := hs.below hb
  replace bE := bE.later hb
  replace bQ := bQ.later hb
  replace bL := bL.later hb
  replace hC := hC.below hb
  replace hw := below2 hw hb
  replace e0 := bE.cell 0 rfl
  replace e1 := bE.cell 1 rfl
  replace e2 := bE.cell 2 rfl
  replace q0 := bQ.cell 0 rfl
  replace q1 := bQ.cell 1 rfl
  replace q2 := bQ.cell 2 rfl
  replace q3 := bQ.cell 3 rfl
  replace l0 := bL.cell 0 rfl
  replace l1 := bL.cell 1 rfl
  replace l2 := bL.cell 2 rfl
  replace l3 := bL.cell 3 rfl
  clear hb
  go_wp2_with fail
  refine (checkS_any exC ⟨7, 3, 400, 400⟩ _ _ _ _ false first31 _ hC hf).mono ?_
  rw [chk1.2.1]
  rintro e we ⟨rfl, hb⟩
  replace hu1 := hu1.below hb
  replace hu2 := hu2.below hb
  replace hv1 := hv1.below hb
  replace hv2 := hv2.below hb
  replace hp1 := hp1.below hb
  replace hp2 := hp2.below hb
  replace hp4 := hp4.below hb
  replace hf := hf.below hb
  replace hs := hs.below hb
  replace bE := bE.later hb
  replace bQ := bQ.later hb
  replace bL := bL.later hb
  replace hC := hC.below hb
  replace hw := below2 hw hb
  replace e0 := bE.cell 0 rfl
  replace e1 := bE.cell 1 rfl
  replace e2 := bE.cell 2 rfl
  replace q0 := bQ.cell 0 rfl
  replace q1 := bQ.cell 1 rfl
  replace q2 := bQ.cell 2 rfl
  replace q3 := bQ.cell 3 rfl
  replace l0 := bL.cell 0 rfl
  replace l1 := bL.cell 1 rfl
  replace l2 := bL.cell 2 rfl
  replace l3 := bL.cell 3 rfl
  clear hb
  go_wp2_with fail
  refine (checkS_any exC ⟨7, 3, 700, 650⟩ _ _ _ _ true first31 _ hC hf).mono ?_
  rw [chk1.2.2.1]
  rintro e wf ⟨rfl, hb⟩
  replace hu1 := hu1.below hb
  replace hu2 := hu2.below hb
  replace hv1 := hv1.below hb
  replace hv2 := hv2.below hb
  replace hp1 := hp1.below hb
  replace hp2 := hp2.below hb
  replace hp4 := hp4.below hb
  replace hf := hf.below hb
  replace hs := hs.below hb
  replace bE := bE.later hb
  replace bQ := bQ.later hb
  replace bL := bL.later hb
  replace hC := hC.below hb
  replace hw := below2 hw hb
  replace e0 := bE.cell 0 rfl
  replace e1 := bE.cell 1 rfl
  replace e2 := bE.cell 2 rfl
  replace q0 := bQ.cell 0 rfl
  replace q1 := bQ.cell 1 rfl
  replace q2 := bQ.cell 2 rfl
  replace q3 := bQ.cell 3 rfl
  replace l0 := bL.cell 0 rfl
  replace l1 := bL.cell 1 rfl
  replace l2 := bL.cell 2 rfl
  replace l3 := bL.cell 3 rfl
  clear hb
  go_wp2_with fail
  refine (checkS_any exC ⟨7, 3, 700, 650⟩ _ _ _ _ false second31 _ hC hs).mono ?_
  rw [chk1.2.2.2]
  rintro e wg ⟨rfl, hb⟩
  replace hu1 := hu1.below hb
  replace hu2 := hu2.below hb
  replace hv1 := hv1.below hb
  replace hv2 := hv2.below hb
  replace hp1 := hp1.below hb
  replace hp2 := hp2.below hb
  replace hp4 := hp4.below hb
  replace hf := hf.below hb
  replace hs := hs.below hb
  replace bE := bE.later hb
  replace bQ := bQ.later hb
  replace bL := bL.later hb
  replace hC := hC.below hb
  replace hw := below2 hw hb
  replace e0 := bE.cell 0 rfl
  replace e1 := bE.cell 1 rfl
  replace e2 := bE.cell 2 rfl
  replace q0 := bQ.cell 0 rfl
  replace q1 := bQ.cell 1 rfl
  replace q2 := bQ.cell 2 rfl
  replace q3 := bQ.cell 3 rfl
  replace l0 := bL.cell 0 rfl
  replace l1 := bL.cell 1 rfl
  replace l2 := bL.cell 2 rfl
  replace l3 := bL.cell 3 rfl
  clear hb
  go_wp2_with fail
  generalize hV1 : World.alloc wg _ = V1
  have zV1 : V1.heap.size = wg.heap.size + 1 := by rw [← hV1]; simp
  have bV1 : Below wg.heap.size wg V1 := by rw [← hV1]; exact bal wg _
  have bT : Blk V1 (wg.heap.size) [.int .i64 1] 3 := by rw [← hV1]; exact Blk.newA wg _ (by first | rfl | simp)
  have Vb := bV1
  have Vz := zV1
  clear hV1 zV1 bV1
  have ht : IntsAt V1 (.slice (some ⟨wg.heap.size, 0, none⟩) 1 1) [1] := ints_blk (l := [1]) bT (by decide)
  replace hu1 := hu1.below Vb
  replace hu2 := hu2.below Vb
  replace hv1 := hv1.below Vb
  replace hv2 := hv2.below Vb
  replace hp1 := hp1.below Vb
  replace hp2 := hp2.below Vb
  replace hp4 := hp4.below Vb
  replace hf := hf.below Vb
  replace hs := hs.below Vb
  replace bE := bE.later Vb
  replace bQ := bQ.later Vb
  replace bL := bL.later Vb
  replace hC := hC.below Vb
  replace hw := below2 hw Vb
  replace e0 := bE.cell 0 rfl
  replace e1 := bE.cell 1 rfl
  replace e2 := bE.cell 2 rfl
  replace q0 := bQ.cell 0 rfl
  replace q1 := bQ.cell 1 rfl
  replace q2 := bQ.cell 2 rfl
  replace q3 := bQ.cell 3 rfl
  replace l0 := bL.cell 0 rfl
  replace l1 := bL.cell 1 rfl
  replace l2 := bL.cell 2 rfl
  replace l3 := bL.cell 3 rfl
  clear Vb
  clear Vz bT
  refine (ints_any [1] [1] _ _ _ hu1 ht).mono ?_
  rw [show intsB [1] [1] = true by decide]
  rintro e wh ⟨rfl, hb⟩
  clear ht
  replace hu1 := hu1.below hb
  replace hu2 := hu2.below hb
  replace hv1 := hv1.below hb
  replace hv2 := hv2.below hb
  replace hp1 := hp1.below hb
  replace hp2 := hp2.below hb
  replace hp4 := hp4.below hb
  replace hf := hf.below hb
  replace hs := hs.below hb
  replace bE := bE.later hb
  replace bQ := bQ.later hb
  replace bL := bL.later hb
  replace hC := hC.below hb
  replace hw := below2 hw hb
  replace e0 := bE.cell 0 rfl
  replace e1 := bE.cell 1 rfl
  replace e2 := bE.cell 2 rfl
  replace q0 := bQ.cell 0 rfl
  replace q1 := bQ.cell 1 rfl
  replace q2 := bQ.cell 2 rfl
  replace q3 := bQ.cell 3 rfl
  replace l0 := bL.cell 0 rfl
  replace l1 := bL.cell 1 rfl
  replace l2 := bL.cell 2 rfl
  replace l3 := bL.cell 3 rfl
  clear hb
  go_wp2_with fail
  generalize hV1 : World.alloc wh _ = V1
  have zV1 : V1.heap.size = wh.heap.size + 1 := by rw [← hV1]; simp
  have bV1 : Below wh.heap.size wh V1 := by rw [← hV1]; exact bal wh _
  have bT : Blk V1 (wh.heap.size) [.int .i64 0, .int .i64 1] 3 := by rw [← hV1]; exact Blk.newA wh _ (by first | rfl | simp)
  have Vb := bV1
  have Vz := zV1
  clear hV1 zV1 bV1
  have ht : IntsAt V1 (.slice (some ⟨wh.heap.size, 0, none⟩) 2 2) [0, 1] := ints_blk (l := [0, 1]) bT (by decide)
  replace hu1 := hu1.below Vb
  replace hu2 := hu2.below Vb
  replace hv1 := hv1.below Vb
  replace hv2 := hv2.below Vb
  replace hp1 := hp1.below Vb
  replace hp2 := hp2.below Vb
  replace hp4 := hp4.below Vb
  replace hf := hf.below Vb
  replace hs := hs.below Vb
  replace bE := bE.later Vb
  replace bQ := bQ.later Vb
  replace bL := bL.later Vb
  replace hC := hC.below Vb
  replace hw := below2 hw Vb
  replace e0 := bE.cell 0 rfl
  replace e1 := bE.cell 1 rfl
  replace e2 := bE.cell 2 rfl
  replace q0 := bQ.cell 0 rfl
  replace q1 := bQ.cell 1 rfl
  replace q2 := bQ.cell 2 rfl
  replace q3 := bQ.cell 3 rfl
  replace l0 := bL.cell 0 rfl
  replace l1 := bL.cell 1 rfl
  replace l2 := bL.cell 2 rfl
  replace l3 := bL.cell 3 rfl
  clear Vb
  clear Vz bT
  refine (ints_any [0, 1] [0, 1] _ _ _ hu2 ht).mono ?_
  rw [show intsB [0, 1] [0, 1] = true by decide]
  rintro e wi ⟨rfl, hb⟩
  clear ht
  replace hu1 := hu1.below hb
  replace hu2 := hu2.below hb
  replace hv1 := hv1.below hb
  replace hv2 := hv2.below hb
  replace hp1 := hp1.below hb
  replace hp2 := hp2.below hb
  replace hp4 := hp4.below hb
  replace hf := hf.below hb
  replace hs := hs.below hb
  replace bE := bE.later hb
  replace bQ := bQ.later hb
  replace bL := bL.later hb
  replace hC := hC.below hb
  replace hw := below2 hw hb
  replace e0 := bE.cell 0 rfl
  replace e1 := bE.cell 1 rfl
  replace e2 := bE.cell 2 rfl
  replace q0 := bQ.cell 0 rfl
  replace q1 := bQ.cell 1 rfl
  replace q2 := bQ.cell 2 rfl
  replace q3 := bQ.cell 3 rfl
  replace l0 := bL.cell 0 rfl
  replace l1 := bL.cell 1 rfl
  replace l2 := bL.cell 2 rfl
  replace l3 := bL.cell 3 rfl
  clear hb
  go_wp2_with fail
  generalize hV1 : World.alloc wi _ = V1
  have zV1 : V1.heap.size = wi.heap.size + 1 := by rw [← hV1]; simp
  have bV1 : Below wi.heap.size wi V1 := by rw [← hV1]; exact bal wi _
  have bT : Blk V1 (wi.heap.size) [.int .i64 0] 3 := by rw [← hV1]; exact Blk.newA wi _ (by first | rfl | simp)
  have Vb := bV1
  have Vz := zV1
  clear hV1 zV1 bV1
  have ht : IntsAt V1 (.slice (some ⟨wi.heap.size, 0, none⟩) 1 1) [0] := ints_blk (l := [0]) bT (by decide)
  replace hu1 := hu1.below Vb
  replace hu2 := hu2.below Vb
  replace hv1 := hv1.below Vb
  replace hv2 := hv2.below Vb
  replace hp1 := hp1.below Vb
  replace hp2 := hp2.below Vb
  replace hp4 := hp4.below Vb
  replace hf := hf.below Vb
  replace hs := hs.below Vb
  replace bE := bE.later Vb
  replace bQ := bQ.later Vb
  replace bL := bL.later Vb
  replace hC := hC.below Vb
  replace hw := below2 hw Vb
  replace e0 := bE.cell 0 rfl
  replace e1 := bE.cell 1 rfl
  replace e2 := bE.cell 2 rfl
  replace q0 := bQ.cell 0 rfl
  replace q1 := bQ.cell 1 rfl
  replace q2 := bQ.cell 2 rfl
  replace q3 := bQ.cell 3 rfl
  replace l0 := bL.cell 0 rfl
  replace l1 := bL.cell 1 rfl
  replace l2 := bL.cell 2 rfl
  replace l3 := bL.cell 3 rfl
  clear Vb
  clear Vz bT
  refine (ints_any [0] [0] _ _ _ hv1 ht).mono ?_
  rw [show intsB [0] [0] = true by decide]
  rintro e wj ⟨rfl, hb⟩
  clear ht
  replace hu1 := hu1.below hb
  replace hu2 := hu2.below hb
  replace hv1 := hv1.below hb
  replace hv2 := hv2.below hb
  replace hp1 := hp1.below hb
  replace hp2 := hp2.below hb
  replace hp4 := hp4.below hb
  replace hf := hf.below hb
  replace hs := hs.below hb
  replace bE := bE.later hb
  replace bQ := bQ.later hb
  replace bL := bL.later hb
  replace hC := hC.below hb
  replace hw := below2 hw hb
  replace e0 := bE.cell 0 rfl
  replace e1 := bE.cell 1 rfl
  replace e2 := bE.cell 2 rfl
  replace q0 := bQ.cell 0 rfl
  replace q1 := bQ.cell 1 rfl
  replace q2 := bQ.cell 2 rfl
  replace q3 := bQ.cell 3 rfl
  replace l0 := bL.cell 0 rfl
  replace l1 := bL.cell 1 rfl
  replace l2 := bL.cell 2 rfl
  replace l3 := bL.cell 3 rfl
  clear hb
  go_wp2_with fail
  generalize hV1 : World.alloc wj _ = V1
  have zV1 : V1.heap.size = wj.heap.size + 1 := by rw [← hV1]; simp
  have bV1 : Below wj.heap.size wj V1 := by rw [← hV1]; exact bal wj _
  have bT : Blk V1 (wj.heap.size) [.int .i64 0, .int .i64 1] 3 := by rw [← hV1]; exact Blk.newA wj _ (by first | rfl | simp)
  have Vb := bV1
  have Vz := zV1
  clear hV1 zV1 bV1
  have ht : IntsAt V1 (.slice (some ⟨wj.heap.size, 0, none⟩) 2 2) [0, 1] := ints_blk (l := [0, 1]) bT (by decide)
  replace hu1 := hu1.below Vb
  replace hu2 := hu2.below Vb
  replace hv1 := hv1.below Vb
  replace hv2 := hv2.below Vb
  replace hp1 := hp1.below Vb
  replace hp2 := hp2.below Vb
  replace hp4 := hp4.below Vb
  replace hf := hf.below Vb
  replace hs := hs.below Vb
  replace bE := bE.later Vb
  replace bQ := bQ.later Vb
  replace bL := bL.later Vb
  replace hC := hC.below Vb
  replace hw := below2 hw Vb
  replace e0 := bE.cell 0 rfl
  replace e1 := bE.cell 1 rfl
  replace e2 := bE.cell 2 rfl
  replace q0 := bQ.cell 0 rfl
  replace q1 := bQ.cell 1 rfl
  replace q2 := bQ.cell 2 rfl
  replace q3 := bQ.cell 3 rfl
  replace l0 := bL.cell 0 rfl
  replace l1 := bL.cell 1 rfl
  replace l2 := bL.cell 2 rfl
  replace l3 := bL.cell 3 rfl
  clear Vb
  clear Vz bT
  refine (ints_any [0, 1] [0, 1] _ _ _ hv2 ht).mono ?_
  rw [show intsB [0, 1] [0, 1] = true by decide]
  rintro e wk ⟨rfl, hb⟩
  clear ht
  replace hu1 := hu1.below hb
  replace hu2 := hu2.below hb
  replace hv1 := hv1.below hb
  replace hv2 := hv2.below hb
  replace hp1 := hp1.below hb
  replace hp2 := hp2.below hb
  replace hp4 := hp4.below hb
  replace hf := hf.below hb
  replace hs := hs.below hb
  replace bE := bE.later hb
  replace bQ := bQ.later hb
  replace bL := bL.later hb
  replace hC := hC.below hb
  replace hw := below2 hw hb
  replace e0 := bE.cell 0 rfl
  replace e1 := bE.cell 1 rfl
  replace e2 := bE.cell 2 rfl
  replace q0 := bQ.cell 0 rfl
  replace q1 := bQ.cell 1 rfl
  replace q2 := bQ.cell 2 rfl
  replace q3 := bQ.cell 3 rfl
  replace l0 := bL.cell 0 rfl
  replace l1 := bL.cell 1 rfl
  replace l2 := bL.cell 2 rfl
  replace l3 := bL.cell 3 rfl
  clear hb
  go_wp2_with fail
  refine (validS_any exC _ _ _ _ hC).mono ?_
  rw [val1.1]
  rintro e wl ⟨rfl, hb⟩
  replace hu1 := hu1.below hb
  replace hu2 := hu2.below hb
  replace hv1 := hv1.below hb
  replace hv2 := hv2.below hb
  replace hp1 := hp1.below hb
  replace hp2 := hp2.below hb
  replace hp4 := hp4.below hb
  replace hf := hf.below hb
  replace hs := hs.below hb
  replace bE := bE.later hb
  replace bQ := bQ.later hb
  replace bL := bL.later hb
  replace hC := hC.below hb
  replace hw := below2 hw hb
  replace e0 := bE.cell 0 rfl
  replace e1 := bE.cell 1 rfl
  replace e2 := bE.cell 2 rfl
  replace q0 := bQ.cell 0 rfl
  replace q1 := bQ.cell 1 rfl
  replace q2 := bQ.cell 2 rfl
  replace q3 := bQ.cell 3 rfl
  replace l0 := bL.cell 0 rfl
  replace l1 := bL.cell 1 rfl
  replace l2 := bL.cell 2 rfl
  replace l3 := bL.cell 3 rfl
  clear hb
  go_wp2_with fail
  generalize hV1 : World.alloc wl _ = V1
  have zV1 : V1.heap.size = wl.heap.size + 1 := by rw [← hV1]; simp
  have bV1 : Below wl.heap.size wl V1 := by rw [← hV1]; exact bal wl _
  have bT : Blk V1 (wl.heap.size) [.int .i64 0, .int .i64 0, .int .i64 0, .slice none 0 0, .slice none 0 0, .int .i64 0] 67 := by rw [← hV1]; exact Blk.newA wl _ (by first | rfl | simp)
  have Vb := bV1
  have Vz := zV1
  clear hV1 zV1 bV1
  have ht : CodeIn V1.cell? (.slice (some ⟨wl.heap.size, 0, none⟩) 1 1) (.slice none 0 0) (.slice none 0 0) ⟨[clause0], [], []⟩ := ⟨⟨some ⟨wl.heap.size, 0, none⟩, 1, rfl, by simp, by omega, fun i hi => by
    have e : i = 0 := by simp at hi; exact hi
    subst e
    exact ⟨wl.heap.size, 0, .slice none 0 0, .slice none 0 0, rfl, bT.cell 0 rfl, bT.cell 1 rfl, bT.cell 2 rfl, bT.cell 3 rfl, bT.cell 4 rfl, bT.cell 5 rfl, IntsIn.nil _, IntsIn.nil _⟩⟩, RecIn.nil _, RecIn.nil _⟩
  replace hu1 := hu1.below Vb
  replace hu2 := hu2.below Vb
  replace hv1 := hv1.below Vb
  replace hv2 := hv2.below Vb
  replace hp1 := hp1.below Vb
  replace hp2 := hp2.below Vb
  replace hp4 := hp4.below Vb
  replace hf := hf.below Vb
  replace hs := hs.below Vb
  replace bE := bE.later Vb
  replace bQ := bQ.later Vb
  replace bL := bL.later Vb
  replace hC := hC.below Vb
  replace hw := below2 hw Vb
  replace e0 := bE.cell 0 rfl
  replace e1 := bE.cell 1 rfl
  replace e2 := bE.cell 2 rfl
  replace q0 := bQ.cell 0 rfl
  replace q1 := bQ.cell 1 rfl
  replace q2 := bQ.cell 2 rfl
  replace q3 := bQ.cell 3 rfl
  replace l0 := bL.cell 0 rfl
  replace l1 := bL.cell 1 rfl
  replace l2 := bL.cell 2 rfl
  replace l3 := bL.cell 3 rfl
  clear Vb
  clear Vz bT
  refine (validS_any ⟨[clause0], [], []⟩ _ _ _ _ ht).mono ?_
  rw [val1.2.1]
  rintro e wm ⟨rfl, hb⟩
  clear ht
  replace hu1 := hu1.below hb
  replace hu2 := hu2.below hb
  replace hv1 := hv1.below hb
  replace hv2 := hv2.below hb
  replace hp1 := hp1.below hb
  replace hp2 := hp2.below hb
  replace hp4 := hp4.below hb
  replace hf := hf.below hb
  replace hs := hs.below hb
  replace bE := bE.later hb
  replace bQ := bQ.later hb
  replace bL := bL.later hb
  replace hC := hC.below hb
  replace hw := below2 hw hb
  replace e0 := bE.cell 0 rfl
  replace e1 := bE.cell 1 rfl
  replace e2 := bE.cell 2 rfl
  replace q0 := bQ.cell 0 rfl
  replace q1 := bQ.cell 1 rfl
  replace q2 := bQ.cell 2 rfl
  replace q3 := bQ.cell 3 rfl
  replace l0 := bL.cell 0 rfl
  replace l1 := bL.cell 1 rfl
  replace l2 := bL.cell 2 rfl
  replace l3 := bL.cell 3 rfl
  clear hb
  go_wp2_with fail
  refine (asksS_any ⟨7, 3, 400, 400⟩ _).mono ?_
  rw [val1.2.2.1]
  rintro e wn ⟨rfl, hb⟩
  replace hu1 := hu1.below hb
  replace hu2 := hu2.below hb
  replace hv1 := hv1.below hb
  replace hv2 := hv2.below hb
  replace hp1 := hp1.below hb
  replace hp2 := hp2.below hb
  replace hp4 := hp4.below hb
  replace hf := hf.below hb
  replace hs := hs.below hb
  replace bE := bE.later hb
  replace bQ := bQ.later hb
  replace bL := bL.later hb
  replace hC := hC.below hb
  replace hw := below2 hw hb
  replace e0 := bE.cell 0 rfl
  replace e1 := bE.cell 1 rfl
  replace e2 := bE.cell 2 rfl
  replace q0 := bQ.cell 0 rfl
  replace q1 := bQ.cell 1 rfl
  replace q2 := bQ.cell 2 rfl
  replace q3 := bQ.cell 3 rfl
  replace l0 := bL.cell 0 rfl
  replace l1 := bL.cell 1 rfl
  replace l2 := bL.cell 2 rfl
  replace l3 := bL.cell 3 rfl
  clear hb
  go_wp2_with fail
  refine (asksS_any ⟨0, 0, -1, 0⟩ _).mono ?_
  rw [val1.2.2.2]
  rintro e wo ⟨rfl, hb⟩
  replace hu1 := hu1.below hb
  replace hu2 := hu2.below hb
  replace hv1 := hv1.below hb
  replace hv2 := hv2.below hb
  replace hp1 := hp1.below hb
  replace hp2 := hp2.below hb
  replace hp4 := hp4.below hb
  replace hf := hf.below hb
  replace hs := hs.below hb
  replace bE := bE.later hb
  replace bQ := bQ.later hb
  replace bL := bL.later hb
  replace hC := hC.below hb
  replace hw := below2 hw hb
  replace e0 := bE.cell 0 rfl
  replace e1 := bE.cell 1 rfl
  replace e2 := bE.cell 2 rfl
  replace q0 := bQ.cell 0 rfl
  replace q1 := bQ.cell 1 rfl
  replace q2 := bQ.cell 2 rfl
  replace q3 := bQ.cell 3 rfl
  replace l0 := bL.cell 0 rfl
  replace l1 := bL.cell 1 rfl
  replace l2 := bL.cell 2 rfl
  replace l3 := bL.cell 3 rfl
  clear hb
  go_wp2_with fail
  go_ret
  exact ⟨rfl, hw⟩
end Go.Proofs.YtdjldidfnddpmaaGreat
/- A list of findings without one of them, made by two appends. Conditions: how the list lies in memory; sizes. -/
namespace Go.Proofs.YtdjldidfnddpmaaGreat
open Go.RowKit
theorem map_take_flat {L : List (List Value)} {n : Nat} {j : Nat} {u : Value} (h : (L.take n).flatten[j]? = some u) : L.flatten[j]? = some u := by
  have e : L.flatten = (L.take n).flatten ++ (L.drop n).flatten := by rw [← List.flatten_append, List.take_append_drop]
  rw [e, List.getElem?_append_left (List.getElem?_eq_some_iff.1 h).1]
  exact h
theorem map_drop_flat {L : List (List Value)} {n k : Nat} (hL : ∀ r ∈ L, r.length = k) (hn : n ≤ L.length) {j : Nat} {u : Value} (h : (L.drop n).flatten[j]? = some u) : L.flatten[n * k + j]? = some u := by
  have e : L.flatten = (L.take n).flatten ++ (L.drop n).flatten := by rw [← List.flatten_append, List.take_append_drop]
  have h1 : (L.take n).flatten.length = n * k := by
    rw [flat_len fun r hr => hL r (List.mem_of_mem_take hr), List.length_take, Nat.min_eq_left hn]
  rw [e, List.getElem?_append_right (by omega), h1, Nat.add_sub_cancel_left]
  exact h
theorem less_take {w : World} {b o n m : Nat} {P : List FindD} (h : FindsIn w.cell? (.slice (some ⟨b, o, none⟩) n m) P) (k : Nat) : ∀ j u, ((P.take k).map findC).flatten[j]? = some u → w.cell? ((⟨b, o, none⟩ : Addr).add j) = some u := fun j u hj => by
  rw [List.map_take] at hj
  exact rec_news findC_len (by decide) h j u (map_take_flat hj)
theorem less_drop {w : World} {b o n m : Nat} {P : List FindD} (h : FindsIn w.cell? (.slice (some ⟨b, o, none⟩) n m) P) {k : Nat} (hk : k < P.length) {A : Addr} (hA : (if m = k + 1 then (some ⟨b, o, none⟩ : Option Addr) else some ⟨b, o + (k + 1) * 4, none⟩) = some A) : ∀ j u, ((P.drop (k + 1)).map findC).flatten[j]? = some u → w.cell? (A.add j) = some u := fun j u hj => by
  obtain ⟨a', n', e, h1, h2, h3⟩ := id h
  cases e
  by_cases hm : m = k + 1
  · have : P.drop (k + 1) = [] := List.drop_eq_nil_of_le (by omega)
    rw [this] at hj
    simp at hj
  · rw [if_neg hm] at hA
    cases hA
    rw [List.map_drop] at hj
    have h4 := map_drop_flat (k := 4) (fun r hr => by obtain ⟨x, -, rfl⟩ := List.mem_map.1 hr; rfl) (by rw [List.length_map]; omega) hj
    have h5 := rec_news findC_len (by decide) h _ _ h4
    rw [Addr.add_lit]
    rw [Addr.add_lit] at h5
    rwa [← Nat.add_assoc] at h5
theorem less_addr (m k b o : Nat) : ∃ A : Addr, (if m = k + 1 then (some ⟨b, o, none⟩ : Option Addr) else some ⟨b, o + (k + 1) * 4, none⟩) = some A := by
  by_cases h : m = k + 1
  · exact ⟨_, by rw [if_pos h]⟩
  · exact ⟨_, by rw [if_neg h]⟩
theorem less_eq (P : List FindD) (k : Nat) : ([] ++ (P.take k).map findC) ++ (P.drop (k + 1)).map findC = (P.eraseIdx k).map findC := by
  rw [List.nil_append, ← List.map_append, List.eraseIdx_eq_take_drop_succ]
end Go.Proofs.YtdjldidfnddpmaaGreat
/- The walk of StatuteSpare. Conditions: how the arguments lie in memory; that integers are of 64 bits. -/
namespace Go.Proofs.YtdjldidfnddpmaaGreat
open Go.RowKit
end Go.Proofs.YtdjldidfnddpmaaGreat
/- The walk of the reference's BentProof: it returns some list of findings. Conditions: how the list lies in memory; sizes; that integers are of 64 bits. -/
namespace Go.Proofs.YtdjldidfnddpmaaGreat
open Go.RowKit
/-- the call returns a list of findings -/
def SomeFQ (m : Nat) (w : World) (e : Ending) (w' : World) : Prop := ∃ v l, e = .returned v ∧ FindsIn (frm w.heap.size w') v l ∧ l.length ≤ m ∧ Below w.heap.size w w'
theorem set_find {l : List FindD} {k : Nat} (hk : k < l.length) (j : Nat) (u : Value) (x : FindD) (h : (findC (l.getD k find0)).set j u = findC x) : (l.map findC).set k (((l.map findC).getD k []).set j u) = (l.set k x).map findC := by
  have hi' : (l.map findC).getD k [] = findC (l.getD k find0) := by
    rw [List.getD_eq_getElem?_getD, List.getElem?_map, List.getElem?_eq_getElem hk, List.getD_eq_getElem?_getD, List.getElem?_eq_getElem hk]; rfl
  rw [hi', h, List.map_set]
theorem ownFi_set {w : World} {B g c : Nat} {l : List FindD} (h : OwnFi w B (.slice (some ⟨g, 0, none⟩) l.length c) l) {k : Nat} (hk : k < l.length) (j : Nat) (hj : j < 4) (u : Value) (x : FindD) (hx : (findC (l.getD k find0)).set j u = findC x) : OwnFi (w.setCell ⟨g, k * 4 + j, none⟩ u) B (.slice (some ⟨g, 0, none⟩) l.length c) (l.set k x) := by
  have hl : (l.map findC).length = l.length := List.length_map ..
  have h1 := OwnR.set (g := g) (c := c) (L := l.map findC) (by rw [hl]; exact h) k j (by rw [hl]; exact hk) hj u
  rw [set_find hk j u x hx, hl] at h1
  exact h1
theorem below_set {w W : World} {g j : Nat} (hb : Below w.heap.size w W) (hg : w.heap.size ≤ g) (u : Value) : Below w.heap.size w (W.setCell ⟨g, j, none⟩ u) := hb.setCell (p := ⟨g, j, none⟩) hg u
theorem ownFi_ret {w W : World} {v : Value} {l : List FindD} (h : OwnFi W w.heap.size v l) (hb : Below w.heap.size w W) {m : Nat} (hm : l.length ≤ m) : SomeFQ m w (.returned v) W := ⟨v, l, rfl, OwnFi.inF h (Nat.le_refl _), hm, hb⟩
theorem finds_take {c : Rd} {b n m : Nat} {l : List FindD} (h : FindsIn c (.slice (some ⟨b, 0, none⟩) n m) l) {K : Nat} (hK : K ≤ l.length) (hm : K ≤ 1000) : FindsIn c (.slice (some ⟨b, 0, none⟩) K K) (l.take K) := by
  have hl : (l.take K).length = K := by rw [List.length_take, Nat.min_eq_left hK]
  refine ⟨some ⟨b, 0, none⟩, K, by rw [hl], by omega, by omega, fun i hi => ?_⟩
  rw [hl] at hi
  have e : (l.take K).getD i find0 = l.getD i find0 := by
    rw [List.getD_eq_getElem?_getD, List.getElem?_take_of_lt hi, ← List.getD_eq_getElem?_getD]
  rw [e]
  exact h.cell (by omega)
theorem own_join {w : World} {B n : Nat} {v : Value} {l m : List FindD} (h : w.ownsRow B 62 4 v n ((l.map findC).flatten ++ (m.map findC).flatten)) (hn : n = (l ++ m).length) : OwnFi w B v (l ++ m) := by
  subst hn
  refine ⟨?_, fun r hr => by obtain ⟨x, -, rfl⟩ := List.mem_map.1 hr; rfl⟩
  rw [List.length_map, List.map_append, List.flatten_append]
  exact h
set_option maxRecDepth 100000 in
set_option maxHeartbeats 4000000 in
theorem bent_any (l : List FindD) (lv : Value) (how n at_ : Int) (w : World) (hl : FindsIn w.cell? lv l) (hlen : l.length ≤ 100) (hh : i64B how) (ha : i64B at_) : Calls Tryz.prog 18 #[lv, .int .i64 how, .int .i64 n, .int .i64 at_] w (SomeFQ (l.length + 1) w) := by
  obtain ⟨la, ln, rfl, -⟩ := id hl
  have HC := hide (fun b (hb : la = some b) j u hj => rec_news findC_len (by decide) (by rw [hb] at hl; exact hl) j u hj (ad := b))
  have HNO : Hid (la = none → l.map findC = []) := hide fun h => by
    cases l with
    | nil => rfl
    | cons x t => obtain ⟨b, o, e, -⟩ := hl.cell (i := 0) (by simp); rw [h] at e; cases e
  have HP6 := hide (fun W => pickr_any how 6 W hh.1 hh.2 (by decide) (by decide))
  have HPK := hide (fun W (h0 : 0 < l.length) => pickr_any at_ l.length W ha.1 ha.2 (by omega) (by omega))
  obtain ⟨h60, h61⟩ := pkF_bd (n := 6) (by decide) how
  have HKB := hide (fun (h0 : 0 < l.length) => pkF_bd (n := (l.length : Int)) (by omega) at_)
  generalize pkF how 6 = p at *
  generalize pkF at_ l.length = kk at *
  clear hl hh ha
  go_enter Tryz.func18, Tryz.ntmps18
  rcases Nat.eq_zero_or_pos l.length with hl0 | hp0
  · obtain rfl := List.eq_nil_of_length_eq_zero hl0
    go_wp2_with (first | (at_builtin; refine app_recE infoFind rfl (by decide) Tryz.underlying34 rfl _ _ rfl w.heap.size _ [] rfl hO2 (findC ⟨n, false, -1, -1⟩) rfl (fun u hu => by simp only [findC, List.mem_cons, List.not_mem_nil, or_false] at hu; rcases hu with rfl | rfl | rfl | rfl <;> rfl) _ rfl rfl (by simp) (by simp) hs ?_; intro v2 w2 hO3 hE2 hob2) | (at_builtin; refine app_recsE infoFind rfl (by decide) Tryz.underlying34 rfl _ _ rfl w.heap.size _ [] rfl (lit_recsK w 62 4 (Nat.le_refl _)) la 0 ln [] (by simp) rfl (fun r hr => by cases hr) (fun u hu => by cases hu) (fun b hb j u hj => by simp at hj) (fun _ => rfl) (by simp) (by simp) (by simp) ?_; intro v1 w1 hO1 hE1 hob1; obtain ⟨va, vc, e1⟩ := own_form hO1; subst e1; have hO2 : OwnFi w1 w.heap.size (.slice va 0 vc) [] := (by exact hO1); have hB : Below w.heap.size w w1 := ⟨hE1.os, hE1.tape, hE1.output, by have := hE1.size; simp at this; omega, fun k hk => by rw [hE1.block k (by simp; omega) (by intro e; have e : k = w.heap.size := Option.some.inj e; omega), Below.heap_alloc _ _ _ hk]⟩; have hs := hB.size; clear hO1 hE1 hob1))
    have hO4 : OwnFi w2 w.heap.size v2 [⟨n, false, -1, -1⟩] := hO3
    go_ret
    exact ownFi_ret hO4 (hB.trans (hE2.below hs fun k hk => own_ge hO2 k hk)) (by simp)
  · obtain ⟨hk0, hk1⟩ := HKB.out hp0
    have HPK' := hide (fun W => HPK.out W hp0)
    obtain ⟨K, rfl⟩ : ∃ K : Nat, kk = K := ⟨kk.toNat, by omega⟩
    have hkl : K < l.length := by omega
    have hpI : (0 : Int) < l.length := by omega
    have hpe : ((l.length : Int) == 0) = false := beq_eq_false_iff_ne.2 (by omega)
    have hkI : (K : Int) < l.length := by omega
    clear HPK HKB hk0 hk1
    go_wp2_with (at_builtin; refine app_recsE infoFind rfl (by decide) Tryz.underlying34 rfl _ _ rfl w.heap.size _ [] rfl (lit_recsK w 62 4 (Nat.le_refl _)) la l.length ln (l.map findC) (by simp) rfl (fun r hr => by obtain ⟨x, -, rfl⟩ := List.mem_map.1 hr; rfl) (findC_one l) (fun b hb j u hj => keep (bal w _) (HC.out b hb j u hj)) HNO.out (by simp; omega) (by simp; omega) (by simp) ?_; intro v1 w1 hO1 hE1 hob1; obtain ⟨va, vc, e1⟩ := own_form hO1; rw [List.nil_append, List.length_map] at e1; subst e1; have hO2 : OwnFi w1 w.heap.size (.slice va l.length vc) l := (by simpa using hO1); have hB : Below w.heap.size w w1 := ⟨hE1.os, hE1.tape, hE1.output, by have := hE1.size; simp at this; omega, fun k hk => by rw [hE1.block k (by simp; omega) (by intro e; have e : k = w.heap.size := Option.some.inj e; omega), Below.heap_alloc _ _ _ hk]⟩; have hs := hB.size; clear hO1 hE1 hob1)
    obtain ⟨g, rfl, hgw⟩ : ∃ g, va = some ⟨g, 0, none⟩ ∧ w.heap.size ≤ g := by
      rcases hO2.form with ⟨h1, h2⟩ | ⟨g, c', cur, h1, h3, -⟩
      · have := congrArg List.length h2; rw [List.length_map] at this; simp at this; rw [this] at hp0; simp at hp0
      · rw [List.length_map] at h1; cases h1; exact ⟨g, rfl, h3⟩
    have HG := hide hgw
    have HO := hide hO2
    have HB := hide hB
    clear hO2 hB hgw hs
    refine (HPK'.out _).mono ?_
    rintro e w2 ⟨rfl, hw⟩; obtain rfl := hw.symm
    go_wp2_with fail
    refine (HP6.out _).mono ?_
    rintro e w2 ⟨rfl, hw⟩; obtain rfl := hw.symm
    have z : ∀ j, w1.frozen? ⟨g, j, none⟩ = false := fun j => World.ownsRow.frozenAt (show w1.ownsRow w.heap.size 62 4 (.slice (some ⟨g, 0, none⟩) l.length vc) l.length (l.map findC).flatten by have := HO.out.1; rwa [List.length_map] at this) j
    have hcell : ∀ j u, j < 4 → (findC (l.getD K find0))[j]? = some u → w1.cell? ⟨g, K * 4 + j, none⟩ = some u := fun j u hj hu => HO.out.cell K j (by rw [List.length_map]; exact hkl) hj (by
      have e : (l.map findC).getD K [] = findC (l.getD K find0) := by
        rw [List.getD_eq_getElem?_getD, List.getElem?_map, List.getElem?_eq_getElem hkl, List.getD_eq_getElem?_getD, List.getElem?_eq_getElem hkl]; rfl
      rw [e]; exact hu)
    have y0 := hcell 0 _ (by decide) rfl
    have y1 := hcell 1 _ (by decide) rfl
    have y2 := hcell 2 _ (by decide) rfl
    have y3 := hcell 3 _ (by decide) rfl
    rw [Nat.add_zero] at y0
    generalize hX : l.getD K find0 = X at y0 y1 y2 y3
    have HX := hide hX
    clear hX hcell
    have hps : p = 0 ∨ p = 1 ∨ p = 2 ∨ p = 3 ∨ p = 4 ∨ p = 5 := by omega
    rcases hps with hp | hp | hp | hp | hp | hp
    · subst hp
      have z0 := z (K * 4)
      have hq := hide (ownFi_set HO.out hkl 0 (by decide) (.int .i64 n) ⟨n, X.holds, X.fact, X.clause⟩ (by rw [HX.out]; rfl))
      have hbq := hide (below_set (j := K * 4 + 0) HB.out HG.out (.int .i64 n))
      try rw [Nat.add_zero] at hq hbq
      clear z
      go_wp2_with fail
      go_ret
      exact ownFi_ret hq.out hbq.out (by rw [List.length_set]; omega)
    · subst hp
      have z0 := z (K * 4 + 1)
      have hq := hide (ownFi_set HO.out hkl 1 (by decide) (.bool (!X.holds)) ⟨X.says, !X.holds, X.fact, X.clause⟩ (by rw [HX.out]; rfl))
      have hbq := hide (below_set (j := K * 4 + 1) HB.out HG.out (.bool (!X.holds)))
      try rw [Nat.add_zero] at hq hbq
      clear z
      go_wp2_with fail
      go_ret
      exact ownFi_ret hq.out hbq.out (by rw [List.length_set]; omega)
    · subst hp
      have z0 := z (K * 4 + 2)
      have hq := hide (ownFi_set HO.out hkl 2 (by decide) (.int .i64 n) ⟨X.says, X.holds, n, X.clause⟩ (by rw [HX.out]; rfl))
      have hbq := hide (below_set (j := K * 4 + 2) HB.out HG.out (.int .i64 n))
      try rw [Nat.add_zero] at hq hbq
      clear z
      go_wp2_with fail
      go_ret
      exact ownFi_ret hq.out hbq.out (by rw [List.length_set]; omega)
    · subst hp
      have z0 := z (K * 4 + 3)
      have hq := hide (ownFi_set HO.out hkl 3 (by decide) (.int .i64 n) ⟨X.says, X.holds, X.fact, n⟩ (by rw [HX.out]; rfl))
      have hbq := hide (below_set (j := K * 4 + 3) HB.out HG.out (.int .i64 n))
      try rw [Nat.add_zero] at hq hbq
      clear z
      go_wp2_with fail
      go_ret
      exact ownFi_ret hq.out hbq.out (by rw [List.length_set]; omega)
    · subst hp
      have hvc : l.length ≤ vc ∧ vc ≤ 9223372036854775807 := by
        rcases HO.out.1.2 with ⟨h1, -⟩ | ⟨g', c', cur, h1, -, -, h3, h4, -⟩
        · cases h1
        · rw [List.length_map] at h1 h3; cases h1; exact ⟨h3, by simpa [maxLen] using h4⟩
      have hcells : FindsIn w1.cell? (.slice (some ⟨g, 0, none⟩) l.length vc) l := (OwnFi.inF HO.out (Nat.zero_le _)).at
      obtain ⟨A, hA⟩ : ∃ A : Addr, (if vc = K + 1 then (some ⟨g, 0, none⟩ : Option Addr) else some ⟨g, (K + 1) * 4, none⟩) = some A := by have h := less_addr vc K g 0; simpa using h
      have HT := hide (fun W (hb : Below w1.heap.size w1 W) => less_take (hcells.below hb) K)
      have HD := hide (fun W (hb : Below w1.heap.size w1 W) => less_drop (hcells.below hb) hkl (A := A) (by rw [Nat.zero_add]; exact hA))
      have ht : (l.take K).length = K := by rw [List.length_take, Nat.min_eq_left (by omega)]
      have hd : (l.drop (K + 1)).length = l.length - (K + 1) := List.length_drop
      have ew : IntKind.i64.wrap ((K : Int) + 1) = ((K + 1 : Nat) : Int) := by rw [IntWalk.i64_in _ ⟨by omega, by omega⟩]; omega
      have h0k : 0 ≤ (K : Int) + 1 := by omega
      have h1k : (K : Int) + 1 ≤ (l.length : Int) := by omega
      have hkv : K ≤ vc := by omega
      have hkv1 : K + 1 ≤ vc := by omega
      have hkl1 : K + 1 ≤ l.length := by omega
      have HTD := hide (And.intro ht hd)
      have HE := hide (less_eq l K)
      have HCE := hide hcells
      clear hcells z y0 y1 y2 y3 ht hd
      rcases Nat.eq_zero_or_pos (l.length - (K + 1)) with hm | hm
      · go_wp2_with fail
        go_region_law (fail)
        go_wp2_with fail
        go_ret
        exact ⟨_, l.take K, rfl, finds_take ((OwnFi.inF HO.out (Nat.le_refl _)).keeps (keeps_frm_later fun j _ _ => rfl)) (by omega) (by omega), by rw [HTD.out.1]; omega, HB.out.drew⟩
      · obtain ⟨i0, hi, hz0, hz1, hz2⟩ := info_parts infoFind
        have hfl1 : Hid (((l.take K).map findC).flatten.length = K * 4) := hide (by rw [flat_len (k := 4) fun r hr => by obtain ⟨x, -, rfl⟩ := List.mem_map.1 hr; rfl, List.length_map, HTD.out.1])
        have hfl2 : Hid (((l.drop (K + 1)).map findC).flatten.length = (l.length - (K + 1)) * 4) := hide (by rw [flat_len (k := 4) fun r hr => by obtain ⟨x, -, rfl⟩ := List.mem_map.1 hr; rfl, List.length_map, HTD.out.2])
        have hml : Hid (K < K + (l.length - (K + 1))) := hide (by omega)
        have hmm : ¬ l.length - (K + 1) = 0 := by omega
        have hlj : Hid (K + (l.length - (K + 1)) = (l.take K ++ l.drop (K + 1)).length) := hide (by rw [List.length_append, HTD.out.1, HTD.out.2])
        go_wp2_with fail
        go_region_law (refine step_append_grows rfl (.tmp 76) (.tmp 80) 34 rfl 62 i0 find0V 4 32 Tryz.underlying34 hi hz0 hz1 hz2 rfl (by decide) (some ⟨g, 0, none⟩) K K ((l.take K).map findC).flatten (by simp [Act.eval, Act.put]) (fun h => by cases h) hfl1.out (fun b hb j u hj => by cases hb; exact HT.out _ (Below.refl _ _).drew j u hj) A (l.length - (K + 1)) (vc - (K + 1)) ((l.drop (K + 1)).map findC).flatten (by simp [Act.eval, Act.put]) hfl2.out (HD.out _ (Below.refl _ _).drew) (findC_one _) hml.out (by unfold maxLen; omega) (by omega) ?_; intro v2 w2 hO2 hg2; have hO3 := own_join hO2 hlj.out; obtain ⟨va2, vc2, e2⟩ := own_form hO3; obtain ⟨m6, hm6⟩ : ∃ m, ((l.take K ++ l.drop (K + 1)).map findC).length = m := ⟨_, rfl⟩; rw [hm6] at e2; subst e2; have HM6 := hide hm6; clear hm6)
        have HO3 := hide hO3
        have HB3 : Hid (Below w.heap.size w w2) := hide (HB.out.drew.grown hg2 HB.out.size (fun k hk => by cases hk))
        have HS3 := hide HB.out.size
        have hx := hlj.out
        clear hO2 hO3 hg2
        go_wp2_with fail
        go_ret
        exact ⟨_, _, rfl, OwnFi.inF HO3.out (show w.heap.size ≤ w1.drew.heap.size from HS3.out), by omega, HB3.out⟩
    · subst hp
      have z0 := z (K * 4)
      have z1 := z (K * 4 + 1)
      have z2 := z (K * 4 + 2)
      have z3 := z (K * 4 + 3)
      have s0 := ownFi_set HO.out hkl 0 (by decide) (.int .i64 X.says) X (by rw [HX.out]; rfl)
      have hl0 : (l.set K X).length = l.length := List.length_set
      have s1 := ownFi_set (l := l.set K X) (by rw [hl0]; exact s0) (by rw [hl0]; exact hkl) 1 (by decide) (.bool true) ⟨X.says, true, X.fact, X.clause⟩ (by rw [setC_eq hkl]; rfl)
      rw [List.set_set] at s1
      have hl1 : (l.set K ⟨X.says, true, X.fact, X.clause⟩).length = l.length := List.length_set
      have s2 := ownFi_set (l := l.set K ⟨X.says, true, X.fact, X.clause⟩) (by rw [hl1]; rw [hl0] at s1; exact s1) (by rw [hl1]; exact hkl) 2 (by decide) (.int .i64 (-1)) ⟨X.says, true, -1, X.clause⟩ (by rw [setC_eq hkl]; rfl)
      rw [List.set_set] at s2
      have hl2 : (l.set K ⟨X.says, true, -1, X.clause⟩).length = l.length := List.length_set
      have s3 := ownFi_set (l := l.set K ⟨X.says, true, -1, X.clause⟩) (by rw [hl2]; rw [hl1] at s2; exact s2) (by rw [hl2]; exact hkl) 3 (by decide) (.int .i64 n) ⟨X.says, true, -1, n⟩ (by rw [setC_eq hkl]; rfl)
      rw [List.set_set, hl2] at s3
      have HQ := hide s3
      have hbq := hide (below_set (j := K * 4 + 3) (below_set (j := K * 4 + 2) (below_set (j := K * 4 + 1) (below_set (j := K * 4 + 0) HB.out HG.out (.int .i64 X.says)) HG.out (.bool true)) HG.out (.int .i64 (-1))) HG.out (.int .i64 n))
      try rw [Nat.add_zero] at HQ hbq
      clear z s0 s1 s2 s3 hl0 hl1 hl2
      go_wp2_with fail
      go_ret
      exact ownFi_ret HQ.out hbq.out (by rw [List.length_set]; omega)
end Go.Proofs.YtdjldidfnddpmaaGreat
/- The walk of StatuteMatchesReference. Conditions: how the arguments lie in memory; that integers are of 64 bits. -/
namespace Go.Proofs.YtdjldidfnddpmaaGreat
open Go.RowKit
theorem intsB_same (l : List Int) : intsB l l = true := by simp [intsB]
/-- what Decide returns, and how long it is -/
theorem proof_len (c : CodeD) (q : QueryD) : (if (validC c && asksB q) = true then decideP c q else []).length ≤ 20 := by
  cases h : (validC c && asksB q)
  · simp
  · rw [Bool.and_eq_true] at h
    rw [if_pos rfl]
    have hd := decide_proves h.1 h.2
    simp only [checkB, Bool.and_eq_true] at hd
    exact proves_len hd.2
theorem proof_none (c : CodeD) (q : QueryD) (h : errS c q ≠ 0) : (if (validC c && asksB q) = true then decideP c q else []) = [] := by
  unfold errS at h
  cases e : (validC c && asksB q)
  · rfl
  · rw [e] at h; exact absurd rfl h
set_option maxRecDepth 100000 in
set_option maxHeartbeats 8000000 in
theorem match31_any (x : NumsD) (xc xr xf : Value) (rc : CodeD) (rcv rrv rfv : Value) (a0 a1 a2 a3 : Int) (oq : QueryD) (how n at_ : Int) (ol : List FindD) (ov : Value) (w : World)
    (hx : NumsIn w.cell? xc xr xf x) (h64 : Nums64 x) (hr : CodeIn w.cell? rcv rrv rfv rc) (ha : i64B a0 ∧ i64B a1 ∧ i64B a2 ∧ i64B a3) (hh : i64B how) (_hn : i64B n) (hat : i64B at_) (ho : FindsIn w.cell? ov ol) :
    Calls Tryz.prog 3 #[.agg #[xc, xr, xf], codeV rcv rrv rfv, .agg #[.int .i64 a0, .int .i64 a1, .int .i64 a2, .int .i64 a3], queryV oq, .int .i64 how, .int .i64 n, .int .i64 at_, ov] w (Ret (.bool true) w) := by
  have HX := hide hx
  have H64 := hide h64
  have HRC := hide hr
  have HAS := hide ha
  have HBW := hide hh
  have HAT := hide hat
  have HO := hide ho
  obtain ⟨⟨xca, xcn, rfl, -, -, -⟩, ⟨xra, xrn, rfl, -, -, -⟩, ⟨xfa, xfn, rfl, -, -, -⟩⟩ := id hx
  obtain ⟨⟨rca, rcn, rfl, -, -, -⟩, ⟨rra, rrn, rfl, -, -, -⟩, ⟨rfa, rfn, rfl, -, -, -⟩⟩ := id hr
  obtain ⟨oa, on, rfl, hon1, hon2, -⟩ := id ho
  obtain ⟨M, hM⟩ : ∃ M : Nat, M = min ol.length 8 := ⟨_, rfl⟩
  have hmin : min (ol.length : Int) 8 = (M : Int) := by omega
  have hMo : M ≤ on := by omega
  have hol : (ol.length : Int) ≤ 9223372036854775807 := by omega
  have HM : Hid (M ≤ ol.length ∧ M ≤ 8) := hide ⟨by omega, by omega⟩
  clear hx h64 hr ha hh _hn hat ho hM hon1 hon2
  go_enter Tryz.func3, Tryz.ntmps3
  go_wp2_with fail
  generalize hX1 : World.alloc w _ = X1
  have zX1 : X1.heap.size = w.heap.size + 1 := by rw [← hX1]; simp
  have bX1 : Below w.heap.size w X1 := by rw [← hX1]; exact bal w _
  have bN_1 : Blk X1 (w.heap.size) [.slice xca x.clauses.length xcn, .slice xra x.repeals.length xrn, .slice xfa x.facts.length xfn] 25 := by rw [← hX1]; exact Blk.newA w _ (by first | rfl | simp)
  generalize hX2 : World.alloc X1 _ = X2
  have zX2 : X2.heap.size = w.heap.size + 1 + 1 := by rw [← hX2]; simp [zX1]
  have bX2 : Below X1.heap.size X1 X2 := by rw [← hX2]; exact bal X1 _
  have bK_2 : Blk X2 (w.heap.size + 1) [.slice rca rc.clauses.length rcn, .slice rra rc.repeals.length rrn, .slice rfa rc.facts.length rfn] 30 := by rw [← hX2, ← zX1]; exact Blk.newA X1 _ (by first | rfl | simp)
  have bN_2 := bN_1.later bX2
  generalize hX3 : World.alloc X2 _ = X3
  have zX3 : X3.heap.size = w.heap.size + 1 + 1 + 1 := by rw [← hX3]; simp [zX2]
  have bX3 : Below X2.heap.size X2 X3 := by rw [← hX3]; exact bal X2 _
  have bA_3 : Blk X3 (w.heap.size + 1 + 1) [.int .i64 a0, .int .i64 a1, .int .i64 a2, .int .i64 a3] 31 := by rw [← hX3, ← zX2]; exact Blk.newA X2 _ (by first | rfl | simp)
  have bN_3 := bN_2.later bX3
  have bK_3 := bK_2.later bX3
  generalize hX4 : World.alloc X3 _ = X4
  have zX4 : X4.heap.size = w.heap.size + 1 + 1 + 1 + 1 := by rw [← hX4]; simp [zX3]
  have bX4 : Below X3.heap.size X3 X4 := by rw [← hX4]; exact bal X3 _
  have bO : Blk X4 (w.heap.size + 1 + 1 + 1) (queryC oq) 33 := by rw [← hX4, ← zX3]; exact Blk.newA X3 _ (by first | rfl | simp)
  have bN := bN_3.later bX4
  have bK := bK_3.later bX4
  have bA := bA_3.later bX4
  have Xb := below2 (below2 (below2 (bX1) bX2) bX3) bX4
  have Xz := zX4
  clear hX1 zX1 bX1 hX2 zX2 bX2 hX3 zX3 bX3 hX4 zX4 bX4 bN_1 bN_2 bN_3 bK_2 bK_3 bA_3
  refine (sane31_any _).mono ?_
  rintro e w1 ⟨rfl, hb1⟩
  replace bN := bN.later hb1
  replace bK := bK.later hb1
  replace bA := bA.later hb1
  replace bO := bO.later hb1
  have hw1 := below2 Xb hb1
  have n0 := bN.cell 0 rfl
  have n1 := bN.cell 1 rfl
  have n2 := bN.cell 2 rfl
  clear hb1 Xb Xz
  go_wp2_with fail
  refine (mader_any x _ _ _ w1 (HX.out.below hw1) H64.out).mono ?_
  rintro e w2 ⟨cv, rv, fv, B, rfl, hB1, hB2, hco, hb2⟩
  have hci : CodeIn w2.cell? cv rv fv (madeC x) := (hco.at (C := 0) (Nat.zero_le _) (Nat.zero_le _)).keeps (keeps_frm _ _)
  replace bK := bK.later hb2
  replace bA := bA.later hb2
  replace bO := bO.later hb2
  have hw2 := below2 hw1 hb2
  have HLN := hide (made_lens x)
  have HMN := hide (made_terms31 x)
  obtain ⟨⟨ca, cn, rfl, -, -, -⟩, ⟨ra, rn, rfl, -, -, -⟩, ⟨fa, fn, rfl, -, -, -⟩⟩ := id hci
  clear n0 n1 n2 bN hw1 hb2 hco hB1 hB2
  generalize madeC x = mc at *
  have k0 := fun o => keep (bal w2 o) (bK.cell 0 rfl)
  have k1 := fun o => keep (bal w2 o) (bK.cell 1 rfl)
  have k2 := fun o => keep (bal w2 o) (bK.cell 2 rfl)
  clear k0 k1 k2
  go_upto_region 4 with (fail)
  generalize hY1 : World.alloc w2 _ = Y1
  have zY1 : Y1.heap.size = w2.heap.size + 1 := by rw [← hY1]; simp
  have bY1 : Below w2.heap.size w2 Y1 := by rw [← hY1]; exact bal w2 _
  have bM : Blk Y1 (w2.heap.size) [.slice ca mc.clauses.length cn, .slice ra mc.repeals.length rn, .slice fa mc.facts.length fn] 30 := by rw [← hY1]; exact Blk.newA w2 _ (by first | rfl | simp)
  have Yb := bY1
  have Yz := zY1
  clear hY1 zY1 bY1
  replace hci := hci.below Yb
  replace bK := bK.later Yb
  replace bA := bA.later Yb
  replace bO := bO.later Yb
  have hw3 := below2 hw2 Yb
  clear hw2 Yb Yz
  have HBE := hide (fun W (hb : Below Y1.heap.size Y1 W) => bentr_any mc _ _ _ how n at_ W (hci.below hb) HLN.out HMN.out HBW.out HAT.out)
  have HFE := hide (fun W (hb : Below Y1.heap.size Y1 W) => few31_any rc _ _ _ W (HRC.out.below (below2 hw3 hb)))
  have m0 := bM.cell 0 rfl
  have m1 := bM.cell 1 rfl
  have m2 := bM.cell 2 rfl
  have r0 := bK.cell 0 rfl
  have r1 := bK.cell 1 rfl
  have r2 := bK.cell 2 rfl
  refine wp_region_inv [some 50, some 51, some 52, some 53, some 54, some 55, some 56, some 57, some 58, some 59, some 60] (fun L vs W => match vs with | [x0, x1, x2, x3, x4, x5, x6, x7, x8, x9, x10] => (Below Y1.heap.size Y1 W) ∧ (L 0 = true → x0 = .agg #[.slice ca mc.clauses.length cn, .slice ra mc.repeals.length rn, .slice fa mc.facts.length fn]) ∧ (L 1 = true → x1 = .agg #[.slice ca mc.clauses.length cn, .slice ra mc.repeals.length rn, .slice fa mc.facts.length fn]) ∧ (L 2 = true → x2 = .int .i64 how) ∧ (L 3 = true → x3 = .int .i64 n) ∧ (L 4 = true → x4 = .int .i64 at_) ∧ (L 5 = true → ∃ cv rv fv c, x5 = codeV cv rv fv ∧ CodeIn W.cell? cv rv fv c) ∧ (L 6 = true → x6 = .agg #[.slice rca rc.clauses.length rcn, .slice rra rc.repeals.length rrn, .slice rfa rc.facts.length rfn]) ∧ (L 7 = true → ∃ cv rv fv c, x7 = codeV cv rv fv ∧ CodeIn W.cell? cv rv fv c) ∧ (L 8 = true → ∃ (bb : Nat) (s1 s2 s3 t1 t2 t3 : Value) (d1 d2 : CodeD), x8 = .slice (some ⟨bb, 0, none⟩) 3 3 ∧ Blk W bb [.slice ca mc.clauses.length cn, .slice ra mc.repeals.length rn, .slice fa mc.facts.length fn, s1, s2, s3, t1, t2, t3] 30 ∧ CodeIn W.cell? s1 s2 s3 d1 ∧ CodeIn W.cell? t1 t2 t3 d2) ∧ (L 9 = true → x9 = .int .i64 3) ∧ (L 10 = true → x10 = .int .i64 0) | _ => False) [_, _, _, _, _, _, _, _, _, _, _] (by kernel_rfl) (by kernel_rfl) rfl (by simp only [puts, Act.put, List.setIfInBounds_toArray, List.set_cons_zero, List.set_cons_succ] <;> rfl) ?_ ?_ ?_
  · exact ⟨(Below.refl _ _).drew, (fun h => by cases h), (fun h => by cases h), (fun h => by cases h), (fun h => by cases h), (fun h => by cases h), (fun h => by cases h), (fun h => by cases h), (fun h => by cases h), (fun h => by cases h), (fun h => by cases h), (fun h => by cases h)⟩
  · refine ⟨?_, ?_, ?_, ?_, ?_, ?_, ?_, ?_, ?_, ?_, ?_, trivial⟩
    · intro L vs W hlen hL hD hI K hK
      obtain ⟨x0, x1, x2, x3, x4, x5, x6, x7, x8, x9, x10, rfl⟩ := len11 hlen
      have hG := hI.1
      replace hI := hI.2
      have f0 := hide hI.1
      replace hI := hI.2
      have f1 := hide hI.1
      replace hI := hI.2
      have f2 := hide hI.1
      replace hI := hI.2
      have f3 := hide hI.1
      replace hI := hI.2
      have f4 := hide hI.1
      replace hI := hI.2
      have f5 := hide hI.1
      replace hI := hI.2
      have f6 := hide hI.1
      replace hI := hI.2
      have f7 := hide hI.1
      replace hI := hI.2
      have f8 := hide hI.1
      replace hI := hI.2
      have f9 := hide hI.1
      replace hI := hI.2
      have f10 := hide hI
      clear hI
      have m0 := keep hG m0
      have m1 := keep hG m1
      have m2 := keep hG m2
      have r0 := keep hG r0
      have r1 := keep hG r1
      have r2 := keep hG r2
      try simp only [puts, Act.put, List.setIfInBounds_toArray, List.set_cons_zero, List.set_cons_succ]
      try go_simp
      exact hK.out _ _ _ (by simp only [puts, Act.put, List.setIfInBounds_toArray, List.set_cons_zero, List.set_cons_succ] <;> rfl) ⟨hG, (fun _ => rfl), (fun h => f1.out h), (fun h => f2.out h), (fun h => f3.out h), (fun h => f4.out h), (fun h => f5.out h), (fun h => f6.out h), (fun h => f7.out h), (fun h => f8.out h), (fun h => f9.out h), (fun h => f10.out h)⟩
    · intro L vs W hlen hL hD hI K hK
      obtain ⟨x0, x1, x2, x3, x4, x5, x6, x7, x8, x9, x10, rfl⟩ := len11 hlen
      have hG := hI.1
      replace hI := hI.2
      have f0 := hide hI.1
      replace hI := hI.2
      have f1 := hide hI.1
      replace hI := hI.2
      have f2 := hide hI.1
      replace hI := hI.2
      have f3 := hide hI.1
      replace hI := hI.2
      have f4 := hide hI.1
      replace hI := hI.2
      have f5 := hide hI.1
      replace hI := hI.2
      have f6 := hide hI.1
      replace hI := hI.2
      have f7 := hide hI.1
      replace hI := hI.2
      have f8 := hide hI.1
      replace hI := hI.2
      have f9 := hide hI.1
      replace hI := hI.2
      have f10 := hide hI
      clear hI
      have m0 := keep hG m0
      have m1 := keep hG m1
      have m2 := keep hG m2
      have r0 := keep hG r0
      have r1 := keep hG r1
      have r2 := keep hG r2
      try simp only [puts, Act.put, List.setIfInBounds_toArray, List.set_cons_zero, List.set_cons_succ]
      try go_simp
      exact hK.out _ _ _ (by simp only [puts, Act.put, List.setIfInBounds_toArray, List.set_cons_zero, List.set_cons_succ] <;> rfl) ⟨hG, (fun h => f0.out h), (fun _ => rfl), (fun h => f2.out h), (fun h => f3.out h), (fun h => f4.out h), (fun h => f5.out h), (fun h => f6.out h), (fun h => f7.out h), (fun h => f8.out h), (fun h => f9.out h), (fun h => f10.out h)⟩
    · intro L vs W hlen hL hD hI K hK
      obtain ⟨x0, x1, x2, x3, x4, x5, x6, x7, x8, x9, x10, rfl⟩ := len11 hlen
      have hG := hI.1
      replace hI := hI.2
      have f0 := hide hI.1
      replace hI := hI.2
      have f1 := hide hI.1
      replace hI := hI.2
      have f2 := hide hI.1
      replace hI := hI.2
      have f3 := hide hI.1
      replace hI := hI.2
      have f4 := hide hI.1
      replace hI := hI.2
      have f5 := hide hI.1
      replace hI := hI.2
      have f6 := hide hI.1
      replace hI := hI.2
      have f7 := hide hI.1
      replace hI := hI.2
      have f8 := hide hI.1
      replace hI := hI.2
      have f9 := hide hI.1
      replace hI := hI.2
      have f10 := hide hI
      clear hI
      have m0 := keep hG m0
      have m1 := keep hG m1
      have m2 := keep hG m2
      have r0 := keep hG r0
      have r1 := keep hG r1
      have r2 := keep hG r2
      try simp only [puts, Act.put, List.setIfInBounds_toArray, List.set_cons_zero, List.set_cons_succ]
      try go_simp
      exact hK.out _ _ _ (by simp only [puts, Act.put, List.setIfInBounds_toArray, List.set_cons_zero, List.set_cons_succ] <;> rfl) ⟨hG, (fun h => f0.out h), (fun h => f1.out h), (fun _ => rfl), (fun h => f3.out h), (fun h => f4.out h), (fun h => f5.out h), (fun h => f6.out h), (fun h => f7.out h), (fun h => f8.out h), (fun h => f9.out h), (fun h => f10.out h)⟩
    · intro L vs W hlen hL hD hI K hK
      obtain ⟨x0, x1, x2, x3, x4, x5, x6, x7, x8, x9, x10, rfl⟩ := len11 hlen
      have hG := hI.1
      replace hI := hI.2
      have f0 := hide hI.1
      replace hI := hI.2
      have f1 := hide hI.1
      replace hI := hI.2
      have f2 := hide hI.1
      replace hI := hI.2
      have f3 := hide hI.1
      replace hI := hI.2
      have f4 := hide hI.1
      replace hI := hI.2
      have f5 := hide hI.1
      replace hI := hI.2
      have f6 := hide hI.1
      replace hI := hI.2
      have f7 := hide hI.1
      replace hI := hI.2
      have f8 := hide hI.1
      replace hI := hI.2
      have f9 := hide hI.1
      replace hI := hI.2
      have f10 := hide hI
      clear hI
      have m0 := keep hG m0
      have m1 := keep hG m1
      have m2 := keep hG m2
      have r0 := keep hG r0
      have r1 := keep hG r1
      have r2 := keep hG r2
      try simp only [puts, Act.put, List.setIfInBounds_toArray, List.set_cons_zero, List.set_cons_succ]
      try go_simp
      exact hK.out _ _ _ (by simp only [puts, Act.put, List.setIfInBounds_toArray, List.set_cons_zero, List.set_cons_succ] <;> rfl) ⟨hG, (fun h => f0.out h), (fun h => f1.out h), (fun h => f2.out h), (fun _ => rfl), (fun h => f4.out h), (fun h => f5.out h), (fun h => f6.out h), (fun h => f7.out h), (fun h => f8.out h), (fun h => f9.out h), (fun h => f10.out h)⟩
    · intro L vs W hlen hL hD hI K hK
      obtain ⟨x0, x1, x2, x3, x4, x5, x6, x7, x8, x9, x10, rfl⟩ := len11 hlen
      have hG := hI.1
      replace hI := hI.2
      have f0 := hide hI.1
      replace hI := hI.2
      have f1 := hide hI.1
      replace hI := hI.2
      have f2 := hide hI.1
      replace hI := hI.2
      have f3 := hide hI.1
      replace hI := hI.2
      have f4 := hide hI.1
      replace hI := hI.2
      have f5 := hide hI.1
      replace hI := hI.2
      have f6 := hide hI.1
      replace hI := hI.2
      have f7 := hide hI.1
      replace hI := hI.2
      have f8 := hide hI.1
      replace hI := hI.2
      have f9 := hide hI.1
      replace hI := hI.2
      have f10 := hide hI
      clear hI
      have m0 := keep hG m0
      have m1 := keep hG m1
      have m2 := keep hG m2
      have r0 := keep hG r0
      have r1 := keep hG r1
      have r2 := keep hG r2
      try simp only [puts, Act.put, List.setIfInBounds_toArray, List.set_cons_zero, List.set_cons_succ]
      try go_simp
      exact hK.out _ _ _ (by simp only [puts, Act.put, List.setIfInBounds_toArray, List.set_cons_zero, List.set_cons_succ] <;> rfl) ⟨hG, (fun h => f0.out h), (fun h => f1.out h), (fun h => f2.out h), (fun h => f3.out h), (fun _ => rfl), (fun h => f5.out h), (fun h => f6.out h), (fun h => f7.out h), (fun h => f8.out h), (fun h => f9.out h), (fun h => f10.out h)⟩
    · intro L vs W hlen hL hD hI K hK
      obtain ⟨x0, x1, x2, x3, x4, x5, x6, x7, x8, x9, x10, rfl⟩ := len11 hlen
      have hG := hI.1
      replace hI := hI.2
      have f0 := hide hI.1
      replace hI := hI.2
      have f1 := hide hI.1
      replace hI := hI.2
      have f2 := hide hI.1
      replace hI := hI.2
      have f3 := hide hI.1
      replace hI := hI.2
      have f4 := hide hI.1
      replace hI := hI.2
      have f5 := hide hI.1
      replace hI := hI.2
      have f6 := hide hI.1
      replace hI := hI.2
      have f7 := hide hI.1
      replace hI := hI.2
      have f8 := hide hI.1
      replace hI := hI.2
      have f9 := hide hI.1
      replace hI := hI.2
      have f10 := hide hI
      clear hI
      have m0 := keep hG m0
      have m1 := keep hG m1
      have m2 := keep hG m2
      have r0 := keep hG r0
      have r1 := keep hG r1
      have r2 := keep hG r2
      obtain rfl := f1.out (hD.on 1 (by kernel_rfl))
      obtain rfl := f2.out (hD.on 2 (by kernel_rfl))
      obtain rfl := f3.out (hD.on 3 (by kernel_rfl))
      obtain rfl := f4.out (hD.on 4 (by kernel_rfl))
      try simp only [puts, Act.put, List.setIfInBounds_toArray, List.set_cons_zero, List.set_cons_succ]
      try go_simp
      refine (HBE.out _ hG).mono ?_
      rintro e W' ⟨cv, rv, fv, c, rfl, hcc, hb⟩
      try go_simp
      exact hK.out _ _ _ (by simp only [puts, Act.put, List.setIfInBounds_toArray, List.set_cons_zero, List.set_cons_succ] <;> rfl) ⟨below2 hG hb, (fun h => f0.out h), (fun h => f1.out h), (fun h => f2.out h), (fun h => f3.out h), (fun h => f4.out h), (fun _ => ⟨cv, rv, fv, c, rfl, hcc⟩), (fun h => f6.out h), (fun h => (fun h => let ⟨cv, rv, fv, c, a, b⟩ := h; ⟨cv, rv, fv, c, a, b.below hb⟩) (f7.out h)), (fun h => (fun h => let ⟨bb, s1, s2, s3, t1, t2, t3, d1, d2, a1, a2, a3, a4⟩ := h; ⟨bb, s1, s2, s3, t1, t2, t3, d1, d2, a1, a2.later hb, a3.below hb, a4.below hb⟩) (f8.out h)), (fun h => f9.out h), (fun h => f10.out h)⟩
    · intro L vs W hlen hL hD hI K hK
      obtain ⟨x0, x1, x2, x3, x4, x5, x6, x7, x8, x9, x10, rfl⟩ := len11 hlen
      have hG := hI.1
      replace hI := hI.2
      have f0 := hide hI.1
      replace hI := hI.2
      have f1 := hide hI.1
      replace hI := hI.2
      have f2 := hide hI.1
      replace hI := hI.2
      have f3 := hide hI.1
      replace hI := hI.2
      have f4 := hide hI.1
      replace hI := hI.2
      have f5 := hide hI.1
      replace hI := hI.2
      have f6 := hide hI.1
      replace hI := hI.2
      have f7 := hide hI.1
      replace hI := hI.2
      have f8 := hide hI.1
      replace hI := hI.2
      have f9 := hide hI.1
      replace hI := hI.2
      have f10 := hide hI
      clear hI
      have m0 := keep hG m0
      have m1 := keep hG m1
      have m2 := keep hG m2
      have r0 := keep hG r0
      have r1 := keep hG r1
      have r2 := keep hG r2
      try simp only [puts, Act.put, List.setIfInBounds_toArray, List.set_cons_zero, List.set_cons_succ]
      try go_simp
      exact hK.out _ _ _ (by simp only [puts, Act.put, List.setIfInBounds_toArray, List.set_cons_zero, List.set_cons_succ] <;> rfl) ⟨hG, (fun h => f0.out h), (fun h => f1.out h), (fun h => f2.out h), (fun h => f3.out h), (fun h => f4.out h), (fun h => f5.out h), (fun _ => rfl), (fun h => f7.out h), (fun h => f8.out h), (fun h => f9.out h), (fun h => f10.out h)⟩
    · intro L vs W hlen hL hD hI K hK
      obtain ⟨x0, x1, x2, x3, x4, x5, x6, x7, x8, x9, x10, rfl⟩ := len11 hlen
      have hG := hI.1
      replace hI := hI.2
      have f0 := hide hI.1
      replace hI := hI.2
      have f1 := hide hI.1
      replace hI := hI.2
      have f2 := hide hI.1
      replace hI := hI.2
      have f3 := hide hI.1
      replace hI := hI.2
      have f4 := hide hI.1
      replace hI := hI.2
      have f5 := hide hI.1
      replace hI := hI.2
      have f6 := hide hI.1
      replace hI := hI.2
      have f7 := hide hI.1
      replace hI := hI.2
      have f8 := hide hI.1
      replace hI := hI.2
      have f9 := hide hI.1
      replace hI := hI.2
      have f10 := hide hI
      clear hI
      have m0 := keep hG m0
      have m1 := keep hG m1
      have m2 := keep hG m2
      have r0 := keep hG r0
      have r1 := keep hG r1
      have r2 := keep hG r2
      obtain rfl := f6.out (hD.on 6 (by kernel_rfl))
      try simp only [puts, Act.put, List.setIfInBounds_toArray, List.set_cons_zero, List.set_cons_succ]
      try go_simp
      refine (HFE.out _ hG).mono ?_
      rintro e W' ⟨cv, rv, fv, c, rfl, hcc, hb⟩
      try go_simp
      exact hK.out _ _ _ (by simp only [puts, Act.put, List.setIfInBounds_toArray, List.set_cons_zero, List.set_cons_succ] <;> rfl) ⟨below2 hG hb, (fun h => f0.out h), (fun h => f1.out h), (fun h => f2.out h), (fun h => f3.out h), (fun h => f4.out h), (fun h => (fun h => let ⟨cv, rv, fv, c, a, b⟩ := h; ⟨cv, rv, fv, c, a, b.below hb⟩) (f5.out h)), (fun h => f6.out h), (fun _ => ⟨cv, rv, fv, c, rfl, hcc⟩), (fun h => (fun h => let ⟨bb, s1, s2, s3, t1, t2, t3, d1, d2, a1, a2, a3, a4⟩ := h; ⟨bb, s1, s2, s3, t1, t2, t3, d1, d2, a1, a2.later hb, a3.below hb, a4.below hb⟩) (f8.out h)), (fun h => f9.out h), (fun h => f10.out h)⟩
    · intro L vs W hlen hL hD hI K hK
      obtain ⟨x0, x1, x2, x3, x4, x5, x6, x7, x8, x9, x10, rfl⟩ := len11 hlen
      have hG := hI.1
      replace hI := hI.2
      have f0 := hide hI.1
      replace hI := hI.2
      have f1 := hide hI.1
      replace hI := hI.2
      have f2 := hide hI.1
      replace hI := hI.2
      have f3 := hide hI.1
      replace hI := hI.2
      have f4 := hide hI.1
      replace hI := hI.2
      have f5 := hide hI.1
      replace hI := hI.2
      have f6 := hide hI.1
      replace hI := hI.2
      have f7 := hide hI.1
      replace hI := hI.2
      have f8 := hide hI.1
      replace hI := hI.2
      have f9 := hide hI.1
      replace hI := hI.2
      have f10 := hide hI
      clear hI
      have m0 := keep hG m0
      have m1 := keep hG m1
      have m2 := keep hG m2
      have r0 := keep hG r0
      have r1 := keep hG r1
      have r2 := keep hG r2
      obtain rfl := f0.out (hD.on 0 (by kernel_rfl))
      have g5 := f5.out (hD.on 5 (by kernel_rfl))
      have g7 := f7.out (hD.on 7 (by kernel_rfl))
      try simp only [puts, Act.put, List.setIfInBounds_toArray, List.set_cons_zero, List.set_cons_succ]
      obtain ⟨s1, s2, s3, d1, rfl, hd1⟩ := g5
      obtain ⟨t1, t2, t3, d2, rfl, hd2⟩ := g7
      obtain ⟨⟨sa1, sc1, rfl, -, -, -⟩, ⟨sa2, sc2, rfl, -, -, -⟩, ⟨sa3, sc3, rfl, -, -, -⟩⟩ := id hd1
      obtain ⟨⟨ta1, tc1, rfl, -, -, -⟩, ⟨ta2, tc2, rfl, -, -, -⟩, ⟨ta3, tc3, rfl, -, -, -⟩⟩ := id hd2
      go_simp
      generalize hW' : World.alloc W _ = W'
      have hb : Below W.heap.size W W' := by rw [← hW']; exact bal W _
      exact hK.out _ _ _ (by simp only [puts, Act.put, List.setIfInBounds_toArray, List.set_cons_zero, List.set_cons_succ] <;> rfl) ⟨below2 hG hb, (fun h => f0.out h), (fun h => f1.out h), (fun h => f2.out h), (fun h => f3.out h), (fun h => f4.out h), (fun h => (fun h => let ⟨cv, rv, fv, c, a, b⟩ := h; ⟨cv, rv, fv, c, a, b.below hb⟩) (f5.out h)), (fun h => f6.out h), (fun h => (fun h => let ⟨cv, rv, fv, c, a, b⟩ := h; ⟨cv, rv, fv, c, a, b.below hb⟩) (f7.out h)), (fun _ => ⟨W.heap.size, _, _, _, _, _, _, d1, d2, rfl, by rw [← hW']; exact Blk.newA W _ rfl, hd1.below hb, hd2.below hb⟩), (fun h => f9.out h), (fun h => f10.out h)⟩
    · intro L vs W hlen hL hD hI K hK
      obtain ⟨x0, x1, x2, x3, x4, x5, x6, x7, x8, x9, x10, rfl⟩ := len11 hlen
      have hG := hI.1
      replace hI := hI.2
      have f0 := hide hI.1
      replace hI := hI.2
      have f1 := hide hI.1
      replace hI := hI.2
      have f2 := hide hI.1
      replace hI := hI.2
      have f3 := hide hI.1
      replace hI := hI.2
      have f4 := hide hI.1
      replace hI := hI.2
      have f5 := hide hI.1
      replace hI := hI.2
      have f6 := hide hI.1
      replace hI := hI.2
      have f7 := hide hI.1
      replace hI := hI.2
      have f8 := hide hI.1
      replace hI := hI.2
      have f9 := hide hI.1
      replace hI := hI.2
      have f10 := hide hI
      clear hI
      have m0 := keep hG m0
      have m1 := keep hG m1
      have m2 := keep hG m2
      have r0 := keep hG r0
      have r1 := keep hG r1
      have r2 := keep hG r2
      have g8 := f8.out (hD.on 8 (by kernel_rfl))
      try simp only [puts, Act.put, List.setIfInBounds_toArray, List.set_cons_zero, List.set_cons_succ]
      obtain ⟨bb, s1, s2, s3, t1, t2, t3, d1, d2, rfl, -⟩ := g8
      go_simp
      exact hK.out _ _ _ (by simp only [puts, Act.put, List.setIfInBounds_toArray, List.set_cons_zero, List.set_cons_succ] <;> rfl) ⟨hG, (fun h => f0.out h), (fun h => f1.out h), (fun h => f2.out h), (fun h => f3.out h), (fun h => f4.out h), (fun h => f5.out h), (fun h => f6.out h), (fun h => f7.out h), (fun h => f8.out h), (fun _ => rfl), (fun h => f10.out h)⟩
    · intro L vs W hlen hL hD hI K hK
      obtain ⟨x0, x1, x2, x3, x4, x5, x6, x7, x8, x9, x10, rfl⟩ := len11 hlen
      have hG := hI.1
      replace hI := hI.2
      have f0 := hide hI.1
      replace hI := hI.2
      have f1 := hide hI.1
      replace hI := hI.2
      have f2 := hide hI.1
      replace hI := hI.2
      have f3 := hide hI.1
      replace hI := hI.2
      have f4 := hide hI.1
      replace hI := hI.2
      have f5 := hide hI.1
      replace hI := hI.2
      have f6 := hide hI.1
      replace hI := hI.2
      have f7 := hide hI.1
      replace hI := hI.2
      have f8 := hide hI.1
      replace hI := hI.2
      have f9 := hide hI.1
      replace hI := hI.2
      have f10 := hide hI
      clear hI
      have m0 := keep hG m0
      have m1 := keep hG m1
      have m2 := keep hG m2
      have r0 := keep hG r0
      have r1 := keep hG r1
      have r2 := keep hG r2
      try simp only [puts, Act.put, List.setIfInBounds_toArray, List.set_cons_zero, List.set_cons_succ]
      try go_simp
      exact hK.out _ _ _ (by simp only [puts, Act.put, List.setIfInBounds_toArray, List.set_cons_zero, List.set_cons_succ] <;> rfl) ⟨hG, (fun h => f0.out h), (fun h => f1.out h), (fun h => f2.out h), (fun h => f3.out h), (fun h => f4.out h), (fun h => f5.out h), (fun h => f6.out h), (fun h => f7.out h), (fun h => f8.out h), (fun h => f9.out h), (fun _ => rfl)⟩
  intro L vs W hlen hall hI
  obtain ⟨x0, x1, x2, x3, x4, x5, x6, x7, x8, x9, x10, rfl⟩ := len11 hlen
  have hG := hI.1
  replace hI := hI.2
  have f0 := hide hI.1
  replace hI := hI.2
  have f1 := hide hI.1
  replace hI := hI.2
  have f2 := hide hI.1
  replace hI := hI.2
  have f3 := hide hI.1
  replace hI := hI.2
  have f4 := hide hI.1
  replace hI := hI.2
  have f5 := hide hI.1
  replace hI := hI.2
  have f6 := hide hI.1
  replace hI := hI.2
  have f7 := hide hI.1
  replace hI := hI.2
  have f8 := hide hI.1
  replace hI := hI.2
  have f9 := hide hI.1
  replace hI := hI.2
  have f10 := hide hI
  clear hI
  obtain rfl := f0.out (hall 0 (by decide))
  obtain rfl := f1.out (hall 1 (by decide))
  obtain rfl := f2.out (hall 2 (by decide))
  obtain rfl := f3.out (hall 3 (by decide))
  obtain rfl := f4.out (hall 4 (by decide))
  have g5 := f5.out (hall 5 (by decide))
  obtain rfl := f6.out (hall 6 (by decide))
  have g7 := f7.out (hall 7 (by decide))
  have g8 := f8.out (hall 8 (by decide))
  obtain rfl := f9.out (hall 9 (by decide))
  obtain rfl := f10.out (hall 10 (by decide))
  have hal := hide hall
  clear hall f0 f1 f2 f3 f4 f5 f6 f7 f8 f9 f10
  try simp only [puts, Act.put, List.setIfInBounds_toArray, List.set_cons_zero, List.set_cons_succ]
  obtain ⟨LB, s1, s2, s3, t1, t2, t3, d1, d2, rfl, bL, hd1, hd2⟩ := g8
  obtain ⟨W5, hW5⟩ : ∃ Z, Z = W := ⟨_, rfl⟩
  subst hW5
  have hw5 := below2 hw3 hG
  have HCS : Hid (∀ i, i < 3 → ∃ (c : CodeD) (u1 u2 u3 : Value), W5.cell? ⟨LB, i * 3, none⟩ = some u1 ∧ W5.cell? ⟨LB, i * 3 + 1, none⟩ = some u2 ∧ W5.cell? ⟨LB, i * 3 + 2, none⟩ = some u3 ∧ CodeIn W5.cell? u1 u2 u3 c) := hide (fun i hi => by
    match i, hi with
    | 0, _ => exact ⟨mc, _, _, _, bL.cell 0 rfl, bL.cell 1 rfl, bL.cell 2 rfl, hci.below hG⟩
    | 1, _ => exact ⟨d1, _, _, _, bL.cell 3 rfl, bL.cell 4 rfl, bL.cell 5 rfl, hd1⟩
    | 2, _ => exact ⟨d2, _, _, _, bL.cell 6 rfl, bL.cell 7 rfl, bL.cell 8 rfl, hd2⟩)
  have HBA := hide (bA.later hG)
  have HBO := hide (bO.later hG)
  have HW5 := hide hw5
  clear hci bA bO bM bK bL hd1 hd2 hG hw3 hw5 m0 m1 m2 r0 r1 r2 g5 g7 hal HBE HFE HLN HMN
  go_wp2_with fail
  go_loopw [60] (fun i wr => ∃ k : Nat, k ≤ 3 ∧ i = .int .i64 k ∧ Below W5.heap.size W5 wr) (fun i _ => 3 - (intOf i).toNat)
  case atStart => exact ⟨0, by omega, rfl, Below.refl _ _⟩
  case round =>
    obtain ⟨k, hk, rfl, hbr⟩ := hrel
    by_cases hlt : k < 3
    · have hk3 : (k : Int) < 3 := by omega
      have HK := hide hlt
      obtain ⟨c, u1, u2, u3, k0, k1, k2, hc⟩ := HCS.out k hlt
      replace k0 := keep hbr k0
      replace k1 := keep hbr k1
      replace k2 := keep hbr k2
      replace hc := hc.below hbr
      obtain ⟨⟨ca', cn', rfl, -, -, -⟩, ⟨ra', rn', rfl, -, -, -⟩, ⟨fa', fn', rfl, -, -, -⟩⟩ := id hc
      go_upto_region 7 with (fail)
      generalize hV1 : World.alloc wr _ = V1
      have zV1 : V1.heap.size = wr.heap.size + 1 := by rw [← hV1]; simp
      have bV1 : Below wr.heap.size wr V1 := by rw [← hV1]; exact bal wr _
      have bP : Blk V1 (wr.heap.size) [.slice ca' c.clauses.length cn', .slice ra' c.repeals.length rn', .slice fa' c.facts.length fn'] 30 := by rw [← hV1]; exact Blk.newA wr _ (by first | rfl | simp)
      have Vb := bV1
      have Vz := zV1
      clear hV1 zV1 bV1
      have hw := below2 hbr Vb
      have hcV := hc.below Vb
      clear hc k0 k1 k2 Vb Vz hbr
      generalize wr.heap.size = PB at *
      have HV1 := hide (fun W (hb : Below V1.heap.size V1 W) => validS_any c _ _ _ W (hcV.below hb))
      have HV2 := hide (fun W (hb : Below V1.heap.size V1 W) => validr_any c _ _ _ W (hcV.below hb))
      generalize validC c = vb at HV1 HV2
      have c0 := bwc (bP.cell 0 rfl)
      have c1 := bwc (bP.cell 1 rfl)
      have c2 := bwc (bP.cell 2 rfl)
      refine wp_region_bw (by kernel_rfl) (by kernel_rfl) ?_
      repeat (go_big_quiet_step ((first | (go_at_call 8; exact quiet (HV1.out _ (Bw.h _))) | (go_at_call 9; exact quiet (HV2.out _ (Bw.h _))))))
      refine wpQuiet_nil ?_
      rintro _ ⟨ix, rfl⟩
      have hi := ix.h
      generalize ix.W = W7 at hi ⊢
      replace bP := bP.later hi
      have hw7 := below2 hw hi
      have hcW := hcV.below hi
      have bA7 := HBA.out.later hw7
      have bO7 := HBO.out.later hw7
      clear c0 c1 c2 hi HV1 HV2 hcV hw
      have HAK := hide (fun W => askr_any a0 a1 a2 a3 W HAS.out.1 HAS.out.2.1 HAS.out.2.2.1 HAS.out.2.2.2)
      generalize askF a0 a1 a2 a3 = aq at HAK
      have m0 := bA7.cell 0 rfl
      have m1 := bA7.cell 1 rfl
      have m2 := bA7.cell 2 rfl
      have m3 := bA7.cell 3 rfl
      have o0 := bO7.cell 0 rfl
      have o1 := bO7.cell 1 rfl
      have o2 := bO7.cell 2 rfl
      have o3 := bO7.cell 3 rfl
      go_wp2_with fail
      refine wp_region_inv [some 69, some 70, some 71, some 72, some 73, some 74] (fun L vs W => match vs with | [x0, x1, x2, x3, x4, x5] => (Below W7.heap.size W7 W) ∧ (L 0 = true → x0 = .agg #[.int .i64 a0, .int .i64 a1, .int .i64 a2, .int .i64 a3]) ∧ (L 1 = true → x1 = queryV aq) ∧ (L 2 = true → x2 = queryV oq) ∧ (L 3 = true → ∃ bb : Nat, x3 = .slice (some ⟨bb, 0, none⟩) 2 2 ∧ Blk W bb [.int .i64 aq.thing, .int .i64 aq.says, .int .i64 aq.day, .int .i64 aq.known, .int .i64 oq.thing, .int .i64 oq.says, .int .i64 oq.day, .int .i64 oq.known] 33) ∧ (L 4 = true → x4 = .int .i64 2) ∧ (L 5 = true → x5 = .int .i64 0) | _ => False) [_, _, _, _, _, _] (by kernel_rfl) (by kernel_rfl) rfl (by simp only [puts, Act.put, List.setIfInBounds_toArray, List.set_cons_zero, List.set_cons_succ] <;> rfl) ?_ ?_ ?_
      · exact ⟨(Below.refl _ _).drew, (fun h => by cases h), (fun h => by cases h), (fun h => by cases h), (fun h => by cases h), (fun h => by cases h), (fun h => by cases h)⟩
      · refine ⟨?_, ?_, ?_, ?_, ?_, ?_, trivial⟩
        · intro L vs W hlen hL hD hI K hK
          obtain ⟨x0, x1, x2, x3, x4, x5, rfl⟩ := len6 hlen
          have hG := hI.1
          replace hI := hI.2
          have f0 := hide hI.1
          replace hI := hI.2
          have f1 := hide hI.1
          replace hI := hI.2
          have f2 := hide hI.1
          replace hI := hI.2
          have f3 := hide hI.1
          replace hI := hI.2
          have f4 := hide hI.1
          replace hI := hI.2
          have f5 := hide hI
          clear hI
          have m0 := keep hG m0
          have m1 := keep hG m1
          have m2 := keep hG m2
          have m3 := keep hG m3
          have o0 := keep hG o0
          have o1 := keep hG o1
          have o2 := keep hG o2
          have o3 := keep hG o3
          try simp only [puts, Act.put, List.setIfInBounds_toArray, List.set_cons_zero, List.set_cons_succ]
          try go_simp
          exact hK.out _ _ _ (by simp only [puts, Act.put, List.setIfInBounds_toArray, List.set_cons_zero, List.set_cons_succ] <;> rfl) ⟨hG, (fun _ => rfl), (fun h => f1.out h), (fun h => f2.out h), (fun h => f3.out h), (fun h => f4.out h), (fun h => f5.out h)⟩
        · intro L vs W hlen hL hD hI K hK
          obtain ⟨x0, x1, x2, x3, x4, x5, rfl⟩ := len6 hlen
          have hG := hI.1
          replace hI := hI.2
          have f0 := hide hI.1
          replace hI := hI.2
          have f1 := hide hI.1
          replace hI := hI.2
          have f2 := hide hI.1
          replace hI := hI.2
          have f3 := hide hI.1
          replace hI := hI.2
          have f4 := hide hI.1
          replace hI := hI.2
          have f5 := hide hI
          clear hI
          have m0 := keep hG m0
          have m1 := keep hG m1
          have m2 := keep hG m2
          have m3 := keep hG m3
          have o0 := keep hG o0
          have o1 := keep hG o1
          have o2 := keep hG o2
          have o3 := keep hG o3
          obtain rfl := f0.out (hD.on 0 (by kernel_rfl))
          try simp only [puts, Act.put, List.setIfInBounds_toArray, List.set_cons_zero, List.set_cons_succ]
          try go_simp
          refine (HAK.out _).mono ?_
          rintro e W' ⟨rfl, hb⟩
          try go_simp
          exact hK.out _ _ _ (by simp only [puts, Act.put, List.setIfInBounds_toArray, List.set_cons_zero, List.set_cons_succ] <;> rfl) ⟨below2 hG hb, (fun h => f0.out h), (fun _ => rfl), (fun h => f2.out h), (fun h => (fun h => let ⟨bb, a, b⟩ := h; ⟨bb, a, b.later hb⟩) (f3.out h)), (fun h => f4.out h), (fun h => f5.out h)⟩
        · intro L vs W hlen hL hD hI K hK
          obtain ⟨x0, x1, x2, x3, x4, x5, rfl⟩ := len6 hlen
          have hG := hI.1
          replace hI := hI.2
          have f0 := hide hI.1
          replace hI := hI.2
          have f1 := hide hI.1
          replace hI := hI.2
          have f2 := hide hI.1
          replace hI := hI.2
          have f3 := hide hI.1
          replace hI := hI.2
          have f4 := hide hI.1
          replace hI := hI.2
          have f5 := hide hI
          clear hI
          have m0 := keep hG m0
          have m1 := keep hG m1
          have m2 := keep hG m2
          have m3 := keep hG m3
          have o0 := keep hG o0
          have o1 := keep hG o1
          have o2 := keep hG o2
          have o3 := keep hG o3
          try simp only [puts, Act.put, List.setIfInBounds_toArray, List.set_cons_zero, List.set_cons_succ]
          try go_simp
          exact hK.out _ _ _ (by simp only [puts, Act.put, List.setIfInBounds_toArray, List.set_cons_zero, List.set_cons_succ] <;> rfl) ⟨hG, (fun h => f0.out h), (fun h => f1.out h), (fun _ => rfl), (fun h => f3.out h), (fun h => f4.out h), (fun h => f5.out h)⟩
        · intro L vs W hlen hL hD hI K hK
          obtain ⟨x0, x1, x2, x3, x4, x5, rfl⟩ := len6 hlen
          have hG := hI.1
          replace hI := hI.2
          have f0 := hide hI.1
          replace hI := hI.2
          have f1 := hide hI.1
          replace hI := hI.2
          have f2 := hide hI.1
          replace hI := hI.2
          have f3 := hide hI.1
          replace hI := hI.2
          have f4 := hide hI.1
          replace hI := hI.2
          have f5 := hide hI
          clear hI
          have m0 := keep hG m0
          have m1 := keep hG m1
          have m2 := keep hG m2
          have m3 := keep hG m3
          have o0 := keep hG o0
          have o1 := keep hG o1
          have o2 := keep hG o2
          have o3 := keep hG o3
          obtain rfl := f1.out (hD.on 1 (by kernel_rfl))
          obtain rfl := f2.out (hD.on 2 (by kernel_rfl))
          try simp only [puts, Act.put, List.setIfInBounds_toArray, List.set_cons_zero, List.set_cons_succ]
          try go_simp
          generalize hW' : World.alloc W _ = W'
          have hb : Below W.heap.size W W' := by rw [← hW']; exact bal W _
          exact hK.out _ _ _ (by simp only [puts, Act.put, List.setIfInBounds_toArray, List.set_cons_zero, List.set_cons_succ] <;> rfl) ⟨below2 hG hb, (fun h => f0.out h), (fun h => f1.out h), (fun h => f2.out h), (fun _ => ⟨W.heap.size, rfl, by rw [← hW']; exact Blk.newA W _ rfl⟩), (fun h => f4.out h), (fun h => f5.out h)⟩
        · intro L vs W hlen hL hD hI K hK
          obtain ⟨x0, x1, x2, x3, x4, x5, rfl⟩ := len6 hlen
          have hG := hI.1
          replace hI := hI.2
          have f0 := hide hI.1
          replace hI := hI.2
          have f1 := hide hI.1
          replace hI := hI.2
          have f2 := hide hI.1
          replace hI := hI.2
          have f3 := hide hI.1
          replace hI := hI.2
          have f4 := hide hI.1
          replace hI := hI.2
          have f5 := hide hI
          clear hI
          have m0 := keep hG m0
          have m1 := keep hG m1
          have m2 := keep hG m2
          have m3 := keep hG m3
          have o0 := keep hG o0
          have o1 := keep hG o1
          have o2 := keep hG o2
          have o3 := keep hG o3
          have g3 := f3.out (hD.on 3 (by kernel_rfl))
          try simp only [puts, Act.put, List.setIfInBounds_toArray, List.set_cons_zero, List.set_cons_succ]
          obtain ⟨bb, rfl, -⟩ := g3
          go_simp
          exact hK.out _ _ _ (by simp only [puts, Act.put, List.setIfInBounds_toArray, List.set_cons_zero, List.set_cons_succ] <;> rfl) ⟨hG, (fun h => f0.out h), (fun h => f1.out h), (fun h => f2.out h), (fun h => f3.out h), (fun _ => rfl), (fun h => f5.out h)⟩
        · intro L vs W hlen hL hD hI K hK
          obtain ⟨x0, x1, x2, x3, x4, x5, rfl⟩ := len6 hlen
          have hG := hI.1
          replace hI := hI.2
          have f0 := hide hI.1
          replace hI := hI.2
          have f1 := hide hI.1
          replace hI := hI.2
          have f2 := hide hI.1
          replace hI := hI.2
          have f3 := hide hI.1
          replace hI := hI.2
          have f4 := hide hI.1
          replace hI := hI.2
          have f5 := hide hI
          clear hI
          have m0 := keep hG m0
          have m1 := keep hG m1
          have m2 := keep hG m2
          have m3 := keep hG m3
          have o0 := keep hG o0
          have o1 := keep hG o1
          have o2 := keep hG o2
          have o3 := keep hG o3
          try simp only [puts, Act.put, List.setIfInBounds_toArray, List.set_cons_zero, List.set_cons_succ]
          try go_simp
          exact hK.out _ _ _ (by simp only [puts, Act.put, List.setIfInBounds_toArray, List.set_cons_zero, List.set_cons_succ] <;> rfl) ⟨hG, (fun h => f0.out h), (fun h => f1.out h), (fun h => f2.out h), (fun h => f3.out h), (fun h => f4.out h), (fun _ => rfl)⟩
      intro L vs W hlen hall hI
      obtain ⟨x0, x1, x2, x3, x4, x5, rfl⟩ := len6 hlen
      have hG := hI.1
      replace hI := hI.2
      have f0 := hide hI.1
      replace hI := hI.2
      have f1 := hide hI.1
      replace hI := hI.2
      have f2 := hide hI.1
      replace hI := hI.2
      have f3 := hide hI.1
      replace hI := hI.2
      have f4 := hide hI.1
      replace hI := hI.2
      have f5 := hide hI
      clear hI
      obtain rfl := f0.out (hall 0 (by decide))
      obtain rfl := f1.out (hall 1 (by decide))
      obtain rfl := f2.out (hall 2 (by decide))
      have g3 := f3.out (hall 3 (by decide))
      obtain rfl := f4.out (hall 4 (by decide))
      obtain rfl := f5.out (hall 5 (by decide))
      have hal := hide hall
      clear hall f0 f1 f2 f3 f4 f5
      try simp only [puts, Act.put, List.setIfInBounds_toArray, List.set_cons_zero, List.set_cons_succ]
      obtain ⟨QB, rfl, bQL⟩ := g3
      obtain ⟨W8, hW8⟩ : ∃ Z, Z = W := ⟨_, rfl⟩
      subst hW8
      have HQS : Hid (∀ i, i < 2 → ∃ q : QueryD, W8.cell? ⟨QB, i * 4, none⟩ = some (.int .i64 q.thing) ∧ W8.cell? ⟨QB, i * 4 + 1, none⟩ = some (.int .i64 q.says) ∧ W8.cell? ⟨QB, i * 4 + 2, none⟩ = some (.int .i64 q.day) ∧ W8.cell? ⟨QB, i * 4 + 3, none⟩ = some (.int .i64 q.known)) := hide (fun i hi => by
        match i, hi with
        | 0, _ => exact ⟨aq, bQL.cell 0 rfl, bQL.cell 1 rfl, bQL.cell 2 rfl, bQL.cell 3 rfl⟩
        | 1, _ => exact ⟨oq, bQL.cell 4 rfl, bQL.cell 5 rfl, bQL.cell 6 rfl, bQL.cell 7 rfl⟩)
      have HBP := hide (bP.later hG)
      have HCW := hide (hcW.below hG)
      have HW8 := hide (below2 hw7 hG)
      clear m0 m1 m2 m3 o0 o1 o2 o3 bQL bP hcW hw7 bA7 bO7 hG HAK hal
      go_wp2_with fail
      go_loopw [74] (fun i wz => ∃ m : Nat, m ≤ 2 ∧ i = .int .i64 m ∧ Below W8.heap.size W8 wz) (fun i _ => 2 - (intOf i).toNat)
      case atStart => exact ⟨0, by omega, rfl, Below.refl _ _⟩
      case round =>
        obtain ⟨m, hm, rfl, hbz⟩ := hrel
        by_cases hlm : m < 2
        · have hm2 : (m : Int) < 2 := by omega
          have HMM := hide hlm
          obtain ⟨q, k0, k1, k2, k3⟩ := HQS.out m hlm
          replace k0 := keep hbz k0
          replace k1 := keep hbz k1
          replace k2 := keep hbz k2
          replace k3 := keep hbz k3
          go_upto_region 12 with (fail)
          generalize hU1 : World.alloc wr _ = U1
          have zU1 : U1.heap.size = wr.heap.size + 1 := by rw [← hU1]; simp
          have bU1 : Below wr.heap.size wr U1 := by rw [← hU1]; exact bal wr _
          have bQ : Blk U1 (wr.heap.size) (queryC q) 33 := by rw [← hU1]; exact Blk.newA wr _ (by first | rfl | simp)
          have Ub := bU1
          have Uz := zU1
          clear hU1 zU1 bU1
          have hw := below2 hbz Ub
          have bP := HBP.out.later hw
          have hc := HCW.out.below hw
          have HUB := hide hw
          clear k0 k1 k2 k3 Ub Uz hbz
          generalize wr.heap.size = QA at *
          have HDE : Hid (∀ W (_ : Below U1.heap.size U1 W), Calls Tryz.prog 11 #[.agg #[.slice ca' c.clauses.length cn', .slice ra' c.repeals.length rn', .slice fa' c.facts.length fn'], queryV q] W (fun e w' => ∃ lv, e = .returned (.tuple #[.bool (validC c && asksB q && answerB c q), lv, .int .i64 (errS c q)]) ∧ FindsIn (frm W.heap.size w') lv (if validC c && asksB q then decideP c q else []) ∧ Below W.heap.size W w')) := hide fun W hb => (decideS_any c q _ _ _ W (hc.below hb)).mono fun _ _ h => h
          have HAN : Hid (∀ W (_ : Below U1.heap.size U1 W), Calls Tryz.prog 12 #[.agg #[.slice ca' c.clauses.length cn', .slice ra' c.repeals.length rn', .slice fa' c.facts.length fn'], queryV q] W (fun e w' => e = .returned (.tuple #[.bool (validC c && asksB q && answerB c q), .int .i64 (errS c q)]) ∧ Below W.heap.size W w')) := hide fun W hb => (answerr_any c q _ _ _ W (hc.below hb)).mono fun _ _ h => h
          have HP1 := hide (fun W (hb : Below U1.heap.size U1 W) => appliesS_any c q _ _ _ W (hc.below hb))
          have HP2 := hide (fun W (hb : Below U1.heap.size U1 W) => appliesr_any c q _ _ _ W (hc.below hb))
          have HK1 := hide (fun W => asksS_any q W)
          have HK2 := hide (fun W => asksr_any q W)
          have HU1 := hide (fun W (hb : Below U1.heap.size U1 W) zv zl (hz : FindsIn W.cell? zv zl) => usesS_any c q _ _ _ zv zl W (hc.below hb) hz)
          have HU2 := hide (fun W (hb : Below U1.heap.size U1 W) zv zl (hz : FindsIn W.cell? zv zl) => usesr_any c q zl _ _ _ zv W (hc.below hb) hz)
          have HC1 := hide (fun W (hb : Below U1.heap.size U1 W) b zv zl (hz : FindsIn W.cell? zv zl) => checkS_any c q _ _ _ zv b zl W (hc.below hb) hz)
          have HC2 := hide (fun W (hb : Below U1.heap.size U1 W) b zv zl (hz : FindsIn W.cell? zv zl) => checkr_any c q b zl _ _ _ zv W (hc.below hb) hz)
          have hpl := proof_len c q
          have HPN := hide (proof_none c q)
          generalize (if validC c && asksB q then decideP c q else []) = P at HDE hpl HPN
          generalize (validC c && asksB q && answerB c q) = ab at HDE HAN
          generalize errS c q = er at HDE HAN HP1 HP2 HPN
          generalize appliesF c q = AF at HP1 HP2
          generalize appliesC c q = AC at HP1 HP2
          generalize asksB q = qb at HK1 HK2
          generalize checkB c q = CB at HC1 HC2
          generalize usesFacts c q = UF at HU1 HU2
          generalize usesClauses c q = UC at HU1 HU2
          generalize usesErr c q = UE at HU1 HU2
          have HPL := hide hpl
          clear hc hpl
          have hwU := Below.refl U1.heap.size U1
          have c0 := bP.cell 0 rfl
          have c1 := bP.cell 1 rfl
          have c2 := bP.cell 2 rfl
          have q0 := bQ.cell 0 rfl
          have q1 := bQ.cell 1 rfl
          have q2 := bQ.cell 2 rfl
          have q3 := bQ.cell 3 rfl
          go_wp2_with fail
          refine (HDE.out _ hwU).mono ?_
          rintro e w12 ⟨lv, rfl, hl, hb⟩
          obtain ⟨la, ln, rfl, -⟩ := id hl
          replace hl := hl.at
          replace bP := bP.later hb
          replace bQ := bQ.later hb
          replace hwU := below2 hwU hb
          clear c0 c1 c2 q0 q1 q2 q3 hb
          have c0 := bP.cell 0 rfl
          have c1 := bP.cell 1 rfl
          have c2 := bP.cell 2 rfl
          have q0 := bQ.cell 0 rfl
          have q1 := bQ.cell 1 rfl
          have q2 := bQ.cell 2 rfl
          have q3 := bQ.cell 3 rfl
          go_wp2_with fail
          refine (HAN.out _ hwU).mono ?_
          rintro e w13 ⟨rfl, hb⟩
          replace hl := hl.below hb
          replace bP := bP.later hb
          replace bQ := bQ.later hb
          replace hwU := below2 hwU hb
          clear c0 c1 c2 q0 q1 q2 q3 hb
          have c0 := bP.cell 0 rfl
          have c1 := bP.cell 1 rfl
          have c2 := bP.cell 2 rfl
          have q0 := bQ.cell 0 rfl
          have q1 := bQ.cell 1 rfl
          have q2 := bQ.cell 2 rfl
          have q3 := bQ.cell 3 rfl
          go_wp2_with fail
          refine (HP1.out _ hwU).mono ?_
          rintro e w14 ⟨v1, v2, rfl, hv1, hv2, hb⟩
          obtain ⟨va1, vn1, rfl, -⟩ := id hv1
          obtain ⟨va2, vn2, rfl, -⟩ := id hv2
          replace hv1 := hv1.at
          replace hv2 := hv2.at
          replace hl := hl.below hb
          replace bP := bP.later hb
          replace bQ := bQ.later hb
          replace hwU := below2 hwU hb
          clear c0 c1 c2 q0 q1 q2 q3 hb
          have c0 := bP.cell 0 rfl
          have c1 := bP.cell 1 rfl
          have c2 := bP.cell 2 rfl
          have q0 := bQ.cell 0 rfl
          have q1 := bQ.cell 1 rfl
          have q2 := bQ.cell 2 rfl
          have q3 := bQ.cell 3 rfl
          go_wp2_with fail
          refine (HP2.out _ hwU).mono ?_
          rintro e w15 ⟨v3, v4, rfl, hv3, hv4, hb⟩
          obtain ⟨va3, vn3, rfl, -⟩ := id hv3
          obtain ⟨va4, vn4, rfl, -⟩ := id hv4
          replace hv3 := hv3.at
          replace hv4 := hv4.at
          replace hv1 := IntsAt.below hb hv1
          replace hv2 := IntsAt.below hb hv2
          replace hl := hl.below hb
          replace bP := bP.later hb
          replace bQ := bQ.later hb
          replace hwU := below2 hwU hb
          clear c0 c1 c2 q0 q1 q2 q3 hb
          have c0 := bP.cell 0 rfl
          have c1 := bP.cell 1 rfl
          have c2 := bP.cell 2 rfl
          have q0 := bQ.cell 0 rfl
          have q1 := bQ.cell 1 rfl
          have q2 := bQ.cell 2 rfl
          have q3 := bQ.cell 3 rfl
          have HI1 : Hid (∀ W (_ : Below w15.heap.size w15 W), Calls Tryz.prog 17 #[.slice va1 AF.length vn1, .slice va3 AF.length vn3] W (Ret (.bool true) W)) := hide fun W hb => by
            have h := ints_any AF AF _ _ W (IntsAt.below hb hv1) (IntsAt.below hb hv3)
            rwa [intsB_same] at h
          have HI2 : Hid (∀ W (_ : Below w15.heap.size w15 W), Calls Tryz.prog 17 #[.slice va2 AC.length vn2, .slice va4 AC.length vn4] W (Ret (.bool true) W)) := hide fun W hb => by
            have h := ints_any AC AC _ _ W (IntsAt.below hb hv2) (IntsAt.below hb hv4)
            rwa [intsB_same] at h
          clear hv1 hv2 hv3 hv4
          have q0 := bwc (bQ.cell 0 rfl)
          have q1 := bwc (bQ.cell 1 rfl)
          have q2 := bwc (bQ.cell 2 rfl)
          have q3 := bwc (bQ.cell 3 rfl)
          clear c0 c1 c2
          go_upto_region 16 with (fail)
          go_cut [74, 145] from 74 to 213 (fun i v wx => i = .int .i64 m ∧ v = .bool false ∧ Below w15.heap.size w15 wx)
          case first =>
            by_cases he : er = 0
            · subst he
              refine wp_region_bw (by kernel_rfl) (by kernel_rfl) ?_
              repeat (go_big_quiet_step ((first | (go_at_call 15; exact quiet (HK1.out _)) | (go_at_call 16; exact quiet (HK2.out _)) | (go_at_call 17; with_reducible first | exact quiet (HI1.out _ (Bw.h _)) | exact quiet (HI2.out _ (Bw.h _))))))
              refine wpQuiet_nil ?_
              rintro _ ⟨ix, rfl⟩
              go_wp2_with fail
              go_meet
              exact ⟨rfl, rfl, ix.h⟩
            · have he' : (er != 0) = true := by simpa using he
              have hp0 := HPN.out he
              have hpl0 : P.length = 0 := by rw [hp0]; rfl
              clear hp0
              refine wp_region_bw (by kernel_rfl) (by kernel_rfl) ?_
              repeat (go_big_quiet_step ((first | (go_at_call 15; exact quiet (HK1.out _)) | (go_at_call 16; exact quiet (HK2.out _)) | (go_at_call 17; with_reducible first | exact quiet (HI1.out _ (Bw.h _)) | exact quiet (HI2.out _ (Bw.h _))))))
              refine wpQuiet_nil ?_
              rintro _ ⟨ix, rfl⟩
              go_wp2_with fail
              go_meet
              exact ⟨rfl, rfl, ix.h⟩
          case rest =>
            obtain ⟨rfl, rfl, hb⟩ := hcut
            replace bP := bP.later hb
            replace bQ := bQ.later hb
            replace hwU := below2 hwU hb
            replace hl := hl.below hb
            clear q0 q1 q2 q3 hb HI1 HI2 HK1 HK2 HPN HDE HAN HP1 HP2
            go_wp2_with fail
            refine (bent_any P _ how n at_ _ hl (by have := HPL.out; omega) HBW.out HAT.out).mono ?_
            rintro e w18 ⟨bv, B1, rfl, hB1, hl1, hb⟩
            obtain ⟨ba1, bn1, rfl, -⟩ := id hB1
            replace hB1 := hB1.at
            replace bP := bP.later hb
            replace bQ := bQ.later hb
            replace hwU := below2 hwU hb
            replace hl := hl.below hb
            clear hb hl1
            go_wp2_with fail
            generalize hT1 : World.alloc w18 _ = T1
            have zT1 : T1.heap.size = w18.heap.size + 1 := by rw [← hT1]; simp
            have bT1 : Below w18.heap.size w18 T1 := by rw [← hT1]; exact bal w18 _
            have bL : Blk T1 (w18.heap.size) [.slice la P.length ln, .slice ba1 B1.length bn1, .slice oa M on] 34 := by rw [← hT1]; exact Blk.newA w18 _ (by first | rfl | simp)
            have Tb := bT1
            have Tz := zT1
            clear hT1 zT1 bT1
            have hof : FindsIn T1.cell? (.slice oa M on) (ol.take M) := rec_take (HO.out.below (below2 HW5.out (below2 HW8.out (below2 HUB.out (below2 hwU Tb))))) HM.out.1
            have HZS : Hid (∀ k, k < 3 → ∃ a m c l, [Value.slice la P.length ln, .slice ba1 B1.length bn1, .slice oa M on][k]? = some (.slice a m c) ∧ FindsIn T1.cell? (.slice a m c) l) := hide fun k hk => by
              match k, hk with
              | 0, _ => exact ⟨_, _, _, _, rfl, hl.below Tb⟩
              | 1, _ => exact ⟨_, _, _, _, rfl, hB1.below Tb⟩
              | 2, _ => exact ⟨_, _, _, _, rfl, hof⟩
            have HBL := hide bL
            have HBP' := hide (bP.later Tb)
            have HBQ' := hide (bQ.later Tb)
            have HWT := hide (below2 hwU Tb)
            clear bL hof bP bQ hl hB1 Tb Tz hwU HPL
            go_loopw [155] (fun i wy => ∃ j : Nat, j ≤ 3 ∧ i = .int .i64 j ∧ Below T1.heap.size T1 wy) (fun i _ => 3 - (intOf i).toNat)
            case atStart => exact ⟨0, by omega, rfl, Below.refl _ _⟩
            case round =>
              obtain ⟨j, hj, rfl, hby⟩ := hrel
              by_cases hlj : j < 3
              · have hj3 : (j : Int) < 3 := by omega
                have HJ := hide hlj
                obtain ⟨za, zm, zc, zl, hz1, hz2⟩ := HZS.out j hlj
                have z0 := (HBL.out.later hby).cell j hz1
                have hz := hz2.below hby
                have bP := HBP'.out.later hby
                have bQ := HBQ'.out.later hby
                have hwU := below2 HWT.out hby
                have HBY := hide hby
                clear hz1 hz2 hby
                have c0 := bP.cell 0 rfl
                have c1 := bP.cell 1 rfl
                have c2 := bP.cell 2 rfl
                have q0 := bQ.cell 0 rfl
                have q1 := bQ.cell 1 rfl
                have q2 := bQ.cell 2 rfl
                have q3 := bQ.cell 3 rfl
                go_wp2_with fail
                refine (HU1.out _ hwU _ zl hz).mono ?_
                rintro e w21 ⟨v1, v2, rfl, hv1, hv2, hb⟩
                obtain ⟨va1', vn1', rfl, -⟩ := id hv1
                obtain ⟨va2', vn2', rfl, -⟩ := id hv2
                replace hv1 := hv1.at
                replace hv2 := hv2.at
                replace hz := hz.below hb
                have HB1 := hide hb
                replace bP := bP.later hb
                replace bQ := bQ.later hb
                replace hwU := below2 hwU hb
                clear c0 c1 c2 q0 q1 q2 q3 hb
                have c0 := bP.cell 0 rfl
                have c1 := bP.cell 1 rfl
                have c2 := bP.cell 2 rfl
                have q0 := bQ.cell 0 rfl
                have q1 := bQ.cell 1 rfl
                have q2 := bQ.cell 2 rfl
                have q3 := bQ.cell 3 rfl
                clear z0
                go_wp2_with fail
                refine (HU2.out _ hwU _ zl hz).mono ?_
                rintro e w22 ⟨v3, v4, rfl, hv3, hv4, hb⟩
                obtain ⟨va3', vn3', rfl, -⟩ := id hv3
                obtain ⟨va4', vn4', rfl, -⟩ := id hv4
                replace hv3 := hv3.at
                replace hv4 := hv4.at
                replace hv1 := IntsAt.below hb hv1
                replace hv2 := IntsAt.below hb hv2
                replace hz := hz.below hb
                have HB2 := hide (below2 HB1.out hb)
                replace bP := bP.later hb
                replace bQ := bQ.later hb
                replace hwU := below2 hwU hb
                clear c0 c1 c2 q0 q1 q2 q3 hb
                have c0 := bP.cell 0 rfl
                have c1 := bP.cell 1 rfl
                have c2 := bP.cell 2 rfl
                have q0 := bQ.cell 0 rfl
                have q1 := bQ.cell 1 rfl
                have q2 := bQ.cell 2 rfl
                have q3 := bQ.cell 3 rfl
                have HI3 : Hid (∀ W (_ : Below w22.heap.size w22 W), Calls Tryz.prog 17 #[.slice va1' (UF zl).length vn1', .slice va3' (UF zl).length vn3'] W (Ret (.bool true) W)) := hide fun W hb => by
                  have h := ints_any (UF zl) (UF zl) _ _ W (IntsAt.below hb hv1) (IntsAt.below hb hv3)
                  rwa [intsB_same] at h
                have HI4 : Hid (∀ W (_ : Below w22.heap.size w22 W), Calls Tryz.prog 17 #[.slice va2' (UC zl).length vn2', .slice va4' (UC zl).length vn4'] W (Ret (.bool true) W)) := hide fun W hb => by
                  have h := ints_any (UC zl) (UC zl) _ _ W (IntsAt.below hb hv2) (IntsAt.below hb hv4)
                  rwa [intsB_same] at h
                have HT1 := hide (fun W (hb : Below w22.heap.size w22 W) => HC1.out W (below2 hwU hb) true _ zl (hz.below hb))
                have HT2 := hide (fun W (hb : Below w22.heap.size w22 W) => HC2.out W (below2 hwU hb) true _ zl (hz.below hb))
                have HF1 := hide (fun W (hb : Below w22.heap.size w22 W) => HC1.out W (below2 hwU hb) false _ zl (hz.below hb))
                have HF2 := hide (fun W (hb : Below w22.heap.size w22 W) => HC2.out W (below2 hwU hb) false _ zl (hz.below hb))
                generalize UE zl = ue at *
                generalize CB true zl = ct at *
                generalize CB false zl = cf at *
                clear hv1 hv2 hv3 hv4 hz
                have d0 := bwc c0
                have d1 := bwc c1
                have d2 := bwc c2
                clear c0 c1 c2 q0 q1 q2 q3
                have q0 := bwc (bQ.cell 0 rfl)
                have q1 := bwc (bQ.cell 1 rfl)
                have q2 := bwc (bQ.cell 2 rfl)
                have q3 := bwc (bQ.cell 3 rfl)
                go_upto_region 23 with (fail)
                refine wp_region_bw (by kernel_rfl) (by kernel_rfl) ?_
                repeat (go_big_quiet_step ((first | (go_at_call 17; with_reducible first | exact quiet (HI3.out _ (Bw.h _)) | exact quiet (HI4.out _ (Bw.h _))) | (go_at_call 21; with_reducible first | exact quiet (HT1.out _ (Bw.h _)) | exact quiet (HF1.out _ (Bw.h _))) | (go_at_call 22; with_reducible first | exact quiet (HT2.out _ (Bw.h _)) | exact quiet (HF2.out _ (Bw.h _))))))
                refine wpQuiet_nil ?_
                rintro _ ⟨ix, rfl⟩
                have HIX := hide ix.h
                go_wp2_with fail
                go_roundw
                case rel => exact ⟨j + 1, by have := HJ.out; omega, by go_num, below2 HBY.out (below2 HB2.out HIX.out)⟩
                case measure => have := HJ.out; simp [intOf]; omega
              · obtain rfl : j = 3 := by omega
                have HB := hide (below2 HUB.out (below2 HWT.out hby))
                go_wp2_with fail
                go_roundw
                case rel => exact ⟨m + 1, by have := HMM.out; omega, by go_num, HB.out⟩
                case measure => have := HMM.out; simp [intOf]; omega
        · obtain rfl : m = 2 := by omega
          have HB := hide (below2 HW8.out hbz)
          go_wp2_with fail
          go_roundw
          case rel => exact ⟨k + 1, by have := HK.out; omega, by go_num, HB.out⟩
          case measure => have := HK.out; simp [intOf]; omega
    · obtain rfl : k = 3 := by omega
      have HB := hide (below2 HW5.out hbr)
      go_wp2_with fail
      go_ret
      exact ⟨rfl, HB.out⟩
end Go.Proofs.YtdjldidfnddpmaaGreat
/- Arguments of the laws of chapter 31, opened. No condition. -/
namespace Go.Proofs.YtdjldidfnddpmaaGreat
open Go.ChangeShapes Go.WideShapes Go.ChangeAt Go.RowKit

theorem Tryz.own : ownKnob Tryz.prog.godebug = none := by kernel_rfl
theorem Tryz.laidOut : laidOutB Tryz.prog = true := by kernel_rfl
theorem Tryz.cells3 : Tryz.prog.cellsOf 3 = 1 := by kernel_rfl
theorem Tryz.cells4 : Tryz.prog.cellsOf 4 = 1 := by kernel_rfl
theorem Tryz.cells68 : Tryz.prog.cellsOf 68 = 6 := by kernel_rfl
theorem Tryz.cells31 : Tryz.prog.cellsOf 31 = 4 := by kernel_rfl
theorem Tryz.cells72 : Tryz.prog.cellsOf 72 = 3 := by kernel_rfl
set_option maxRecDepth 100000 in
theorem Tryz.cells25 : Tryz.prog.cellsOf 25 = 3 := by kernel_rfl
set_option maxRecDepth 100000 in
theorem Tryz.cells62 : Tryz.prog.cellsOf 62 = 4 := by kernel_rfl
theorem Tryz.cells22 : Tryz.prog.cellsOf 22 = 1 := by kernel_rfl
theorem Tryz.cells23 : Tryz.prog.cellsOf 23 = 1 := by kernel_rfl
theorem rec_slice {α : Type} {f : α → List Value} {d : α} {k : Nat} {Q : α → Prop} {c : Addr → Option Value} {v : Value} {l : List α} (h : SliceR k (fun cs x => cs = f x ∧ Q x) d c v l) : RecIn f d k c v l ∧ ∀ x ∈ l, Q x := by
  obtain ⟨a, n, h1, h2, h3, h4⟩ := h
  refine ⟨⟨a, n, h1, h2, h3, fun i hi => ?_⟩, fun x hx => ?_⟩
  · obtain ⟨b, o, cs, e, hl, ⟨rfl, -⟩, hc⟩ := h4 i hi
    refine ⟨b, o, e, fun j u hu => ?_⟩
    have hj : j < k := by rw [← hl]; exact (List.getElem?_eq_some_iff.1 hu).1
    rw [hc j hj]; exact hu
  · obtain ⟨i, hi, rfl⟩ := List.getElem_of_mem hx
    obtain ⟨b, o, cs, e, -, ⟨-, h5⟩, -⟩ := h4 i hi
    rwa [List.getD_eq_getElem?_getD, List.getElem?_eq_getElem hi] at h5
theorem trod_fldW {H : Type} {enc : TypeId × Value → H} {w : World} {base : Nat} {sp : Nat → Bool} {held : Bool} {P : Program} {fs : Array Field} {t : TypeId} {fuel : Nat} {cs : List Value} {x : DataW H × List MemPlace} (ht : P.underlying t = some (.struct fs)) (h : DataW.trod enc P w base sp held fuel t cs = some x) (i : Nat) (f : Field) (hf : fs[i]? = some f) :
    ∃ n y, DataW.trod enc P w base sp held n f.type ((cs.drop f.offset).take (P.cellsOf f.type)) = some y := by
  obtain ⟨xs, n, -, -, -, hlen, h1⟩ := DataW.trod_struct ht h
  have hi : i < fs.size := by
    rcases Array.getElem?_eq_some_iff.1 hf with ⟨hi, -⟩; exact hi
  exact ⟨n, xs[i], by rw [h1 i f hf, List.getElem?_eq_getElem (by omega)]⟩
theorem takeW {cs : List Value} {k : Nat} {v : Value} (h : (cs.drop k).take 1 = [v]) : cs[k]? = some v := by
  have : ((cs.drop k).take 1)[0]? = some v := by rw [h]; rfl
  rwa [List.getElem?_take_of_lt (by omega), List.getElem?_drop, Nat.add_zero] at this
section
variable {H : Type} {enc : TypeId × Value → H} {w : World} {base : Nat} {sp : Nat → Bool} {held : Bool}
set_option maxRecDepth 100000 in
theorem open_i64 {r : Reach} {b0 : Nat} {v : Value} {d : DataW H} {ps : List MemPlace} (hv : Value.okWide Tryz.prog w r b0 3 v) (h : DataW.Trod enc Tryz.prog w base sp held 3 v d ps) :
    ∃ x : Int, v = .int .i64 x ∧ i64B x := by
  obtain ⟨n, h1, -, -, h4⟩ := open_int Tryz.underlying3 hv h
  exact ⟨n, h1, bounds_i64 h4⟩
set_option maxRecDepth 100000 in
theorem open_four {r : Reach} {b0 : Nat} {v : Value} {d : DataW H} {ps : List MemPlace} (hv : Value.okWide Tryz.prog w r b0 31 v) (h : DataW.Trod enc Tryz.prog w base sp held 31 v d ps) :
    ∃ a b c e : Int, v = .agg #[.int .i64 a, .int .i64 b, .int .i64 c, .int .i64 e] ∧ i64B a ∧ i64B b ∧ i64B c ∧ i64B e := by
  obtain ⟨l, h1, rfl, h3⟩ := open_arr64 Tryz.underlying31 Tryz.underlying3 Tryz.cells3 Tryz.cells31 hv h
  match l, h1 with
  | [a, b, c, e], _ => exact ⟨a, b, c, e, rfl, h3 a (by simp), h3 b (by simp), h3 c (by simp), h3 e (by simp)⟩
set_option maxRecDepth 100000 in
theorem trod_six {n : Nat} {y : DataW H × List MemPlace} {cs : List Value} (h : DataW.trod enc Tryz.prog w base sp held n 68 cs = some y) : ∃ x, cs = sixC x ∧ six64 x := by
  obtain ⟨l, h1, rfl, h3⟩ := trod_arr Tryz.underlying68 Tryz.underlying3 Tryz.cells3 Tryz.cells68 h
  match l, h1 with
  | [a, b, c, d, e, f], _ => exact ⟨⟨a, b, c, d, e, f⟩, rfl, h3 a (by simp), h3 b (by simp), h3 c (by simp), h3 d (by simp), h3 e (by simp), h3 f (by simp)⟩
set_option maxRecDepth 100000 in
theorem trod_tri {n : Nat} {y : DataW H × List MemPlace} {cs : List Value} (h : DataW.trod enc Tryz.prog w base sp held n 72 cs = some y) : ∃ x, cs = triC x ∧ tri64 x := by
  obtain ⟨l, h1, rfl, h3⟩ := trod_arr Tryz.underlying72 Tryz.underlying3 Tryz.cells3 Tryz.cells72 h
  match l, h1 with
  | [a, b, c], _ => exact ⟨(a, b, c), rfl, h3 a (by simp), h3 b (by simp), h3 c (by simp)⟩
set_option maxRecDepth 100000 in
theorem open_nums {r : Reach} {b0 : Nat} {v : Value} {d : DataW H} {ps : List MemPlace} (hv : Value.okWide Tryz.prog w r b0 25 v) (h : DataW.Trod enc Tryz.prog w base sp held 25 v d ps) :
    ∃ (x : NumsD) (xc xr xf : Value), v = .agg #[xc, xr, xf] ∧ NumsIn w.cell? xc xr xf x ∧ Nums64 x := by
  obtain ⟨cs, rfl, hsz⟩ : ∃ cs, v = .agg cs ∧ cs.size = Tryz.prog.cellsOf 25 := by
    simp only [Value.okWide, Tryz.underlying25] at hv
    obtain ⟨cs, h1, h2, -⟩ := hv
    exact ⟨cs, h1, h2⟩
  obtain ⟨m, hm⟩ := h
  rw [Tryz.cells25] at hsz
  obtain ⟨n0, y0, h0⟩ := trod_fldW Tryz.underlying25 hm 0 _ rfl
  obtain ⟨n1, y1, h1⟩ := trod_fldW Tryz.underlying25 hm 1 _ rfl
  obtain ⟨n2, y2, h2⟩ := trod_fldW Tryz.underlying25 hm 2 _ rfl
  obtain ⟨cv, cl, e0, hcs⟩ := trod_sliceR (R := fun cs x => cs = sixC x ∧ six64 x) six0 (by decide) Tryz.underlying22 Tryz.cells68 (fun n y cs hc hy => trod_six hy) h0
  obtain ⟨rv, rl, e1, hrs⟩ := trod_sliceR (R := fun cs x => cs = triC x ∧ tri64 x) (0, 0, 0) (by decide) Tryz.underlying23 Tryz.cells72 (fun n y cs hc hy => trod_tri hy) h1
  obtain ⟨fv, fl, e2, hfs⟩ := trod_sliceR (R := fun cs x => cs = sixC x ∧ six64 x) six0 (by decide) Tryz.underlying22 Tryz.cells68 (fun n y cs hc hy => trod_six hy) h2
  have g0 := takeW (by rw [← Tryz.cells22]; exact e0)
  have g1 := takeW (by rw [← Tryz.cells23]; exact e1)
  have g2 := takeW (by rw [← Tryz.cells22]; exact e2)
  obtain ⟨b0, b1, b2, hcs'⟩ : ∃ b0 b1 b2, cs.toList = [b0, b1, b2] := by
    match hh : cs.toList, (show cs.toList.length = 3 by simpa using hsz) with
    | [x, y, z], _ => exact ⟨_, _, _, rfl⟩
  simp only [Value.cells, hcs'] at g0 g1 g2
  simp at g0 g1 g2
  subst g0 g1 g2
  have k0 := rec_slice hcs
  have k1 := rec_slice hrs
  have k2 := rec_slice hfs
  refine ⟨⟨cl, rl, fl⟩, _, _, _, ?_, ⟨k0.1, k1.1, k2.1⟩, ⟨k0.2, k1.2, k2.2⟩⟩
  congr 1
  exact Array.ext' (by simpa using hcs')
set_option maxRecDepth 100000 in
theorem trod_find {n : Nat} {y : DataW H × List MemPlace} {cs : List Value} (hl : cs.length = 4) (h : DataW.trod enc Tryz.prog w base sp held n 62 cs = some y) : ∃ x, cs = findC x ∧ True := by
  obtain ⟨n0, y0, h0⟩ := trod_fldW Tryz.underlying62 h 0 _ rfl
  obtain ⟨n1, y1, h1⟩ := trod_fldW Tryz.underlying62 h 1 _ rfl
  obtain ⟨n2, y2, h2⟩ := trod_fldW Tryz.underlying62 h 2 _ rfl
  obtain ⟨n3, y3, h3⟩ := trod_fldW Tryz.underlying62 h 3 _ rfl
  obtain ⟨a0, e0, -⟩ := trod_i64 Tryz.underlying3 h0
  obtain ⟨a1, e1, -⟩ := DataW.trod_bool Tryz.underlying4 h1
  obtain ⟨a2, e2, -⟩ := trod_i64 Tryz.underlying3 h2
  obtain ⟨a3, e3, -⟩ := trod_i64 Tryz.underlying3 h3
  have g0 := takeW (by rw [← Tryz.cells3]; exact e0)
  have g1 := takeW (by rw [← Tryz.cells4]; exact e1)
  have g2 := takeW (by rw [← Tryz.cells3]; exact e2)
  have g3 := takeW (by rw [← Tryz.cells3]; exact e3)
  match cs, hl with
  | [b0, b1, b2, b3], _ =>
    simp at g0 g1 g2 g3
    subst g0 g1 g2 g3
    exact ⟨⟨a0, a1, a2, a3⟩, rfl, trivial⟩
set_option maxRecDepth 100000 in
theorem open_finds {r : Reach} {b0 : Nat} {v : Value} {d : DataW H} {ps : List MemPlace} (hv : Value.okWide Tryz.prog w r b0 34 v) (h : DataW.Trod enc Tryz.prog w base sp held 34 v d ps) : ∃ l, FindsIn w.cell? v l := by
  obtain ⟨l, hs⟩ := open_sliceR (R := fun cs x => cs = findC x ∧ True) find0 (by decide) Tryz.underlying34 Tryz.cells62 (fun n y cs hc hy => trod_find hc hy) hv h
  exact ⟨l, (rec_slice hs).1⟩
end
end Go.Proofs.YtdjldidfnddpmaaGreat
namespace Go.Proofs.YtdjldidfnddpmaaGreat
open Go.ChangeShapes Go.WideShapes Go.ChangeAt Go.RowKit

theorem Tryz.cells48 : Tryz.prog.cellsOf 48 = 1 := by kernel_rfl
set_option maxRecDepth 100000 in
theorem Tryz.cells65 : Tryz.prog.cellsOf 65 = 2 := by kernel_rfl
set_option maxRecDepth 100000 in
theorem Tryz.cells67 : Tryz.prog.cellsOf 67 = 6 := by kernel_rfl
set_option maxRecDepth 100000 in
theorem Tryz.cells60 : Tryz.prog.cellsOf 60 = 3 := by kernel_rfl
set_option maxRecDepth 100000 in
theorem Tryz.cells74 : Tryz.prog.cellsOf 74 = 6 := by kernel_rfl
set_option maxRecDepth 100000 in
theorem Tryz.cells30 : Tryz.prog.cellsOf 30 = 3 := by kernel_rfl
set_option maxRecDepth 100000 in
theorem Tryz.cells33 : Tryz.prog.cellsOf 33 = 4 := by kernel_rfl
theorem Tryz.cells26 : Tryz.prog.cellsOf 26 = 1 := by kernel_rfl
theorem Tryz.cells27 : Tryz.prog.cellsOf 27 = 1 := by kernel_rfl
theorem Tryz.cells28 : Tryz.prog.cellsOf 28 = 1 := by kernel_rfl
def IntR (cs : List Value) (x : Int) : Prop := cs = [.int .i64 x]
theorem ints_slice {c : Addr → Option Value} {v : Value} {l : List Int} (h : SliceR 1 IntR 0 c v l) : IntsIn c v l := by
  obtain ⟨a, n, h1, h2, h3, h4⟩ := h
  refine ⟨a, n, h1, h2, h3, fun k hk => ?_⟩
  obtain ⟨b, o, cs, e, -, rfl, hc⟩ := h4 k hk
  have := hc 0 (by omega)
  rw [Nat.mul_one, Nat.add_zero] at this
  exact ⟨b, o, e, this⟩
section
variable {H : Type} {enc : TypeId × Value → H} {w : World} {base : Nat} {sp : Nat → Bool} {held : Bool}
set_option maxRecDepth 100000 in
theorem trod_ints {n : Nat} {y : DataW H × List MemPlace} {cs : List Value} (h : DataW.trod enc Tryz.prog w base sp held n 48 cs = some y) : ∃ v l, cs = [v] ∧ IntsAt w v l := by
  obtain ⟨v, l, e, hs⟩ := trod_sliceR (R := IntR) 0 (by decide) Tryz.underlying48 Tryz.cells3 (fun n y cs _ hy => by
    obtain ⟨x, h1, -⟩ := trod_i64 Tryz.underlying3 hy
    exact ⟨x, h1⟩) h
  exact ⟨v, l, e, ints_slice hs⟩
set_option maxRecDepth 100000 in
theorem trod_spell {n : Nat} {y : DataW H × List MemPlace} {cs : List Value} (hl : cs.length = 2) (h : DataW.trod enc Tryz.prog w base sp held n 65 cs = some y) : ∃ f t, cs = [.int .i64 f, .int .i64 t] := by
  obtain ⟨n0, y0, h0⟩ := trod_fldW Tryz.underlying65 h 0 _ rfl
  obtain ⟨n1, y1, h1⟩ := trod_fldW Tryz.underlying65 h 1 _ rfl
  obtain ⟨a0, e0, -⟩ := trod_i64 Tryz.underlying3 h0
  obtain ⟨a1, e1, -⟩ := trod_i64 Tryz.underlying3 h1
  have g0 := takeW (by rw [← Tryz.cells3]; exact e0)
  have g1 := takeW (by rw [← Tryz.cells3]; exact e1)
  match cs, hl with
  | [b0, b1], _ =>
    simp at g0 g1
    subst g0 g1
    exact ⟨a0, a1, rfl⟩
theorem take2 {cs : List Value} {k : Nat} {u v : Value} (h : (cs.drop k).take 2 = [u, v]) : cs[k]? = some u ∧ cs[k + 1]? = some v := by
  have h0 : ((cs.drop k).take 2)[0]? = some u := by rw [h]; rfl
  have h1 : ((cs.drop k).take 2)[1]? = some v := by rw [h]; rfl
  rw [List.getElem?_take_of_lt (by omega), List.getElem?_drop] at h0 h1
  exact ⟨h0, h1⟩
set_option maxRecDepth 100000 in
theorem trod_clause {n : Nat} {y : DataW H × List MemPlace} {cs : List Value} (hl : cs.length = 6) (h : DataW.trod enc Tryz.prog w base sp held n 67 cs = some y) : ∃ x nv bv, cs = clauseC x nv bv ∧ IntsAt w nv x.needs ∧ IntsAt w bv x.bars := by
  obtain ⟨n0, y0, h0⟩ := trod_fldW Tryz.underlying67 h 0 _ rfl
  obtain ⟨n1, y1, h1⟩ := trod_fldW Tryz.underlying67 h 1 _ rfl
  obtain ⟨n2, y2, h2⟩ := trod_fldW Tryz.underlying67 h 2 _ rfl
  obtain ⟨n3, y3, h3⟩ := trod_fldW Tryz.underlying67 h 3 _ rfl
  obtain ⟨n4, y4, h4⟩ := trod_fldW Tryz.underlying67 h 4 _ rfl
  obtain ⟨a0, e0, -⟩ := trod_i64 Tryz.underlying3 h0
  obtain ⟨a1, a2, e1⟩ := trod_spell (by show (List.take (Tryz.prog.cellsOf 65) (cs.drop 1)).length = 2; rw [Tryz.cells65, List.length_take, List.length_drop, hl]; rfl) h1
  obtain ⟨v2, l2, e2, i2⟩ := trod_ints h2
  obtain ⟨v3, l3, e3, i3⟩ := trod_ints h3
  obtain ⟨a4, e4, -⟩ := trod_i64 Tryz.underlying3 h4
  have g0 := takeW (by rw [← Tryz.cells3]; exact e0)
  have g1 := take2 (by rw [← Tryz.cells65]; exact e1)
  have g2 := takeW (by rw [← Tryz.cells48]; exact e2)
  have g3 := takeW (by rw [← Tryz.cells48]; exact e3)
  have g4 := takeW (by rw [← Tryz.cells3]; exact e4)
  obtain ⟨g1, g1'⟩ := g1
  match cs, hl with
  | [b0, b1, b2, b3, b4, b5], _ =>
    simp at g0 g1 g1' g2 g3 g4
    subst g0 g1 g1' g2 g3 g4
    exact ⟨⟨a0, a1, a2, l2, l3, a4⟩, _, _, rfl, i2, i3⟩
def ClauseR (w : World) (cs : List Value) (x : ClauseD) : Prop := ∃ nv bv, cs = clauseC x nv bv ∧ IntsAt w nv x.needs ∧ IntsAt w bv x.bars
set_option maxRecDepth 100000 in
theorem clauses_slice {v : Value} {l : List ClauseD} (h : SliceR 6 (ClauseR w) clause0 w.cell? v l) : ClausesIn w.cell? v l := by
  obtain ⟨a, n, h1, h2, h3, h4⟩ := h
  refine ⟨a, n, h1, h2, h3, fun k hk => ?_⟩
  obtain ⟨b, o, cs, e, -, ⟨nv, bv, rfl, hi, hj⟩, hc⟩ := h4 k hk
  have c0 := hc 0 (by omega)
  rw [Nat.add_zero] at c0
  exact ⟨b, o, nv, bv, e, c0, hc 1 (by omega), hc 2 (by omega), hc 3 (by omega), hc 4 (by omega), hc 5 (by omega), hi, hj⟩
set_option maxRecDepth 100000 in
theorem trod_repeal {n : Nat} {y : DataW H × List MemPlace} {cs : List Value} (hl : cs.length = 3) (h : DataW.trod enc Tryz.prog w base sp held n 60 cs = some y) : ∃ x, cs = repealC x ∧ True := by
  obtain ⟨n0, y0, h0⟩ := trod_fldW Tryz.underlying60 h 0 _ rfl
  obtain ⟨n1, y1, h1⟩ := trod_fldW Tryz.underlying60 h 1 _ rfl
  obtain ⟨n2, y2, h2⟩ := trod_fldW Tryz.underlying60 h 2 _ rfl
  obtain ⟨a0, e0, -⟩ := trod_i64 Tryz.underlying3 h0
  obtain ⟨a1, e1, -⟩ := trod_i64 Tryz.underlying3 h1
  obtain ⟨a2, e2, -⟩ := trod_i64 Tryz.underlying3 h2
  have g0 := takeW (by rw [← Tryz.cells3]; exact e0)
  have g1 := takeW (by rw [← Tryz.cells3]; exact e1)
  have g2 := takeW (by rw [← Tryz.cells3]; exact e2)
  match cs, hl with
  | [b0, b1, b2], _ =>
    simp at g0 g1 g2
    subst g0 g1 g2
    exact ⟨⟨a0, a1, a2⟩, rfl, trivial⟩
set_option maxRecDepth 100000 in
theorem trod_fact {n : Nat} {y : DataW H × List MemPlace} {cs : List Value} (hl : cs.length = 6) (h : DataW.trod enc Tryz.prog w base sp held n 74 cs = some y) : ∃ x, cs = factC x ∧ True := by
  obtain ⟨n0, y0, h0⟩ := trod_fldW Tryz.underlying74 h 0 _ rfl
  obtain ⟨n1, y1, h1⟩ := trod_fldW Tryz.underlying74 h 1 _ rfl
  obtain ⟨n2, y2, h2⟩ := trod_fldW Tryz.underlying74 h 2 _ rfl
  obtain ⟨n3, y3, h3⟩ := trod_fldW Tryz.underlying74 h 3 _ rfl
  obtain ⟨a0, e0, -⟩ := trod_i64 Tryz.underlying3 h0
  obtain ⟨a1, e1, -⟩ := trod_i64 Tryz.underlying3 h1
  obtain ⟨a2, a3, e2⟩ := trod_spell (by show (List.take (Tryz.prog.cellsOf 65) (cs.drop 2)).length = 2; rw [Tryz.cells65, List.length_take, List.length_drop, hl]; rfl) h2
  obtain ⟨a4, a5, e3⟩ := trod_spell (by show (List.take (Tryz.prog.cellsOf 65) (cs.drop 4)).length = 2; rw [Tryz.cells65, List.length_take, List.length_drop, hl]; rfl) h3
  have g0 := takeW (by rw [← Tryz.cells3]; exact e0)
  have g1 := takeW (by rw [← Tryz.cells3]; exact e1)
  obtain ⟨g2, g2'⟩ := take2 (by rw [← Tryz.cells65]; exact e2)
  obtain ⟨g3, g3'⟩ := take2 (by rw [← Tryz.cells65]; exact e3)
  match cs, hl with
  | [b0, b1, b2, b3, b4, b5], _ =>
    simp at g0 g1 g2 g2' g3 g3'
    subst g0 g1 g2 g2' g3 g3'
    exact ⟨⟨a0, a1, a2, a3, a4, a5⟩, rfl, trivial⟩
set_option maxRecDepth 100000 in
theorem open_code {r : Reach} {b0 : Nat} {v : Value} {d : DataW H} {ps : List MemPlace} (hv : Value.okWide Tryz.prog w r b0 30 v) (h : DataW.Trod enc Tryz.prog w base sp held 30 v d ps) :
    ∃ (x : CodeD) (cv rv fv : Value), v = codeV cv rv fv ∧ CodeIn w.cell? cv rv fv x := by
  obtain ⟨cs, rfl, hsz⟩ : ∃ cs, v = .agg cs ∧ cs.size = Tryz.prog.cellsOf 30 := by
    simp only [Value.okWide, Tryz.underlying30] at hv
    obtain ⟨cs, h1, h2, -⟩ := hv
    exact ⟨cs, h1, h2⟩
  obtain ⟨m, hm⟩ := h
  rw [Tryz.cells30] at hsz
  obtain ⟨n0, y0, h0⟩ := trod_fldW Tryz.underlying30 hm 0 _ rfl
  obtain ⟨n1, y1, h1⟩ := trod_fldW Tryz.underlying30 hm 1 _ rfl
  obtain ⟨n2, y2, h2⟩ := trod_fldW Tryz.underlying30 hm 2 _ rfl
  obtain ⟨cv, cl, e0, hcs⟩ := trod_sliceR (R := ClauseR w) clause0 (by decide) Tryz.underlying26 Tryz.cells67 (fun n y cs hc hy => trod_clause hc hy) h0
  obtain ⟨rv, rl, e1, hrs⟩ := trod_sliceR (R := fun cs x => cs = repealC x ∧ True) repeal0 (by decide) Tryz.underlying27 Tryz.cells60 (fun n y cs hc hy => trod_repeal hc hy) h1
  obtain ⟨fv, fl, e2, hfs⟩ := trod_sliceR (R := fun cs x => cs = factC x ∧ True) fact0 (by decide) Tryz.underlying28 Tryz.cells74 (fun n y cs hc hy => trod_fact hc hy) h2
  have g0 := takeW (by rw [← Tryz.cells26]; exact e0)
  have g1 := takeW (by rw [← Tryz.cells27]; exact e1)
  have g2 := takeW (by rw [← Tryz.cells28]; exact e2)
  obtain ⟨b0, b1, b2, hcs'⟩ : ∃ b0 b1 b2, cs.toList = [b0, b1, b2] := by
    match hh : cs.toList, (show cs.toList.length = 3 by simpa using hsz) with
    | [x, y, z], _ => exact ⟨_, _, _, rfl⟩
  simp only [Value.cells, hcs'] at g0 g1 g2
  simp at g0 g1 g2
  subst g0 g1 g2
  refine ⟨⟨cl, rl, fl⟩, _, _, _, ?_, ⟨clauses_slice hcs, (rec_slice hrs).1, (rec_slice hfs).1⟩⟩
  congr 1
  exact Array.ext' (by simpa using hcs')
set_option maxRecDepth 100000 in
theorem open_query {r : Reach} {b0 : Nat} {v : Value} {d : DataW H} {ps : List MemPlace} (hv : Value.okWide Tryz.prog w r b0 33 v) (h : DataW.Trod enc Tryz.prog w base sp held 33 v d ps) :
    ∃ x : QueryD, v = queryV x ∧ True := by
  obtain ⟨cs, rfl, hsz⟩ : ∃ cs, v = .agg cs ∧ cs.size = Tryz.prog.cellsOf 33 := by
    simp only [Value.okWide, Tryz.underlying33] at hv
    obtain ⟨cs, h1, h2, -⟩ := hv
    exact ⟨cs, h1, h2⟩
  obtain ⟨m, hm⟩ := h
  rw [Tryz.cells33] at hsz
  obtain ⟨n0, y0, h0⟩ := trod_fldW Tryz.underlying33 hm 0 _ rfl
  obtain ⟨n1, y1, h1⟩ := trod_fldW Tryz.underlying33 hm 1 _ rfl
  obtain ⟨n2, y2, h2⟩ := trod_fldW Tryz.underlying33 hm 2 _ rfl
  obtain ⟨n3, y3, h3⟩ := trod_fldW Tryz.underlying33 hm 3 _ rfl
  obtain ⟨a0, e0, -⟩ := trod_i64 Tryz.underlying3 h0
  obtain ⟨a1, e1, -⟩ := trod_i64 Tryz.underlying3 h1
  obtain ⟨a2, e2, -⟩ := trod_i64 Tryz.underlying3 h2
  obtain ⟨a3, e3, -⟩ := trod_i64 Tryz.underlying3 h3
  have g0 := takeW (by rw [← Tryz.cells3]; exact e0)
  have g1 := takeW (by rw [← Tryz.cells3]; exact e1)
  have g2 := takeW (by rw [← Tryz.cells3]; exact e2)
  have g3 := takeW (by rw [← Tryz.cells3]; exact e3)
  obtain ⟨b0, b1, b2, b3, hcs'⟩ : ∃ b0 b1 b2 b3, cs.toList = [b0, b1, b2, b3] := by
    match hh : cs.toList, (show cs.toList.length = 4 by simpa using hsz) with
    | [x, y, z, u], _ => exact ⟨_, _, _, _, rfl⟩
  simp only [Value.cells, hcs'] at g0 g1 g2 g3
  simp at g0 g1 g2 g3
  subst g0 g1 g2 g3
  refine ⟨⟨a0, a1, a2, a3⟩, ?_, trivial⟩
  congr 1
  exact Array.ext' (by simpa using hcs')
end
end Go.Proofs.YtdjldidfnddpmaaGreat
