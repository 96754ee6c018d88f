/- Register: the walk of the reference's Judge. Conditions: how the surveys lie in memory; sizes. -/
import Derived.Test.YtoofkahklboojaaDoorRvD
import Derived.Test.YtoofkahklboojaaDoorRvE
import Derived.StillTailTactics
namespace Go.Proofs.YtoofkahklboojaaDoor
open Go.RowKit

/-- all but the verdict's box is as before; the box holds what has been found -/
abbrev outC (s : StJ) : List Value := [iV 0, iV s.wm.turn, iV s.wm.dx, iV s.wm.dy, iV s.par, iV s.nm.turn, iV s.nm.dx, iV s.nm.dy]
theorem BoxG.setJ {w X : World} {R : Nat} {t : TypeId} {l0 l1 : List Value} {W : World} (h : BoxG w X R t l0 l1 false W) (hR : w.heap.size ≤ R) (j : Nat) (u : Value) : BoxG w X R t (l0.set j u) l1 false (W.setCell ⟨R, j, none⟩ u) :=
 ⟨h.hb.setCell (p := ⟨R, j, none⟩) hR _, h.hE.trans (Eff.setCell _ _ _ _), h.box.set j u⟩
/-- two lists of pairs that grow, apart from each other -/
structure TwoP (w : World) (va vb : Value) (la lb : List (Int × Int)) (W : World) : Prop where
 a : OwnR W w.heap.size 58 2 va (la.map idsC)
 b : OwnR W w.heap.size 58 2 vb (lb.map idsC)
 ap : ∀ g, va.ownBlock = some g → vb.ownBlock ≠ some g
 hb : Below w.heap.size w W
theorem OwnR.ltC {w : World} {B k : Nat} {e : TypeId} {v : Value} {L : List (List Value)} (h : OwnR w B e k v L) {g : Nat} (hg : v.ownBlock = some g) : B ≤ g ∧ g < w.heap.size := by
 rcases h.form with ⟨rfl, -⟩ | ⟨g', c, cur, rfl, h1, h2, -⟩
 ·cases hg
 ·have hg : some g' = some g := hg
  cases hg
  exact ⟨h1, (Array.getElem?_eq_some_iff.1 h2).1⟩
section
variable {w W W' : World} {va vb v' : Value} {la lb : List (Int × Int)} {y : Int × Int}
theorem TwoP.later (h : TwoP w va vb la lb W) (hb : Below W.heap.size W W') : TwoP w va vb la lb W' :=
 ⟨h.a.later' hb, h.b.later' hb, h.ap, below2 h.hb hb⟩
theorem TwoP.appA (h : TwoP w va vb la lb W) (ho : OwnR W' w.heap.size 58 2 v' (la.map idsC ++ [idsC y])) (hE : Eff (fun k => some k = va.ownBlock) W W') (hob : v'.ownBlock = va.ownBlock ∨ ∀ g, v'.ownBlock = some g → W.heap.size ≤ g) :
  TwoP w v' vb (la ++ [y]) lb W' := by
 refine ⟨by rw [List.map_append]; exact ho, h.b.eff hE (fun g hg e => h.ap g e.symm hg), fun g hg e => ?_, h.hb.trans (hE.below h.hb.size (fun k hk => (h.a.ltC hk.symm).1))⟩
 rcases hob with h1 | h1
 ·rw [h1] at hg; exact h.ap g hg e
 ·have := h1 g hg; have := (h.b.ltC e).2; omega
theorem TwoP.appB (h : TwoP w va vb la lb W) (ho : OwnR W' w.heap.size 58 2 v' (lb.map idsC ++ [idsC y])) (hE : Eff (fun k => some k = vb.ownBlock) W W') (hob : v'.ownBlock = vb.ownBlock ∨ ∀ g, v'.ownBlock = some g → W.heap.size ≤ g) :
  TwoP w va v' la (lb ++ [y]) W' := by
 refine ⟨h.a.eff hE (fun g hg e => h.ap g hg e.symm), by rw [List.map_append]; exact ho, fun g hg e => ?_, h.hb.trans (hE.below h.hb.size (fun k hk => (h.b.ltC hk.symm).1))⟩
 rcases hob with h1 | h1
 ·rw [h1] at e; exact h.ap g hg e
 ·have := h1 g e; have := (h.a.ltC hg).2; omega
end
/-- the index that the loop has found -/
def AtJ (b : List DotD) (z : Int) (k : Nat) (v : Value) : Prop := (v = .int .i64 (-1) ∧ ∀ j, j < k → (b.getD j dot0).id = z → z ≤ 19) ∨ ∃ n : Nat, n < k ∧ v = .int .i64 n ∧ (b.getD n dot0).id = z ∧ 19 < z
theorem AtJ.zero (b : List DotD) (z : Int) : AtJ b z 0 (.int .i64 (-1)) := .inl ⟨rfl, fun j hj => absurd hj (by omega)⟩
theorem AtJ.skip {b : List DotD} {z : Int} {k : Nat} {v : Value} (h : AtJ b z k v) (hs : (b.getD k dot0).id = z → z ≤ 19) : AtJ b z (k + 1) v := by
 rcases h with ⟨h1, h2⟩ | ⟨n, h1, h2, h3, h4⟩
 ·refine .inl ⟨h1, fun j hj e => ?_⟩
  by_cases hjk : j = k
  ·rw [hjk] at e; exact hs e
  ·exact h2 j (by omega) e
 ·exact .inr ⟨n, by omega, h2, h3, h4⟩
theorem AtJ.hit {b : List DotD} {z : Int} {k : Nat} (h1 : (b.getD k dot0).id = z) (h2 : 19 < z) : AtJ b z (k + 1) (.int .i64 k) := .inr ⟨k, by omega, rfl, h1, h2⟩
/-- all cells but those of one block -/
def rdN (R : Nat) (w : World) : Rd := fun a => if a.block = R then none else w.cell? a
theorem keeps_frm_rdN {R B : Nat} {w : World} (h : R < B) : Keeps (frm B w) (rdN R w) := fun a v e => by
 unfold frm at e
 unfold rdN
 split at e
 ·rename_i hb
  rw [if_neg (by omega)]; exact e
 ·cases e
theorem keeps_to_rdN {R : Nat} {w W : World} (hR : w.heap.size ≤ R) (h : Keeps w.cell? W.cell?) : Keeps w.cell? (rdN R W) := fun a v e => by
 unfold rdN
 rw [if_neg (by have h1 := lt_of_cell e; omega)]
 exact h a v e
theorem rdN_of {R : Nat} {w : World} {a : Addr} {v : Value} (h : w.cell? a = some v) (hn : a.block ≠ R) : rdN R w a = some v := by unfold rdN; rw [if_neg hn]; exact h
theorem BoxG.keepN {w X : World} {R : Nat} {t : TypeId} {l0 l1 : List Value} {d : Bool} {W : World} (h : BoxG w X R t l0 l1 d W) : Keeps (rdN R X) W.cell? := fun a v e => by
 unfold rdN at e
 split at e
 ·cases e
 ·rename_i hn
  exact h.cell hn e
theorem BoxG.keepNN {w X : World} {R : Nat} {t : TypeId} {l0 l1 : List Value} {d : Bool} {W : World} (h : BoxG w X R t l0 l1 d W) : Keeps (rdN R X) (rdN R W) := fun a v e => by
 unfold rdN at e ⊢
 split at e
 ·cases e
 ·rename_i hn
  rw [if_neg hn]
  exact h.cell hn e
theorem BoxG.rebase {w X : World} {R : Nat} {t : TypeId} {l0 l1 : List Value} {W : World} (h : BoxG w X R t l0 l1 false W) : BoxG w W R t l0 l1 false W := ⟨h.hb, Eff.refl _ _, h.hR⟩
theorem BoxG.join {w X Y : World} {R : Nat} {t : TypeId} {l0 l0' l1 : List Value} {W : World} (h : BoxG w X R t l0 l1 false Y) (g : BoxG w Y R t l0' l1 false W) : BoxG w X R t l0' l1 false W := ⟨g.hb, h.hE.trans g.hE, g.hR⟩
set_option maxRecDepth 100000 in
set_option maxHeartbeats 4000000 in
theorem rjudge_any (a b : List DotD) (va vb : Value) (z : Int) (w : World) (ha : DotsAt w va a) (hb : DotsAt w vb b) (hbl : b.length < 1000000) :
  Calls Tryd.prog 27 #[va, vb, iV z] w (Ret (.tuple #[verV (judV a b z), iV (judE a b z)]) w) := by
 have HV : Hid (judV a b z = ((judgeD a b z).map (verD a b)).getD ver0) := hide rfl
 have HE : Hid (judE a b z = if (judgeD a b z).isSome then 0 else 110) := hide rfl
 have HFT := hide (fun (W : World) (h : Below w.heap.size w W) => rfits_any a b va vb W (ha.below h) (hb.below h))
 have HJE : Hid (errR a b ≠ 0 → judgeD a b z = none) := hide (fun h => by
  unfold judgeD
  have : (fitsR a b).isEmpty = true := by
   unfold errR at h
   unfold fitsR
   split at h
   ·rename_i h1; rw [if_pos h1]; rfl
   ·exact absurd rfl h
  rw [this, if_pos rfl])
 have HJF : Hid ((fitsR a b).isEmpty = true → judgeD a b z = none) := hide (fun h => by unfold judgeD; rw [h, if_pos rfl])
 have HJN : Hid ((∀ j, j < b.length → (b.getD j dot0).id = z → z ≤ 19) → judgeD a b z = none) := hide (fun h => by
  unfold judgeD
  split
  ·rfl
  ·split
   ·rfl
   ·rename_i h1
    exact find_nothing fun k hk e => absurd (h k hk e) (by omega))
 have HJS : Hid (errR a b = 0 → (fitsR a b).isEmpty = false → ∀ n, n < b.length → (b.getD n dot0).id = z → 19 < z → judgeD a b z = some (b.getD n dot0)) := hide (fun h1 h2 n hn he hz => by
  unfold judgeD
  have hvb : validD b = true := (marks_valid (fits_marks h2)).2
  rw [h2, if_neg (by decide), if_neg (by omega), find_uniq (asc_getD hvb) hn he])
 have HMV : Hid ((fitsR a b).isEmpty = false → validD a = true ∧ validD b = true ∧ marksD a b ≠ []) := hide (fun h => ⟨(marks_valid (fits_marks h)).1, (marks_valid (fits_marks h)).2, by have := fits_marks h; intro e; rw [e] at this; cases this⟩)
 have HFIN := hide (fun h1 h2 (q : DotD) => judge_final (a := a) (b := b) (q := q) h1 h2)
 have HFM := hide (fun (f : Nat × BoxD) (h1 : marksD a b ≠ []) (h : f ∈ fitsR a b) => (show f.1 ≤ 3 ∧ f.2.xl ≤ f.2.xh ∧ f.2.yl ≤ f.2.yh ∧ hasB everyD f.2.xl f.2.yl = true ∧ hasB everyD f.2.xh f.2.yh = true by
  rw [fitsR_fitsD h1] at h
  obtain ⟨g1, g2, g3⟩ := fits_mem.1 h
  have hh : f.2.xl ≤ f.2.xh ∧ f.2.yl ≤ f.2.yh := by unfold emptyB at g3; simp at g3; omega
  have e1 : hasB f.2 f.2.xl f.2.yl = true := by rw [has_iff]; omega
  have e2 : hasB f.2 f.2.xh f.2.yh = true := by rw [has_iff]; omega
  have k1 := e1
  have k2 := e2
  rw [show hasB f.2 f.2.xl f.2.yl = hasB (fitD (marksD a b) f.1) f.2.xl f.2.yl by rw [← g2], has_fit, Bool.and_eq_true] at k1
  rw [show hasB f.2 f.2.xh f.2.yh = hasB (fitD (marksD a b) f.1) f.2.xh f.2.yh by rw [← g2], has_fit, Bool.and_eq_true] at k2
  exact ⟨g1, hh.1, hh.2, k1.1, k2.1⟩))
 have DA := ha
 have DB := hb
 obtain ⟨aa, ac, rfl, -, -, hac⟩ := ha
 obtain ⟨ba, bc, rfl, -, -, hbc⟩ := hb
 have HAC := hide hac
 have HBC := hide hbc
 clear hac hbc
 generalize judV a b z = RV at *
 generalize judE a b z = RE at *
 go_enter Tryd.func27, Tryd.ntmps27
 go_wp2_with fail
 generalize hX1 : World.alloc w _ = X1
 have zX1 : X1.heap.size = w.heap.size + 1 := by rw [← hX1]; simp
 have bX1 : Below w.heap.size w X1 := by rw [← hX1]; exact bal w _
 have bR : Blk X1 (w.heap.size) [iV 0, iV 0, iV 0, iV 0, iV 0, iV 0, iV 0, iV 0] 55 := by rw [← hX1]; exact Blk.newA w _ (by first | rfl | simp)
 have Xb := bX1
 have Xz := zX1
 clear hX1 zX1 bX1
 refine (HFT.out _ Xb).mono ?_
 rintro e w1 ⟨v1, u1, rfl, ⟨hv1, rfl⟩, hb1⟩
 have DF := hv1.at
 obtain ⟨la, lc, rfl, hlc1, hlc2, hlc⟩ := id DF
 have HLC := hide hlc
 have bR1 := bR.later hb1
 have hbw1 := below2 Xb hb1
 clear hv1 hlc HFT bR
 by_cases he : errR a b = 0
 ·rw [he]
  go_wp2_with fail
  go_loopw [10, 11] (fun at_ i wr => ∃ k : Nat, k ≤ b.length ∧ i = .int .i64 k ∧ AtJ b z k at_ ∧ Below w1.heap.size w1 wr) (fun _ i _ => b.length - (intOf i).toNat)
  case atStart => exact ⟨0, by omega, rfl, AtJ.zero b z, Below.refl _ _⟩
  case round =>
   obtain ⟨k, hk, rfl, hat, hbr⟩ := hrel
   by_cases hlt : k < b.length
   ·obtain ⟨bl, o, heq, hck⟩ := HBC.out k hlt
    subst heq
    have hkd : decide (k < b.length) = true := by simpa using hlt
    have e0 : wr.cell? ⟨bl, o + k * 4, none⟩ = some (iV (b.getD k dot0).id) := keep hbr (keep hbw1 (hck 0 _ rfl))
    have HSK := hide (fun h => hat.skip (k := k) h)
    have HHI := hide (fun h1 h2 => AtJ.hit (b := b) (z := z) (k := k) h1 h2)
    generalize (b.getD k dot0).id = Z at *
    clear hck hat
    cases h1 : (Z == z)
    ·have HS := hide (HSK.out (fun e => absurd e (by simpa using h1)))
     go_wp2_with fail
     go_roundw
     case rel => exact ⟨k + 1, by omega, by go_num, HS.out, hbr⟩
     case measure => simp [intOf]; omega
    ·cases h2 : decide (19 < z)
     ·have HS := hide (HSK.out (fun _ => by have := of_decide_eq_false h2; omega))
      go_wp2_with fail
      go_roundw
      case rel => exact ⟨k + 1, by omega, by go_num, HS.out, hbr⟩
      case measure => simp [intOf]; omega
     ·have HS := hide (HHI.out (eq_of_beq h1) (of_decide_eq_true h2))
      go_wp2_with fail
      go_roundw
      case rel => exact ⟨k + 1, by omega, by go_num, HS.out, hbr⟩
      case measure => simp [intOf]; omega
   ·obtain rfl : k = b.length := by omega
    have hkd : decide (b.length < b.length) = false := by simp
    have bRr := bR1.later hbr
    rcases hat with ⟨rfl, hn⟩ | ⟨n, hn, rfl, hn1, hn2⟩
    ·have HJ := hide (HJN.out hn)
     clear hn
     have g0 := (bRr).frozen 0
     have g1 := (bRr).frozen 1
     have g2 := (bRr).frozen 2
     have g3 := (bRr).frozen 3
     have g4 := (bRr).frozen 4
     have g5 := (bRr).frozen 5
     have g6 := (bRr).frozen 6
     have g7 := (bRr).frozen 7
     have r0 := (bRr).cell 0 rfl
     have r1 := (bRr).cell 1 rfl
     have r2 := (bRr).cell 2 rfl
     have r3 := (bRr).cell 3 rfl
     have r4 := (bRr).cell 4 rfl
     have r5 := (bRr).cell 5 rfl
     have r6 := (bRr).cell 6 rfl
     have r7 := (bRr).cell 7 rfl
     go_wp2_with fail
     have hS := set8 (bRr) (iV 0) (iV 0) (iV 0) (iV 0) (iV 0) (iV 0) (iV 0) (iV 0)
     refine bodyPost_ret (results_cell_tmp_row (p := 6) (u := 7) rfl _ _ w.heap.size _ _ _ _ _ rfl hS.1 Tryd.underlying55 rfl (by kernel_rfl) rfl) rfl ?_
     exact ⟨by rw [HV.out, HE.out, HJ.out]; rfl, hS.2 _ _ (below2 hbw1 hbr) (Nat.le_refl _)⟩
    ·cases hz : (fitsR a b).isEmpty
     ·obtain ⟨hva, hvb, hne⟩ := HMV.out hz
      have HJ := hide (HJS.out he hz n hn hn1 hn2)
      obtain ⟨HFQ, HOR⟩ := HFIN.out hne hz (b.getD n dot0)
      have HFQ := hide HFQ
      have HOR := hide HOR
      have hla := valid_len hva
      have hokA := valid_ok hva
      have hokq : dotOk (b.getD n dot0) = true := valid_ok hvb _ (getD_mem b n (d := dot0) hn)
      have HFMM := hide (fun f h => HFM.out f hne h)
      have hfl4 : (fitsR a b).length ≤ 4 := by
       have := fitsUp_len (marksD a b) 4
       rw [fitsR_fitsD hne]; exact this
      have HXS := hide (fun (k : Nat) (hk : k ≤ 3) (p : DotD) (hp : p ∈ a) => (show (i64N (shiftD k p (b.getD n dot0)).xl ∧ i64N (shiftD k p (b.getD n dot0)).xh) ∧ i64N (shiftD k p (b.getD n dot0)).yl ∧ i64N (shiftD k p (b.getD n dot0)).yh by
       have h1 := dot_in (hokA p hp)
       have h2 := dot_in hokq
       have h3 := turn_bd k p.x p.y 1000 h1.2.1 h1.2.2.1
       unfold shiftD i64N
       dsimp only
       omega))
      have HSH := hide (fun (k : Nat) (hk : k ≤ 3) (p : DotD) (hp : p ∈ a) (W : World) => rshifts_any k p (b.getD n dot0) W hk (hokA p hp) hokq)
      have HPA := hide (fun (m : MotD) (hm : 0 ≤ m.turn ∧ m.turn ≤ 3) (W : World) (h : DotsAt W (.slice aa a.length ac) a) => partners_any a (.slice aa a.length ac) (b.getD n dot0) m W h hokA hla hokq hm)
      have HGM := hide (fun (k : Nat) (hk : k < a.length) => getD_mem a k (d := dot0) hk)
      obtain ⟨bq, oq, heq, hcq⟩ := HBC.out n hn
      subst heq
      have hnd : decide (n < b.length) = true := by simpa using hn
      have hnp := hn
      have hz0 : decide ((n : Int) < 0) = false := by simp
      have hzl : ((fitsR a b).length == 0) = false := by cases hf : fitsR a b with | nil => rw [hf] at hz; cases hz | cons => rfl
      have hzl2 : (((fitsR a b).length : Int) == 0) = false := by simpa using hzl
      have q0 := keep hbr (keep hbw1 (hcq 0 _ rfl))
      have q1 := keep hbr (keep hbw1 (hcq 1 _ rfl))
      have q2 := keep hbr (keep hbw1 (hcq 2 _ rfl))
      have q3 := keep hbr (keep hbw1 (hcq 3 _ rfl))
      have DAr := DA.below (below2 hbw1 hbr)
      have HLR := hide (fun (i : Nat) hi => (show ∃ b' o', la = some ⟨b', o', none⟩ ∧ ∀ j v, (fitC ((fitsR a b).getD i fit0))[j]? = some v → wr.cell? ⟨b', o' + i * 5 + j, none⟩ = some v by
       obtain ⟨b', o', e, h⟩ := HLC.out i hi
       exact ⟨b', o', e, fun j v hv => keep hbr (h j v hv)⟩))
      have HFD := hide (fun (i : Nat) (hi : i < (fitsR a b).length) => getD_mem (fitsR a b) i (d := fit0) hi)
      generalize b.getD n dot0 = q at *
      generalize fitsR a b = FL at *
      obtain ⟨qi, qx, qy, qt⟩ := q
      clear hokA hokq hcq HMV HFM HFIN HJS HJN HJF HJE hzl hn1 hn2 DF HLC hva hvb hne hz DA DB HBC
      dsimp only at q0 q1 q2 q3
      have hbwr := below2 hbw1 hbr
      go_wp2_with fail
      generalize hXX : World.alloc wr _ = W5
      have hb5 : Below wr.heap.size wr W5 := by rw [← hXX]; exact bal wr _
      have bO : Blk W5 wr.heap.size (outC stJ0) 55 := by rw [← hXX]; exact Blk.newA wr _ rfl
      have hbw5 := below2 hbwr hb5
      have hwO : w.heap.size ≤ wr.heap.size := hbwr.size
      have HKP : Hid (∀ {l0 : List Value} {W : World}, BoxG w W5 wr.heap.size 55 l0 [] false W → Keeps wr.cell? W.cell?) := hide (fun h a v hc => h.cell (Nat.ne_of_lt (lt_of_cell hc)) (keep hb5 hc))
      have HNO4 : Hid (∀ (a : Addr) (v : Value), wr.cell? a = some v → a.block ≠ wr.heap.size) := hide fun a v h => Nat.ne_of_lt (lt_of_cell h)
      have bR5 := bRr.later hb5
      have hRO : w.heap.size ≠ wr.heap.size := by have := bRr.lt; omega
      generalize wr.heap.size = OUT at *
      clear hXX
      obtain ⟨w4, hw4⟩ : ∃ Z : World, Z = wr := ⟨_, rfl⟩
      subst hw4
      go_loopw [12, 13, 15] (fun wv nv i wa => ∃ j : Nat, j ≤ FL.length ∧ i = .int .i64 j ∧ ∃ s, Hid (s = ((FL.take j).flatMap (visF a ⟨qi, qx, qy, qt⟩)).foldl (stepJ a ⟨qi, qx, qy, qt⟩) stJ0) ∧ wv = .bool s.w ∧ nv = .bool s.n ∧ BoxG w W5 OUT 55 (outC s) [] false wa) (fun _ _ i _ => FL.length - (intOf i).toNat)
      case atStart => exact ⟨0, by omega, rfl, stJ0, hide rfl, rfl, rfl, BoxG.start hbw5 bO⟩
      case round =>
       obtain ⟨j, hj, rfl, s, HS, rfl, rfl, hG⟩ := hrel
       by_cases hltj : j < FL.length
       ·have hjd : decide (j < FL.length) = true := by simpa using hltj
        obtain ⟨fb, fo, heqf, hcf⟩ := HLR.out j hltj
        subst heqf
        obtain ⟨hk3, hx1, hy1, hev1, hev2⟩ := HFMM.out _ (HFD.out j hltj)
        have HTS := hide (show ((FL.take (j + 1)).flatMap (visF a ⟨qi, qx, qy, qt⟩)).foldl (stepJ a ⟨qi, qx, qy, qt⟩) stJ0 = (visF a ⟨qi, qx, qy, qt⟩ (FL.getD j fit0)).foldl (stepJ a ⟨qi, qx, qy, qt⟩) s by rw [take_succ' FL j fit0 hltj, List.flatMap_append, List.foldl_append, ← HS.out]; simp)
        generalize FL.getD j fit0 = f at *
        obtain ⟨k, ⟨xl, xh, yl, yh⟩⟩ := f
        rw [has_iff] at hev1 hev2
        unfold everyD at hev1 hev2
        dsimp only at hk3 hx1 hy1 hev1 hev2
        have e0 : w4.cell? ⟨fb, fo + j * 5, none⟩ = some (iV k) := hcf 0 _ rfl
        have e1 : w4.cell? ⟨fb, fo + j * 5 + 1, none⟩ = some (iV xl) := hcf 1 _ rfl
        have e2 : w4.cell? ⟨fb, fo + j * 5 + 2, none⟩ = some (iV xh) := hcf 2 _ rfl
        have e3 : w4.cell? ⟨fb, fo + j * 5 + 3, none⟩ = some (iV yl) := hcf 3 _ rfl
        have e4 : w4.cell? ⟨fb, fo + j * 5 + 4, none⟩ = some (iV yh) := hcf 4 _ rfl
        replace e0 := HKP.out hG _ _ e0
        replace e1 := HKP.out hG _ _ e1
        replace e2 := HKP.out hG _ _ e2
        replace e3 := HKP.out hG _ _ e3
        replace e4 := HKP.out hG _ _ e4
        have HSHk := hide (fun p hp W => HSH.out k hk3 p hp W)
        have HXSk := hide (fun p hp => HXS.out k hk3 p hp)
        have HVF : Hid (visF a ⟨qi, qx, qy, qt⟩ (k, ⟨xl, xh, yl, yh⟩) = (edgR xl xh (xsR a ⟨qi, qx, qy, qt⟩ k)).flatMap fun x => (edgR yl yh (ysR a ⟨qi, qx, qy, qt⟩ k)).map fun y => ⟨k, x, y⟩) := hide rfl
        clear hcf HS
        go_wp2_with fail
        generalize hXX : World.alloc wr _ = W6
        have hb6 : Below wr.heap.size wr W6 := by rw [← hXX]; exact bal wr _
        have bF : Blk W6 wr.heap.size [iV k, iV xl, iV xh, iV yl, iV yh] 65 := by rw [← hXX]; exact Blk.newA wr _ rfl
        have hG6 := hG.later hb6
        have DA6 := DAr.keeps (HKP.out hG6)
        have s0 := HKP.out hG6 _ _ q0
        have s1 := HKP.out hG6 _ _ q1
        have s2 := HKP.out hG6 _ _ q2
        have s3 := HKP.out hG6 _ _ q3
        obtain ⟨a', n', e, -, -, hac6⟩ := id DA6
        cases e
        have HA6 := hide hac6
        have hOF : OUT < wr.heap.size := hG.box.lt
        generalize wr.heap.size = FB at *
        clear hXX hac6 e0 e1 e2 e3 e4
        go_loopw [17, 18, 19] (fun vx vy i wq => ∃ g : Nat, g ≤ a.length ∧ i = .int .i64 g ∧ TwoP W6 vx vy (xsR (a.take g) ⟨qi, qx, qy, qt⟩ k) (ysR (a.take g) ⟨qi, qx, qy, qt⟩ k) wq) (fun _ _ i _ => a.length - (intOf i).toNat)
        case atStart => exact ⟨0, by omega, rfl, ⟨OwnR.nil _ _ _ _, OwnR.nil _ _ _ _, fun g h => (by cases h), Below.refl _ _⟩⟩
        case round =>
         obtain ⟨g, hg, rfl, hT⟩ := hrel
         by_cases hltg : g < a.length
         ·obtain ⟨bp, op, heqp, hcp⟩ := HA6.out g hltg
          subst heqp
          have hgd : decide (g < a.length) = true := by simpa using hltg
          have HSHg := hide (HSHk.out _ (HGM.out g hltg))
          have HXT := hide (show xsR (a.take (g + 1)) ⟨qi, qx, qy, qt⟩ k = xsR (a.take g) ⟨qi, qx, qy, qt⟩ k ++ [((shiftD k (a.getD g dot0) ⟨qi, qx, qy, qt⟩).xl, (shiftD k (a.getD g dot0) ⟨qi, qx, qy, qt⟩).xh)] by unfold xsR; rw [take_succ' a g dot0 hltg, List.map_append]; rfl)
          have HYT := hide (show ysR (a.take (g + 1)) ⟨qi, qx, qy, qt⟩ k = ysR (a.take g) ⟨qi, qx, qy, qt⟩ k ++ [((shiftD k (a.getD g dot0) ⟨qi, qx, qy, qt⟩).yl, (shiftD k (a.getD g dot0) ⟨qi, qx, qy, qt⟩).yh)] by unfold ysR; rw [take_succ' a g dot0 hltg, List.map_append]; rfl)
          have HLX : Hid ((xsR (a.take g) ⟨qi, qx, qy, qt⟩ k).length ≤ 12 ∧ (ysR (a.take g) ⟨qi, qx, qy, qt⟩ k).length ≤ 12) := hide (by unfold xsR ysR; rw [List.length_map, List.length_map, List.length_take]; omega)
          generalize xsR (a.take g) ⟨qi, qx, qy, qt⟩ k = LX at *
          generalize ysR (a.take g) ⟨qi, qx, qy, qt⟩ k = LY at *
          generalize a.getD g dot0 = p at *
          obtain ⟨pi, px, py, pt⟩ := p
          have p0 : wr.cell? ⟨bp, op + g * 4, none⟩ = some (iV pi) := keep hT.hb (hcp 0 _ rfl)
          have p1 : wr.cell? ⟨bp, op + g * 4 + 1, none⟩ = some (iV px) := keep hT.hb (hcp 1 _ rfl)
          have p2 : wr.cell? ⟨bp, op + g * 4 + 2, none⟩ = some (iV py) := keep hT.hb (hcp 2 _ rfl)
          have p3 : wr.cell? ⟨bp, op + g * 4 + 3, none⟩ = some (iV pt) := keep hT.hb (hcp 3 _ rfl)
          have t0 : wr.cell? ⟨bq, oq + n * 4, none⟩ = some (iV qi) := keep hT.hb s0
          have t1 : wr.cell? ⟨bq, oq + n * 4 + 1, none⟩ = some (iV qx) := keep hT.hb s1
          have t2 : wr.cell? ⟨bq, oq + n * 4 + 2, none⟩ = some (iV qy) := keep hT.hb s2
          have t3 : wr.cell? ⟨bq, oq + n * 4 + 3, none⟩ = some (iV qt) := keep hT.hb s3
          have ff0 := (bF.later hT.hb).cell 0 rfl
          generalize shiftD k (⟨pi, px, py, pt⟩ : DotD) ⟨qi, qx, qy, qt⟩ = S at *
          obtain ⟨sl, sh, tl, th⟩ := S
          dsimp only at HXT HYT
          have hTr := hT
          clear hcp hT
          go_wp2_with fail
          refine wp_region_inv [some 80, some 81, some 82, some 83, some 84, some 85, some 86, some 87, some 88, some 89, some 90, some 20, none] (fun L vs W => match vs with | [x0, x1, x2, x3, x4, x5, x6, x7, x8, x9, x10, x11, x12] => (Below wr.heap.size wr W) ∧ (L 0 = true → x0 = .pointer (some ⟨FB, 0, none⟩)) ∧ (L 1 = true → x1 = iV k) ∧ (L 2 = true → x2 = .slice (some ⟨bp, op, none⟩) a.length ac) ∧ (L 3 = true → x3 = .int .i64 g) ∧ (L 4 = true → x4 = .pointer (some ⟨bp, op + g * 4, none⟩)) ∧ (L 5 = true → x5 = .agg #[iV pi, iV px, iV py, iV pt]) ∧ (L 6 = true → x6 = .slice (some ⟨bq, oq, none⟩) b.length bc) ∧ (L 7 = true → x7 = .int .i64 n) ∧ (L 8 = true → x8 = .pointer (some ⟨bq, oq + n * 4, none⟩)) ∧ (L 9 = true → x9 = .agg #[iV qi, iV qx, iV qy, iV qt]) ∧ (L 10 = true → x10 = .agg #[iV k, iV sl, iV sh, iV tl, iV th]) ∧ (L 11 = true → L 12 = false → ∃ b0 : Nat, wr.heap.size ≤ b0 ∧ x11 = .pointer (some ⟨b0, 0, none⟩) ∧ Blk W b0 [iV 0, iV 0, iV 0, iV 0, iV 0] 65) ∧ (L 12 = true → L 11 = true ∧ ∃ b0 : Nat, wr.heap.size ≤ b0 ∧ x11 = .pointer (some ⟨b0, 0, none⟩) ∧ Blk W b0 [iV k, iV sl, iV sh, iV tl, iV th] 65) | _ => False) [_, _, _, _, _, _, _, _, _, _, _, _, undef] (by kernel_rfl) (by kernel_rfl) rfl (by simp only [puts, Act.put, List.setIfInBounds_toArray, List.set_cons_zero, List.set_cons_succ] <;> rfl) ?_ ?_ ?_
          ·exact ⟨(Below.refl _ _).drew, (fun h => by cases h), (fun h => by cases h), (fun h => by cases h), (fun h => by cases h), (fun h => by cases h), (fun h => by cases h), (fun h => by cases h), (fun h => by cases h), (fun h => by cases h), (fun h => by cases h), (fun h => by cases h), (fun h => by cases h), (fun h => by cases h)⟩
          ·refine ⟨?_, ?_, ?_, ?_, ?_, ?_, ?_, ?_, ?_, ?_, ?_, ?_, ?_, trivial⟩
           ·intro L vs W hlen hL hD hI K hK
            obtain ⟨x0, x1, x2, x3, x4, x5, x6, x7, x8, x9, x10, x11, x12, rfl⟩ := len13 hlen
            have hG := hI.1
            replace hI := hI.2
            have f0 := hide hI.1
            replace hI := hI.2
            have f1 := hide hI.1
            replace hI := hI.2
            have f2 := hide hI.1
            replace hI := hI.2
            have f3 := hide hI.1
            replace hI := hI.2
            have f4 := hide hI.1
            replace hI := hI.2
            have f5 := hide hI.1
            replace hI := hI.2
            have f6 := hide hI.1
            replace hI := hI.2
            have f7 := hide hI.1
            replace hI := hI.2
            have f8 := hide hI.1
            replace hI := hI.2
            have f9 := hide hI.1
            replace hI := hI.2
            have f10 := hide hI.1
            replace hI := hI.2
            have f11 := hide hI.1
            replace hI := hI.2
            have f12 := hide hI
            clear hI
            have p0 := keep hG p0
            have p1 := keep hG p1
            have p2 := keep hG p2
            have p3 := keep hG p3
            have t0 := keep hG t0
            have t1 := keep hG t1
            have t2 := keep hG t2
            have t3 := keep hG t3
            have ff0 := keep hG ff0
            try simp only [puts, Act.put, List.setIfInBounds_toArray, List.set_cons_zero, List.set_cons_succ]
            try go_simp
            exact hK.out _ _ _ (by simp only [puts, Act.put, List.setIfInBounds_toArray, List.set_cons_zero, List.set_cons_succ] <;> rfl) ⟨hG, (fun _ => rfl), (fun h => f1.out h), (fun h => f2.out h), (fun h => f3.out h), (fun h => f4.out h), (fun h => f5.out h), (fun h => f6.out h), (fun h => f7.out h), (fun h => f8.out h), (fun h => f9.out h), (fun h => f10.out h), (fun h => f11.out h), (fun h => f12.out h)⟩
           ·intro L vs W hlen hL hD hI K hK
            obtain ⟨x0, x1, x2, x3, x4, x5, x6, x7, x8, x9, x10, x11, x12, rfl⟩ := len13 hlen
            have hG := hI.1
            replace hI := hI.2
            have f0 := hide hI.1
            replace hI := hI.2
            have f1 := hide hI.1
            replace hI := hI.2
            have f2 := hide hI.1
            replace hI := hI.2
            have f3 := hide hI.1
            replace hI := hI.2
            have f4 := hide hI.1
            replace hI := hI.2
            have f5 := hide hI.1
            replace hI := hI.2
            have f6 := hide hI.1
            replace hI := hI.2
            have f7 := hide hI.1
            replace hI := hI.2
            have f8 := hide hI.1
            replace hI := hI.2
            have f9 := hide hI.1
            replace hI := hI.2
            have f10 := hide hI.1
            replace hI := hI.2
            have f11 := hide hI.1
            replace hI := hI.2
            have f12 := hide hI
            clear hI
            have p0 := keep hG p0
            have p1 := keep hG p1
            have p2 := keep hG p2
            have p3 := keep hG p3
            have t0 := keep hG t0
            have t1 := keep hG t1
            have t2 := keep hG t2
            have t3 := keep hG t3
            have ff0 := keep hG ff0
            obtain rfl := f0.out (hD.on 0 (by kernel_rfl))
            try simp only [puts, Act.put, List.setIfInBounds_toArray, List.set_cons_zero, List.set_cons_succ]
            try go_simp
            exact hK.out _ _ _ (by simp only [puts, Act.put, List.setIfInBounds_toArray, List.set_cons_zero, List.set_cons_succ] <;> rfl) ⟨hG, (fun h => f0.out h), (fun _ => rfl), (fun h => f2.out h), (fun h => f3.out h), (fun h => f4.out h), (fun h => f5.out h), (fun h => f6.out h), (fun h => f7.out h), (fun h => f8.out h), (fun h => f9.out h), (fun h => f10.out h), (fun h => f11.out h), (fun h => f12.out h)⟩
           ·intro L vs W hlen hL hD hI K hK
            obtain ⟨x0, x1, x2, x3, x4, x5, x6, x7, x8, x9, x10, x11, x12, rfl⟩ := len13 hlen
            have hG := hI.1
            replace hI := hI.2
            have f0 := hide hI.1
            replace hI := hI.2
            have f1 := hide hI.1
            replace hI := hI.2
            have f2 := hide hI.1
            replace hI := hI.2
            have f3 := hide hI.1
            replace hI := hI.2
            have f4 := hide hI.1
            replace hI := hI.2
            have f5 := hide hI.1
            replace hI := hI.2
            have f6 := hide hI.1
            replace hI := hI.2
            have f7 := hide hI.1
            replace hI := hI.2
            have f8 := hide hI.1
            replace hI := hI.2
            have f9 := hide hI.1
            replace hI := hI.2
            have f10 := hide hI.1
            replace hI := hI.2
            have f11 := hide hI.1
            replace hI := hI.2
            have f12 := hide hI
            clear hI
            have p0 := keep hG p0
            have p1 := keep hG p1
            have p2 := keep hG p2
            have p3 := keep hG p3
            have t0 := keep hG t0
            have t1 := keep hG t1
            have t2 := keep hG t2
            have t3 := keep hG t3
            have ff0 := keep hG ff0
            try simp only [puts, Act.put, List.setIfInBounds_toArray, List.set_cons_zero, List.set_cons_succ]
            try go_simp
            exact hK.out _ _ _ (by simp only [puts, Act.put, List.setIfInBounds_toArray, List.set_cons_zero, List.set_cons_succ] <;> rfl) ⟨hG, (fun h => f0.out h), (fun h => f1.out h), (fun _ => rfl), (fun h => f3.out h), (fun h => f4.out h), (fun h => f5.out h), (fun h => f6.out h), (fun h => f7.out h), (fun h => f8.out h), (fun h => f9.out h), (fun h => f10.out h), (fun h => f11.out h), (fun h => f12.out h)⟩
           ·intro L vs W hlen hL hD hI K hK
            obtain ⟨x0, x1, x2, x3, x4, x5, x6, x7, x8, x9, x10, x11, x12, rfl⟩ := len13 hlen
            have hG := hI.1
            replace hI := hI.2
            have f0 := hide hI.1
            replace hI := hI.2
            have f1 := hide hI.1
            replace hI := hI.2
            have f2 := hide hI.1
            replace hI := hI.2
            have f3 := hide hI.1
            replace hI := hI.2
            have f4 := hide hI.1
            replace hI := hI.2
            have f5 := hide hI.1
            replace hI := hI.2
            have f6 := hide hI.1
            replace hI := hI.2
            have f7 := hide hI.1
            replace hI := hI.2
            have f8 := hide hI.1
            replace hI := hI.2
            have f9 := hide hI.1
            replace hI := hI.2
            have f10 := hide hI.1
            replace hI := hI.2
            have f11 := hide hI.1
            replace hI := hI.2
            have f12 := hide hI
            clear hI
            have p0 := keep hG p0
            have p1 := keep hG p1
            have p2 := keep hG p2
            have p3 := keep hG p3
            have t0 := keep hG t0
            have t1 := keep hG t1
            have t2 := keep hG t2
            have t3 := keep hG t3
            have ff0 := keep hG ff0
            try simp only [puts, Act.put, List.setIfInBounds_toArray, List.set_cons_zero, List.set_cons_succ]
            try go_simp
            exact hK.out _ _ _ (by simp only [puts, Act.put, List.setIfInBounds_toArray, List.set_cons_zero, List.set_cons_succ] <;> rfl) ⟨hG, (fun h => f0.out h), (fun h => f1.out h), (fun h => f2.out h), (fun _ => rfl), (fun h => f4.out h), (fun h => f5.out h), (fun h => f6.out h), (fun h => f7.out h), (fun h => f8.out h), (fun h => f9.out h), (fun h => f10.out h), (fun h => f11.out h), (fun h => f12.out h)⟩
           ·intro L vs W hlen hL hD hI K hK
            obtain ⟨x0, x1, x2, x3, x4, x5, x6, x7, x8, x9, x10, x11, x12, rfl⟩ := len13 hlen
            have hG := hI.1
            replace hI := hI.2
            have f0 := hide hI.1
            replace hI := hI.2
            have f1 := hide hI.1
            replace hI := hI.2
            have f2 := hide hI.1
            replace hI := hI.2
            have f3 := hide hI.1
            replace hI := hI.2
            have f4 := hide hI.1
            replace hI := hI.2
            have f5 := hide hI.1
            replace hI := hI.2
            have f6 := hide hI.1
            replace hI := hI.2
            have f7 := hide hI.1
            replace hI := hI.2
            have f8 := hide hI.1
            replace hI := hI.2
            have f9 := hide hI.1
            replace hI := hI.2
            have f10 := hide hI.1
            replace hI := hI.2
            have f11 := hide hI.1
            replace hI := hI.2
            have f12 := hide hI
            clear hI
            have p0 := keep hG p0
            have p1 := keep hG p1
            have p2 := keep hG p2
            have p3 := keep hG p3
            have t0 := keep hG t0
            have t1 := keep hG t1
            have t2 := keep hG t2
            have t3 := keep hG t3
            have ff0 := keep hG ff0
            obtain rfl := f2.out (hD.on 2 (by kernel_rfl))
            obtain rfl := f3.out (hD.on 3 (by kernel_rfl))
            try simp only [puts, Act.put, List.setIfInBounds_toArray, List.set_cons_zero, List.set_cons_succ]
            try go_simp
            exact hK.out _ _ _ (by simp only [puts, Act.put, List.setIfInBounds_toArray, List.set_cons_zero, List.set_cons_succ] <;> rfl) ⟨hG, (fun h => f0.out h), (fun h => f1.out h), (fun h => f2.out h), (fun h => f3.out h), (fun _ => rfl), (fun h => f5.out h), (fun h => f6.out h), (fun h => f7.out h), (fun h => f8.out h), (fun h => f9.out h), (fun h => f10.out h), (fun h => f11.out h), (fun h => f12.out h)⟩
           ·intro L vs W hlen hL hD hI K hK
            obtain ⟨x0, x1, x2, x3, x4, x5, x6, x7, x8, x9, x10, x11, x12, rfl⟩ := len13 hlen
            have hG := hI.1
            replace hI := hI.2
            have f0 := hide hI.1
            replace hI := hI.2
            have f1 := hide hI.1
            replace hI := hI.2
            have f2 := hide hI.1
            replace hI := hI.2
            have f3 := hide hI.1
            replace hI := hI.2
            have f4 := hide hI.1
            replace hI := hI.2
            have f5 := hide hI.1
            replace hI := hI.2
            have f6 := hide hI.1
            replace hI := hI.2
            have f7 := hide hI.1
            replace hI := hI.2
            have f8 := hide hI.1
            replace hI := hI.2
            have f9 := hide hI.1
            replace hI := hI.2
            have f10 := hide hI.1
            replace hI := hI.2
            have f11 := hide hI.1
            replace hI := hI.2
            have f12 := hide hI
            clear hI
            have p0 := keep hG p0
            have p1 := keep hG p1
            have p2 := keep hG p2
            have p3 := keep hG p3
            have t0 := keep hG t0
            have t1 := keep hG t1
            have t2 := keep hG t2
            have t3 := keep hG t3
            have ff0 := keep hG ff0
            obtain rfl := f4.out (hD.on 4 (by kernel_rfl))
            try simp only [puts, Act.put, List.setIfInBounds_toArray, List.set_cons_zero, List.set_cons_succ]
            try go_simp
            exact hK.out _ _ _ (by simp only [puts, Act.put, List.setIfInBounds_toArray, List.set_cons_zero, List.set_cons_succ] <;> rfl) ⟨hG, (fun h => f0.out h), (fun h => f1.out h), (fun h => f2.out h), (fun h => f3.out h), (fun h => f4.out h), (fun _ => rfl), (fun h => f6.out h), (fun h => f7.out h), (fun h => f8.out h), (fun h => f9.out h), (fun h => f10.out h), (fun h => f11.out h), (fun h => f12.out h)⟩
           ·intro L vs W hlen hL hD hI K hK
            obtain ⟨x0, x1, x2, x3, x4, x5, x6, x7, x8, x9, x10, x11, x12, rfl⟩ := len13 hlen
            have hG := hI.1
            replace hI := hI.2
            have f0 := hide hI.1
            replace hI := hI.2
            have f1 := hide hI.1
            replace hI := hI.2
            have f2 := hide hI.1
            replace hI := hI.2
            have f3 := hide hI.1
            replace hI := hI.2
            have f4 := hide hI.1
            replace hI := hI.2
            have f5 := hide hI.1
            replace hI := hI.2
            have f6 := hide hI.1
            replace hI := hI.2
            have f7 := hide hI.1
            replace hI := hI.2
            have f8 := hide hI.1
            replace hI := hI.2
            have f9 := hide hI.1
            replace hI := hI.2
            have f10 := hide hI.1
            replace hI := hI.2
            have f11 := hide hI.1
            replace hI := hI.2
            have f12 := hide hI
            clear hI
            have p0 := keep hG p0
            have p1 := keep hG p1
            have p2 := keep hG p2
            have p3 := keep hG p3
            have t0 := keep hG t0
            have t1 := keep hG t1
            have t2 := keep hG t2
            have t3 := keep hG t3
            have ff0 := keep hG ff0
            try simp only [puts, Act.put, List.setIfInBounds_toArray, List.set_cons_zero, List.set_cons_succ]
            try go_simp
            exact hK.out _ _ _ (by simp only [puts, Act.put, List.setIfInBounds_toArray, List.set_cons_zero, List.set_cons_succ] <;> rfl) ⟨hG, (fun h => f0.out h), (fun h => f1.out h), (fun h => f2.out h), (fun h => f3.out h), (fun h => f4.out h), (fun h => f5.out h), (fun _ => rfl), (fun h => f7.out h), (fun h => f8.out h), (fun h => f9.out h), (fun h => f10.out h), (fun h => f11.out h), (fun h => f12.out h)⟩
           ·intro L vs W hlen hL hD hI K hK
            obtain ⟨x0, x1, x2, x3, x4, x5, x6, x7, x8, x9, x10, x11, x12, rfl⟩ := len13 hlen
            have hG := hI.1
            replace hI := hI.2
            have f0 := hide hI.1
            replace hI := hI.2
            have f1 := hide hI.1
            replace hI := hI.2
            have f2 := hide hI.1
            replace hI := hI.2
            have f3 := hide hI.1
            replace hI := hI.2
            have f4 := hide hI.1
            replace hI := hI.2
            have f5 := hide hI.1
            replace hI := hI.2
            have f6 := hide hI.1
            replace hI := hI.2
            have f7 := hide hI.1
            replace hI := hI.2
            have f8 := hide hI.1
            replace hI := hI.2
            have f9 := hide hI.1
            replace hI := hI.2
            have f10 := hide hI.1
            replace hI := hI.2
            have f11 := hide hI.1
            replace hI := hI.2
            have f12 := hide hI
            clear hI
            have p0 := keep hG p0
            have p1 := keep hG p1
            have p2 := keep hG p2
            have p3 := keep hG p3
            have t0 := keep hG t0
            have t1 := keep hG t1
            have t2 := keep hG t2
            have t3 := keep hG t3
            have ff0 := keep hG ff0
            try simp only [puts, Act.put, List.setIfInBounds_toArray, List.set_cons_zero, List.set_cons_succ]
            try go_simp
            exact hK.out _ _ _ (by simp only [puts, Act.put, List.setIfInBounds_toArray, List.set_cons_zero, List.set_cons_succ] <;> rfl) ⟨hG, (fun h => f0.out h), (fun h => f1.out h), (fun h => f2.out h), (fun h => f3.out h), (fun h => f4.out h), (fun h => f5.out h), (fun h => f6.out h), (fun _ => rfl), (fun h => f8.out h), (fun h => f9.out h), (fun h => f10.out h), (fun h => f11.out h), (fun h => f12.out h)⟩
           ·intro L vs W hlen hL hD hI K hK
            obtain ⟨x0, x1, x2, x3, x4, x5, x6, x7, x8, x9, x10, x11, x12, rfl⟩ := len13 hlen
            have hG := hI.1
            replace hI := hI.2
            have f0 := hide hI.1
            replace hI := hI.2
            have f1 := hide hI.1
            replace hI := hI.2
            have f2 := hide hI.1
            replace hI := hI.2
            have f3 := hide hI.1
            replace hI := hI.2
            have f4 := hide hI.1
            replace hI := hI.2
            have f5 := hide hI.1
            replace hI := hI.2
            have f6 := hide hI.1
            replace hI := hI.2
            have f7 := hide hI.1
            replace hI := hI.2
            have f8 := hide hI.1
            replace hI := hI.2
            have f9 := hide hI.1
            replace hI := hI.2
            have f10 := hide hI.1
            replace hI := hI.2
            have f11 := hide hI.1
            replace hI := hI.2
            have f12 := hide hI
            clear hI
            have p0 := keep hG p0
            have p1 := keep hG p1
            have p2 := keep hG p2
            have p3 := keep hG p3
            have t0 := keep hG t0
            have t1 := keep hG t1
            have t2 := keep hG t2
            have t3 := keep hG t3
            have ff0 := keep hG ff0
            obtain rfl := f6.out (hD.on 6 (by kernel_rfl))
            obtain rfl := f7.out (hD.on 7 (by kernel_rfl))
            try simp only [puts, Act.put, List.setIfInBounds_toArray, List.set_cons_zero, List.set_cons_succ]
            try go_simp
            exact hK.out _ _ _ (by simp only [puts, Act.put, List.setIfInBounds_toArray, List.set_cons_zero, List.set_cons_succ] <;> rfl) ⟨hG, (fun h => f0.out h), (fun h => f1.out h), (fun h => f2.out h), (fun h => f3.out h), (fun h => f4.out h), (fun h => f5.out h), (fun h => f6.out h), (fun h => f7.out h), (fun _ => rfl), (fun h => f9.out h), (fun h => f10.out h), (fun h => f11.out h), (fun h => f12.out h)⟩
           ·intro L vs W hlen hL hD hI K hK
            obtain ⟨x0, x1, x2, x3, x4, x5, x6, x7, x8, x9, x10, x11, x12, rfl⟩ := len13 hlen
            have hG := hI.1
            replace hI := hI.2
            have f0 := hide hI.1
            replace hI := hI.2
            have f1 := hide hI.1
            replace hI := hI.2
            have f2 := hide hI.1
            replace hI := hI.2
            have f3 := hide hI.1
            replace hI := hI.2
            have f4 := hide hI.1
            replace hI := hI.2
            have f5 := hide hI.1
            replace hI := hI.2
            have f6 := hide hI.1
            replace hI := hI.2
            have f7 := hide hI.1
            replace hI := hI.2
            have f8 := hide hI.1
            replace hI := hI.2
            have f9 := hide hI.1
            replace hI := hI.2
            have f10 := hide hI.1
            replace hI := hI.2
            have f11 := hide hI.1
            replace hI := hI.2
            have f12 := hide hI
            clear hI
            have p0 := keep hG p0
            have p1 := keep hG p1
            have p2 := keep hG p2
            have p3 := keep hG p3
            have t0 := keep hG t0
            have t1 := keep hG t1
            have t2 := keep hG t2
            have t3 := keep hG t3
            have ff0 := keep hG ff0
            obtain rfl := f8.out (hD.on 8 (by kernel_rfl))
            try simp only [puts, Act.put, List.setIfInBounds_toArray, List.set_cons_zero, List.set_cons_succ]
            try go_simp
            exact hK.out _ _ _ (by simp only [puts, Act.put, List.setIfInBounds_toArray, List.set_cons_zero, List.set_cons_succ] <;> rfl) ⟨hG, (fun h => f0.out h), (fun h => f1.out h), (fun h => f2.out h), (fun h => f3.out h), (fun h => f4.out h), (fun h => f5.out h), (fun h => f6.out h), (fun h => f7.out h), (fun h => f8.out h), (fun _ => rfl), (fun h => f10.out h), (fun h => f11.out h), (fun h => f12.out h)⟩
           ·intro L vs W hlen hL hD hI K hK
            obtain ⟨x0, x1, x2, x3, x4, x5, x6, x7, x8, x9, x10, x11, x12, rfl⟩ := len13 hlen
            have hG := hI.1
            replace hI := hI.2
            have f0 := hide hI.1
            replace hI := hI.2
            have f1 := hide hI.1
            replace hI := hI.2
            have f2 := hide hI.1
            replace hI := hI.2
            have f3 := hide hI.1
            replace hI := hI.2
            have f4 := hide hI.1
            replace hI := hI.2
            have f5 := hide hI.1
            replace hI := hI.2
            have f6 := hide hI.1
            replace hI := hI.2
            have f7 := hide hI.1
            replace hI := hI.2
            have f8 := hide hI.1
            replace hI := hI.2
            have f9 := hide hI.1
            replace hI := hI.2
            have f10 := hide hI.1
            replace hI := hI.2
            have f11 := hide hI.1
            replace hI := hI.2
            have f12 := hide hI
            clear hI
            have p0 := keep hG p0
            have p1 := keep hG p1
            have p2 := keep hG p2
            have p3 := keep hG p3
            have t0 := keep hG t0
            have t1 := keep hG t1
            have t2 := keep hG t2
            have t3 := keep hG t3
            have ff0 := keep hG ff0
            obtain rfl := f1.out (hD.on 1 (by kernel_rfl))
            obtain rfl := f5.out (hD.on 5 (by kernel_rfl))
            obtain rfl := f9.out (hD.on 9 (by kernel_rfl))
            try simp only [puts, Act.put, List.setIfInBounds_toArray, List.set_cons_zero, List.set_cons_succ]
            try go_simp
            refine (HSHg.out _).mono ?_
            rintro e W' ⟨rfl, hb⟩
            try go_simp
            exact hK.out _ _ _ (by simp only [puts, Act.put, List.setIfInBounds_toArray, List.set_cons_zero, List.set_cons_succ] <;> rfl) ⟨below2 hG hb, (fun h => f0.out h), (fun h => f1.out h), (fun h => f2.out h), (fun h => f3.out h), (fun h => f4.out h), (fun h => f5.out h), (fun h => f6.out h), (fun h => f7.out h), (fun h => f8.out h), (fun h => f9.out h), (fun _ => rfl), (fun h => (fun h => fun h3 => let ⟨b0, a1, a2, a3⟩ := h h3; ⟨b0, a1, a2, a3.later hb⟩) (f11.out h)), (fun h => (fun h => ⟨h.1, let ⟨b0, a1, a2, a3⟩ := h.2; ⟨b0, a1, a2, a3.later hb⟩⟩) (f12.out h))⟩
           ·intro L vs W hlen hL hD hI K hK
            obtain ⟨x0, x1, x2, x3, x4, x5, x6, x7, x8, x9, x10, x11, x12, rfl⟩ := len13 hlen
            have hG := hI.1
            replace hI := hI.2
            have f0 := hide hI.1
            replace hI := hI.2
            have f1 := hide hI.1
            replace hI := hI.2
            have f2 := hide hI.1
            replace hI := hI.2
            have f3 := hide hI.1
            replace hI := hI.2
            have f4 := hide hI.1
            replace hI := hI.2
            have f5 := hide hI.1
            replace hI := hI.2
            have f6 := hide hI.1
            replace hI := hI.2
            have f7 := hide hI.1
            replace hI := hI.2
            have f8 := hide hI.1
            replace hI := hI.2
            have f9 := hide hI.1
            replace hI := hI.2
            have f10 := hide hI.1
            replace hI := hI.2
            have f11 := hide hI.1
            replace hI := hI.2
            have f12 := hide hI
            clear hI
            have p0 := keep hG p0
            have p1 := keep hG p1
            have p2 := keep hG p2
            have p3 := keep hG p3
            have t0 := keep hG t0
            have t1 := keep hG t1
            have t2 := keep hG t2
            have t3 := keep hG t3
            have ff0 := keep hG ff0
            try simp only [puts, Act.put, List.setIfInBounds_toArray, List.set_cons_zero, List.set_cons_succ]
            try go_simp
            generalize hW' : World.alloc W _ = W'
            have hb : Below W.heap.size W W' := by rw [← hW']; exact bal W _
            exact hK.out _ _ _ (by simp only [puts, Act.put, List.setIfInBounds_toArray, List.set_cons_zero, List.set_cons_succ] <;> rfl) ⟨below2 hG hb, (fun h => f0.out h), (fun h => f1.out h), (fun h => f2.out h), (fun h => f3.out h), (fun h => f4.out h), (fun h => f5.out h), (fun h => f6.out h), (fun h => f7.out h), (fun h => f8.out h), (fun h => f9.out h), (fun h => f10.out h), (fun _ => fun _ => ⟨W.heap.size, hG.size, rfl, by rw [← hW']; exact Blk.newA W _ rfl⟩), (fun h => (fun h => absurd (h.1.symm.trans hL) (by decide)) (f12.out h))⟩
           ·intro L vs W hlen hL hD hI K hK
            obtain ⟨x0, x1, x2, x3, x4, x5, x6, x7, x8, x9, x10, x11, x12, rfl⟩ := len13 hlen
            have hG := hI.1
            replace hI := hI.2
            have f0 := hide hI.1
            replace hI := hI.2
            have f1 := hide hI.1
            replace hI := hI.2
            have f2 := hide hI.1
            replace hI := hI.2
            have f3 := hide hI.1
            replace hI := hI.2
            have f4 := hide hI.1
            replace hI := hI.2
            have f5 := hide hI.1
            replace hI := hI.2
            have f6 := hide hI.1
            replace hI := hI.2
            have f7 := hide hI.1
            replace hI := hI.2
            have f8 := hide hI.1
            replace hI := hI.2
            have f9 := hide hI.1
            replace hI := hI.2
            have f10 := hide hI.1
            replace hI := hI.2
            have f11 := hide hI.1
            replace hI := hI.2
            have f12 := hide hI
            clear hI
            have p0 := keep hG p0
            have p1 := keep hG p1
            have p2 := keep hG p2
            have p3 := keep hG p3
            have t0 := keep hG t0
            have t1 := keep hG t1
            have t2 := keep hG t2
            have t3 := keep hG t3
            have ff0 := keep hG ff0
            obtain rfl := f10.out (hD.on 10 (by kernel_rfl))
            have g11 := f11.out (hD.on 11 (by kernel_rfl))
            try simp only [puts, Act.put, List.setIfInBounds_toArray, List.set_cons_zero, List.set_cons_succ]
            obtain ⟨b0, hb0, rfl, hB0⟩ := g11 hL
            have z0 := hB0.frozen 0
            have z1 := hB0.frozen 1
            have z2 := hB0.frozen 2
            have z3 := hB0.frozen 3
            have z4 := hB0.frozen 4
            have y0 := hB0.cell 0 rfl
            have y1 := hB0.cell 1 rfl
            have y2 := hB0.cell 2 rfl
            have y3 := hB0.cell 3 rfl
            have y4 := hB0.cell 4 rfl
            go_simp
            have hS := set5 hB0 (iV k) (iV sl) (iV sh) (iV tl) (iV th)
            have hb := Below.refl W.heap.size W
            exact hK.out _ undef _ (by simp only [puts, Act.put, List.setIfInBounds_toArray, List.set_cons_zero, List.set_cons_succ] <;> rfl) ⟨hS.2 _ _ hG hb0, (fun h => f0.out h), (fun h => f1.out h), (fun h => f2.out h), (fun h => f3.out h), (fun h => f4.out h), (fun h => f5.out h), (fun h => f6.out h), (fun h => f7.out h), (fun h => f8.out h), (fun h => f9.out h), (fun h => f10.out h), (fun h => (fun _ h => absurd h (by simp)) (f11.out h)), (fun _ => ⟨hD.on 11 (by kernel_rfl), b0, hb0, rfl, hS.1⟩)⟩
          intro L vs W hlen hall hI
          obtain ⟨x0, x1, x2, x3, x4, x5, x6, x7, x8, x9, x10, x11, x12, rfl⟩ := len13 hlen
          have hG := hI.1
          replace hI := hI.2
          have f0 := hide hI.1
          replace hI := hI.2
          have f1 := hide hI.1
          replace hI := hI.2
          have f2 := hide hI.1
          replace hI := hI.2
          have f3 := hide hI.1
          replace hI := hI.2
          have f4 := hide hI.1
          replace hI := hI.2
          have f5 := hide hI.1
          replace hI := hI.2
          have f6 := hide hI.1
          replace hI := hI.2
          have f7 := hide hI.1
          replace hI := hI.2
          have f8 := hide hI.1
          replace hI := hI.2
          have f9 := hide hI.1
          replace hI := hI.2
          have f10 := hide hI.1
          replace hI := hI.2
          have f11 := hide hI.1
          replace hI := hI.2
          have f12 := hide hI
          clear hI
          obtain rfl := f0.out (hall 0 (by decide))
          obtain rfl := f1.out (hall 1 (by decide))
          obtain rfl := f2.out (hall 2 (by decide))
          obtain rfl := f3.out (hall 3 (by decide))
          obtain rfl := f4.out (hall 4 (by decide))
          obtain rfl := f5.out (hall 5 (by decide))
          obtain rfl := f6.out (hall 6 (by decide))
          obtain rfl := f7.out (hall 7 (by decide))
          obtain rfl := f8.out (hall 8 (by decide))
          obtain rfl := f9.out (hall 9 (by decide))
          obtain rfl := f10.out (hall 10 (by decide))
          have g11 := f11.out (hall 11 (by decide))
          have g12 := f12.out (hall 12 (by decide))
          have hal := hide hall
          clear hall f0 f1 f2 f3 f4 f5 f6 f7 f8 f9 f10 f11 f12
          try simp only [puts, Act.put, List.setIfInBounds_toArray, List.set_cons_zero, List.set_cons_succ]
          obtain ⟨-, b0, hb0, rfl, hB0⟩ := g12
          obtain ⟨WZ, hWZ⟩ : ∃ Z, Z = W := ⟨_, rfl⟩
          subst hWZ
          have hTz := hTr.later hG
          clear hal hG hTr p0 p1 p2 p3 t0 t1 t2 t3 ff0
          have y1 := hB0.cell 1 rfl
          have y2 := hB0.cell 2 rfl
          go_wp2_with (at_builtin; first | (refine app_recE infoIds rfl (by decide) Tryd.underlying22 rfl _ _ rfl W6.heap.size _ _ rfl hT7.b (idsC (tl, th)) rfl (kindIds.one (tl, th)) _ rfl rfl (by rw [List.length_map]; have := HLX.out; omega) (by rw [List.length_map]; have := HLX.out; omega) hT7.hb.size ?_; intro v8 w8 ho8 hE8 hob8; have hT8 := hT7.appB ho8 hE8 hob8) | (refine app_recE infoIds rfl (by decide) Tryd.underlying22 rfl _ _ rfl W6.heap.size _ _ rfl hTz.a (idsC (sl, sh)) rfl (kindIds.one (sl, sh)) _ rfl rfl (by rw [List.length_map]; have := HLX.out; omega) (by rw [List.length_map]; have := HLX.out; omega) hTz.hb.size ?_; intro v7 w7 ho7 hE7 hob7; have hB7 := hB0.eff hE7 (fun e => hTz.a.neT hB0 (by decide) e.symm); have hT7 := hTz.appA ho7 hE7 hob7; have y3 := hB7.cell 3 rfl; have y4 := hB7.cell 4 rfl))
          go_roundw
          case rel => exact ⟨g + 1, by omega, by go_num, by rw [HXT.out, HYT.out]; exact hT8⟩
          case measure => simp [intOf]; omega
         ·obtain rfl : g = a.length := by omega
          rw [List.take_length] at hT
          have hgd : decide (a.length < a.length) = false := by simp
          have hFW : FB < W6.heap.size := bF.lt
          have hGw := hG6.later hT.hb
          have hXb : Hid (∀ p ∈ xsR a ⟨qi, qx, qy, qt⟩ k, i64N p.1 ∧ i64N p.2) := hide (by
           intro p hp
           obtain ⟨d, hd, rfl⟩ := List.mem_map.1 hp
           exact (HXSk.out d hd).1)
          have hYb : Hid (∀ p ∈ ysR a ⟨qi, qx, qy, qt⟩ k, i64N p.1 ∧ i64N p.2) := hide (by
           intro p hp
           obtain ⟨d, hd, rfl⟩ := List.mem_map.1 hp
           exact (HXSk.out d hd).2)
          have hXl : (xsR a ⟨qi, qx, qy, qt⟩ k).length ≤ 100 := by unfold xsR; rw [List.length_map]; omega
          have hYl : (ysR a ⟨qi, qx, qy, qt⟩ k).length ≤ 100 := by unfold ysR; rw [List.length_map]; omega
          have hX12 : (xsR a ⟨qi, qx, qy, qt⟩ k).length ≤ 12 := by unfold xsR; rw [List.length_map]; exact hla
          have hY12 : (ysR a ⟨qi, qx, qy, qt⟩ k).length ≤ 12 := by unfold ysR; rw [List.length_map]; exact hla
          have hel1 := edg_len xl xh (xsR a ⟨qi, qx, qy, qt⟩ k)
          have hel2 := edg_len yl yh (ysR a ⟨qi, qx, qy, qt⟩ k)
          have DX := (RecIn.of_own (d := ((0, 0) : Int × Int)) (B' := W6.heap.size) hT.a (fun _ => rfl) (Nat.le_refl _))
          have DY := (RecIn.of_own (d := ((0, 0) : Int × Int)) (B' := W6.heap.size) hT.b (fun _ => rfl) (Nat.le_refl _))
          have hED1 := hide (fun (v : Value) (W : World) (h : IdsIn W.cell? v (xsR a ⟨qi, qx, qy, qt⟩ k)) => edges_any xl xh _ v W h hXl hXb.out)
          have hED2 := hide (fun (v : Value) (W : World) (h : IdsIn W.cell? v (ysR a ⟨qi, qx, qy, qt⟩ k)) => edges_any yl yh _ v W h hYl hYb.out)
          have DXa := DX.at
          have DYN : IdsIn (rdN OUT wr) _ (ysR a ⟨qi, qx, qy, qt⟩ k) := RecIn.keeps (keeps_frm_rdN (by omega)) DY
          obtain ⟨xa, xc, rfl, -, -, -⟩ := id DXa
          obtain ⟨ya, yc, rfl, -, -, -⟩ := id DYN
          generalize hE1 : edgR xl xh (xsR a ⟨qi, qx, qy, qt⟩ k) = E1 at *
          generalize hE2 : edgR yl yh (ysR a ⟨qi, qx, qy, qt⟩ k) = E2 at *
          generalize (xsR a ⟨qi, qx, qy, qt⟩ k).length = nx at *
          have bFw := bF.later hT.hb
          have ff1 := bFw.cell 1 rfl
          have ff2 := bFw.cell 2 rfl
          have hWr : W6.heap.size ≤ wr.heap.size := hT.hb.size
          clear hE1 hE2 DX DY HXSk HSHk HA6
          go_wp2_with fail
          refine (hED1.out _ _ DXa).mono ?_
          rintro e w8 ⟨v8, rfl, hv8, hb8⟩
          have hB8 := hGw.later hb8
          have bF8 := bFw.later hb8
          obtain ⟨ea, ec, rfl, hec1, hec2, hE1c⟩ := hv8
          have HE1 : Hid (∀ i, i < E1.length → ∃ b' o', ea = some ⟨b', o', none⟩ ∧ rdN OUT w8 ⟨b', o' + i, none⟩ = some (.int .i64 (E1.getD i 0))) := hide (fun i hi => by
           obtain ⟨b', o', e, hc⟩ := hE1c i hi
           exact ⟨b', o', e, keeps_frm_rdN (by omega) _ _ hc⟩)
          have hKA : Keeps w4.cell? (rdN OUT w8) := fun a v h => rdN_of (HKP.out hB8 a v h) (HNO4.out a v h)
          have DA8 := DAr.keeps hKA
          have s0 := hKA _ _ q0
          have s1 := hKA _ _ q1
          have s2 := hKA _ _ q2
          have s3 := hKA _ _ q3
          have DY8 : IdsIn (rdN OUT w8) _ (ysR a ⟨qi, qx, qy, qt⟩ k) := RecIn.keeps (fun a v e => by
           unfold rdN at e ⊢
           split at e
           ·cases e
           ·rename_i hne
            rw [if_neg hne]; exact keep hb8 e) DYN
          have F0 : rdN OUT w8 ⟨FB, 0, none⟩ = some (iV k) := rdN_of (bF8.cell 0 rfl) (by show FB ≠ OUT; omega)
          have F3 : rdN OUT w8 ⟨FB, 3, none⟩ = some (iV yl) := rdN_of (bF8.cell 3 rfl) (by show FB ≠ OUT; omega)
          have F4 : rdN OUT w8 ⟨FB, 4, none⟩ = some (iV yh) := rdN_of (bF8.cell 4 rfl) (by show FB ≠ OUT; omega)
          have hO8 : OUT < w8.heap.size := hB8.box.lt
          have hel1' : E1.length ≤ 25 := by omega
          have hel2' : E2.length ≤ 25 := by omega
          clear hX12 hY12 hel1 hel2 hKA hE1c hec1 hec2 DYN ff1 ff2 bF8 bFw hED1 DXa hT
          go_wp2_with fail
          go_loopw [12, 13, 114] (fun wv nv i wb => ∃ l : Nat, l ≤ E1.length ∧ i = .int .i64 l ∧ ∃ s', Hid (s' = ((E1.take l).flatMap fun x => E2.map fun y => (⟨k, x, y⟩ : MotD)).foldl (stepJ a ⟨qi, qx, qy, qt⟩) s) ∧ wv = .bool s'.w ∧ nv = .bool s'.n ∧ BoxG w w8 OUT 55 (outC s') [] false wb) (fun _ _ i _ => E1.length - (intOf i).toNat)
          case atStart => exact ⟨0, by omega, rfl, s, hide rfl, rfl, rfl, hB8.rebase⟩
          case round =>
           obtain ⟨l, hl, rfl, s', HS', rfl, rfl, hGb⟩ := hrel
           by_cases hltl : l < E1.length
           ·obtain ⟨eb, eo, heqe, hce⟩ := HE1.out l hltl
            subst heqe
            have hld : decide (l < E1.length) = true := by simpa using hltl
            have x0 : wr.cell? ⟨eb, eo + l, none⟩ = some (.int .i64 (E1.getD l 0)) := hGb.keepN _ _ hce
            have HT1 := hide (show ((E1.take (l + 1)).flatMap fun x => E2.map fun y => (⟨k, x, y⟩ : MotD)).foldl (stepJ a ⟨qi, qx, qy, qt⟩) s = (E2.map fun y => (⟨k, E1.getD l 0, y⟩ : MotD)).foldl (stepJ a ⟨qi, qx, qy, qt⟩) s' by rw [take_succ' E1 l 0 hltl, List.flatMap_append, List.foldl_append, ← HS'.out]; simp [-List.getD_eq_getElem?_getD])
            generalize E1.getD l 0 = x at *
            have ff3 := hGb.keepN _ _ F3
            have ff4 := hGb.keepN _ _ F4
            have DYb := RecIn.keeps hGb.keepN DY8
            clear hce HS'
            go_wp2_with fail
            refine (hED2.out _ _ DYb).mono ?_
            rintro e w9 ⟨v9, rfl, hv9, hb9⟩
            have hB9 := hGb.later hb9
            obtain ⟨e2a, e2c, rfl, -, -, hE2c⟩ := hv9
            have hO9 : OUT < w9.heap.size := hB9.box.lt
            have hwr8 : OUT < wr.heap.size := hGb.box.lt
            have HE2 : Hid (∀ i, i < E2.length → ∃ b' o', e2a = some ⟨b', o', none⟩ ∧ rdN OUT w9 ⟨b', o' + i, none⟩ = some (.int .i64 (E2.getD i 0))) := hide (fun i hi => by
             obtain ⟨b', o', e, hc⟩ := hE2c i hi
             exact ⟨b', o', e, keeps_frm_rdN (by omega) _ _ hc⟩)
            have DA9 := RecIn.keeps hB9.keepNN DA8
            have G0 := hB9.keepNN _ _ F0
            have T0 := hB9.keepNN _ _ s0
            have T1 := hB9.keepNN _ _ s1
            have T2 := hB9.keepNN _ _ s2
            have T3 := hB9.keepNN _ _ s3
            clear hE2c ff3 ff4 DYb x0 hwr8
            go_wp2_with fail
            go_loopw [12, 13, 125] (fun wv nv i wc => ∃ m : Nat, m ≤ E2.length ∧ i = .int .i64 m ∧ ∃ s'', Hid (s'' = ((E2.take m).map fun y => (⟨k, x, y⟩ : MotD)).foldl (stepJ a ⟨qi, qx, qy, qt⟩) s') ∧ wv = .bool s''.w ∧ nv = .bool s''.n ∧ BoxG w w9 OUT 55 (outC s'') [] false wc) (fun _ _ i _ => E2.length - (intOf i).toNat)
            case atStart => exact ⟨0, by omega, rfl, s', hide rfl, rfl, rfl, hB9.rebase⟩
            case round =>
             obtain ⟨m, hm, rfl, s'', HS2, rfl, rfl, hGc⟩ := hrel
             by_cases hltm : m < E2.length
             ·obtain ⟨fb', fo', heqe2, hce2⟩ := HE2.out m hltm
              subst heqe2
              have hmd : decide (m < E2.length) = true := by simpa using hltm
              have y0 : wr.cell? ⟨fb', fo' + m, none⟩ = some (.int .i64 (E2.getD m 0)) := hGc.keepN _ _ hce2
              have HT2 := hide (show ((E2.take (m + 1)).map fun y => (⟨k, x, y⟩ : MotD)).foldl (stepJ a ⟨qi, qx, qy, qt⟩) s' = stepJ a ⟨qi, qx, qy, qt⟩ s'' ⟨k, x, E2.getD m 0⟩ by rw [take_succ' E2 m 0 hltm, List.map_append, List.foldl_append, ← HS2.out]; rfl)
              generalize E2.getD m 0 = y at *
              have HPm := hide (fun W h => HPA.out ⟨k, x, y⟩ ⟨by dsimp only; omega, by dsimp only; omega⟩ W h)
              have HSTJ : Hid (stepJ a ⟨qi, qx, qy, qt⟩ s'' ⟨k, x, y⟩ = stepN (parD a ⟨qi, qx, qy, qt⟩ ⟨k, x, y⟩) ⟨k, x, y⟩ (stepW (parD a ⟨qi, qx, qy, qt⟩ ⟨k, x, y⟩) ⟨k, x, y⟩ s'')) := hide rfl
              generalize parD a ⟨qi, qx, qy, qt⟩ ⟨k, x, y⟩ = P at *
              have g0 := hGc.keepN _ _ G0
              clear hce2 HS2
              go_wp2_with fail
              generalize hXX : World.alloc wr _ = W10
              have hb10 : Below wr.heap.size wr W10 := by rw [← hXX]; exact bal wr _
              have bM : Blk W10 wr.heap.size [iV k, iV x, iV y] 32 := by rw [← hXX]; exact Blk.newA wr _ rfl
              have hG10 := hGc.later hb10
              have t0 : W10.cell? ⟨bq, oq + n * 4, none⟩ = some (iV qi) := hG10.keepN _ _ T0
              have t1 : W10.cell? ⟨bq, oq + n * 4 + 1, none⟩ = some (iV qx) := hG10.keepN _ _ T1
              have t2 : W10.cell? ⟨bq, oq + n * 4 + 2, none⟩ = some (iV qy) := hG10.keepN _ _ T2
              have t3 : W10.cell? ⟨bq, oq + n * 4 + 3, none⟩ = some (iV qt) := hG10.keepN _ _ T3
              have m0 := bM.cell 0 rfl
              have m1 := bM.cell 1 rfl
              have m2 := bM.cell 2 rfl
              have hOM : OUT < wr.heap.size := hGc.box.lt
              generalize wr.heap.size = MB at *
              clear hXX y0 g0
              go_still_tail 6, (by kernel_rfl)
              change wpList _ _ _ _ _ W10.drew
              have hbd := (Below.refl W10.heap.size W10).drew
              have bMd := bM.later hbd
              have hGd := hG10.later hbd
              have DAd := RecIn.keeps hGd.keepN DA9
              generalize W10.drew = WD at *
              clear t0 t1 t2 t3 m0 m1 m2
              go_wp2_with fail
              refine (HPm.out _ DAd).mono ?_
              rintro e w11 ⟨vp, rfl, hvp, hb11⟩
              have hG11 := hGd.later hb11
              have bM11 := bMd.later hb11
              have hOW : OUT < WD.heap.size := hGd.box.lt
              have hMO : MB ≠ OUT := by omega
              have hOMn : OUT ≠ MB := by omega
              obtain ⟨pa, pc, rfl, hpc1, hpc2, hpcc⟩ := hvp
              obtain ⟨sw, ⟨wt, wx, wy⟩, sp, sn, ⟨nt, nx', ny⟩⟩ := s''
              have HBW := hide (fun (W : World) => before_any ⟨k, x, y⟩ ⟨wt, wx, wy⟩ W)
              have HBN := hide (fun (W : World) => before_any ⟨k, x, y⟩ ⟨nt, nx', ny⟩ W)
              clear hGd bMd DAd HPm hG10 bM hbd hb10 hb11
              cases hPe : P.isEmpty
              ·have hPl : 0 < P.length := by cases P with | nil => cases hPe | cons => simp
               obtain ⟨pb, po, heqp, hcp⟩ := hpcc 0 hPl
               subst heqp
               have hpB : pb ≠ OUT := by
                unfold frm at hcp
                split at hcp
                ·rename_i hh
                 have hh' : WD.heap.size ≤ pb := hh
                 omega
                ·cases hcp
               have hpB2 : OUT ≠ pb := hpB.symm
               have hp0 : w11.cell? ⟨pb, po, none⟩ = some (.int .i64 (P.getD 0 0)) := keeps_frm _ _ _ _ hcp
               have HPE := hide hPe
               generalize hp0e : P.getD 0 0 = p0 at *
               have HP0 := hide hp0e
               have hl1 : decide (0 < P.length) = true := by simpa using hPl
               have hl2 : ((P.length : Int) == 0) = false := beq_eq_false_iff_ne.2 (by omega)
               generalize hnp' : P.length = np at *
               clear hpcc hcp hPe hnp' hpc1 hpc2 hp0e
               cases sw
               ·have HSN := hide (show stepJ a ⟨qi, qx, qy, qt⟩ ⟨false, ⟨wt, wx, wy⟩, sp, sn, ⟨nt, nx', ny⟩⟩ ⟨k, x, y⟩ = ⟨true, ⟨k, x, y⟩, p0, sn, ⟨nt, nx', ny⟩⟩ by rw [HSTJ.out]; unfold stepN stepW; rw [HPE.out, HP0.out]; rfl)
                have f0 := (hG11.box).frozen 0
                have f1 := (hG11.box).frozen 1
                have f2 := (hG11.box).frozen 2
                have f3 := (hG11.box).frozen 3
                have f4 := (hG11.box).frozen 4
                have f5 := (hG11.box).frozen 5
                have f6 := (hG11.box).frozen 6
                have f7 := (hG11.box).frozen 7
                have o0 := (hG11.box).cell 0 rfl
                have o1 := (hG11.box).cell 1 rfl
                have o2 := (hG11.box).cell 2 rfl
                have o3 := (hG11.box).cell 3 rfl
                have o4 := (hG11.box).cell 4 rfl
                have o5 := (hG11.box).cell 5 rfl
                have o6 := (hG11.box).cell 6 rfl
                have o7 := (hG11.box).cell 7 rfl
                have m0 := (bM11).cell 0 rfl
                have m1 := (bM11).cell 1 rfl
                have m2 := (bM11).cell 2 rfl
                go_wp2_with fail
                go_roundw
                case rel => exact ⟨m + 1, by omega, by go_num, ⟨true, ⟨k, x, y⟩, p0, sn, ⟨nt, nx', ny⟩⟩, hide (by rw [HT2.out, HSN.out]), rfl, rfl, (((hG11.setJ hwO 1 (iV k)).setJ hwO 2 (iV x)).setJ hwO 3 (iV y)).setJ hwO 4 (iV p0)⟩
                case measure => simp [intOf]; omega
               ·cases hbn : befD ⟨k, x, y⟩ ⟨wt, wx, wy⟩
                ·rw [hbn] at HBW
                 have HSN := hide (show stepJ a ⟨qi, qx, qy, qt⟩ ⟨true, ⟨wt, wx, wy⟩, sp, sn, ⟨nt, nx', ny⟩⟩ ⟨k, x, y⟩ = ⟨true, ⟨wt, wx, wy⟩, sp, sn, ⟨nt, nx', ny⟩⟩ by rw [HSTJ.out]; unfold stepN stepW; rw [HPE.out, hbn]; rfl)
                 clear hbn
                 have f0 := (hG11.box).frozen 0
                 have f1 := (hG11.box).frozen 1
                 have f2 := (hG11.box).frozen 2
                 have f3 := (hG11.box).frozen 3
                 have f4 := (hG11.box).frozen 4
                 have f5 := (hG11.box).frozen 5
                 have f6 := (hG11.box).frozen 6
                 have f7 := (hG11.box).frozen 7
                 have o0 := (hG11.box).cell 0 rfl
                 have o1 := (hG11.box).cell 1 rfl
                 have o2 := (hG11.box).cell 2 rfl
                 have o3 := (hG11.box).cell 3 rfl
                 have o4 := (hG11.box).cell 4 rfl
                 have o5 := (hG11.box).cell 5 rfl
                 have o6 := (hG11.box).cell 6 rfl
                 have o7 := (hG11.box).cell 7 rfl
                 have m0 := (bM11).cell 0 rfl
                 have m1 := (bM11).cell 1 rfl
                 have m2 := (bM11).cell 2 rfl
                 go_wp2_with fail
                 refine (HBW.out _).mono ?_
                 rintro e w12 ⟨rfl, hb12⟩
                 have hG12 := hG11.later hb12
                 go_wp2_with fail
                 go_roundw
                 case rel => exact ⟨m + 1, by omega, by go_num, ⟨true, ⟨wt, wx, wy⟩, sp, sn, ⟨nt, nx', ny⟩⟩, hide (by rw [HT2.out, HSN.out]), rfl, rfl, hG12⟩
                 case measure => simp [intOf]; omega
                ·rw [hbn] at HBW
                 have HSN := hide (show stepJ a ⟨qi, qx, qy, qt⟩ ⟨true, ⟨wt, wx, wy⟩, sp, sn, ⟨nt, nx', ny⟩⟩ ⟨k, x, y⟩ = ⟨true, ⟨k, x, y⟩, p0, sn, ⟨nt, nx', ny⟩⟩ by rw [HSTJ.out]; unfold stepN stepW; rw [HPE.out, HP0.out, hbn]; rfl)
                 clear hbn
                 have f0 := (hG11.box).frozen 0
                 have f1 := (hG11.box).frozen 1
                 have f2 := (hG11.box).frozen 2
                 have f3 := (hG11.box).frozen 3
                 have f4 := (hG11.box).frozen 4
                 have f5 := (hG11.box).frozen 5
                 have f6 := (hG11.box).frozen 6
                 have f7 := (hG11.box).frozen 7
                 have o0 := (hG11.box).cell 0 rfl
                 have o1 := (hG11.box).cell 1 rfl
                 have o2 := (hG11.box).cell 2 rfl
                 have o3 := (hG11.box).cell 3 rfl
                 have o4 := (hG11.box).cell 4 rfl
                 have o5 := (hG11.box).cell 5 rfl
                 have o6 := (hG11.box).cell 6 rfl
                 have o7 := (hG11.box).cell 7 rfl
                 have m0 := (bM11).cell 0 rfl
                 have m1 := (bM11).cell 1 rfl
                 have m2 := (bM11).cell 2 rfl
                 go_wp2_with fail
                 refine (HBW.out _).mono ?_
                 rintro e w12 ⟨rfl, hb12⟩
                 have hG12 := hG11.later hb12
                 have bM12 := bM11.later hb12
                 replace hp0 := keep hb12 hp0
                 clear o0 o1 o2 o3 o4 o5 o6 o7 f0 f1 f2 f3 f4 f5 f6 f7 m0 m1 m2
                 have f0 := (hG12.box).frozen 0
                 have f1 := (hG12.box).frozen 1
                 have f2 := (hG12.box).frozen 2
                 have f3 := (hG12.box).frozen 3
                 have f4 := (hG12.box).frozen 4
                 have f5 := (hG12.box).frozen 5
                 have f6 := (hG12.box).frozen 6
                 have f7 := (hG12.box).frozen 7
                 have o0 := (hG12.box).cell 0 rfl
                 have o1 := (hG12.box).cell 1 rfl
                 have o2 := (hG12.box).cell 2 rfl
                 have o3 := (hG12.box).cell 3 rfl
                 have o4 := (hG12.box).cell 4 rfl
                 have o5 := (hG12.box).cell 5 rfl
                 have o6 := (hG12.box).cell 6 rfl
                 have o7 := (hG12.box).cell 7 rfl
                 have m0 := (bM12).cell 0 rfl
                 have m1 := (bM12).cell 1 rfl
                 have m2 := (bM12).cell 2 rfl
                 go_wp2_with fail
                 go_roundw
                 case rel => exact ⟨m + 1, by omega, by go_num, ⟨true, ⟨k, x, y⟩, p0, sn, ⟨nt, nx', ny⟩⟩, hide (by rw [HT2.out, HSN.out]), rfl, rfl, (((hG12.setJ hwO 1 (iV k)).setJ hwO 2 (iV x)).setJ hwO 3 (iV y)).setJ hwO 4 (iV p0)⟩
                 case measure => simp [intOf]; omega
              ·have hP0 : P = [] := List.isEmpty_iff.1 hPe
               subst hP0
               clear hpcc hPe hpc1 hpc2
               cases sn
               ·have HSN := hide (show stepJ a ⟨qi, qx, qy, qt⟩ ⟨sw, ⟨wt, wx, wy⟩, sp, false, ⟨nt, nx', ny⟩⟩ ⟨k, x, y⟩ = ⟨sw, ⟨wt, wx, wy⟩, sp, true, ⟨k, x, y⟩⟩ by rw [HSTJ.out]; rfl)
                have f0 := (hG11.box).frozen 0
                have f1 := (hG11.box).frozen 1
                have f2 := (hG11.box).frozen 2
                have f3 := (hG11.box).frozen 3
                have f4 := (hG11.box).frozen 4
                have f5 := (hG11.box).frozen 5
                have f6 := (hG11.box).frozen 6
                have f7 := (hG11.box).frozen 7
                have o0 := (hG11.box).cell 0 rfl
                have o1 := (hG11.box).cell 1 rfl
                have o2 := (hG11.box).cell 2 rfl
                have o3 := (hG11.box).cell 3 rfl
                have o4 := (hG11.box).cell 4 rfl
                have o5 := (hG11.box).cell 5 rfl
                have o6 := (hG11.box).cell 6 rfl
                have o7 := (hG11.box).cell 7 rfl
                have m0 := (bM11).cell 0 rfl
                have m1 := (bM11).cell 1 rfl
                have m2 := (bM11).cell 2 rfl
                go_wp2_with fail
                go_roundw
                case rel => exact ⟨m + 1, by omega, by go_num, ⟨sw, ⟨wt, wx, wy⟩, sp, true, ⟨k, x, y⟩⟩, hide (by rw [HT2.out, HSN.out]), rfl, rfl, ((hG11.setJ hwO 5 (iV k)).setJ hwO 6 (iV x)).setJ hwO 7 (iV y)⟩
                case measure => simp [intOf]; omega
               ·cases hbn : befD ⟨k, x, y⟩ ⟨nt, nx', ny⟩
                ·rw [hbn] at HBN
                 have HSN := hide (show stepJ a ⟨qi, qx, qy, qt⟩ ⟨sw, ⟨wt, wx, wy⟩, sp, true, ⟨nt, nx', ny⟩⟩ ⟨k, x, y⟩ = ⟨sw, ⟨wt, wx, wy⟩, sp, true, ⟨nt, nx', ny⟩⟩ by rw [HSTJ.out]; unfold stepN stepW; simp [hbn])
                 clear hbn
                 have f0 := (hG11.box).frozen 0
                 have f1 := (hG11.box).frozen 1
                 have f2 := (hG11.box).frozen 2
                 have f3 := (hG11.box).frozen 3
                 have f4 := (hG11.box).frozen 4
                 have f5 := (hG11.box).frozen 5
                 have f6 := (hG11.box).frozen 6
                 have f7 := (hG11.box).frozen 7
                 have o0 := (hG11.box).cell 0 rfl
                 have o1 := (hG11.box).cell 1 rfl
                 have o2 := (hG11.box).cell 2 rfl
                 have o3 := (hG11.box).cell 3 rfl
                 have o4 := (hG11.box).cell 4 rfl
                 have o5 := (hG11.box).cell 5 rfl
                 have o6 := (hG11.box).cell 6 rfl
                 have o7 := (hG11.box).cell 7 rfl
                 have m0 := (bM11).cell 0 rfl
                 have m1 := (bM11).cell 1 rfl
                 have m2 := (bM11).cell 2 rfl
                 go_wp2_with fail
                 refine (HBN.out _).mono ?_
                 rintro e w12 ⟨rfl, hb12⟩
                 have hG12 := hG11.later hb12
                 go_wp2_with fail
                 go_roundw
                 case rel => exact ⟨m + 1, by omega, by go_num, ⟨sw, ⟨wt, wx, wy⟩, sp, true, ⟨nt, nx', ny⟩⟩, hide (by rw [HT2.out, HSN.out]), rfl, rfl, hG12⟩
                 case measure => simp [intOf]; omega
                ·rw [hbn] at HBN
                 have HSN := hide (show stepJ a ⟨qi, qx, qy, qt⟩ ⟨sw, ⟨wt, wx, wy⟩, sp, true, ⟨nt, nx', ny⟩⟩ ⟨k, x, y⟩ = ⟨sw, ⟨wt, wx, wy⟩, sp, true, ⟨k, x, y⟩⟩ by rw [HSTJ.out]; unfold stepN stepW; simp [hbn])
                 clear hbn
                 have f0 := (hG11.box).frozen 0
                 have f1 := (hG11.box).frozen 1
                 have f2 := (hG11.box).frozen 2
                 have f3 := (hG11.box).frozen 3
                 have f4 := (hG11.box).frozen 4
                 have f5 := (hG11.box).frozen 5
                 have f6 := (hG11.box).frozen 6
                 have f7 := (hG11.box).frozen 7
                 have o0 := (hG11.box).cell 0 rfl
                 have o1 := (hG11.box).cell 1 rfl
                 have o2 := (hG11.box).cell 2 rfl
                 have o3 := (hG11.box).cell 3 rfl
                 have o4 := (hG11.box).cell 4 rfl
                 have o5 := (hG11.box).cell 5 rfl
                 have o6 := (hG11.box).cell 6 rfl
                 have o7 := (hG11.box).cell 7 rfl
                 have m0 := (bM11).cell 0 rfl
                 have m1 := (bM11).cell 1 rfl
                 have m2 := (bM11).cell 2 rfl
                 go_wp2_with fail
                 refine (HBN.out _).mono ?_
                 rintro e w12 ⟨rfl, hb12⟩
                 have hG12 := hG11.later hb12
                 have bM12 := bM11.later hb12
                 clear o0 o1 o2 o3 o4 o5 o6 o7 f0 f1 f2 f3 f4 f5 f6 f7 m0 m1 m2
                 have f0 := (hG12.box).frozen 0
                 have f1 := (hG12.box).frozen 1
                 have f2 := (hG12.box).frozen 2
                 have f3 := (hG12.box).frozen 3
                 have f4 := (hG12.box).frozen 4
                 have f5 := (hG12.box).frozen 5
                 have f6 := (hG12.box).frozen 6
                 have f7 := (hG12.box).frozen 7
                 have o0 := (hG12.box).cell 0 rfl
                 have o1 := (hG12.box).cell 1 rfl
                 have o2 := (hG12.box).cell 2 rfl
                 have o3 := (hG12.box).cell 3 rfl
                 have o4 := (hG12.box).cell 4 rfl
                 have o5 := (hG12.box).cell 5 rfl
                 have o6 := (hG12.box).cell 6 rfl
                 have o7 := (hG12.box).cell 7 rfl
                 have m0 := (bM12).cell 0 rfl
                 have m1 := (bM12).cell 1 rfl
                 have m2 := (bM12).cell 2 rfl
                 go_wp2_with fail
                 go_roundw
                 case rel => exact ⟨m + 1, by omega, by go_num, ⟨sw, ⟨wt, wx, wy⟩, sp, true, ⟨k, x, y⟩⟩, hide (by rw [HT2.out, HSN.out]), rfl, rfl, ((hG12.setJ hwO 5 (iV k)).setJ hwO 6 (iV x)).setJ hwO 7 (iV y)⟩
                 case measure => simp [intOf]; omega
             ·obtain rfl : m = E2.length := by omega
              have hmd : decide (E2.length < E2.length) = false := by simp
              have HSE2 := hide (show s'' = ((E1.take (l + 1)).flatMap fun x => E2.map fun y => (⟨k, x, y⟩ : MotD)).foldl (stepJ a ⟨qi, qx, qy, qt⟩) s by rw [HT1.out, HS2.out, List.take_length])
              have hGl := hB9.join hGc
              go_wp2_with fail
              go_roundw
              case rel => exact ⟨l + 1, by omega, by go_num, s'', HSE2, rfl, rfl, hGl⟩
              case measure => simp [intOf]; omega
           ·obtain rfl : l = E1.length := by omega
            have hld : decide (E1.length < E1.length) = false := by simp
            have HSE := hide (show s' = ((FL.take (j + 1)).flatMap (visF a ⟨qi, qx, qy, qt⟩)).foldl (stepJ a ⟨qi, qx, qy, qt⟩) stJ0 by rw [HTS.out, HVF.out, HS'.out, List.take_length])
            have hGj := hB8.join hGb
            go_wp2_with fail
            go_roundw
            case rel => exact ⟨j + 1, by omega, by go_num, s', HSE, rfl, rfl, hGj⟩
            case measure => simp [intOf]; omega
       ·obtain rfl : j = FL.length := by omega
        have hs : s = (allJ a ⟨qi, qx, qy, qt⟩ FL).foldl (stepJ a ⟨qi, qx, qy, qt⟩) stJ0 := by rw [HS.out, List.take_length]; rfl
        rw [← hs] at HFQ HOR
        have hjd : decide (FL.length < FL.length) = false := by simp
        clear hs HS
        obtain ⟨sw, ⟨w1', w2', w3'⟩, sp, sn, ⟨n1', n2', n3'⟩⟩ := s
        dsimp only at HFQ HOR
        have hOR := hRO.symm
        have bRz := hG.blk bR5 hRO
        have g0 := (bRz).frozen 0
        have g1 := (bRz).frozen 1
        have g2 := (bRz).frozen 2
        have g3 := (bRz).frozen 3
        have g4 := (bRz).frozen 4
        have g5 := (bRz).frozen 5
        have g6 := (bRz).frozen 6
        have g7 := (bRz).frozen 7
        have r0 := (bRz).cell 0 rfl
        have r1 := (bRz).cell 1 rfl
        have r2 := (bRz).cell 2 rfl
        have r3 := (bRz).cell 3 rfl
        have r4 := (bRz).cell 4 rfl
        have r5 := (bRz).cell 5 rfl
        have r6 := (bRz).cell 6 rfl
        have r7 := (bRz).cell 7 rfl
        have f0 := (hG.box).frozen 0
        have f1 := (hG.box).frozen 1
        have f2 := (hG.box).frozen 2
        have f3 := (hG.box).frozen 3
        have f4 := (hG.box).frozen 4
        have f5 := (hG.box).frozen 5
        have f6 := (hG.box).frozen 6
        have f7 := (hG.box).frozen 7
        have o0 := (hG.box).cell 0 rfl
        have o1 := (hG.box).cell 1 rfl
        have o2 := (hG.box).cell 2 rfl
        have o3 := (hG.box).cell 3 rfl
        have o4 := (hG.box).cell 4 rfl
        have o5 := (hG.box).cell 5 rfl
        have o6 := (hG.box).cell 6 rfl
        have o7 := (hG.box).cell 7 rfl
        cases sn
        ·rw [if_pos rfl] at HFQ
         cases sw
         ·exact absurd (HOR.out rfl) (by decide)
         ·have HGF := (hG.setJ hwO 0 (iV 2)).setJ hwO 0 (iV 3)
          go_wp2_with fail
          have hS := set8 (HGF.blk bR5 hRO) (iV 3) (iV w1') (iV w2') (iV w3') (iV sp) (iV n1') (iV n2') (iV n3')
          refine bodyPost_ret (results_cell_tmp_row (p := 6) (u := 7) rfl _ _ w.heap.size _ _ _ _ _ rfl hS.1 Tryd.underlying55 rfl (by kernel_rfl) rfl) rfl ?_
          exact ⟨by rw [HV.out, HE.out, HJ.out]; show _ = Ending.returned (.tuple #[verV (verD a b ⟨qi, qx, qy, qt⟩), iV 0]); rw [HFQ.out]; rfl, hS.2 _ _ HGF.hb (Nat.le_refl _)⟩
        ·rw [if_neg (by decide)] at HFQ
         cases sw
         ·rw [if_pos rfl] at HFQ
          have HGF := (hG.setJ hwO 0 (iV 2)).setJ hwO 0 (iV 1)
          go_wp2_with fail
          have hS := set8 (HGF.blk bR5 hRO) (iV 1) (iV w1') (iV w2') (iV w3') (iV sp) (iV n1') (iV n2') (iV n3')
          refine bodyPost_ret (results_cell_tmp_row (p := 6) (u := 7) rfl _ _ w.heap.size _ _ _ _ _ rfl hS.1 Tryd.underlying55 rfl (by kernel_rfl) rfl) rfl ?_
          exact ⟨by rw [HV.out, HE.out, HJ.out]; show _ = Ending.returned (.tuple #[verV (verD a b ⟨qi, qx, qy, qt⟩), iV 0]); rw [HFQ.out]; rfl, hS.2 _ _ HGF.hb (Nat.le_refl _)⟩
         ·rw [if_neg (by decide)] at HFQ
          have HGF := hG.setJ hwO 0 (iV 2)
          go_wp2_with fail
          have hS := set8 (HGF.blk bR5 hRO) (iV 2) (iV w1') (iV w2') (iV w3') (iV sp) (iV n1') (iV n2') (iV n3')
          refine bodyPost_ret (results_cell_tmp_row (p := 6) (u := 7) rfl _ _ w.heap.size _ _ _ _ _ rfl hS.1 Tryd.underlying55 rfl (by kernel_rfl) rfl) rfl ?_
          exact ⟨by rw [HV.out, HE.out, HJ.out]; show _ = Ending.returned (.tuple #[verV (verD a b ⟨qi, qx, qy, qt⟩), iV 0]); rw [HFQ.out]; rfl, hS.2 _ _ HGF.hb (Nat.le_refl _)⟩
     ·have HJ := hide (HJF.out hz)
      have hzl : (fitsR a b).length = 0 := by cases hf : fitsR a b with | nil => rfl | cons => rw [hf] at hz; cases hz
      have hzd : ((fitsR a b).length : Int) == 0 := by simp [hzl]
      have hnd : decide ((n : Int) < 0) = false := by simp
      rw [hzl]
      have g0 := (bRr).frozen 0
      have g1 := (bRr).frozen 1
      have g2 := (bRr).frozen 2
      have g3 := (bRr).frozen 3
      have g4 := (bRr).frozen 4
      have g5 := (bRr).frozen 5
      have g6 := (bRr).frozen 6
      have g7 := (bRr).frozen 7
      have r0 := (bRr).cell 0 rfl
      have r1 := (bRr).cell 1 rfl
      have r2 := (bRr).cell 2 rfl
      have r3 := (bRr).cell 3 rfl
      have r4 := (bRr).cell 4 rfl
      have r5 := (bRr).cell 5 rfl
      have r6 := (bRr).cell 6 rfl
      have r7 := (bRr).cell 7 rfl
      go_wp2_with fail
      have hS := set8 (bRr) (iV 0) (iV 0) (iV 0) (iV 0) (iV 0) (iV 0) (iV 0) (iV 0)
      refine bodyPost_ret (results_cell_tmp_row (p := 6) (u := 7) rfl _ _ w.heap.size _ _ _ _ _ rfl hS.1 Tryd.underlying55 rfl (by kernel_rfl) rfl) rfl ?_
      exact ⟨by rw [HV.out, HE.out, HJ.out]; rfl, hS.2 _ _ (below2 hbw1 hbr) (Nat.le_refl _)⟩
 ·have HJ := hide (HJE.out he)
  have hez : (errR a b == 0) = false := by simpa using he
  generalize errR a b = E at *
  go_wp2_with fail
  go_loopw [10, 11] (fun at_ i wr => i = .int .i64 0 ∧ at_ = .int .i64 (-1) ∧ Below w1.heap.size w1 wr) (fun _ _ _ => 0)
  case atStart => exact ⟨rfl, rfl, Below.refl _ _⟩
  case round =>
   obtain ⟨rfl, rfl, hbr⟩ := hrel
   have bRr := bR1.later hbr
   cases hbz : decide (0 < b.length)
   ·have g0 := (bRr).frozen 0
    have g1 := (bRr).frozen 1
    have g2 := (bRr).frozen 2
    have g3 := (bRr).frozen 3
    have g4 := (bRr).frozen 4
    have g5 := (bRr).frozen 5
    have g6 := (bRr).frozen 6
    have g7 := (bRr).frozen 7
    have r0 := (bRr).cell 0 rfl
    have r1 := (bRr).cell 1 rfl
    have r2 := (bRr).cell 2 rfl
    have r3 := (bRr).cell 3 rfl
    have r4 := (bRr).cell 4 rfl
    have r5 := (bRr).cell 5 rfl
    have r6 := (bRr).cell 6 rfl
    have r7 := (bRr).cell 7 rfl
    go_wp2_with fail
    have hS := set8 (bRr) (iV 0) (iV 0) (iV 0) (iV 0) (iV 0) (iV 0) (iV 0) (iV 0)
    refine bodyPost_ret (results_cell_tmp_row (p := 6) (u := 7) rfl _ _ w.heap.size _ _ _ _ _ rfl hS.1 Tryd.underlying55 rfl (by kernel_rfl) rfl) rfl ?_
    exact ⟨by rw [HV.out, HE.out, HJ.out]; rfl, hS.2 _ _ (below2 hbw1 hbr) (Nat.le_refl _)⟩
   ·have g0 := (bRr).frozen 0
    have g1 := (bRr).frozen 1
    have g2 := (bRr).frozen 2
    have g3 := (bRr).frozen 3
    have g4 := (bRr).frozen 4
    have g5 := (bRr).frozen 5
    have g6 := (bRr).frozen 6
    have g7 := (bRr).frozen 7
    have r0 := (bRr).cell 0 rfl
    have r1 := (bRr).cell 1 rfl
    have r2 := (bRr).cell 2 rfl
    have r3 := (bRr).cell 3 rfl
    have r4 := (bRr).cell 4 rfl
    have r5 := (bRr).cell 5 rfl
    have r6 := (bRr).cell 6 rfl
    have r7 := (bRr).cell 7 rfl
    go_wp2_with fail
    have hS := set8 (bRr) (iV 0) (iV 0) (iV 0) (iV 0) (iV 0) (iV 0) (iV 0) (iV 0)
    refine bodyPost_ret (results_cell_tmp_row (p := 6) (u := 7) rfl _ _ w.heap.size _ _ _ _ _ rfl hS.1 Tryd.underlying55 rfl (by kernel_rfl) rfl) rfl ?_
    exact ⟨by rw [HV.out, HE.out, HJ.out]; rfl, hS.2 _ _ (below2 hbw1 hbr) (Nat.le_refl _)⟩
end Go.Proofs.YtoofkahklboojaaDoor
