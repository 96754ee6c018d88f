/- The walk of Without of the reference. Conditions: how the arguments lie in memory; sizes. -/
import Derived.Test.YtcaklldmcbpbfaaPxC
import Derived.Test.YtcaklldmcbpbfaaPw14
namespace Go.Proofs.Ytcaklldmcbpbfaa
open Go.RowKit

/-- what an append to a slice of the call's own, and a box that is written, leave as they were -/
structure EffY (B : Nat) (e : TypeId) (O : Nat) (w w' : World) : Prop where
  os : w'.os = w.os
  tape : w'.tape = w.tape
  output : w'.output = w.output
  size : w.heap.size ≤ w'.heap.size
  block : ∀ b, b < w.heap.size → b ≠ O → (b < B ∨ NotE e w b) → w'.heap[b]? = w.heap[b]?
theorem effE_of_grown {W w' : World} {B : Nat} {e : TypeId} {k : Nat} {v : Value} {L : List (List Value)} (hown : OwnR W B e k v L) (hg : W.grownBy w' v.ownBlock) : EffE B e W w' := by
  refine ⟨hg.os, hg.tape, hg.output, hg.size, fun b hb hn => hg.block b hb ?_⟩
  intro he
  rcases hown.form with ⟨h2, -⟩ | ⟨g', c', cur, h2, h3, h4, -⟩
  · rw [h2] at he; cases he
  · rw [h2] at he; cases he
    rcases hn with hn | hn
    · have hn' : g' < B := hn
      omega
    · exact hn _ _ h4
theorem EffE.toY {B : Nat} {e : TypeId} {O j : Nat} {w w' : World} (h : EffE B e w w') (u : Value) : EffY B e O w (w'.setCell ⟨O, j, none⟩ u) :=
  ⟨h.os, h.tape, h.output, by simpa [World.setCell] using h.size, fun b hb hO hn => (Below.heap_setCell w' ⟨O, j, none⟩ u b hO).trans (h.block b hb hn)⟩
theorem EffY.below {B : Nat} {e : TypeId} {O C : Nat} {w w' : World} (h : EffY B e O w w') (hB : C ≤ B) (hO : C ≤ O) (hw : C ≤ w.heap.size) : Below C w w' :=
  ⟨h.os, h.tape, h.output, h.size, fun k hk => h.block k (by omega) (by omega) (.inl (by omega))⟩
theorem EffY.blk {B : Nat} {e : TypeId} {O : Nat} {w w' : World} (h : EffY B e O w w') {b : Nat} {vs : List Value} {t : TypeId} (hb : Blk w b vs t) (hO : b ≠ O) (hte : t ≠ e) : Blk w' b vs t :=
  (h.block b hb.lt hO (.inr (hb.notE hte))).trans hb
theorem OwnR.setO {W : World} {B O j : Nat} {e : TypeId} {k : Nat} {v : Value} {L : List (List Value)} {vs : List Value} {t : TypeId} (h : OwnR W B e k v L) (hO : Blk W O vs t) (hte : t ≠ e) (u : Value) : OwnR (W.setCell ⟨O, j, none⟩ u) B e k v L := by
  obtain ⟨⟨h1, h2⟩, h3⟩ := h
  refine ⟨⟨h1, h2.imp id ?_⟩, h3⟩
  rintro ⟨g, cap, cur, e1, e2, e3, e4⟩
  refine ⟨g, cap, cur, e1, e2, ?_, e4⟩
  refine (Below.heap_setCell W ⟨O, j, none⟩ u g ?_).trans e3
  show g ≠ O
  rintro rfl
  have := (show W.heap[g]? = _ from hO).symm.trans e3
  simp at this; exact hte this.2
def RowsLow (w0 : World) (Lr : List (List Value)) (l : List RowD) : Prop := Lr.length = l.length ∧ ∀ i, i < l.length → ∃ cv, Lr.getD i [] = rowCells (l.getD i row0) cv ∧ IntsAt w0 cv (l.getD i row0).coef
theorem RowsLow.app {w0 : World} {Lr : List (List Value)} {l : List RowD} (h : RowsLow w0 Lr l) {x : RowD} {cv : Value} (hc : IntsAt w0 cv x.coef) : RowsLow w0 (Lr ++ [rowCells x cv]) (l ++ [x]) := by
  refine ⟨by simp [h.1], fun i hi => ?_⟩
  rcases Nat.lt_or_ge i l.length with h1 | h1
  · obtain ⟨cv', e, hc'⟩ := h.2 i h1
    rw [getD_app_left _ _ _ _ (by rw [h.1]; exact h1), getD_app_left _ _ _ _ h1]; exact ⟨cv', e, hc'⟩
  · have hi' : i = l.length := by simp at hi; omega
    subst hi'
    rw [getD_app_right _ _ _ _ (by rw [h.1]; exact Nat.le_refl _), getD_app_right _ _ _ _ (Nat.le_refl _), h.1, Nat.sub_self]
    exact ⟨cv, rfl, hc⟩
theorem RowsLow.rows {w0 W : World} {B : Nat} {v : Value} {Lr : List (List Value)} {l : List RowD} (h : RowsLow w0 Lr l) (hO : OwnR W B 26 6 v Lr) (hb : Below w0.heap.size w0 W) : RowsAt W v l :=
  OwnR.rows hO h.1 fun i hi => let ⟨cv, e, hc⟩ := h.2 i hi; ⟨cv, e, IntsAt.below hb hc⟩
theorem own_some {W : World} {B : Nat} {e : TypeId} {k : Nat} {v : Value} {L : List (List Value)} {x : List Value} (h : OwnR W B e k v (L ++ [x])) : ∃ g c, v = .slice (some ⟨g, 0, none⟩) (L.length + 1) c := by
  rcases h.form with ⟨-, h2⟩ | ⟨g, c, cur, h1, -⟩
  · simp at h2
  · exact ⟨g, c, by rw [h1]; simp⟩
/-- a call returns a program, which may share memory with what was there -/
def ProgQ (p : ProgD) (er : Int) (w : World) (e : Ending) (w' : World) : Prop :=
  ∃ rv gv, e = .returned (.tuple #[progV p rv gv, .int .i64 er]) ∧ RowsAt w' rv p.rows ∧ IntsAt w' gv p.gain ∧ Below w.heap.size w w'
set_option maxRecDepth 100000 in
set_option maxHeartbeats 4000000 in
theorem withoutr_any (p : ProgD) (rv gv lv : Value) (l : List Int) (w : World) (hr : RowsAt w rv p.rows) (hg : IntsAt w gv p.gain) (hl : IntsAt w lv l) :
    Calls Try.prog 31 #[progV p rv gv, lv] w (ProgQ (withoutF p l) (errW p l) w) := by
  have HVA := hide (fun (W : World) (h : Below w.heap.size w W) => validr_any p rv gv W (hr.below h) (hg.below h))
  have HOK := hide (okW_at p l)
  have HR0 := hr
  have HG0 := hg
  have HL0 := hl
  obtain ⟨ra, rc, rfl, hrl, hrm, hrc⟩ := id hr
  obtain ⟨ga, gc, rfl, -, hgm, -⟩ := id hg
  obtain ⟨la, lc, rfl, hll, hlm, hlc⟩ := id hl
  have hm1 : (p.rows.length : Int) ≤ 9223372036854775807 := by omega
  have hm2 : (l.length : Int) ≤ 9223372036854775807 := by omega
  have HRC := hide hrc
  have HLC := hide hlc
  clear hr hg hl hrc hlc
  go_enter Try.func31, Try.ntmps31
  go_wp2_with fail
  generalize hX1 : World.alloc w _ = X1
  have zX1 : X1.heap.size = w.heap.size + 1 := by rw [← hX1]; simp
  have bX1 : Below w.heap.size w X1 := by rw [← hX1]; exact bal w _
  have bP_1 : Blk X1 (w.heap.size) [.int .i64 p.vars, .slice ra p.rows.length rc, .slice ga p.gain.length gc] 29 := by rw [← hX1]; exact Blk.newA w _ (by first | rfl | simp)
  generalize hX2 : World.alloc X1 _ = X2
  have zX2 : X2.heap.size = w.heap.size + 1 + 1 := by rw [← hX2]; simp [zX1]
  have bX2 : Below X1.heap.size X1 X2 := by rw [← hX2]; exact bal X1 _
  have bR : Blk X2 (w.heap.size + 1) [.int .i64 0, .slice none 0 0, .slice none 0 0] 29 := by rw [← hX2, ← zX1]; exact Blk.newA X1 _ (by first | rfl | simp)
  have bP := bP_1.later bX2
  have Xb := below2 (bX1) bX2
  have Xz := zX2
  clear hX1 zX1 bX1 hX2 zX2 bX2 bP_1
  refine (HVA.out _ Xb).mono ?_
  rintro e W1 ⟨rfl, hb1⟩
  have hbw1 := below2 Xb hb1
  have bP1 := bP.later hb1
  have bR0 := bR.later hb1
  have p1 := bP1.cell 1 rfl
  clear bP bR HVA
  cases hV : validB p
  · have hok : okW p l = false := by rw [HOK.out, hV]; rfl
    have HK := hide hok
    clear hok
    have HWF : Hid (withoutF p l = ⟨0, [], []⟩) := hide (by unfold withoutF; rw [if_neg (by rw [HK.out]; simp)])
    have HEW : Hid (errW p l = 330) := hide (by unfold errW; rw [if_neg (by rw [HK.out]; simp)])
    have t0 := bR0.cell 0 rfl
    have t1 := bR0.cell 1 rfl
    have t2 := bR0.cell 2 rfl
    have f0 := bR0.frozen 0
    have f1 := bR0.frozen 1
    have f2 := bR0.frozen 2
    go_wp2_with fail
    obtain ⟨z1, z2, -⟩ := set3 bR0 (.int .i64 0) (.slice none 0 0) (.slice none 0 0)
    have z3 := z2 _ _ (hbw1) (by omega)
    generalize World.setCell (World.setCell _ _ _) ⟨w.heap.size + 1, 2, none⟩ _ = Wf at z1 z3 ⊢
    have y0 := z1.cell 0 rfl
    have y1 := z1.cell 1 rfl
    have y2 := z1.cell 2 rfl
    refine bodyPost_ret (v := .tuple #[.agg #[.int .i64 0, .slice none 0 0, .slice none 0 0], .int .i64 (330)]) (by simp [results, Try.results31, go_sem, y0, y1, y2]) rfl ?_
    show ProgQ (withoutF p l) (errW p l) w _ _
    rw [HWF.out, HEW.out]
    exact ⟨_, _, rfl, RowsIn.nil _, IntsIn.nil _, z3⟩
  by_cases hlen : (p.rows.length : Int) < (l.length : Int)
  · have hok : okW p l = false := by rw [HOK.out, hV, decide_eq_false (show ¬ l.length ≤ p.rows.length by omega)]; rfl
    have HK := hide hok
    clear hok
    have HWF : Hid (withoutF p l = ⟨0, [], []⟩) := hide (by unfold withoutF; rw [if_neg (by rw [HK.out]; simp)])
    have HEW : Hid (errW p l = 330) := hide (by unfold errW; rw [if_neg (by rw [HK.out]; simp)])
    have t0 := bR0.cell 0 rfl
    have t1 := bR0.cell 1 rfl
    have t2 := bR0.cell 2 rfl
    have f0 := bR0.frozen 0
    have f1 := bR0.frozen 1
    have f2 := bR0.frozen 2
    go_wp2_with fail
    obtain ⟨z1, z2, -⟩ := set3 bR0 (.int .i64 0) (.slice none 0 0) (.slice none 0 0)
    have z3 := z2 _ _ (hbw1) (by omega)
    generalize World.setCell (World.setCell _ _ _) ⟨w.heap.size + 1, 2, none⟩ _ = Wf at z1 z3 ⊢
    have y0 := z1.cell 0 rfl
    have y1 := z1.cell 1 rfl
    have y2 := z1.cell 2 rfl
    refine bodyPost_ret (v := .tuple #[.agg #[.int .i64 0, .slice none 0 0, .slice none 0 0], .int .i64 (330)]) (by simp [results, Try.results31, go_sem, y0, y1, y2]) rfl ?_
    show ProgQ (withoutF p l) (errW p l) w _ _
    rw [HWF.out, HEW.out]
    exact ⟨_, _, rfl, RowsIn.nil _, IntsIn.nil _, z3⟩
  have HOK2 : Hid (okW p l = decide (atK l p.rows.length = l.length)) := hide (by rw [HOK.out, hV, decide_eq_true (show l.length ≤ p.rows.length by omega)]; rfl)
  have HRL : Hid (p.rows.length ≤ 300) := hide (valid_parts hV).2.2.1
  have p0 := bP1.cell 0 rfl
  have p2 := bP1.cell 2 rfl
  have hln : decide (p.rows.length < l.length) = false := by simp; omega
  clear HOK
  go_wp2_with fail
  generalize hW2 : World.alloc W1 _ = W2
  have hb2 : Below W1.heap.size W1 W2 := by rw [← hW2]; exact bal W1 _
  have bO : Blk W2 W1.heap.size [.int .i64 p.vars, .slice none 0 0, .slice ga p.gain.length gc] 29 := by rw [← hW2]; exact Blk.newA W1 _ rfl
  have hz2 : W1.heap.size < W2.heap.size := bO.lt
  clear hW2 p0 p1 p2
  go_loopw [7, 8] (fun a i wr => ∃ (k : Nat) (v : Value) (Lr : List (List Value)), k ≤ p.rows.length ∧ i = .int .i64 k ∧ a = .int .i64 (atK l k) ∧ Blk wr W1.heap.size [.int .i64 p.vars, v, .slice ga p.gain.length gc] 29 ∧
      OwnR wr (W1.heap.size + 1) 26 6 v Lr ∧ RowsLow w Lr (outK p.rows l k) ∧ Below W1.heap.size W1 wr ∧ W1.heap.size + 1 ≤ wr.heap.size) (fun _ i _ => p.rows.length - (intOf i).toNat)
  case atStart => exact ⟨0, _, [], by omega, rfl, rfl, bO, OwnR.nil _ _ _ _, ⟨rfl, fun i hi => by simp [outK] at hi⟩, hb2, hz2⟩
  case round =>
    obtain ⟨k, v, Lr, hk, rfl, rfl, hO, hOR, hlow, hbr, hz⟩ := hrel
    have hbwr := below2 hbw1 hbr
    have p1 := (bP1.later hbr).cell 1 rfl
    by_cases hlt : k < p.rows.length
    · have hkl : decide (k < p.rows.length) = true := by simpa using hlt
      have HAY := hide (fun h => atK_yes (rows := l) (k := k) h)
      have HAN := hide (fun h => atK_no (rows := l) (k := k) h)
      have HOY := hide (fun h => outK_yes (l := p.rows) (rows := l) (k := k) h)
      have HON := hide (fun h => outK_no (l := p.rows) (rows := l) (k := k) h)
      have HHK : Hid (hitK l k = (decide (atK l k < l.length) && decide (l.getD (atK l k) 0 = (k : Int)))) := hide rfl
      have hale := atK_le l k
      have hole := outK_le p.rows l k
      generalize atK l k = m at HAY HAN HHK hale ⊢
      by_cases hml : m < l.length
      · have hmd : decide (m < l.length) = true := by simpa using hml
        obtain ⟨b, o, rfl, hck⟩ := HLC.out m hml
        generalize l.getD m 0 = y at hck HHK
        have ck := keep hbwr hck
        by_cases hyk : y = (k : Int)
        · have hhit : hitK l k = true := by rw [HHK.out, hmd]; simpa using hyk
          have HH := hide hhit
          subst hyk
          clear hhit
          go_wp2_with fail
          go_roundw
          case rel => exact ⟨k + 1, v, Lr, by omega, by go_num, by rw [HAY.out HH.out]; go_num, hO, hOR, by rw [HOY.out HH.out]; exact hlow, hbr, hz⟩
          case measure => simp [intOf]; omega
        · have hhit : hitK l k = false := by rw [HHK.out, decide_eq_false hyk]; simp
          have HH := hide hhit
          have hyd : (y == (k : Int)) = false := by simpa using hyk
          clear hhit hyk
          obtain ⟨b', o', cv', hra, hck'⟩ := HRC.out k hlt
          have HLW := hide (fun (x : RowD) (cv : Value) (h : IntsAt w cv x.coef) => hlow.app h)
          have hcw := hck'
          have HON' := hide (HON.out HH.out)
          have hLr : Lr.length ≤ 300 := by have := HRL.out; have := hlow.1; omega
          generalize p.rows.getD k row0 = x at hck' hcw HON'
          obtain ⟨e0, e1, e2, e3, e4, e5, e6⟩ := hck'.below hbwr
          obtain ⟨-, -, -, -, -, -, e7⟩ := hcw
          obtain ⟨ca, cc, rfl, -, -, -⟩ := id e6
          subst hra
          obtain ⟨va, vc, rfl⟩ := own_form hOR rfl
          have o1 := hO.cell 1 rfl
          have hNT : W1.heap.size < wr.heap.size := hO.lt
          clear hck'
          go_wp2_with fail
          refine wp_region_inv [some 47, some 48, some 49, some 50, some 51, some 52, some 53, some 54, some 55, some 56, none] (fun L vs W => match vs with | [x0, x1, x2, x3, x4, x5, x6, x7, x8, x9, x10] => (L 8 = false → Below wr.heap.size wr W) ∧ (L 0 = true → x0 = .pointer (some ⟨W1.heap.size, 1, none⟩)) ∧ (L 1 = true → x1 = .slice va Lr.length vc) ∧ (L 2 = true → x2 = .pointer (some ⟨w.heap.size, 1, none⟩)) ∧ (L 3 = true → x3 = .slice (some ⟨b', o', none⟩) p.rows.length rc) ∧ (L 4 = true → x4 = .int .i64 k) ∧ (L 5 = true → L 3 = true ∧ x5 = .pointer (some ⟨b', o' + k * 6, none⟩)) ∧ (L 6 = true → L 3 = true ∧ x6 = rowV x (.slice ca x.coef.length cc)) ∧ (L 7 = true → (L 3 = true ∧ L 6 = true) ∧ (L 8 = false → ∃ b0 : Nat, wr.heap.size ≤ b0 ∧ x7 = .slice (some ⟨b0, 0, none⟩) 1 1 ∧ Blk W b0 (rowCells x (.slice ca x.coef.length cc)) 26)) ∧ (L 8 = true → (L 1 = true ∧ L 3 = true ∧ L 6 = true ∧ L 7 = true) ∧ (L 10 = false → ∃ g c, x8 = .slice (some ⟨g, 0, none⟩) (Lr.length + 1) c ∧ OwnR W (W1.heap.size + 1) 26 6 x8 (Lr ++ [rowCells x (.slice ca x.coef.length cc)]) ∧ EffE (W1.heap.size + 1) 26 wr W)) ∧ (L 9 = true → x9 = .pointer (some ⟨W1.heap.size, 1, none⟩)) ∧ (L 10 = true → L 8 = true ∧ ∃ g c, x8 = .slice (some ⟨g, 0, none⟩) (Lr.length + 1) c ∧ OwnR W (W1.heap.size + 1) 26 6 x8 (Lr ++ [rowCells x (.slice ca x.coef.length cc)]) ∧ Blk W W1.heap.size [.int .i64 p.vars, x8, .slice ga p.gain.length gc] 29 ∧ EffY (W1.heap.size + 1) 26 W1.heap.size wr W) | _ => False) [_, _, _, _, _, _, _, _, _, _, undef] (by kernel_rfl) (by kernel_rfl) rfl (by simp only [puts, Act.put, List.setIfInBounds_toArray, List.set_cons_zero, List.set_cons_succ] <;> rfl) ?_ ?_ ?_
          · exact ⟨fun _ => (Below.refl _ _).drew, (fun h => by cases h), (fun h => by cases h), (fun h => by cases h), (fun h => by cases h), (fun h => by cases h), (fun h => by cases h), (fun h => by cases h), (fun h => by cases h), (fun h => by cases h), (fun h => by cases h), (fun h => by cases h)⟩
          · refine ⟨?_, ?_, ?_, ?_, ?_, ?_, ?_, ?_, ?_, ?_, ?_, trivial⟩
            · intro L vs W hlen hL hD hI K hK
              obtain ⟨x0, x1, x2, x3, x4, x5, x6, x7, x8, x9, x10, rfl⟩ := len11 hlen
              have hG := hI.1
              replace hI := hI.2
              have f0 := hide hI.1
              replace hI := hI.2
              have f1 := hide hI.1
              replace hI := hI.2
              have f2 := hide hI.1
              replace hI := hI.2
              have f3 := hide hI.1
              replace hI := hI.2
              have f4 := hide hI.1
              replace hI := hI.2
              have f5 := hide hI.1
              replace hI := hI.2
              have f6 := hide hI.1
              replace hI := hI.2
              have f7 := hide hI.1
              replace hI := hI.2
              have f8 := hide hI.1
              replace hI := hI.2
              have f9 := hide hI.1
              replace hI := hI.2
              have f10 := hide hI
              clear hI
              try simp only [puts, Act.put, List.setIfInBounds_toArray, List.set_cons_zero, List.set_cons_succ]
              try go_simp
              exact hK.out _ _ _ (by simp only [puts, Act.put, List.setIfInBounds_toArray, List.set_cons_zero, List.set_cons_succ] <;> rfl) ⟨hG, (fun _ => rfl), (fun h => f1.out h), (fun h => f2.out h), (fun h => f3.out h), (fun h => f4.out h), (fun h => f5.out h), (fun h => f6.out h), (fun h => f7.out h), (fun h => f8.out h), (fun h => f9.out h), (fun h => f10.out h)⟩
            · intro L vs W hlen hL hD hI K hK
              obtain ⟨x0, x1, x2, x3, x4, x5, x6, x7, x8, x9, x10, rfl⟩ := len11 hlen
              have hG := hI.1
              replace hI := hI.2
              have f0 := hide hI.1
              replace hI := hI.2
              have f1 := hide hI.1
              replace hI := hI.2
              have f2 := hide hI.1
              replace hI := hI.2
              have f3 := hide hI.1
              replace hI := hI.2
              have f4 := hide hI.1
              replace hI := hI.2
              have f5 := hide hI.1
              replace hI := hI.2
              have f6 := hide hI.1
              replace hI := hI.2
              have f7 := hide hI.1
              replace hI := hI.2
              have f8 := hide hI.1
              replace hI := hI.2
              have f9 := hide hI.1
              replace hI := hI.2
              have f10 := hide hI
              clear hI
              obtain rfl := f0.out (hD.on 0 (by kernel_rfl))
              try simp only [puts, Act.put, List.setIfInBounds_toArray, List.set_cons_zero, List.set_cons_succ]
              have h8 : L 8 = false := Bool.eq_false_iff.2 (fun h => absurd ((f8.out h).1.1.symm.trans hL) (by decide))
              have o1' := keep (hG h8) o1
              go_simp
              exact hK.out _ _ _ (by simp only [puts, Act.put, List.setIfInBounds_toArray, List.set_cons_zero, List.set_cons_succ] <;> rfl) ⟨hG, (fun h => f0.out h), (fun _ => rfl), (fun h => f2.out h), (fun h => f3.out h), (fun h => f4.out h), (fun h => f5.out h), (fun h => f6.out h), (fun h => f7.out h), (fun h => (fun h => ⟨⟨rfl, h.1.2⟩, h.2⟩) (f8.out h)), (fun h => f9.out h), (fun h => f10.out h)⟩
            · intro L vs W hlen hL hD hI K hK
              obtain ⟨x0, x1, x2, x3, x4, x5, x6, x7, x8, x9, x10, rfl⟩ := len11 hlen
              have hG := hI.1
              replace hI := hI.2
              have f0 := hide hI.1
              replace hI := hI.2
              have f1 := hide hI.1
              replace hI := hI.2
              have f2 := hide hI.1
              replace hI := hI.2
              have f3 := hide hI.1
              replace hI := hI.2
              have f4 := hide hI.1
              replace hI := hI.2
              have f5 := hide hI.1
              replace hI := hI.2
              have f6 := hide hI.1
              replace hI := hI.2
              have f7 := hide hI.1
              replace hI := hI.2
              have f8 := hide hI.1
              replace hI := hI.2
              have f9 := hide hI.1
              replace hI := hI.2
              have f10 := hide hI
              clear hI
              try simp only [puts, Act.put, List.setIfInBounds_toArray, List.set_cons_zero, List.set_cons_succ]
              try go_simp
              exact hK.out _ _ _ (by simp only [puts, Act.put, List.setIfInBounds_toArray, List.set_cons_zero, List.set_cons_succ] <;> rfl) ⟨hG, (fun h => f0.out h), (fun h => f1.out h), (fun _ => rfl), (fun h => f3.out h), (fun h => f4.out h), (fun h => f5.out h), (fun h => f6.out h), (fun h => f7.out h), (fun h => f8.out h), (fun h => f9.out h), (fun h => f10.out h)⟩
            · intro L vs W hlen hL hD hI K hK
              obtain ⟨x0, x1, x2, x3, x4, x5, x6, x7, x8, x9, x10, rfl⟩ := len11 hlen
              have hG := hI.1
              replace hI := hI.2
              have f0 := hide hI.1
              replace hI := hI.2
              have f1 := hide hI.1
              replace hI := hI.2
              have f2 := hide hI.1
              replace hI := hI.2
              have f3 := hide hI.1
              replace hI := hI.2
              have f4 := hide hI.1
              replace hI := hI.2
              have f5 := hide hI.1
              replace hI := hI.2
              have f6 := hide hI.1
              replace hI := hI.2
              have f7 := hide hI.1
              replace hI := hI.2
              have f8 := hide hI.1
              replace hI := hI.2
              have f9 := hide hI.1
              replace hI := hI.2
              have f10 := hide hI
              clear hI
              obtain rfl := f2.out (hD.on 2 (by kernel_rfl))
              try simp only [puts, Act.put, List.setIfInBounds_toArray, List.set_cons_zero, List.set_cons_succ]
              have h8 : L 8 = false := Bool.eq_false_iff.2 (fun h => absurd ((f8.out h).1.2.1.symm.trans hL) (by decide))
              have p1' := keep (hG h8) p1
              go_simp
              exact hK.out _ _ _ (by simp only [puts, Act.put, List.setIfInBounds_toArray, List.set_cons_zero, List.set_cons_succ] <;> rfl) ⟨hG, (fun h => f0.out h), (fun h => f1.out h), (fun h => f2.out h), (fun _ => rfl), (fun h => f4.out h), (fun h => (fun h => ⟨rfl, h.2⟩) (f5.out h)), (fun h => (fun h => ⟨rfl, h.2⟩) (f6.out h)), (fun h => (fun h => ⟨⟨rfl, h.1.2⟩, h.2⟩) (f7.out h)), (fun h => (fun h => ⟨⟨h.1.1, rfl, h.1.2.2⟩, h.2⟩) (f8.out h)), (fun h => f9.out h), (fun h => f10.out h)⟩
            · intro L vs W hlen hL hD hI K hK
              obtain ⟨x0, x1, x2, x3, x4, x5, x6, x7, x8, x9, x10, rfl⟩ := len11 hlen
              have hG := hI.1
              replace hI := hI.2
              have f0 := hide hI.1
              replace hI := hI.2
              have f1 := hide hI.1
              replace hI := hI.2
              have f2 := hide hI.1
              replace hI := hI.2
              have f3 := hide hI.1
              replace hI := hI.2
              have f4 := hide hI.1
              replace hI := hI.2
              have f5 := hide hI.1
              replace hI := hI.2
              have f6 := hide hI.1
              replace hI := hI.2
              have f7 := hide hI.1
              replace hI := hI.2
              have f8 := hide hI.1
              replace hI := hI.2
              have f9 := hide hI.1
              replace hI := hI.2
              have f10 := hide hI
              clear hI
              try simp only [puts, Act.put, List.setIfInBounds_toArray, List.set_cons_zero, List.set_cons_succ]
              try go_simp
              exact hK.out _ _ _ (by simp only [puts, Act.put, List.setIfInBounds_toArray, List.set_cons_zero, List.set_cons_succ] <;> rfl) ⟨hG, (fun h => f0.out h), (fun h => f1.out h), (fun h => f2.out h), (fun h => f3.out h), (fun _ => rfl), (fun h => f5.out h), (fun h => f6.out h), (fun h => f7.out h), (fun h => f8.out h), (fun h => f9.out h), (fun h => f10.out h)⟩
            · intro L vs W hlen hL hD hI K hK
              obtain ⟨x0, x1, x2, x3, x4, x5, x6, x7, x8, x9, x10, rfl⟩ := len11 hlen
              have hG := hI.1
              replace hI := hI.2
              have f0 := hide hI.1
              replace hI := hI.2
              have f1 := hide hI.1
              replace hI := hI.2
              have f2 := hide hI.1
              replace hI := hI.2
              have f3 := hide hI.1
              replace hI := hI.2
              have f4 := hide hI.1
              replace hI := hI.2
              have f5 := hide hI.1
              replace hI := hI.2
              have f6 := hide hI.1
              replace hI := hI.2
              have f7 := hide hI.1
              replace hI := hI.2
              have f8 := hide hI.1
              replace hI := hI.2
              have f9 := hide hI.1
              replace hI := hI.2
              have f10 := hide hI
              clear hI
              obtain rfl := f3.out (hD.on 3 (by kernel_rfl))
              obtain rfl := f4.out (hD.on 4 (by kernel_rfl))
              try simp only [puts, Act.put, List.setIfInBounds_toArray, List.set_cons_zero, List.set_cons_succ]
              try go_simp
              exact hK.out _ _ _ (by simp only [puts, Act.put, List.setIfInBounds_toArray, List.set_cons_zero, List.set_cons_succ] <;> rfl) ⟨hG, (fun h => f0.out h), (fun h => f1.out h), (fun h => f2.out h), (fun h => f3.out h), (fun h => f4.out h), (fun _ => ⟨hD.on 3 (by kernel_rfl), rfl⟩), (fun h => f6.out h), (fun h => f7.out h), (fun h => f8.out h), (fun h => f9.out h), (fun h => f10.out h)⟩
            · intro L vs W hlen hL hD hI K hK
              obtain ⟨x0, x1, x2, x3, x4, x5, x6, x7, x8, x9, x10, rfl⟩ := len11 hlen
              have hG := hI.1
              replace hI := hI.2
              have f0 := hide hI.1
              replace hI := hI.2
              have f1 := hide hI.1
              replace hI := hI.2
              have f2 := hide hI.1
              replace hI := hI.2
              have f3 := hide hI.1
              replace hI := hI.2
              have f4 := hide hI.1
              replace hI := hI.2
              have f5 := hide hI.1
              replace hI := hI.2
              have f6 := hide hI.1
              replace hI := hI.2
              have f7 := hide hI.1
              replace hI := hI.2
              have f8 := hide hI.1
              replace hI := hI.2
              have f9 := hide hI.1
              replace hI := hI.2
              have f10 := hide hI
              clear hI
              have g5 := f5.out (hD.on 5 (by kernel_rfl))
              try simp only [puts, Act.put, List.setIfInBounds_toArray, List.set_cons_zero, List.set_cons_succ]
              obtain rfl := g5.2
              have h8 : L 8 = false := Bool.eq_false_iff.2 (fun h => absurd ((f8.out h).1.2.2.1.symm.trans hL) (by decide))
              have e0' := keep (hG h8) e0
              have e1' := keep (hG h8) e1
              have e2' := keep (hG h8) e2
              have e3' := keep (hG h8) e3
              have e4' := keep (hG h8) e4
              have e5' := keep (hG h8) e5
              go_simp
              exact hK.out _ _ _ (by simp only [puts, Act.put, List.setIfInBounds_toArray, List.set_cons_zero, List.set_cons_succ] <;> rfl) ⟨hG, (fun h => f0.out h), (fun h => f1.out h), (fun h => f2.out h), (fun h => f3.out h), (fun h => f4.out h), (fun h => f5.out h), (fun _ => ⟨g5.1, rfl⟩), (fun h => (fun h => ⟨⟨h.1.1, rfl⟩, h.2⟩) (f7.out h)), (fun h => (fun h => ⟨⟨h.1.1, h.1.2.1, rfl, h.1.2.2.2⟩, h.2⟩) (f8.out h)), (fun h => f9.out h), (fun h => f10.out h)⟩
            · intro L vs W hlen hL hD hI K hK
              obtain ⟨x0, x1, x2, x3, x4, x5, x6, x7, x8, x9, x10, rfl⟩ := len11 hlen
              have hG := hI.1
              replace hI := hI.2
              have f0 := hide hI.1
              replace hI := hI.2
              have f1 := hide hI.1
              replace hI := hI.2
              have f2 := hide hI.1
              replace hI := hI.2
              have f3 := hide hI.1
              replace hI := hI.2
              have f4 := hide hI.1
              replace hI := hI.2
              have f5 := hide hI.1
              replace hI := hI.2
              have f6 := hide hI.1
              replace hI := hI.2
              have f7 := hide hI.1
              replace hI := hI.2
              have f8 := hide hI.1
              replace hI := hI.2
              have f9 := hide hI.1
              replace hI := hI.2
              have f10 := hide hI
              clear hI
              have g6 := f6.out (hD.on 6 (by kernel_rfl))
              try simp only [puts, Act.put, List.setIfInBounds_toArray, List.set_cons_zero, List.set_cons_succ]
              obtain rfl := g6.2
              have h8 : L 8 = false := Bool.eq_false_iff.2 (fun h => absurd ((f8.out h).1.2.2.2.symm.trans hL) (by decide))
              have hGs := (hG h8).size
              go_simp
              generalize hW' : World.alloc W _ = W'
              have hb : Below W.heap.size W W' := by rw [← hW']; exact bal W _
              exact hK.out _ _ _ (by simp only [puts, Act.put, List.setIfInBounds_toArray, List.set_cons_zero, List.set_cons_succ] <;> rfl) ⟨fun h => below2 (hG h) hb, (fun h => f0.out h), (fun h => f1.out h), (fun h => f2.out h), (fun h => f3.out h), (fun h => f4.out h), (fun h => f5.out h), (fun h => f6.out h), (fun _ => ⟨⟨g6.1, hD.on 6 (by kernel_rfl)⟩, fun _ => ⟨W.heap.size, hGs, rfl, by rw [← hW']; exact Blk.newA W _ rfl⟩⟩), (fun h => (fun h => absurd (h.1.2.2.2.symm.trans hL) (by decide)) (f8.out h)), (fun h => f9.out h), (fun h => (fun h => absurd ((f8.out h.1).1.2.2.2.symm.trans hL) (by decide)) (f10.out h))⟩
            · intro L vs W hlen hL hD hI K hK
              obtain ⟨x0, x1, x2, x3, x4, x5, x6, x7, x8, x9, x10, rfl⟩ := len11 hlen
              have hG := hI.1
              replace hI := hI.2
              have f0 := hide hI.1
              replace hI := hI.2
              have f1 := hide hI.1
              replace hI := hI.2
              have f2 := hide hI.1
              replace hI := hI.2
              have f3 := hide hI.1
              replace hI := hI.2
              have f4 := hide hI.1
              replace hI := hI.2
              have f5 := hide hI.1
              replace hI := hI.2
              have f6 := hide hI.1
              replace hI := hI.2
              have f7 := hide hI.1
              replace hI := hI.2
              have f8 := hide hI.1
              replace hI := hI.2
              have f9 := hide hI.1
              replace hI := hI.2
              have f10 := hide hI
              clear hI
              obtain rfl := f1.out (hD.on 1 (by kernel_rfl))
              have g7 := f7.out (hD.on 7 (by kernel_rfl))
              try simp only [puts, Act.put, List.setIfInBounds_toArray, List.set_cons_zero, List.set_cons_succ]
              obtain ⟨b0, hb0, rfl, hB0⟩ := g7.2 hL
              have hbW := hG hL
              have hOW := hOR.later' hbW
              have hGs := hbW.size
              refine step_app_recs3 infoRow rfl (by decide) Try.underlying27 rfl _ _ rfl (W1.heap.size + 1) _ Lr rfl hOW _ _ _ [rowCells x (.slice ca x.coef.length cc)] rfl rfl (fun r hr => by simp at hr; rw [hr]; rfl) (fun u hu => by simp only [List.flatten_cons, List.flatten_nil, List.append_nil] at hu; exact rowCells_one u hu) (news2 hB0) (fun h => by cases h) (by simp only [List.length_singleton]; omega) (by simp only [List.length_singleton]; omega) (by omega) ?_
              intro v' W' hO' hg'
              have hE' := (EffE.of_below hbW).trans (effE_of_grown hOW hg')
              obtain ⟨g', c', e'⟩ := own_some hO'
              exact hK.out _ _ _ (by simp only [puts, Act.put, List.setIfInBounds_toArray, List.set_cons_zero, List.set_cons_succ] <;> rfl) ⟨(fun h => by cases h), (fun h => f0.out h), (fun h => f1.out h), (fun h => f2.out h), (fun h => f3.out h), (fun h => f4.out h), (fun h => f5.out h), (fun h => f6.out h), (fun h => (fun h => ⟨h.1, fun h8 => by cases h8⟩) (f7.out h)), (fun _ => ⟨⟨hD.on 1 (by kernel_rfl), g7.1.1, g7.1.2, hD.on 7 (by kernel_rfl)⟩, fun _ => ⟨g', c', e', hO', hE'⟩⟩), (fun h => f9.out h), (fun h => (fun h => absurd (h.1.symm.trans hL) (by decide)) (f10.out h))⟩
            · intro L vs W hlen hL hD hI K hK
              obtain ⟨x0, x1, x2, x3, x4, x5, x6, x7, x8, x9, x10, rfl⟩ := len11 hlen
              have hG := hI.1
              replace hI := hI.2
              have f0 := hide hI.1
              replace hI := hI.2
              have f1 := hide hI.1
              replace hI := hI.2
              have f2 := hide hI.1
              replace hI := hI.2
              have f3 := hide hI.1
              replace hI := hI.2
              have f4 := hide hI.1
              replace hI := hI.2
              have f5 := hide hI.1
              replace hI := hI.2
              have f6 := hide hI.1
              replace hI := hI.2
              have f7 := hide hI.1
              replace hI := hI.2
              have f8 := hide hI.1
              replace hI := hI.2
              have f9 := hide hI.1
              replace hI := hI.2
              have f10 := hide hI
              clear hI
              try simp only [puts, Act.put, List.setIfInBounds_toArray, List.set_cons_zero, List.set_cons_succ]
              try go_simp
              exact hK.out _ _ _ (by simp only [puts, Act.put, List.setIfInBounds_toArray, List.set_cons_zero, List.set_cons_succ] <;> rfl) ⟨hG, (fun h => f0.out h), (fun h => f1.out h), (fun h => f2.out h), (fun h => f3.out h), (fun h => f4.out h), (fun h => f5.out h), (fun h => f6.out h), (fun h => f7.out h), (fun h => f8.out h), (fun _ => rfl), (fun h => f10.out h)⟩
            · intro L vs W hlen hL hD hI K hK
              obtain ⟨x0, x1, x2, x3, x4, x5, x6, x7, x8, x9, x10, rfl⟩ := len11 hlen
              have hG := hI.1
              replace hI := hI.2
              have f0 := hide hI.1
              replace hI := hI.2
              have f1 := hide hI.1
              replace hI := hI.2
              have f2 := hide hI.1
              replace hI := hI.2
              have f3 := hide hI.1
              replace hI := hI.2
              have f4 := hide hI.1
              replace hI := hI.2
              have f5 := hide hI.1
              replace hI := hI.2
              have f6 := hide hI.1
              replace hI := hI.2
              have f7 := hide hI.1
              replace hI := hI.2
              have f8 := hide hI.1
              replace hI := hI.2
              have f9 := hide hI.1
              replace hI := hI.2
              have f10 := hide hI
              clear hI
              have g8 := f8.out (hD.on 8 (by kernel_rfl))
              obtain rfl := f9.out (hD.on 9 (by kernel_rfl))
              try simp only [puts, Act.put, List.setIfInBounds_toArray, List.set_cons_zero, List.set_cons_succ]
              obtain ⟨g8', c8', rfl, hO8, hE8⟩ := g8.2 hL
              have bO8 := hE8.blk hO (by decide)
              have z1 := bO8.frozen 1
              have z2 := bO8.cell 1 rfl
              go_simp
              have hb : True := trivial
              exact hK.out _ undef _ (by simp only [puts, Act.put, List.setIfInBounds_toArray, List.set_cons_zero, List.set_cons_succ] <;> rfl) ⟨fun h => absurd (h.symm.trans (hD.on 8 (by kernel_rfl))) (by decide), (fun h => f0.out h), (fun h => f1.out h), (fun h => f2.out h), (fun h => f3.out h), (fun h => f4.out h), (fun h => f5.out h), (fun h => f6.out h), (fun h => (fun h => ⟨h.1, fun h8 => absurd (h8.symm.trans (hD.on 8 (by kernel_rfl))) (by decide)⟩) (f7.out h)), (fun h => (fun h => ⟨h.1, fun h10 => by cases h10⟩) (f8.out h)), (fun h => f9.out h), (fun _ => ⟨hD.on 8 (by kernel_rfl), g8', c8', rfl, hO8.setO bO8 (by decide) _, bO8.set 1 _, hE8.toY _⟩)⟩
          intro L vs W hlen hall hI
          obtain ⟨x0, x1, x2, x3, x4, x5, x6, x7, x8, x9, x10, rfl⟩ := len11 hlen
          have hG := hI.1
          replace hI := hI.2
          have f0 := hide hI.1
          replace hI := hI.2
          have f1 := hide hI.1
          replace hI := hI.2
          have f2 := hide hI.1
          replace hI := hI.2
          have f3 := hide hI.1
          replace hI := hI.2
          have f4 := hide hI.1
          replace hI := hI.2
          have f5 := hide hI.1
          replace hI := hI.2
          have f6 := hide hI.1
          replace hI := hI.2
          have f7 := hide hI.1
          replace hI := hI.2
          have f8 := hide hI.1
          replace hI := hI.2
          have f9 := hide hI.1
          replace hI := hI.2
          have f10 := hide hI
          clear hI
          obtain rfl := f0.out (hall 0 (by decide))
          obtain rfl := f1.out (hall 1 (by decide))
          obtain rfl := f2.out (hall 2 (by decide))
          obtain rfl := f3.out (hall 3 (by decide))
          obtain rfl := f4.out (hall 4 (by decide))
          have g5 := f5.out (hall 5 (by decide))
          have g6 := f6.out (hall 6 (by decide))
          have g7 := f7.out (hall 7 (by decide))
          have g8 := f8.out (hall 8 (by decide))
          obtain rfl := f9.out (hall 9 (by decide))
          have g10 := f10.out (hall 10 (by decide))
          have hal := hide hall
          clear hall f0 f1 f2 f3 f4 f5 f6 f7 f8 f9 f10
          try simp only [puts, Act.put, List.setIfInBounds_toArray, List.set_cons_zero, List.set_cons_succ]
          obtain ⟨-, g9', c9', rfl, hO9, hB9, hE9⟩ := g10
          have hb9 := hE9.below (C := W1.heap.size) (Nat.le_succ _) (Nat.le_refl _) (Nat.le_of_lt hNT)
          have hs9 := hE9.size
          go_wp2_with fail
          go_roundw
          case rel => exact ⟨k + 1, _, _, by omega, by go_num, by rw [HAN.out HH.out], hB9, hO9, by rw [HON'.out]; exact HLW.out x _ e7, hbr.trans hb9, by omega⟩
          case measure => simp [intOf]; omega
      · have hmd : decide (m < l.length) = false := by simpa using hml
        have hhit : hitK l k = false := by rw [HHK.out, hmd]; rfl
        have HH := hide hhit
        clear hhit
        obtain ⟨b', o', cv', hra, hck'⟩ := HRC.out k hlt
        have HLW := hide (fun (x : RowD) (cv : Value) (h : IntsAt w cv x.coef) => hlow.app h)
        have hcw := hck'
        have HON' := hide (HON.out HH.out)
        have hLr : Lr.length ≤ 300 := by have := HRL.out; have := hlow.1; omega
        generalize p.rows.getD k row0 = x at hck' hcw HON'
        obtain ⟨e0, e1, e2, e3, e4, e5, e6⟩ := hck'.below hbwr
        obtain ⟨-, -, -, -, -, -, e7⟩ := hcw
        obtain ⟨ca, cc, rfl, -, -, -⟩ := id e6
        subst hra
        obtain ⟨va, vc, rfl⟩ := own_form hOR rfl
        have o1 := hO.cell 1 rfl
        have hNT : W1.heap.size < wr.heap.size := hO.lt
        clear hck'
        go_wp2_with fail
        refine wp_region_inv [some 47, some 48, some 49, some 50, some 51, some 52, some 53, some 54, some 55, some 56, none] (fun L vs W => match vs with | [x0, x1, x2, x3, x4, x5, x6, x7, x8, x9, x10] => (L 8 = false → Below wr.heap.size wr W) ∧ (L 0 = true → x0 = .pointer (some ⟨W1.heap.size, 1, none⟩)) ∧ (L 1 = true → x1 = .slice va Lr.length vc) ∧ (L 2 = true → x2 = .pointer (some ⟨w.heap.size, 1, none⟩)) ∧ (L 3 = true → x3 = .slice (some ⟨b', o', none⟩) p.rows.length rc) ∧ (L 4 = true → x4 = .int .i64 k) ∧ (L 5 = true → L 3 = true ∧ x5 = .pointer (some ⟨b', o' + k * 6, none⟩)) ∧ (L 6 = true → L 3 = true ∧ x6 = rowV x (.slice ca x.coef.length cc)) ∧ (L 7 = true → (L 3 = true ∧ L 6 = true) ∧ (L 8 = false → ∃ b0 : Nat, wr.heap.size ≤ b0 ∧ x7 = .slice (some ⟨b0, 0, none⟩) 1 1 ∧ Blk W b0 (rowCells x (.slice ca x.coef.length cc)) 26)) ∧ (L 8 = true → (L 1 = true ∧ L 3 = true ∧ L 6 = true ∧ L 7 = true) ∧ (L 10 = false → ∃ g c, x8 = .slice (some ⟨g, 0, none⟩) (Lr.length + 1) c ∧ OwnR W (W1.heap.size + 1) 26 6 x8 (Lr ++ [rowCells x (.slice ca x.coef.length cc)]) ∧ EffE (W1.heap.size + 1) 26 wr W)) ∧ (L 9 = true → x9 = .pointer (some ⟨W1.heap.size, 1, none⟩)) ∧ (L 10 = true → L 8 = true ∧ ∃ g c, x8 = .slice (some ⟨g, 0, none⟩) (Lr.length + 1) c ∧ OwnR W (W1.heap.size + 1) 26 6 x8 (Lr ++ [rowCells x (.slice ca x.coef.length cc)]) ∧ Blk W W1.heap.size [.int .i64 p.vars, x8, .slice ga p.gain.length gc] 29 ∧ EffY (W1.heap.size + 1) 26 W1.heap.size wr W) | _ => False) [_, _, _, _, _, _, _, _, _, _, undef] (by kernel_rfl) (by kernel_rfl) rfl (by simp only [puts, Act.put, List.setIfInBounds_toArray, List.set_cons_zero, List.set_cons_succ] <;> rfl) ?_ ?_ ?_
        · exact ⟨fun _ => (Below.refl _ _).drew, (fun h => by cases h), (fun h => by cases h), (fun h => by cases h), (fun h => by cases h), (fun h => by cases h), (fun h => by cases h), (fun h => by cases h), (fun h => by cases h), (fun h => by cases h), (fun h => by cases h), (fun h => by cases h)⟩
        · refine ⟨?_, ?_, ?_, ?_, ?_, ?_, ?_, ?_, ?_, ?_, ?_, trivial⟩
          · intro L vs W hlen hL hD hI K hK
            obtain ⟨x0, x1, x2, x3, x4, x5, x6, x7, x8, x9, x10, rfl⟩ := len11 hlen
            have hG := hI.1
            replace hI := hI.2
            have f0 := hide hI.1
            replace hI := hI.2
            have f1 := hide hI.1
            replace hI := hI.2
            have f2 := hide hI.1
            replace hI := hI.2
            have f3 := hide hI.1
            replace hI := hI.2
            have f4 := hide hI.1
            replace hI := hI.2
            have f5 := hide hI.1
            replace hI := hI.2
            have f6 := hide hI.1
            replace hI := hI.2
            have f7 := hide hI.1
            replace hI := hI.2
            have f8 := hide hI.1
            replace hI := hI.2
            have f9 := hide hI.1
            replace hI := hI.2
            have f10 := hide hI
            clear hI
            try simp only [puts, Act.put, List.setIfInBounds_toArray, List.set_cons_zero, List.set_cons_succ]
            try go_simp
            exact hK.out _ _ _ (by simp only [puts, Act.put, List.setIfInBounds_toArray, List.set_cons_zero, List.set_cons_succ] <;> rfl) ⟨hG, (fun _ => rfl), (fun h => f1.out h), (fun h => f2.out h), (fun h => f3.out h), (fun h => f4.out h), (fun h => f5.out h), (fun h => f6.out h), (fun h => f7.out h), (fun h => f8.out h), (fun h => f9.out h), (fun h => f10.out h)⟩
          · intro L vs W hlen hL hD hI K hK
            obtain ⟨x0, x1, x2, x3, x4, x5, x6, x7, x8, x9, x10, rfl⟩ := len11 hlen
            have hG := hI.1
            replace hI := hI.2
            have f0 := hide hI.1
            replace hI := hI.2
            have f1 := hide hI.1
            replace hI := hI.2
            have f2 := hide hI.1
            replace hI := hI.2
            have f3 := hide hI.1
            replace hI := hI.2
            have f4 := hide hI.1
            replace hI := hI.2
            have f5 := hide hI.1
            replace hI := hI.2
            have f6 := hide hI.1
            replace hI := hI.2
            have f7 := hide hI.1
            replace hI := hI.2
            have f8 := hide hI.1
            replace hI := hI.2
            have f9 := hide hI.1
            replace hI := hI.2
            have f10 := hide hI
            clear hI
            obtain rfl := f0.out (hD.on 0 (by kernel_rfl))
            try simp only [puts, Act.put, List.setIfInBounds_toArray, List.set_cons_zero, List.set_cons_succ]
            have h8 : L 8 = false := Bool.eq_false_iff.2 (fun h => absurd ((f8.out h).1.1.symm.trans hL) (by decide))
            have o1' := keep (hG h8) o1
            go_simp
            exact hK.out _ _ _ (by simp only [puts, Act.put, List.setIfInBounds_toArray, List.set_cons_zero, List.set_cons_succ] <;> rfl) ⟨hG, (fun h => f0.out h), (fun _ => rfl), (fun h => f2.out h), (fun h => f3.out h), (fun h => f4.out h), (fun h => f5.out h), (fun h => f6.out h), (fun h => f7.out h), (fun h => (fun h => ⟨⟨rfl, h.1.2⟩, h.2⟩) (f8.out h)), (fun h => f9.out h), (fun h => f10.out h)⟩
          · intro L vs W hlen hL hD hI K hK
            obtain ⟨x0, x1, x2, x3, x4, x5, x6, x7, x8, x9, x10, rfl⟩ := len11 hlen
            have hG := hI.1
            replace hI := hI.2
            have f0 := hide hI.1
            replace hI := hI.2
            have f1 := hide hI.1
            replace hI := hI.2
            have f2 := hide hI.1
            replace hI := hI.2
            have f3 := hide hI.1
            replace hI := hI.2
            have f4 := hide hI.1
            replace hI := hI.2
            have f5 := hide hI.1
            replace hI := hI.2
            have f6 := hide hI.1
            replace hI := hI.2
            have f7 := hide hI.1
            replace hI := hI.2
            have f8 := hide hI.1
            replace hI := hI.2
            have f9 := hide hI.1
            replace hI := hI.2
            have f10 := hide hI
            clear hI
            try simp only [puts, Act.put, List.setIfInBounds_toArray, List.set_cons_zero, List.set_cons_succ]
            try go_simp
            exact hK.out _ _ _ (by simp only [puts, Act.put, List.setIfInBounds_toArray, List.set_cons_zero, List.set_cons_succ] <;> rfl) ⟨hG, (fun h => f0.out h), (fun h => f1.out h), (fun _ => rfl), (fun h => f3.out h), (fun h => f4.out h), (fun h => f5.out h), (fun h => f6.out h), (fun h => f7.out h), (fun h => f8.out h), (fun h => f9.out h), (fun h => f10.out h)⟩
          · intro L vs W hlen hL hD hI K hK
            obtain ⟨x0, x1, x2, x3, x4, x5, x6, x7, x8, x9, x10, rfl⟩ := len11 hlen
            have hG := hI.1
            replace hI := hI.2
            have f0 := hide hI.1
            replace hI := hI.2
            have f1 := hide hI.1
            replace hI := hI.2
            have f2 := hide hI.1
            replace hI := hI.2
            have f3 := hide hI.1
            replace hI := hI.2
            have f4 := hide hI.1
            replace hI := hI.2
            have f5 := hide hI.1
            replace hI := hI.2
            have f6 := hide hI.1
            replace hI := hI.2
            have f7 := hide hI.1
            replace hI := hI.2
            have f8 := hide hI.1
            replace hI := hI.2
            have f9 := hide hI.1
            replace hI := hI.2
            have f10 := hide hI
            clear hI
            obtain rfl := f2.out (hD.on 2 (by kernel_rfl))
            try simp only [puts, Act.put, List.setIfInBounds_toArray, List.set_cons_zero, List.set_cons_succ]
            have h8 : L 8 = false := Bool.eq_false_iff.2 (fun h => absurd ((f8.out h).1.2.1.symm.trans hL) (by decide))
            have p1' := keep (hG h8) p1
            go_simp
            exact hK.out _ _ _ (by simp only [puts, Act.put, List.setIfInBounds_toArray, List.set_cons_zero, List.set_cons_succ] <;> rfl) ⟨hG, (fun h => f0.out h), (fun h => f1.out h), (fun h => f2.out h), (fun _ => rfl), (fun h => f4.out h), (fun h => (fun h => ⟨rfl, h.2⟩) (f5.out h)), (fun h => (fun h => ⟨rfl, h.2⟩) (f6.out h)), (fun h => (fun h => ⟨⟨rfl, h.1.2⟩, h.2⟩) (f7.out h)), (fun h => (fun h => ⟨⟨h.1.1, rfl, h.1.2.2⟩, h.2⟩) (f8.out h)), (fun h => f9.out h), (fun h => f10.out h)⟩
          · intro L vs W hlen hL hD hI K hK
            obtain ⟨x0, x1, x2, x3, x4, x5, x6, x7, x8, x9, x10, rfl⟩ := len11 hlen
            have hG := hI.1
            replace hI := hI.2
            have f0 := hide hI.1
            replace hI := hI.2
            have f1 := hide hI.1
            replace hI := hI.2
            have f2 := hide hI.1
            replace hI := hI.2
            have f3 := hide hI.1
            replace hI := hI.2
            have f4 := hide hI.1
            replace hI := hI.2
            have f5 := hide hI.1
            replace hI := hI.2
            have f6 := hide hI.1
            replace hI := hI.2
            have f7 := hide hI.1
            replace hI := hI.2
            have f8 := hide hI.1
            replace hI := hI.2
            have f9 := hide hI.1
            replace hI := hI.2
            have f10 := hide hI
            clear hI
            try simp only [puts, Act.put, List.setIfInBounds_toArray, List.set_cons_zero, List.set_cons_succ]
            try go_simp
            exact hK.out _ _ _ (by simp only [puts, Act.put, List.setIfInBounds_toArray, List.set_cons_zero, List.set_cons_succ] <;> rfl) ⟨hG, (fun h => f0.out h), (fun h => f1.out h), (fun h => f2.out h), (fun h => f3.out h), (fun _ => rfl), (fun h => f5.out h), (fun h => f6.out h), (fun h => f7.out h), (fun h => f8.out h), (fun h => f9.out h), (fun h => f10.out h)⟩
          · intro L vs W hlen hL hD hI K hK
            obtain ⟨x0, x1, x2, x3, x4, x5, x6, x7, x8, x9, x10, rfl⟩ := len11 hlen
            have hG := hI.1
            replace hI := hI.2
            have f0 := hide hI.1
            replace hI := hI.2
            have f1 := hide hI.1
            replace hI := hI.2
            have f2 := hide hI.1
            replace hI := hI.2
            have f3 := hide hI.1
            replace hI := hI.2
            have f4 := hide hI.1
            replace hI := hI.2
            have f5 := hide hI.1
            replace hI := hI.2
            have f6 := hide hI.1
            replace hI := hI.2
            have f7 := hide hI.1
            replace hI := hI.2
            have f8 := hide hI.1
            replace hI := hI.2
            have f9 := hide hI.1
            replace hI := hI.2
            have f10 := hide hI
            clear hI
            obtain rfl := f3.out (hD.on 3 (by kernel_rfl))
            obtain rfl := f4.out (hD.on 4 (by kernel_rfl))
            try simp only [puts, Act.put, List.setIfInBounds_toArray, List.set_cons_zero, List.set_cons_succ]
            try go_simp
            exact hK.out _ _ _ (by simp only [puts, Act.put, List.setIfInBounds_toArray, List.set_cons_zero, List.set_cons_succ] <;> rfl) ⟨hG, (fun h => f0.out h), (fun h => f1.out h), (fun h => f2.out h), (fun h => f3.out h), (fun h => f4.out h), (fun _ => ⟨hD.on 3 (by kernel_rfl), rfl⟩), (fun h => f6.out h), (fun h => f7.out h), (fun h => f8.out h), (fun h => f9.out h), (fun h => f10.out h)⟩
          · intro L vs W hlen hL hD hI K hK
            obtain ⟨x0, x1, x2, x3, x4, x5, x6, x7, x8, x9, x10, rfl⟩ := len11 hlen
            have hG := hI.1
            replace hI := hI.2
            have f0 := hide hI.1
            replace hI := hI.2
            have f1 := hide hI.1
            replace hI := hI.2
            have f2 := hide hI.1
            replace hI := hI.2
            have f3 := hide hI.1
            replace hI := hI.2
            have f4 := hide hI.1
            replace hI := hI.2
            have f5 := hide hI.1
            replace hI := hI.2
            have f6 := hide hI.1
            replace hI := hI.2
            have f7 := hide hI.1
            replace hI := hI.2
            have f8 := hide hI.1
            replace hI := hI.2
            have f9 := hide hI.1
            replace hI := hI.2
            have f10 := hide hI
            clear hI
            have g5 := f5.out (hD.on 5 (by kernel_rfl))
            try simp only [puts, Act.put, List.setIfInBounds_toArray, List.set_cons_zero, List.set_cons_succ]
            obtain rfl := g5.2
            have h8 : L 8 = false := Bool.eq_false_iff.2 (fun h => absurd ((f8.out h).1.2.2.1.symm.trans hL) (by decide))
            have e0' := keep (hG h8) e0
            have e1' := keep (hG h8) e1
            have e2' := keep (hG h8) e2
            have e3' := keep (hG h8) e3
            have e4' := keep (hG h8) e4
            have e5' := keep (hG h8) e5
            go_simp
            exact hK.out _ _ _ (by simp only [puts, Act.put, List.setIfInBounds_toArray, List.set_cons_zero, List.set_cons_succ] <;> rfl) ⟨hG, (fun h => f0.out h), (fun h => f1.out h), (fun h => f2.out h), (fun h => f3.out h), (fun h => f4.out h), (fun h => f5.out h), (fun _ => ⟨g5.1, rfl⟩), (fun h => (fun h => ⟨⟨h.1.1, rfl⟩, h.2⟩) (f7.out h)), (fun h => (fun h => ⟨⟨h.1.1, h.1.2.1, rfl, h.1.2.2.2⟩, h.2⟩) (f8.out h)), (fun h => f9.out h), (fun h => f10.out h)⟩
          · intro L vs W hlen hL hD hI K hK
            obtain ⟨x0, x1, x2, x3, x4, x5, x6, x7, x8, x9, x10, rfl⟩ := len11 hlen
            have hG := hI.1
            replace hI := hI.2
            have f0 := hide hI.1
            replace hI := hI.2
            have f1 := hide hI.1
            replace hI := hI.2
            have f2 := hide hI.1
            replace hI := hI.2
            have f3 := hide hI.1
            replace hI := hI.2
            have f4 := hide hI.1
            replace hI := hI.2
            have f5 := hide hI.1
            replace hI := hI.2
            have f6 := hide hI.1
            replace hI := hI.2
            have f7 := hide hI.1
            replace hI := hI.2
            have f8 := hide hI.1
            replace hI := hI.2
            have f9 := hide hI.1
            replace hI := hI.2
            have f10 := hide hI
            clear hI
            have g6 := f6.out (hD.on 6 (by kernel_rfl))
            try simp only [puts, Act.put, List.setIfInBounds_toArray, List.set_cons_zero, List.set_cons_succ]
            obtain rfl := g6.2
            have h8 : L 8 = false := Bool.eq_false_iff.2 (fun h => absurd ((f8.out h).1.2.2.2.symm.trans hL) (by decide))
            have hGs := (hG h8).size
            go_simp
            generalize hW' : World.alloc W _ = W'
            have hb : Below W.heap.size W W' := by rw [← hW']; exact bal W _
            exact hK.out _ _ _ (by simp only [puts, Act.put, List.setIfInBounds_toArray, List.set_cons_zero, List.set_cons_succ] <;> rfl) ⟨fun h => below2 (hG h) hb, (fun h => f0.out h), (fun h => f1.out h), (fun h => f2.out h), (fun h => f3.out h), (fun h => f4.out h), (fun h => f5.out h), (fun h => f6.out h), (fun _ => ⟨⟨g6.1, hD.on 6 (by kernel_rfl)⟩, fun _ => ⟨W.heap.size, hGs, rfl, by rw [← hW']; exact Blk.newA W _ rfl⟩⟩), (fun h => (fun h => absurd (h.1.2.2.2.symm.trans hL) (by decide)) (f8.out h)), (fun h => f9.out h), (fun h => (fun h => absurd ((f8.out h.1).1.2.2.2.symm.trans hL) (by decide)) (f10.out h))⟩
          · intro L vs W hlen hL hD hI K hK
            obtain ⟨x0, x1, x2, x3, x4, x5, x6, x7, x8, x9, x10, rfl⟩ := len11 hlen
            have hG := hI.1
            replace hI := hI.2
            have f0 := hide hI.1
            replace hI := hI.2
            have f1 := hide hI.1
            replace hI := hI.2
            have f2 := hide hI.1
            replace hI := hI.2
            have f3 := hide hI.1
            replace hI := hI.2
            have f4 := hide hI.1
            replace hI := hI.2
            have f5 := hide hI.1
            replace hI := hI.2
            have f6 := hide hI.1
            replace hI := hI.2
            have f7 := hide hI.1
            replace hI := hI.2
            have f8 := hide hI.1
            replace hI := hI.2
            have f9 := hide hI.1
            replace hI := hI.2
            have f10 := hide hI
            clear hI
            obtain rfl := f1.out (hD.on 1 (by kernel_rfl))
            have g7 := f7.out (hD.on 7 (by kernel_rfl))
            try simp only [puts, Act.put, List.setIfInBounds_toArray, List.set_cons_zero, List.set_cons_succ]
            obtain ⟨b0, hb0, rfl, hB0⟩ := g7.2 hL
            have hbW := hG hL
            have hOW := hOR.later' hbW
            have hGs := hbW.size
            refine step_app_recs3 infoRow rfl (by decide) Try.underlying27 rfl _ _ rfl (W1.heap.size + 1) _ Lr rfl hOW _ _ _ [rowCells x (.slice ca x.coef.length cc)] rfl rfl (fun r hr => by simp at hr; rw [hr]; rfl) (fun u hu => by simp only [List.flatten_cons, List.flatten_nil, List.append_nil] at hu; exact rowCells_one u hu) (news2 hB0) (fun h => by cases h) (by simp only [List.length_singleton]; omega) (by simp only [List.length_singleton]; omega) (by omega) ?_
            intro v' W' hO' hg'
            have hE' := (EffE.of_below hbW).trans (effE_of_grown hOW hg')
            obtain ⟨g', c', e'⟩ := own_some hO'
            exact hK.out _ _ _ (by simp only [puts, Act.put, List.setIfInBounds_toArray, List.set_cons_zero, List.set_cons_succ] <;> rfl) ⟨(fun h => by cases h), (fun h => f0.out h), (fun h => f1.out h), (fun h => f2.out h), (fun h => f3.out h), (fun h => f4.out h), (fun h => f5.out h), (fun h => f6.out h), (fun h => (fun h => ⟨h.1, fun h8 => by cases h8⟩) (f7.out h)), (fun _ => ⟨⟨hD.on 1 (by kernel_rfl), g7.1.1, g7.1.2, hD.on 7 (by kernel_rfl)⟩, fun _ => ⟨g', c', e', hO', hE'⟩⟩), (fun h => f9.out h), (fun h => (fun h => absurd (h.1.symm.trans hL) (by decide)) (f10.out h))⟩
          · intro L vs W hlen hL hD hI K hK
            obtain ⟨x0, x1, x2, x3, x4, x5, x6, x7, x8, x9, x10, rfl⟩ := len11 hlen
            have hG := hI.1
            replace hI := hI.2
            have f0 := hide hI.1
            replace hI := hI.2
            have f1 := hide hI.1
            replace hI := hI.2
            have f2 := hide hI.1
            replace hI := hI.2
            have f3 := hide hI.1
            replace hI := hI.2
            have f4 := hide hI.1
            replace hI := hI.2
            have f5 := hide hI.1
            replace hI := hI.2
            have f6 := hide hI.1
            replace hI := hI.2
            have f7 := hide hI.1
            replace hI := hI.2
            have f8 := hide hI.1
            replace hI := hI.2
            have f9 := hide hI.1
            replace hI := hI.2
            have f10 := hide hI
            clear hI
            try simp only [puts, Act.put, List.setIfInBounds_toArray, List.set_cons_zero, List.set_cons_succ]
            try go_simp
            exact hK.out _ _ _ (by simp only [puts, Act.put, List.setIfInBounds_toArray, List.set_cons_zero, List.set_cons_succ] <;> rfl) ⟨hG, (fun h => f0.out h), (fun h => f1.out h), (fun h => f2.out h), (fun h => f3.out h), (fun h => f4.out h), (fun h => f5.out h), (fun h => f6.out h), (fun h => f7.out h), (fun h => f8.out h), (fun _ => rfl), (fun h => f10.out h)⟩
          · intro L vs W hlen hL hD hI K hK
            obtain ⟨x0, x1, x2, x3, x4, x5, x6, x7, x8, x9, x10, rfl⟩ := len11 hlen
            have hG := hI.1
            replace hI := hI.2
            have f0 := hide hI.1
            replace hI := hI.2
            have f1 := hide hI.1
            replace hI := hI.2
            have f2 := hide hI.1
            replace hI := hI.2
            have f3 := hide hI.1
            replace hI := hI.2
            have f4 := hide hI.1
            replace hI := hI.2
            have f5 := hide hI.1
            replace hI := hI.2
            have f6 := hide hI.1
            replace hI := hI.2
            have f7 := hide hI.1
            replace hI := hI.2
            have f8 := hide hI.1
            replace hI := hI.2
            have f9 := hide hI.1
            replace hI := hI.2
            have f10 := hide hI
            clear hI
            have g8 := f8.out (hD.on 8 (by kernel_rfl))
            obtain rfl := f9.out (hD.on 9 (by kernel_rfl))
            try simp only [puts, Act.put, List.setIfInBounds_toArray, List.set_cons_zero, List.set_cons_succ]
            obtain ⟨g8', c8', rfl, hO8, hE8⟩ := g8.2 hL
            have bO8 := hE8.blk hO (by decide)
            have z1 := bO8.frozen 1
            have z2 := bO8.cell 1 rfl
            go_simp
            have hb : True := trivial
            exact hK.out _ undef _ (by simp only [puts, Act.put, List.setIfInBounds_toArray, List.set_cons_zero, List.set_cons_succ] <;> rfl) ⟨fun h => absurd (h.symm.trans (hD.on 8 (by kernel_rfl))) (by decide), (fun h => f0.out h), (fun h => f1.out h), (fun h => f2.out h), (fun h => f3.out h), (fun h => f4.out h), (fun h => f5.out h), (fun h => f6.out h), (fun h => (fun h => ⟨h.1, fun h8 => absurd (h8.symm.trans (hD.on 8 (by kernel_rfl))) (by decide)⟩) (f7.out h)), (fun h => (fun h => ⟨h.1, fun h10 => by cases h10⟩) (f8.out h)), (fun h => f9.out h), (fun _ => ⟨hD.on 8 (by kernel_rfl), g8', c8', rfl, hO8.setO bO8 (by decide) _, bO8.set 1 _, hE8.toY _⟩)⟩
        intro L vs W hlen hall hI
        obtain ⟨x0, x1, x2, x3, x4, x5, x6, x7, x8, x9, x10, rfl⟩ := len11 hlen
        have hG := hI.1
        replace hI := hI.2
        have f0 := hide hI.1
        replace hI := hI.2
        have f1 := hide hI.1
        replace hI := hI.2
        have f2 := hide hI.1
        replace hI := hI.2
        have f3 := hide hI.1
        replace hI := hI.2
        have f4 := hide hI.1
        replace hI := hI.2
        have f5 := hide hI.1
        replace hI := hI.2
        have f6 := hide hI.1
        replace hI := hI.2
        have f7 := hide hI.1
        replace hI := hI.2
        have f8 := hide hI.1
        replace hI := hI.2
        have f9 := hide hI.1
        replace hI := hI.2
        have f10 := hide hI
        clear hI
        obtain rfl := f0.out (hall 0 (by decide))
        obtain rfl := f1.out (hall 1 (by decide))
        obtain rfl := f2.out (hall 2 (by decide))
        obtain rfl := f3.out (hall 3 (by decide))
        obtain rfl := f4.out (hall 4 (by decide))
        have g5 := f5.out (hall 5 (by decide))
        have g6 := f6.out (hall 6 (by decide))
        have g7 := f7.out (hall 7 (by decide))
        have g8 := f8.out (hall 8 (by decide))
        obtain rfl := f9.out (hall 9 (by decide))
        have g10 := f10.out (hall 10 (by decide))
        have hal := hide hall
        clear hall f0 f1 f2 f3 f4 f5 f6 f7 f8 f9 f10
        try simp only [puts, Act.put, List.setIfInBounds_toArray, List.set_cons_zero, List.set_cons_succ]
        obtain ⟨-, g9', c9', rfl, hO9, hB9, hE9⟩ := g10
        have hb9 := hE9.below (C := W1.heap.size) (Nat.le_succ _) (Nat.le_refl _) (Nat.le_of_lt hNT)
        have hs9 := hE9.size
        go_wp2_with fail
        go_roundw
        case rel => exact ⟨k + 1, _, _, by omega, by go_num, by rw [HAN.out HH.out], hB9, hO9, by rw [HON'.out]; exact HLW.out x _ e7, hbr.trans hb9, by omega⟩
        case measure => simp [intOf]; omega
    · obtain rfl : k = p.rows.length := by omega
      have hRne : w.heap.size + 1 ≠ W1.heap.size := Nat.ne_of_lt bR0.lt
      replace bR0 := bR0.later hbr
      by_cases he : atK l p.rows.length = l.length
      · have HWF : Hid (withoutF p l = ⟨p.vars, outK p.rows l p.rows.length, p.gain⟩) := hide (by
          unfold withoutF; rw [if_pos (by rw [HOK2.out, decide_eq_true he]), outK_eq he])
        have HEW : Hid (errW p l = 0) := hide (by unfold errW; rw [if_pos (by rw [HOK2.out, decide_eq_true he])])
        have hef : ((atK l p.rows.length : Int) != (l.length : Int)) = false := by rw [he]; simp
        obtain ⟨va, vc, rfl⟩ := own_form hOR hlow.1
        have HLO := hide hlow
        generalize outK p.rows l p.rows.length = OK at *
        clear hlow
        have o0 := hO.cell 0 rfl
        have o1 := hO.cell 1 rfl
        have o2 := hO.cell 2 rfl
        have t0 := bR0.cell 0 rfl
        have t1 := bR0.cell 1 rfl
        have t2 := bR0.cell 2 rfl
        have f0 := bR0.frozen 0
        have f1 := bR0.frozen 1
        have f2 := bR0.frozen 2
        clear he
        go_wp2_with fail
        have hORf := ((hOR.setO (j := 0) bR0 (by decide) (.int .i64 p.vars)).setO (j := 1) (bR0.set 0 _) (by decide) (.slice va OK.length vc)).setO (j := 2) ((bR0.set 0 _).set 1 _) (by decide) (.slice ga p.gain.length gc)
        obtain ⟨z1, z2, -⟩ := set3 bR0 (.int .i64 p.vars) (.slice va OK.length vc) (.slice ga p.gain.length gc)
        have z3 := z2 _ _ hbwr (by omega)
        generalize World.setCell (World.setCell _ _ _) ⟨w.heap.size + 1, 2, none⟩ _ = Wf at z1 z3 hORf ⊢
        have y0 := z1.cell 0 rfl
        have y1 := z1.cell 1 rfl
        have y2 := z1.cell 2 rfl
        refine bodyPost_ret (v := .tuple #[.agg #[.int .i64 p.vars, .slice va OK.length vc, .slice ga p.gain.length gc], .int .i64 0]) (by simp [results, Try.results31, go_sem, y0, y1, y2]) rfl ?_
        show ProgQ (withoutF p l) (errW p l) w _ _
        rw [HWF.out, HEW.out]
        exact ⟨_, _, rfl, HLO.out.rows hORf z3, HG0.below z3, z3⟩
      · have hef : ((atK l p.rows.length : Int) != (l.length : Int)) = true := bne_iff_ne.2 (fun h => he (Int.ofNat.inj h))
        have HK : Hid (okW p l = false) := hide (by rw [HOK2.out, decide_eq_false he])
        clear he
        have HWF : Hid (withoutF p l = ⟨0, [], []⟩) := hide (by unfold withoutF; rw [if_neg (by rw [HK.out]; simp)])
        have HEW : Hid (errW p l = 330) := hide (by unfold errW; rw [if_neg (by rw [HK.out]; simp)])
        have t0 := bR0.cell 0 rfl
        have t1 := bR0.cell 1 rfl
        have t2 := bR0.cell 2 rfl
        have f0 := bR0.frozen 0
        have f1 := bR0.frozen 1
        have f2 := bR0.frozen 2
        go_wp2_with fail
        obtain ⟨z1, z2, -⟩ := set3 bR0 (.int .i64 0) (.slice none 0 0) (.slice none 0 0)
        have z3 := z2 _ _ (hbwr) (by omega)
        generalize World.setCell (World.setCell _ _ _) ⟨w.heap.size + 1, 2, none⟩ _ = Wf at z1 z3 ⊢
        have y0 := z1.cell 0 rfl
        have y1 := z1.cell 1 rfl
        have y2 := z1.cell 2 rfl
        refine bodyPost_ret (v := .tuple #[.agg #[.int .i64 0, .slice none 0 0, .slice none 0 0], .int .i64 (330)]) (by simp [results, Try.results31, go_sem, y0, y1, y2]) rfl ?_
        show ProgQ (withoutF p l) (errW p l) w _ _
        rw [HWF.out, HEW.out]
        exact ⟨_, _, rfl, RowsIn.nil _, IntsIn.nil _, z3⟩
end Go.Proofs.Ytcaklldmcbpbfaa
