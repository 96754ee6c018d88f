/- The walks of the reference's bentClause and Bent: Bent returns some laws. Conditions: how the laws lie in memory; sizes; that integers are of 64 bits. -/
import Derived.Test.YtdjldidfnddpmaaGreatSkA
namespace Go.Proofs.YtdjldidfnddpmaaGreat
open Go.RowKit
/-- append([]int{}, x...), of the call's own -/
theorem app_copyO {w : World} {ops : Array Oper} {rest : List Oper} {o : Oper} {a : Act} {Q : Exit → Act → World → Prop} (hgd : o.guard = none) (s x : Operand)
    (ho : o.op = .call { callee := .builtin .append, args := #[s, x], argTypes := #[48, 48] }) (hs : a.eval s = .slice (some ⟨w.heap.size, 0, none⟩) 0 0) (xv : Value) (lx : List Int)
    (hx : a.eval x = xv) (hxs : IntsAt w xv lx) (hlen : lx.length < 100000)
    (h : ∀ va vc w', OwnI w' w.heap.size (.slice va lx.length vc) lx → Below w.heap.size w w' → wpList Tryz.prog ops Q rest (a.put o.dst (.slice va lx.length vc)) w') :
    wpList Tryz.prog ops Q (o :: rest) a (w.alloc (.cells #[] 3)) := by
  refine app_intsS hgd s x ho w.heap.size _ [] hs (lit_ints w) xv lx hx (hxs.below (bal w _)) (by simp; omega) (by simp) ?_
  intro v' w' hO hE _
  rw [List.nil_append] at hO
  obtain ⟨va, vc, rfl⟩ := hO.form
  refine h va vc w' hO ⟨hE.os, hE.tape, hE.output, by have := hE.size; simp at this; omega, fun k hk => ?_⟩
  rw [hE.block k (by simp; omega) (by intro e; have e : k = w.heap.size := Option.some.inj e; omega), Below.heap_alloc _ _ _ hk]
/-- the call returns a clause -/
def ClQ (A : Nat) (w : World) (e : Ending) (w' : World) : Prop := ∃ y nv bv, e = .returned (clauseV y nv bv) ∧ IntsIn (frmY A 3 w') nv y.needs ∧ IntsIn (frmY A 3 w') bv y.bars ∧ Below w.heap.size w w'
/-- the call returns some laws -/
def SomeCodeQ (w : World) (e : Ending) (w' : World) : Prop := ∃ cv rv fv c, e = .returned (codeV cv rv fv) ∧ CodeIn w'.cell? cv rv fv c ∧ Below w.heap.size w w'
theorem keeps6 {W : World} {b A : Nat} {vs : List Value} {t e : TypeId} (hb : Blk W b vs t) (ht : t ≠ e) (u0 u1 u2 u3 u4 u5 : Value) :
    Keeps (frmY A e W) (frmY A e ((((((W.setCell ⟨b, 0, none⟩ u0).setCell ⟨b, 1, none⟩ u1).setCell ⟨b, 2, none⟩ u2).setCell ⟨b, 3, none⟩ u3).setCell ⟨b, 4, none⟩ u4).setCell ⟨b, 5, none⟩ u5)) := fun a v h =>
  keeps_frmY_set (((((hb.set 0 u0).set 1 u1).set 2 u2).set 3 u3).set 4 u4) ht 5 u5 a v (keeps_frmY_set ((((hb.set 0 u0).set 1 u1).set 2 u2).set 3 u3) ht 4 u4 a v (keeps_frmY_set (((hb.set 0 u0).set 1 u1).set 2 u2) ht 3 u3 a v
    (keeps_frmY_set ((hb.set 0 u0).set 1 u1) ht 2 u2 a v (keeps_frmY_set (hb.set 0 u0) ht 1 u1 a v (keeps_frmY_set hb ht 0 u0 a v h)))))
theorem below7 {w W : World} {b c j : Nat} (h : Below w.heap.size w W) (hb : w.heap.size ≤ b) (hc : w.heap.size ≤ c) (u u0 u1 u2 u3 u4 u5 : Value) :
    Below w.heap.size w (((((((W.setCell ⟨c, j, none⟩ u).setCell ⟨b, 0, none⟩ u0).setCell ⟨b, 1, none⟩ u1).setCell ⟨b, 2, none⟩ u2).setCell ⟨b, 3, none⟩ u3).setCell ⟨b, 4, none⟩ u4).setCell ⟨b, 5, none⟩ u5) :=
  ((((((h.setCell (p := ⟨c, j, none⟩) hc _).setCell (p := ⟨b, 0, none⟩) hb _).setCell (p := ⟨b, 1, none⟩) hb _).setCell (p := ⟨b, 2, none⟩) hb _).setCell (p := ⟨b, 3, none⟩) hb _).setCell (p := ⟨b, 4, none⟩) hb _).setCell (p := ⟨b, 5, none⟩) hb _
theorem blk6 {W : World} {b : Nat} {t : TypeId} {v0 v1 v2 v3 v4 v5 : Value} (h : Blk W b [v0, v1, v2, v3, v4, v5] t) (u0 u1 u2 u3 u4 u5 : Value) :
    Blk ((((((W.setCell ⟨b, 0, none⟩ u0).setCell ⟨b, 1, none⟩ u1).setCell ⟨b, 2, none⟩ u2).setCell ⟨b, 3, none⟩ u3).setCell ⟨b, 4, none⟩ u4).setCell ⟨b, 5, none⟩ u5) b [u0, u1, u2, u3, u4, u5] t :=
  (((((h.set 0 u0).set 1 u1).set 2 u2).set 3 u3).set 4 u4).set 5 u5
set_option maxRecDepth 100000 in
set_option maxHeartbeats 2000000 in
theorem bentc_any (x : ClauseD) (nv bv : Value) (how n : Int) (A : Nat) (w : World) (hA : A ≤ w.heap.size) (hn : IntsIn (frmY A 3 w) nv x.needs) (hb : IntsIn (frmY A 3 w) bv x.bars) (h1 : x.needs.length ≤ 1000) (h2 : x.bars.length ≤ 1000) (hh : i64B how) :
    Calls Tryz.prog 29 #[clauseV x nv bv, .int .i64 how, .int .i64 n] w (ClQ A w) := by
  obtain ⟨na, nn, rfl, -⟩ := id hn
  obtain ⟨ba, bn, rfl, -⟩ := id hb
  have HN := hide hn
  have HB := hide hb
  have HP := hide (fun W => pickr_any how 5 W hh.1 hh.2 (by decide) (by decide))
  obtain ⟨h50, h51⟩ := pkF_bd (n := 5) (by decide) how
  generalize pkF how 5 = p at *
  clear hn hb hh
  go_enter Tryz.func29, Tryz.ntmps29
  go_wp2_with fail
  generalize hX1 : World.alloc w _ = X1
  have zX1 : X1.heap.size = w.heap.size + 1 := by rw [← hX1]; simp
  have bX1 : Below w.heap.size w X1 := by rw [← hX1]; exact bal w _
  have bX_1 : Blk X1 (w.heap.size) (clauseC x (.slice na x.needs.length nn) (.slice ba x.bars.length bn)) 67 := by rw [← hX1]; exact Blk.newA w _ (by first | rfl | simp)
  generalize hX2 : World.alloc X1 _ = X2
  have zX2 : X2.heap.size = w.heap.size + 1 + 1 := by rw [← hX2]; simp [zX1]
  have bX2 : Below X1.heap.size X1 X2 := by rw [← hX2]; exact bal X1 _
  have bR : Blk X2 (w.heap.size + 1) [.int .i64 0, .int .i64 0, .int .i64 0, .slice none 0 0, .slice none 0 0, .int .i64 0] 67 := by rw [← hX2, ← zX1]; exact Blk.newA X1 _ (by first | rfl | simp)
  have bX := bX_1.later bX2
  have Xb := below2 (bX1) bX2
  have Xz := zX2
  clear hX1 zX1 bX1 hX2 zX2 bX2 bX_1
  refine (HP.out _).mono ?_
  rintro e w2 ⟨rfl, hw⟩; obtain rfl := hw.symm
  have hps : p = 0 ∨ p = 1 ∨ p = 2 ∨ p = 3 ∨ p = 4 := by omega
  rcases hps with hp | hp | hp | hp | hp
  · subst hp
    have m0 := bX.cell 0 rfl
    have m1 := bX.cell 1 rfl
    have m2 := bX.cell 2 rfl
    have m3 := bX.cell 3 rfl
    have m4 := bX.cell 4 rfl
    have m5 := bX.cell 5 rfl
    have r0 := bR.cell 0 rfl
    have r1 := bR.cell 1 rfl
    have r2 := bR.cell 2 rfl
    have r3 := bR.cell 3 rfl
    have r4 := bR.cell 4 rfl
    have r5 := bR.cell 5 rfl
    have rf0 := bR.frozen 0
    have rf1 := bR.frozen 1
    have rf2 := bR.frozen 2
    have rf3 := bR.frozen 3
    have rf4 := bR.frozen 4
    have rf5 := bR.frozen 5
    have mf := bX.frozen 0
    have HXB := hide Xb
    clear Xb
    go_wp2_with fail
    have hB := below7 HXB.out (show w.heap.size ≤ w.heap.size + 1 by omega) (Nat.le_refl _) (j := 0) (.int .i64 n) (.int .i64 n) (.int .i64 x.sf) (.int .i64 x.st) (.slice na x.needs.length nn) (.slice ba x.bars.length bn) (.int .i64 x.gives)
    have q := blk6 (bR.other (show w.heap.size + 1 ≠ w.heap.size by omega) 0 (.int .i64 n)) (.int .i64 n) (.int .i64 x.sf) (.int .i64 x.st) (.slice na x.needs.length nn) (.slice ba x.bars.length bn) (.int .i64 x.gives)
    have x0 := q.cell 0 rfl
    have x1 := q.cell 1 rfl
    have x2 := q.cell 2 rfl
    have x3 := q.cell 3 rfl
    have x4 := q.cell 4 rfl
    have x5 := q.cell 5 rfl
    refine bodyPost_ret (v := clauseV { x with pub := n } (.slice na x.needs.length nn) (.slice ba x.bars.length bn)) (by simp [results, Tryz.results29, go_sem, x0, x1, x2, x3, x4, x5]) rfl ?_
    exact ⟨{ x with pub := n }, _, _, rfl, HN.out.keeps (keeps_frmY_below hB), HB.out.keeps (keeps_frmY_below hB), hB⟩
  · subst hp
    have m0 := bX.cell 0 rfl
    have m1 := bX.cell 1 rfl
    have m2 := bX.cell 2 rfl
    have m3 := bX.cell 3 rfl
    have m4 := bX.cell 4 rfl
    have m5 := bX.cell 5 rfl
    have r0 := bR.cell 0 rfl
    have r1 := bR.cell 1 rfl
    have r2 := bR.cell 2 rfl
    have r3 := bR.cell 3 rfl
    have r4 := bR.cell 4 rfl
    have r5 := bR.cell 5 rfl
    have rf0 := bR.frozen 0
    have rf1 := bR.frozen 1
    have rf2 := bR.frozen 2
    have rf3 := bR.frozen 3
    have rf4 := bR.frozen 4
    have rf5 := bR.frozen 5
    have mf := bX.frozen 1
    have HXB := hide Xb
    clear Xb
    go_wp2_with fail
    have hB := below7 HXB.out (show w.heap.size ≤ w.heap.size + 1 by omega) (Nat.le_refl _) (j := 1) (.int .i64 n) (.int .i64 x.pub) (.int .i64 n) (.int .i64 x.st) (.slice na x.needs.length nn) (.slice ba x.bars.length bn) (.int .i64 x.gives)
    have q := blk6 (bR.other (show w.heap.size + 1 ≠ w.heap.size by omega) 1 (.int .i64 n)) (.int .i64 x.pub) (.int .i64 n) (.int .i64 x.st) (.slice na x.needs.length nn) (.slice ba x.bars.length bn) (.int .i64 x.gives)
    have x0 := q.cell 0 rfl
    have x1 := q.cell 1 rfl
    have x2 := q.cell 2 rfl
    have x3 := q.cell 3 rfl
    have x4 := q.cell 4 rfl
    have x5 := q.cell 5 rfl
    refine bodyPost_ret (v := clauseV { x with sf := n } (.slice na x.needs.length nn) (.slice ba x.bars.length bn)) (by simp [results, Tryz.results29, go_sem, x0, x1, x2, x3, x4, x5]) rfl ?_
    exact ⟨{ x with sf := n }, _, _, rfl, HN.out.keeps (keeps_frmY_below hB), HB.out.keeps (keeps_frmY_below hB), hB⟩
  · subst hp
    have m0 := bX.cell 0 rfl
    have m1 := bX.cell 1 rfl
    have m2 := bX.cell 2 rfl
    have m3 := bX.cell 3 rfl
    have m4 := bX.cell 4 rfl
    have m5 := bX.cell 5 rfl
    have r0 := bR.cell 0 rfl
    have r1 := bR.cell 1 rfl
    have r2 := bR.cell 2 rfl
    have r3 := bR.cell 3 rfl
    have r4 := bR.cell 4 rfl
    have r5 := bR.cell 5 rfl
    have rf0 := bR.frozen 0
    have rf1 := bR.frozen 1
    have rf2 := bR.frozen 2
    have rf3 := bR.frozen 3
    have rf4 := bR.frozen 4
    have rf5 := bR.frozen 5
    have mf := bX.frozen 5
    have HXB := hide Xb
    clear Xb
    go_wp2_with fail
    have hB := below7 HXB.out (show w.heap.size ≤ w.heap.size + 1 by omega) (Nat.le_refl _) (j := 5) (.int .i64 n) (.int .i64 x.pub) (.int .i64 x.sf) (.int .i64 x.st) (.slice na x.needs.length nn) (.slice ba x.bars.length bn) (.int .i64 n)
    have q := blk6 (bR.other (show w.heap.size + 1 ≠ w.heap.size by omega) 5 (.int .i64 n)) (.int .i64 x.pub) (.int .i64 x.sf) (.int .i64 x.st) (.slice na x.needs.length nn) (.slice ba x.bars.length bn) (.int .i64 n)
    have x0 := q.cell 0 rfl
    have x1 := q.cell 1 rfl
    have x2 := q.cell 2 rfl
    have x3 := q.cell 3 rfl
    have x4 := q.cell 4 rfl
    have x5 := q.cell 5 rfl
    refine bodyPost_ret (v := clauseV { x with gives := n } (.slice na x.needs.length nn) (.slice ba x.bars.length bn)) (by simp [results, Tryz.results29, go_sem, x0, x1, x2, x3, x4, x5]) rfl ?_
    exact ⟨{ x with gives := n }, _, _, rfl, HN.out.keeps (keeps_frmY_below hB), HB.out.keeps (keeps_frmY_below hB), hB⟩
  · subst hp
    have HX' : Hid (IntsAt X2 (.slice na x.needs.length nn) x.needs) := hide (IntsIn.keeps (keeps_frm _ _) (IntsIn.keeps (keeps_frmY _ _ _) (HN.out.keeps (keeps_frmY_below Xb))))
    have HXB := hide Xb
    have HBX := hide bX
    have HBR := hide bR
    have n3 := fun o => keep (bal X2 o) (bX.cell 3 rfl)
    have hA2 : A ≤ X2.heap.size := by omega
    have HA2 := hide hA2
    have HLL : Hid (x.needs.length < 100000) := hide (by omega)
    have hXs : w.heap.size ≤ X2.heap.size := by omega
    have HXS := hide hXs
    clear Xb hA hA2 Xz bX bR hXs
    generalize hLg : x.needs = L at *
    go_wp2_with (first | (at_builtin; refine app_int rfl _ _ rfl X2.heap.size _ _ rfl hO1 n rfl (by have := HLL.out; omega) hs1 ?_; intro v2 w2 hO2 hb2 hs2; obtain ⟨va2, vc2, e2⟩ := hO2.form; obtain ⟨lm, hm2⟩ : ∃ m, (L ++ [n]).length = m := ⟨_, rfl⟩; rw [hm2] at e2; subst e2; clear hm2; have hb12 := hb1.trans hb2; have bX2 := HBX.out.later hb12; have bR2 := HBR.out.later hb12; have m0 := bX2.cell 0 rfl; have m1 := bX2.cell 1 rfl; have m2 := bX2.cell 2 rfl; have m3 := bX2.cell 3 rfl; have m4 := bX2.cell 4 rfl; have m5 := bX2.cell 5 rfl; have mf := bX2.frozen 3; have r0 := bR2.cell 0 rfl; have r1 := bR2.cell 1 rfl; have r2 := bR2.cell 2 rfl; have r3 := bR2.cell 3 rfl; have r4 := bR2.cell 4 rfl; have r5 := bR2.cell 5 rfl; have rf0 := bR2.frozen 0; have rf1 := bR2.frozen 1; have rf2 := bR2.frozen 2; have rf3 := bR2.frozen 3; have rf4 := bR2.frozen 4; have rf5 := bR2.frozen 5) | (at_builtin; refine app_copyO rfl _ _ rfl rfl _ L rfl HX'.out HLL.out ?_; intro va1 vc1 w1 hO1 hb1; have hs1 := hb1.size))
    have hB := below7 (HXB.out.trans (hb12.mono HXS.out)) (show w.heap.size ≤ w.heap.size + 1 by omega) (Nat.le_refl _) (j := 3) (.slice va2 lm vc2) (.int .i64 x.pub) (.int .i64 x.sf) (.int .i64 x.st) (.slice va2 lm vc2) (.slice ba x.bars.length bn) (.int .i64 x.gives)
    have bR3 := bR2.other (show w.heap.size + 1 ≠ w.heap.size by omega) 3 (.slice va2 lm vc2)
    have q := blk6 bR3 (.int .i64 x.pub) (.int .i64 x.sf) (.int .i64 x.st) (.slice va2 lm vc2) (.slice ba x.bars.length bn) (.int .i64 x.gives)
    have x0 := q.cell 0 rfl
    have x1 := q.cell 1 rfl
    have x2 := q.cell 2 rfl
    have x3 := q.cell 3 rfl
    have x4 := q.cell 4 rfl
    have x5 := q.cell 5 rfl
    refine bodyPost_ret (v := clauseV { x with needs := L ++ [n] } (.slice va2 lm vc2) (.slice ba x.bars.length bn)) (by simp [results, Tryz.results29, go_sem, x0, x1, x2, x3, x4, x5]) rfl ?_
    have hI : IntsIn (frmY A 3 w2) (.slice va2 lm vc2) (L ++ [n]) := hO2.intsY HA2.out
    have KK := fun v l (h : IntsIn (frmY A 3 w2) v l) => (h.keeps (keeps_frmY_set bX2 (by decide) 3 (.slice va2 lm vc2))).keeps (keeps6 (A := A) bR3 (by decide) (.int .i64 x.pub) (.int .i64 x.sf) (.int .i64 x.st) (.slice va2 lm vc2) (.slice ba x.bars.length bn) (.int .i64 x.gives))
    exact ⟨{ x with needs := L ++ [n] }, _, _, rfl, KK _ _ hI, KK _ _ (HB.out.keeps (keeps_frmY_below (HXB.out.trans (hb12.mono HXS.out)))), hB⟩
  · subst hp
    have HX' : Hid (IntsAt X2 (.slice ba x.bars.length bn) x.bars) := hide (IntsIn.keeps (keeps_frm _ _) (IntsIn.keeps (keeps_frmY _ _ _) (HB.out.keeps (keeps_frmY_below Xb))))
    have HXB := hide Xb
    have HBX := hide bX
    have HBR := hide bR
    have n3 := fun o => keep (bal X2 o) (bX.cell 4 rfl)
    have hA2 : A ≤ X2.heap.size := by omega
    have HA2 := hide hA2
    have HLL : Hid (x.bars.length < 100000) := hide (by omega)
    have hXs : w.heap.size ≤ X2.heap.size := by omega
    have HXS := hide hXs
    clear Xb hA hA2 Xz bX bR hXs
    generalize hLg : x.bars = L at *
    go_wp2_with (first | (at_builtin; refine app_int rfl _ _ rfl X2.heap.size _ _ rfl hO1 n rfl (by have := HLL.out; omega) hs1 ?_; intro v2 w2 hO2 hb2 hs2; obtain ⟨va2, vc2, e2⟩ := hO2.form; obtain ⟨lm, hm2⟩ : ∃ m, (L ++ [n]).length = m := ⟨_, rfl⟩; rw [hm2] at e2; subst e2; clear hm2; have hb12 := hb1.trans hb2; have bX2 := HBX.out.later hb12; have bR2 := HBR.out.later hb12; have m0 := bX2.cell 0 rfl; have m1 := bX2.cell 1 rfl; have m2 := bX2.cell 2 rfl; have m3 := bX2.cell 3 rfl; have m4 := bX2.cell 4 rfl; have m5 := bX2.cell 5 rfl; have mf := bX2.frozen 4; have r0 := bR2.cell 0 rfl; have r1 := bR2.cell 1 rfl; have r2 := bR2.cell 2 rfl; have r3 := bR2.cell 3 rfl; have r4 := bR2.cell 4 rfl; have r5 := bR2.cell 5 rfl; have rf0 := bR2.frozen 0; have rf1 := bR2.frozen 1; have rf2 := bR2.frozen 2; have rf3 := bR2.frozen 3; have rf4 := bR2.frozen 4; have rf5 := bR2.frozen 5) | (at_builtin; refine app_copyO rfl _ _ rfl rfl _ L rfl HX'.out HLL.out ?_; intro va1 vc1 w1 hO1 hb1; have hs1 := hb1.size))
    have hB := below7 (HXB.out.trans (hb12.mono HXS.out)) (show w.heap.size ≤ w.heap.size + 1 by omega) (Nat.le_refl _) (j := 4) (.slice va2 lm vc2) (.int .i64 x.pub) (.int .i64 x.sf) (.int .i64 x.st) (.slice na x.needs.length nn) (.slice va2 lm vc2) (.int .i64 x.gives)
    have bR3 := bR2.other (show w.heap.size + 1 ≠ w.heap.size by omega) 4 (.slice va2 lm vc2)
    have q := blk6 bR3 (.int .i64 x.pub) (.int .i64 x.sf) (.int .i64 x.st) (.slice na x.needs.length nn) (.slice va2 lm vc2) (.int .i64 x.gives)
    have x0 := q.cell 0 rfl
    have x1 := q.cell 1 rfl
    have x2 := q.cell 2 rfl
    have x3 := q.cell 3 rfl
    have x4 := q.cell 4 rfl
    have x5 := q.cell 5 rfl
    refine bodyPost_ret (v := clauseV { x with bars := L ++ [n] } (.slice na x.needs.length nn) (.slice va2 lm vc2)) (by simp [results, Tryz.results29, go_sem, x0, x1, x2, x3, x4, x5]) rfl ?_
    have hI : IntsIn (frmY A 3 w2) (.slice va2 lm vc2) (L ++ [n]) := hO2.intsY HA2.out
    have KK := fun v l (h : IntsIn (frmY A 3 w2) v l) => (h.keeps (keeps_frmY_set bX2 (by decide) 4 (.slice va2 lm vc2))).keeps (keeps6 (A := A) bR3 (by decide) (.int .i64 x.pub) (.int .i64 x.sf) (.int .i64 x.st) (.slice na x.needs.length nn) (.slice va2 lm vc2) (.int .i64 x.gives))
    exact ⟨{ x with bars := L ++ [n] }, _, _, rfl, KK _ _ (HN.out.keeps (keeps_frmY_below (HXB.out.trans (hb12.mono HXS.out)))), KK _ _ hI, hB⟩
/-! ## own laws of which something is put anew -/
theorem OwnR.setT {W : World} {B B' g n c j k k' : Nat} {e t : TypeId} {v : Value} {L L' : List (List Value)} (h : OwnR W B e k v L) (hO : OwnR W B' t k' (.slice (some ⟨g, 0, none⟩) n c) L') (hte : t ≠ e) (u : Value) : OwnR (W.setCell ⟨g, j, none⟩ u) B e k v L := by
  obtain ⟨⟨h1, h2⟩, h3⟩ := h
  rcases hO.form with ⟨e1, -⟩ | ⟨g', c', cur', e1, -, e3', -⟩
  · cases e1
  · cases e1
    refine ⟨⟨h1, h2.imp id ?_⟩, h3⟩
    rintro ⟨g2, cap, cur, e1, e2, e3, e4⟩
    refine ⟨g2, cap, cur, e1, e2, ?_, e4⟩
    refine (Below.heap_setCell W ⟨g, j, none⟩ u g2 ?_).trans e3
    show g2 ≠ g
    rintro rfl
    have := e3.symm.trans e3'
    simp at this; exact hte this.2.symm
theorem keeps_setT {W : World} {A B g n c j k : Nat} {e t : TypeId} {L : List (List Value)} (hO : OwnR W B t k (.slice (some ⟨g, 0, none⟩) n c) L) (hte : t ≠ e) (u : Value) : Keeps (frmY A e W) (frmY A e (W.setCell ⟨g, j, none⟩ u)) :=
  keeps_frmY_later fun i _ _ ht => Below.heap_setCell W ⟨g, j, none⟩ u i (by
    show i ≠ g
    rintro rfl
    rcases hO.form with ⟨e1, -⟩ | ⟨g', c', cur', e1, -, e3', -⟩
    · cases e1
    · cases e1
      unfold typ at ht; rw [e3'] at ht; simp at ht; exact hte ht)
theorem ClausesOwn.setT {W : World} {A B B' g n c j k : Nat} {t : TypeId} {v : Value} {l : List ClauseD} {L : List (List Value)} (h : ClausesOwn W A B v l) (hO : OwnR W B' t k (.slice (some ⟨g, 0, none⟩) n c) L) (h1 : t ≠ 67) (h2 : t ≠ 3) (u : Value) : ClausesOwn (W.setCell ⟨g, j, none⟩ u) A B v l := by
  obtain ⟨L', k1, k2, k3⟩ := h
  exact ⟨L', k1.setT hO h1 u, k2, fun i hi => let ⟨nv, bv, e, hn, hb⟩ := k3 i hi; ⟨nv, bv, e, hn.keeps (keeps_setT hO h2 u), hb.keeps (keeps_setT hO h2 u)⟩⟩
theorem map_put {α : Type} {f : α → List Value} {d : α} {l : List α} {k : Nat} (hk : k < l.length) (j : Nat) (u : Value) (x : α) (h : (f (l.getD k d)).set j u = f x) : (l.map f).set k (((l.map f).getD k []).set j u) = (l.set k x).map f := by
  have hi' : (l.map f).getD k [] = f (l.getD k d) := by
    rw [List.getD_eq_getElem?_getD, List.getElem?_map, List.getElem?_eq_getElem hk, List.getD_eq_getElem?_getD, List.getElem?_eq_getElem hk]; rfl
  rw [hi', h, List.map_set]
theorem own_putR {α : Type} {f : α → List Value} {d : α} {w : World} {B g c kk : Nat} {t : TypeId} {l : List α} (h : OwnR w B t kk (.slice (some ⟨g, 0, none⟩) l.length c) (l.map f)) {k : Nat} (hk : k < l.length) (j : Nat) (hj : j < kk) (u : Value) (x : α) (hx : (f (l.getD k d)).set j u = f x) :
    OwnR (w.setCell ⟨g, k * kk + j, none⟩ u) B t kk (.slice (some ⟨g, 0, none⟩) l.length c) ((l.set k x).map f) := by
  have hl : (l.map f).length = l.length := List.length_map ..
  have h1 := OwnR.set (g := g) (c := c) (L := l.map f) (by rw [hl]; exact h) k j (by rw [hl]; exact hk) hj u
  rw [map_put hk j u x hx, hl] at h1
  exact h1
theorem own_six {w : World} {B g n c : Nat} {t : TypeId} {L : List (List Value)} (h : OwnR w B t 6 (.slice (some ⟨g, 0, none⟩) n c) L) {k : Nat} (hk : k < L.length) (u0 u1 u2 u3 u4 u5 : Value) :
    OwnR ((((((w.setCell ⟨g, k * 6, none⟩ u0).setCell ⟨g, k * 6 + 1, none⟩ u1).setCell ⟨g, k * 6 + 2, none⟩ u2).setCell ⟨g, k * 6 + 3, none⟩ u3).setCell ⟨g, k * 6 + 4, none⟩ u4).setCell ⟨g, k * 6 + 5, none⟩ u5) B t 6 (.slice (some ⟨g, 0, none⟩) n c) (L.set k [u0, u1, u2, u3, u4, u5]) := by
  have hn : n = L.length := by
    rcases h.form with ⟨e1, -⟩ | ⟨g', c', cur', e1, -⟩
    · cases e1
    · cases e1; rfl
  subst hn
  have hr : (L.getD k []).length = 6 := h.2 _ (getD_mem L k hk)
  obtain ⟨a0, a1, a2, a3, a4, a5, er⟩ : ∃ a0 a1 a2 a3 a4 a5, L.getD k [] = [a0, a1, a2, a3, a4, a5] := by
    match hh : L.getD k [], hr with
    | [a0, a1, a2, a3, a4, a5], _ => exact ⟨_, _, _, _, _, _, rfl⟩
  have step : ∀ (W : World) (r : List Value) (j : Nat) (u : Value), j < 6 → OwnR W B t 6 (.slice (some ⟨g, 0, none⟩) L.length c) (L.set k r) → OwnR (W.setCell ⟨g, k * 6 + j, none⟩ u) B t 6 (.slice (some ⟨g, 0, none⟩) L.length c) (L.set k (r.set j u)) := fun W r j u hj hO => by
    have hl : (L.set k r).length = L.length := List.length_set
    have h1 := OwnR.set (g := g) (c := c) (L := L.set k r) (by rw [hl]; exact hO) k j (by rw [hl]; exact hk) hj u
    have hg : (L.set k r).getD k [] = r := by rw [List.getD_eq_getElem?_getD, List.getElem?_set_self hk]; rfl
    rw [hg, List.set_set, hl] at h1
    exact h1
  have h0 : OwnR w B t 6 (.slice (some ⟨g, 0, none⟩) L.length c) (L.set k [a0, a1, a2, a3, a4, a5]) := by
    rw [← er]
    have : L.set k (L.getD k []) = L := by
      rw [List.getD_eq_getElem?_getD, List.getElem?_eq_getElem hk]
      exact List.set_getElem_self hk
    rw [this]; exact h
  exact step _ _ 5 u5 (by decide) (step _ _ 4 u4 (by decide) (step _ _ 3 u3 (by decide) (step _ _ 2 u2 (by decide) (step _ _ 1 u1 (by decide) (step _ _ 0 u0 (by decide) h0)))))
theorem ClausesOwn.six {w : World} {A B g c : Nat} {l : List ClauseD} (h : ClausesOwn w A B (.slice (some ⟨g, 0, none⟩) l.length c) l) {k : Nat} (hk : k < l.length) {y : ClauseD} {nv bv : Value} (hn : IntsIn (frmY A 3 w) nv y.needs) (hb : IntsIn (frmY A 3 w) bv y.bars) :
    ClausesOwn ((((((w.setCell ⟨g, k * 6, none⟩ (.int .i64 y.pub)).setCell ⟨g, k * 6 + 1, none⟩ (.int .i64 y.sf)).setCell ⟨g, k * 6 + 2, none⟩ (.int .i64 y.st)).setCell ⟨g, k * 6 + 3, none⟩ nv).setCell ⟨g, k * 6 + 4, none⟩ bv).setCell ⟨g, k * 6 + 5, none⟩ (.int .i64 y.gives)) A B (.slice (some ⟨g, 0, none⟩) l.length c) (l.set k y) := by
  obtain ⟨L, hOR, hl, hs⟩ := h
  have hkL : k < L.length := by rw [hl]; exact hk
  have h6 := own_six hOR hkL (.int .i64 y.pub) (.int .i64 y.sf) (.int .i64 y.st) nv bv (.int .i64 y.gives)
  have K2 : ∀ (W : World), (∃ vs, Blk W g vs 67) → ∀ (j : Nat) (u : Value), ∃ vs, Blk (W.setCell ⟨g, j, none⟩ u) g vs 67 := fun W ⟨vs, hW⟩ j u => ⟨_, hW.set j u⟩
  have hB0 : ∃ vs, Blk w g vs 67 := by
    rcases hOR.form with ⟨e1, -⟩ | ⟨g', c', cur', e1, -, e3', -⟩
    · cases e1
    · rw [hl] at e1
      cases e1
      exact ⟨cur'.toList, by show w.heap[g]? = _; rw [e3']⟩
  have K3 : ∀ (W : World), (∃ vs, Blk W g vs 67) → ∀ (j : Nat) (u : Value), Keeps (frmY A 3 W) (frmY A 3 (W.setCell ⟨g, j, none⟩ u)) := fun W ⟨vs, hW⟩ j u => keeps_frmY_set hW (by decide) j u
  have KK : ∀ {v : Value} {m : List Int}, IntsIn (frmY A 3 w) v m → IntsIn (frmY A 3 ((((((w.setCell ⟨g, k * 6, none⟩ (.int .i64 y.pub)).setCell ⟨g, k * 6 + 1, none⟩ (.int .i64 y.sf)).setCell ⟨g, k * 6 + 2, none⟩ (.int .i64 y.st)).setCell ⟨g, k * 6 + 3, none⟩ nv).setCell ⟨g, k * 6 + 4, none⟩ bv).setCell ⟨g, k * 6 + 5, none⟩ (.int .i64 y.gives))) v m := fun h => by
    have b1 := K2 _ hB0 (k * 6) (.int .i64 y.pub)
    have b2 := K2 _ b1 (k * 6 + 1) (.int .i64 y.sf)
    have b3 := K2 _ b2 (k * 6 + 2) (.int .i64 y.st)
    have b4 := K2 _ b3 (k * 6 + 3) nv
    have b5 := K2 _ b4 (k * 6 + 4) bv
    exact (((((h.keeps (K3 _ hB0 _ _)).keeps (K3 _ b1 _ _)).keeps (K3 _ b2 _ _)).keeps (K3 _ b3 _ _)).keeps (K3 _ b4 _ _)).keeps (K3 _ b5 _ _)
  have hlen : (l.set k y).length = l.length := List.length_set
  refine ⟨_, h6, by rw [List.length_set, hlen, hl], fun i hi => ?_⟩
  rw [hlen] at hi
  by_cases e : i = k
  · subst e
    rw [setC_eq hi, setC_eq hkL]
    exact ⟨nv, bv, rfl, KK hn, KK hb⟩
  · obtain ⟨nv1, bv1, e1, hn1, hb1⟩ := hs i hi
    rw [setC_ne _ e, setC_ne _ e]
    exact ⟨nv1, bv1, e1, KK hn1, KK hb1⟩
end Go.Proofs.YtdjldidfnddpmaaGreat
