/- Register: walks of same and partner. Conditions: how the survey and the global tables lie in memory; that the points are valid. -/
import Derived.Test.YtoofkahklboojaaDoorRhG
namespace Go.Proofs.YtoofkahklboojaaDoor
open Go.RowKit

set_option maxRecDepth 20000 in
set_option maxHeartbeats 1000000 in
theorem samel_any (p q : DotD) (m : MotD) (w : World) (hp : dotOk p = true) (hq : dotOk q = true) (hG : Glob w) : Calls Tryd.prog 62 #[dotV p, dotV q, motV m] w (Ret (.bool (sameD p q m)) w) := by
  obtain ⟨-, hpx, hpy, hpt⟩ := dot_in hp
  obtain ⟨-, hqx, hqy, hqt⟩ := dot_in hq
  have hin := applyX_in (m := m) hpx hpy
  have HS : Hid (sameD p q m = (decide (applyX m p.x p.y - q.x ≤ p.tol + q.tol) && decide (q.x - applyX m p.x p.y ≤ p.tol + q.tol) && decide (applyY m p.x p.y - q.y ≤ p.tol + q.tol) && decide (q.y - applyY m p.x p.y ≤ p.tol + q.tol))) := hide rfl
  have HAP := hide (fun (W : World) hb => apply_any m p.x p.y W (hG.later hb))
  generalize sameD p q m = R at *
  generalize applyX m p.x p.y = ax at *
  generalize applyY m p.x p.y = ay at *
  obtain ⟨pi, px, py, pt⟩ := p
  obtain ⟨qi, qx, qy, qt⟩ := q
  obtain ⟨mt, mx, my⟩ := m
  dsimp only at hpx hpy hpt hqx hqy hqt HS HAP
  obtain ⟨⟨i1, i2⟩, i3, i4⟩ := hin
  obtain ⟨pt1, pt2⟩ := hpt
  obtain ⟨qt1, qt2⟩ := hqt
  obtain ⟨qx1, qx2⟩ := hqx
  obtain ⟨qy1, qy2⟩ := hqy
  clear hpx hpy hp hq
  have u1 : IntKind.i64.wrap (pt + qt) = pt + qt := IntWalk.i64_in _ (by omega)
  have u2 : IntKind.i64.wrap (ax - qx) = ax - qx := IntWalk.i64_in _ (by omega)
  have u3 : IntKind.i64.wrap (qx - ax) = qx - ax := IntWalk.i64_in _ (by omega)
  have u4 : IntKind.i64.wrap (ay - qy) = ay - qy := IntWalk.i64_in _ (by omega)
  have u5 : IntKind.i64.wrap (qy - ay) = qy - ay := IntWalk.i64_in _ (by omega)
  clear i1 i2 i3 i4 pt1 pt2 qt1 qt2 qx1 qx2 qy1 qy2
  cases e1 : decide (ax - qx ≤ pt + qt)
  · go_enter Tryd.func62, Tryd.ntmps62
    go_wp2_with fail
    generalize hX1 : World.alloc w _ = X1
    have zX1 : X1.heap.size = w.heap.size + 1 := by rw [← hX1]; simp
    have bX1 : Below w.heap.size w X1 := by rw [← hX1]; exact bal w _
    have bP_1 : Blk X1 (w.heap.size) [iV pi, iV px, iV py, iV pt] 53 := by rw [← hX1]; exact Blk.newA w _ (by first | rfl | simp)
    generalize hX2 : World.alloc X1 _ = X2
    have zX2 : X2.heap.size = w.heap.size + 1 + 1 := by rw [← hX2]; simp [zX1]
    have bX2 : Below X1.heap.size X1 X2 := by rw [← hX2]; exact bal X1 _
    have bQ_2 : Blk X2 (w.heap.size + 1) [iV qi, iV qx, iV qy, iV qt] 53 := by rw [← hX2, ← zX1]; exact Blk.newA X1 _ (by first | rfl | simp)
    have bP_2 := bP_1.later bX2
    generalize hX3 : World.alloc X2 _ = X3
    have zX3 : X3.heap.size = w.heap.size + 1 + 1 + 1 := by rw [← hX3]; simp [zX2]
    have bX3 : Below X2.heap.size X2 X3 := by rw [← hX3]; exact bal X2 _
    have bM : Blk X3 (w.heap.size + 1 + 1) [iV mt, iV mx, iV my] 32 := by rw [← hX3, ← zX2]; exact Blk.newA X2 _ (by first | rfl | simp)
    have bP := bP_2.later bX3
    have bQ := bQ_2.later bX3
    have Xb := below2 (below2 (bX1) bX2) bX3
    have Xz := zX3
    clear hX1 zX1 bX1 hX2 zX2 bX2 hX3 zX3 bX3 bP_1 bP_2 bQ_2
    have m0 := bM.cell 0 rfl
    have m1 := bM.cell 1 rfl
    have m2 := bM.cell 2 rfl
    have p1 := bP.cell 1 rfl
    have p2 := bP.cell 2 rfl
    go_wp2_with fail
    refine (HAP.out _ Xb).mono ?_
    rintro e w1 ⟨rfl, hb1⟩
    have bP1 := bP.later hb1
    have bQ1 := bQ.later hb1
    have p3 := bP1.cell 3 rfl
    have q1 := bQ1.cell 1 rfl
    have q2 := bQ1.cell 2 rfl
    have q3 := bQ1.cell 3 rfl
    clear m0 m1 m2 p1 p2
    go_wp2_with fail
    go_ret
    exact ⟨ret_bool (by rw [HS.out]; simp [*]), below2 Xb hb1⟩
  · cases e2 : decide (qx - ax ≤ pt + qt)
    · go_enter Tryd.func62, Tryd.ntmps62
      go_wp2_with fail
      generalize hX1 : World.alloc w _ = X1
      have zX1 : X1.heap.size = w.heap.size + 1 := by rw [← hX1]; simp
      have bX1 : Below w.heap.size w X1 := by rw [← hX1]; exact bal w _
      have bP_1 : Blk X1 (w.heap.size) [iV pi, iV px, iV py, iV pt] 53 := by rw [← hX1]; exact Blk.newA w _ (by first | rfl | simp)
      generalize hX2 : World.alloc X1 _ = X2
      have zX2 : X2.heap.size = w.heap.size + 1 + 1 := by rw [← hX2]; simp [zX1]
      have bX2 : Below X1.heap.size X1 X2 := by rw [← hX2]; exact bal X1 _
      have bQ_2 : Blk X2 (w.heap.size + 1) [iV qi, iV qx, iV qy, iV qt] 53 := by rw [← hX2, ← zX1]; exact Blk.newA X1 _ (by first | rfl | simp)
      have bP_2 := bP_1.later bX2
      generalize hX3 : World.alloc X2 _ = X3
      have zX3 : X3.heap.size = w.heap.size + 1 + 1 + 1 := by rw [← hX3]; simp [zX2]
      have bX3 : Below X2.heap.size X2 X3 := by rw [← hX3]; exact bal X2 _
      have bM : Blk X3 (w.heap.size + 1 + 1) [iV mt, iV mx, iV my] 32 := by rw [← hX3, ← zX2]; exact Blk.newA X2 _ (by first | rfl | simp)
      have bP := bP_2.later bX3
      have bQ := bQ_2.later bX3
      have Xb := below2 (below2 (bX1) bX2) bX3
      have Xz := zX3
      clear hX1 zX1 bX1 hX2 zX2 bX2 hX3 zX3 bX3 bP_1 bP_2 bQ_2
      have m0 := bM.cell 0 rfl
      have m1 := bM.cell 1 rfl
      have m2 := bM.cell 2 rfl
      have p1 := bP.cell 1 rfl
      have p2 := bP.cell 2 rfl
      go_wp2_with fail
      refine (HAP.out _ Xb).mono ?_
      rintro e w1 ⟨rfl, hb1⟩
      have bP1 := bP.later hb1
      have bQ1 := bQ.later hb1
      have p3 := bP1.cell 3 rfl
      have q1 := bQ1.cell 1 rfl
      have q2 := bQ1.cell 2 rfl
      have q3 := bQ1.cell 3 rfl
      clear m0 m1 m2 p1 p2
      go_wp2_with fail
      go_ret
      exact ⟨ret_bool (by rw [HS.out]; simp [*]), below2 Xb hb1⟩
    · cases e3 : decide (ay - qy ≤ pt + qt)
      · go_enter Tryd.func62, Tryd.ntmps62
        go_wp2_with fail
        generalize hX1 : World.alloc w _ = X1
        have zX1 : X1.heap.size = w.heap.size + 1 := by rw [← hX1]; simp
        have bX1 : Below w.heap.size w X1 := by rw [← hX1]; exact bal w _
        have bP_1 : Blk X1 (w.heap.size) [iV pi, iV px, iV py, iV pt] 53 := by rw [← hX1]; exact Blk.newA w _ (by first | rfl | simp)
        generalize hX2 : World.alloc X1 _ = X2
        have zX2 : X2.heap.size = w.heap.size + 1 + 1 := by rw [← hX2]; simp [zX1]
        have bX2 : Below X1.heap.size X1 X2 := by rw [← hX2]; exact bal X1 _
        have bQ_2 : Blk X2 (w.heap.size + 1) [iV qi, iV qx, iV qy, iV qt] 53 := by rw [← hX2, ← zX1]; exact Blk.newA X1 _ (by first | rfl | simp)
        have bP_2 := bP_1.later bX2
        generalize hX3 : World.alloc X2 _ = X3
        have zX3 : X3.heap.size = w.heap.size + 1 + 1 + 1 := by rw [← hX3]; simp [zX2]
        have bX3 : Below X2.heap.size X2 X3 := by rw [← hX3]; exact bal X2 _
        have bM : Blk X3 (w.heap.size + 1 + 1) [iV mt, iV mx, iV my] 32 := by rw [← hX3, ← zX2]; exact Blk.newA X2 _ (by first | rfl | simp)
        have bP := bP_2.later bX3
        have bQ := bQ_2.later bX3
        have Xb := below2 (below2 (bX1) bX2) bX3
        have Xz := zX3
        clear hX1 zX1 bX1 hX2 zX2 bX2 hX3 zX3 bX3 bP_1 bP_2 bQ_2
        have m0 := bM.cell 0 rfl
        have m1 := bM.cell 1 rfl
        have m2 := bM.cell 2 rfl
        have p1 := bP.cell 1 rfl
        have p2 := bP.cell 2 rfl
        go_wp2_with fail
        refine (HAP.out _ Xb).mono ?_
        rintro e w1 ⟨rfl, hb1⟩
        have bP1 := bP.later hb1
        have bQ1 := bQ.later hb1
        have p3 := bP1.cell 3 rfl
        have q1 := bQ1.cell 1 rfl
        have q2 := bQ1.cell 2 rfl
        have q3 := bQ1.cell 3 rfl
        clear m0 m1 m2 p1 p2
        go_wp2_with fail
        go_ret
        exact ⟨ret_bool (by rw [HS.out]; simp [*]), below2 Xb hb1⟩
      · cases e4 : decide (qy - ay ≤ pt + qt)
        · go_enter Tryd.func62, Tryd.ntmps62
          go_wp2_with fail
          generalize hX1 : World.alloc w _ = X1
          have zX1 : X1.heap.size = w.heap.size + 1 := by rw [← hX1]; simp
          have bX1 : Below w.heap.size w X1 := by rw [← hX1]; exact bal w _
          have bP_1 : Blk X1 (w.heap.size) [iV pi, iV px, iV py, iV pt] 53 := by rw [← hX1]; exact Blk.newA w _ (by first | rfl | simp)
          generalize hX2 : World.alloc X1 _ = X2
          have zX2 : X2.heap.size = w.heap.size + 1 + 1 := by rw [← hX2]; simp [zX1]
          have bX2 : Below X1.heap.size X1 X2 := by rw [← hX2]; exact bal X1 _
          have bQ_2 : Blk X2 (w.heap.size + 1) [iV qi, iV qx, iV qy, iV qt] 53 := by rw [← hX2, ← zX1]; exact Blk.newA X1 _ (by first | rfl | simp)
          have bP_2 := bP_1.later bX2
          generalize hX3 : World.alloc X2 _ = X3
          have zX3 : X3.heap.size = w.heap.size + 1 + 1 + 1 := by rw [← hX3]; simp [zX2]
          have bX3 : Below X2.heap.size X2 X3 := by rw [← hX3]; exact bal X2 _
          have bM : Blk X3 (w.heap.size + 1 + 1) [iV mt, iV mx, iV my] 32 := by rw [← hX3, ← zX2]; exact Blk.newA X2 _ (by first | rfl | simp)
          have bP := bP_2.later bX3
          have bQ := bQ_2.later bX3
          have Xb := below2 (below2 (bX1) bX2) bX3
          have Xz := zX3
          clear hX1 zX1 bX1 hX2 zX2 bX2 hX3 zX3 bX3 bP_1 bP_2 bQ_2
          have m0 := bM.cell 0 rfl
          have m1 := bM.cell 1 rfl
          have m2 := bM.cell 2 rfl
          have p1 := bP.cell 1 rfl
          have p2 := bP.cell 2 rfl
          go_wp2_with fail
          refine (HAP.out _ Xb).mono ?_
          rintro e w1 ⟨rfl, hb1⟩
          have bP1 := bP.later hb1
          have bQ1 := bQ.later hb1
          have p3 := bP1.cell 3 rfl
          have q1 := bQ1.cell 1 rfl
          have q2 := bQ1.cell 2 rfl
          have q3 := bQ1.cell 3 rfl
          clear m0 m1 m2 p1 p2
          go_wp2_with fail
          go_ret
          exact ⟨ret_bool (by rw [HS.out]; simp [*]), below2 Xb hb1⟩
        · go_enter Tryd.func62, Tryd.ntmps62
          go_wp2_with fail
          generalize hX1 : World.alloc w _ = X1
          have zX1 : X1.heap.size = w.heap.size + 1 := by rw [← hX1]; simp
          have bX1 : Below w.heap.size w X1 := by rw [← hX1]; exact bal w _
          have bP_1 : Blk X1 (w.heap.size) [iV pi, iV px, iV py, iV pt] 53 := by rw [← hX1]; exact Blk.newA w _ (by first | rfl | simp)
          generalize hX2 : World.alloc X1 _ = X2
          have zX2 : X2.heap.size = w.heap.size + 1 + 1 := by rw [← hX2]; simp [zX1]
          have bX2 : Below X1.heap.size X1 X2 := by rw [← hX2]; exact bal X1 _
          have bQ_2 : Blk X2 (w.heap.size + 1) [iV qi, iV qx, iV qy, iV qt] 53 := by rw [← hX2, ← zX1]; exact Blk.newA X1 _ (by first | rfl | simp)
          have bP_2 := bP_1.later bX2
          generalize hX3 : World.alloc X2 _ = X3
          have zX3 : X3.heap.size = w.heap.size + 1 + 1 + 1 := by rw [← hX3]; simp [zX2]
          have bX3 : Below X2.heap.size X2 X3 := by rw [← hX3]; exact bal X2 _
          have bM : Blk X3 (w.heap.size + 1 + 1) [iV mt, iV mx, iV my] 32 := by rw [← hX3, ← zX2]; exact Blk.newA X2 _ (by first | rfl | simp)
          have bP := bP_2.later bX3
          have bQ := bQ_2.later bX3
          have Xb := below2 (below2 (bX1) bX2) bX3
          have Xz := zX3
          clear hX1 zX1 bX1 hX2 zX2 bX2 hX3 zX3 bX3 bP_1 bP_2 bQ_2
          have m0 := bM.cell 0 rfl
          have m1 := bM.cell 1 rfl
          have m2 := bM.cell 2 rfl
          have p1 := bP.cell 1 rfl
          have p2 := bP.cell 2 rfl
          go_wp2_with fail
          refine (HAP.out _ Xb).mono ?_
          rintro e w1 ⟨rfl, hb1⟩
          have bP1 := bP.later hb1
          have bQ1 := bQ.later hb1
          have p3 := bP1.cell 3 rfl
          have q1 := bQ1.cell 1 rfl
          have q2 := bQ1.cell 2 rfl
          have q3 := bQ1.cell 3 rfl
          clear m0 m1 m2 p1 p2
          go_wp2_with fail
          go_ret
          exact ⟨ret_bool (by rw [HS.out]; simp [*]), below2 Xb hb1⟩
def hitP (q : DotD) (m : MotD) (p : DotD) : Bool := decide (19 < p.id) && sameD p q m
theorem hitP_none {a : List DotD} {q : DotD} {m : MotD} {k : Nat} (hk : k < a.length) (h : (a.take k).find? (hitP q m) = none) (hp : hitP q m (a.getD k dot0) = false) : (a.take (k + 1)).find? (hitP q m) = none := by
  rw [take_succ' a k dot0 hk, List.find?_append, h, List.find?_cons_of_neg (by rw [hp]; decide)]; rfl
theorem hitP_some {a : List DotD} {q : DotD} {m : MotD} {k : Nat} (hk : k < a.length) (h : (a.take k).find? (hitP q m) = none) (hp : hitP q m (a.getD k dot0) = true) : partnerD a q m = (a.getD k dot0).id := by
  have e : a.find? (hitP q m) = some (a.getD k dot0) := by
    have h1 : a = a.take k ++ a.getD k dot0 :: a.drop (k + 1) := by
      have h1 : a.drop k = a[k] :: a.drop (k + 1) := List.drop_eq_getElem_cons hk
      have h2 : a.getD k dot0 = a[k] := by rw [List.getD_eq_getElem?_getD, List.getElem?_eq_getElem hk]; rfl
      rw [h2, ← h1, List.take_append_drop]
    have h2 : (a.take k ++ a.getD k dot0 :: a.drop (k + 1)).find? (hitP q m) = some (a.getD k dot0) := by
      rw [List.find?_append, h, List.find?_cons_of_pos hp]; rfl
    rwa [← h1] at h2
  show ((a.find? (hitP q m)).map (·.id)).getD (-1) = _
  rw [e]; rfl
theorem hitP_end {a : List DotD} {q : DotD} {m : MotD} (h : a.find? (hitP q m) = none) : partnerD a q m = -1 := by
  show ((a.find? (hitP q m)).map (·.id)).getD (-1) = _
  rw [h]; rfl
set_option maxRecDepth 20000 in
set_option maxHeartbeats 2000000 in
theorem partnerl_any (a : List DotD) (va : Value) (q : DotD) (m : MotD) (w : World) (ha : DotsAt w va a) (hok : ∀ p ∈ a, dotOk p = true) (hq : dotOk q = true) (hG : Glob w) : Calls Tryd.prog 32 #[va, dotV q, motV m] w (Ret (iV (partnerD a q m)) w) := by
  have HSM := hide (fun (p : DotD) (hp : p ∈ a) (W : World) hb => samel_any p q m W (hok p hp) hq (hG.later hb))
  have HNO := hide (fun (k : Nat) h1 h2 h3 => hitP_none (a := a) (q := q) (m := m) (k := k) h1 h2 h3)
  have HYE := hide (fun (k : Nat) h1 h2 h3 => hitP_some (a := a) (q := q) (m := m) (k := k) h1 h2 h3)
  have HEN := hide (hitP_end (a := a) (q := q) (m := m))
  have HGM := hide (fun (k : Nat) (hk : k < a.length) => getD_mem a k (d := dot0) hk)
  obtain ⟨aa, ac, rfl, hlc, hcm, hac⟩ := ha
  have HAC := hide hac
  generalize partnerD a q m = R at *
  have HQ : Hid (∀ p, hitP q m p = (decide (19 < p.id) && sameD p q m)) := hide fun p => rfl
  generalize hHP : hitP q m = P at *
  generalize hSS : sameD = S at *
  clear hHP hSS hac
  obtain ⟨qi, qx, qy, qt⟩ := q
  obtain ⟨mt, mx, my⟩ := m
  go_enter Tryd.func32, Tryd.ntmps32
  go_wp2_with fail
  generalize hX1 : World.alloc w _ = X1
  have zX1 : X1.heap.size = w.heap.size + 1 := by rw [← hX1]; simp
  have bX1 : Below w.heap.size w X1 := by rw [← hX1]; exact bal w _
  have bQ_1 : Blk X1 (w.heap.size) [iV qi, iV qx, iV qy, iV qt] 53 := by rw [← hX1]; exact Blk.newA w _ (by first | rfl | simp)
  generalize hX2 : World.alloc X1 _ = X2
  have zX2 : X2.heap.size = w.heap.size + 1 + 1 := by rw [← hX2]; simp [zX1]
  have bX2 : Below X1.heap.size X1 X2 := by rw [← hX2]; exact bal X1 _
  have bM : Blk X2 (w.heap.size + 1) [iV mt, iV mx, iV my] 32 := by rw [← hX2, ← zX1]; exact Blk.newA X1 _ (by first | rfl | simp)
  have bQ := bQ_1.later bX2
  have Xb := below2 (bX1) bX2
  have Xz := zX2
  clear hX1 zX1 bX1 hX2 zX2 bX2 bQ_1
  go_loopw [7] (fun i wr => ∃ k : Nat, k ≤ a.length ∧ i = .int .i64 k ∧ Hid ((a.take k).find? P = none) ∧ Blk wr w.heap.size [iV qi, iV qx, iV qy, iV qt] 53 ∧ Blk wr (w.heap.size + 1) [iV mt, iV mx, iV my] 32 ∧ Below w.heap.size w wr) (fun i _ => a.length - (intOf i).toNat)
  case atStart => exact ⟨0, by omega, rfl, hide rfl, bQ, bM, Xb⟩
  case round =>
    obtain ⟨k, hk, rfl, HT, bQ, bM, hbr⟩ := hrel
    by_cases hlt : k < a.length
    · obtain ⟨bl, o, heq, hck⟩ := HAC.out k hlt
      subst heq
      have hkl : decide (k < a.length) = true := by simpa using hlt
      have HSMk := hide (fun (W : World) hb => HSM.out _ (HGM.out k hlt) W hb)
      have HNOk := hide (HNO.out k hlt HT.out)
      have HYEk := hide (HYE.out k hlt HT.out)
      rw [HQ.out] at HNOk HYEk
      generalize a.getD k dot0 = x at *
      generalize S x ⟨qi, qx, qy, qt⟩ ⟨mt, mx, my⟩ = sb at *
      obtain ⟨xi, xx, xy, xt⟩ := x
      have e0 := bwc (show wr.cell? ⟨bl, o + k * 4, none⟩ = some (iV xi) from keep hbr (hck 0 _ rfl))
      have e1 := bwc (show wr.cell? ⟨bl, o + k * 4 + 1, none⟩ = some (iV xx) from keep hbr (hck 1 _ rfl))
      have e2 := bwc (show wr.cell? ⟨bl, o + k * 4 + 2, none⟩ = some (iV xy) from keep hbr (hck 2 _ rfl))
      have e3 := bwc (show wr.cell? ⟨bl, o + k * 4 + 3, none⟩ = some (iV xt) from keep hbr (hck 3 _ rfl))
      have g0 := bwc (bQ.cell 0 rfl)
      have g1 := bwc (bQ.cell 1 rfl)
      have g2 := bwc (bQ.cell 2 rfl)
      have g3 := bwc (bQ.cell 3 rfl)
      have n0 := bwc (bM.cell 0 rfl)
      have n1 := bwc (bM.cell 1 rfl)
      have n2 := bwc (bM.cell 2 rfl)
      dsimp only at HNOk HYEk
      cases h1 : decide (19 < xi)
      · have hz : Hid (List.find? P (List.take (k + 1) a) = none) := hide (HNOk.out (by rw [h1]; rfl))
        clear HNOk HYEk
        go_wp2_with fail
        refine wp_region_bw (by kernel_rfl) (by kernel_rfl) ?_
        repeat (go_big_quiet_step (fail))
        refine wpQuiet_nil ?_
        rintro _ ⟨i, rfl⟩
        have bQ2 := bQ.later i.h
        have bM2 := bM.later i.h
        have hbr2 := below2 hbr i.h
        go_wp2_with fail
        go_roundw
        case rel => exact ⟨k + 1, by omega, by go_num, hz, bQ2, bM2, hbr2⟩
        case measure => simp [intOf]; omega
      · cases sb
        · have hz : Hid (List.find? P (List.take (k + 1) a) = none) := hide (HNOk.out (by rw [h1]; rfl))
          clear HNOk HYEk
          go_wp2_with fail
          refine wp_region_bw (by kernel_rfl) (by kernel_rfl) ?_
          repeat (go_big_quiet_step (exact quiet (HSMk.out _ (below2 hbr (Bw.h _)))))
          refine wpQuiet_nil ?_
          rintro _ ⟨i, rfl⟩
          have bQ2 := bQ.later i.h
          have bM2 := bM.later i.h
          have hbr2 := below2 hbr i.h
          go_wp2_with fail
          go_roundw
          case rel => exact ⟨k + 1, by omega, by go_num, hz, bQ2, bM2, hbr2⟩
          case measure => simp [intOf]; omega
        · have hz := hide (HYEk.out (by rw [h1]; rfl))
          clear HNOk HYEk
          go_wp2_with fail
          refine wp_region_bw (by kernel_rfl) (by kernel_rfl) ?_
          repeat (go_big_quiet_step (exact quiet (HSMk.out _ (below2 hbr (Bw.h _)))))
          refine wpQuiet_nil ?_
          rintro _ ⟨i, rfl⟩
          have hbr2 := below2 hbr i.h
          have e0' := keep i.h (show wr.cell? ⟨bl, o + k * 4, none⟩ = some (iV xi) from keep hbr (hck 0 _ rfl))
          go_wp2_with fail
          go_ret
          exact ⟨ret_int hz.out.symm, hbr2⟩
    · obtain rfl : k = a.length := by omega
      have HE := hide (HEN.out (by have := HT.out; rwa [List.take_length] at this))
      go_wp2_with fail
      go_ret
      exact ⟨ret_int HE.out.symm, hbr⟩
end Go.Proofs.YtoofkahklboojaaDoor
