/- The reference of chapter 15: Bent. Conditions: how the order lies in memory; that integers are of 64 bits. -/
import Derived.Test.YtnidcoinfmcffaaDoorOvE
import Derived.Test.YtnidcoinfmcffaaDoorOsI
import Derived.Test.YtnidcoinfmcffaaDoorOvA
import Derived.Test.YtnidcoinfmcffaaDoorOsW
import Derived.Test.YtnidcoinfmcffaaDoorOtG
/- The reference of chapter 15: Before, Close, Reduce. Conditions: how the order lies in memory. -/
namespace Go.Proofs.YtnidcoinfmcffaaDoor
open Go.RowKit
attribute [local go_sem] Oper.semAt_some
set_option maxRecDepth 100000 in
set_option maxHeartbeats 2000000 in
theorem rbef_any (o : OrderD) (pv : Value) (a b : Int) (w : World) (hp : PairsIn w.cell? pv o.pairs) : Calls Tryd.prog 43 #[orderV o.n pv, .int .i64 a, .int .i64 b] w (Ret (.bool (befB o a b)) w) := by
 cases hv : validO o
 ·have HP := hide (show befB o a b = false by unfold befB; rw [hv]; rfl)
  obtain ⟨on, ps⟩ := o
  obtain ⟨pa, pm, rfl, -, -, -⟩ := id hp
  have HVA := hide (fun W (hb : Below w.heap.size w W) => by
   have h := rvalid_any ⟨on, ps⟩ (.slice pa ps.length pm) W (RecIn.below hb hp)
   rw [hv] at h
   exact h)
  clear hp hv
  go_enter Tryd.func43, Tryd.ntmps43
  go_wp2_with fail
  generalize hX1 : World.alloc w _ = X1
  have zX1 : X1.heap.size = w.heap.size + 1 := by rw [← hX1]; simp
  have bX1 : Below w.heap.size w X1 := by rw [← hX1]; exact bal w _
  have bO : Blk X1 (w.heap.size) [.int .i64 on, .slice pa ps.length pm] 25 := by rw [← hX1]; exact Blk.newA w _ (by first | rfl | simp)
  have Xb := bX1
  have Xz := zX1
  clear hX1 zX1 bX1
  have c0 := bO.cell 0 rfl
  have c1 := bO.cell 1 rfl
  go_wp2_with fail
  refine (HVA.out _ Xb).mono ?_
  rintro e w1 ⟨rfl, hb1⟩
  have HW := hide (below2 Xb hb1)
  clear c0 c1 bO hb1 Xb Xz
  go_wp2_with fail
  go_ret
  exact ⟨by rw [HP.out]; rfl, HW.out⟩
 ·obtain ⟨on, ps⟩ := o
  have hf : formedO ⟨on, ps⟩ = true := by unfold validO at hv; rw [Bool.and_eq_true] at hv; exact hv.1
  have h0 := (formed_n hf).1.1
  simp only at h0
  obtain ⟨n, rfl⟩ : ∃ n : Nat, on = n := ⟨on.toNat, by omega⟩
  have HNO : Hid (¬ (0 ≤ a ∧ a < (n : Int) ∧ 0 ≤ b ∧ b < (n : Int)) → befB ⟨n, ps⟩ a b = false) := hide (fun h => by unfold befB; rw [decide_eq_false h]; simp)
  have HYE : Hid ((0 ≤ a ∧ a < (n : Int) ∧ 0 ≤ b ∧ b < (n : Int)) → befB ⟨n, ps⟩ a b = beforeO ⟨n, ps⟩ a.toNat b.toNat) := hide (fun h => by unfold befB; rw [hv, decide_eq_true h]; rfl)
  generalize befB ⟨n, ps⟩ a b = P at *
  clear hf h0
  obtain ⟨pa, pm, rfl, -, -, -⟩ := id hp
  have hf : formedO ⟨(n : Int), ps⟩ = true := by unfold validO at hv; rw [Bool.and_eq_true] at hv; exact hv.1
  have hn8 : n ≤ 8 := by
   have := (formed_n hf).1.2
   simp only at this
   omega
  have HPO := hide (show PoO n (beforeO ⟨n, ps⟩) from before_po hv)
  have HVA := hide (fun W (hb : Below w.heap.size w W) => by
   have h := rvalid_any ⟨(n : Int), ps⟩ (.slice pa ps.length pm) W (RecIn.below hb hp)
   rw [hv] at h
   exact h)
  have HBE := hide (fun W (hb : Below w.heap.size w W) => rbefore_any n ps (.slice pa ps.length pm) W (RecIn.below hb hp) hf)
  generalize beforeO ⟨(n : Int), ps⟩ = R at *
  clear hp hv hf
  go_enter Tryd.func43, Tryd.ntmps43
  go_wp2_with fail
  generalize hX1 : World.alloc w _ = X1
  have zX1 : X1.heap.size = w.heap.size + 1 := by rw [← hX1]; simp
  have bX1 : Below w.heap.size w X1 := by rw [← hX1]; exact bal w _
  have bO : Blk X1 (w.heap.size) [.int .i64 n, .slice pa ps.length pm] 25 := by rw [← hX1]; exact Blk.newA w _ (by first | rfl | simp)
  have Xb := bX1
  have Xz := zX1
  clear hX1 zX1 bX1
  have c0 := bO.cell 0 rfl
  have c1 := bO.cell 1 rfl
  go_wp2_with fail
  refine (HVA.out _ Xb).mono ?_
  rintro e w1 ⟨rfl, hb1⟩
  have HW := hide (below2 Xb hb1)
  replace bO := bO.later hb1
  clear c0 c1 hb1 Xb Xz
  have c0 := bO.cell 0 rfl
  have c1 := bO.cell 1 rfl
  by_cases e1 : a < 0
  ·have HP := hide (HNO.out (by omega))
   have hd1 : decide (a < 0) = true := decide_eq_true e1
   go_wp2_with fail
   go_ret
   exact ⟨by rw [HP.out]; rfl, HW.out⟩
  ·have hd1 : decide (a < 0) = false := decide_eq_false e1
   by_cases e2 : (n : Int) ≤ a
   ·have HP := hide (HNO.out (by omega))
    have hd2 : decide ((n : Int) ≤ a) = true := decide_eq_true e2
    go_wp2_with fail
    go_ret
    exact ⟨by rw [HP.out]; rfl, HW.out⟩
   ·have hd2 : decide ((n : Int) ≤ a) = false := decide_eq_false e2
    by_cases e3 : b < 0
    ·have HP := hide (HNO.out (by omega))
     have hd3 : decide (b < 0) = true := decide_eq_true e3
     go_wp2_with fail
     go_ret
     exact ⟨by rw [HP.out]; rfl, HW.out⟩
    ·have hd3 : decide (b < 0) = false := decide_eq_false e3
     by_cases e4 : (n : Int) ≤ b
     ·have HP := hide (HNO.out (by omega))
      have hd4 : decide ((n : Int) ≤ b) = true := decide_eq_true e4
      go_wp2_with fail
      go_ret
      exact ⟨by rw [HP.out]; rfl, HW.out⟩
     ·have hd4 : decide ((n : Int) ≤ b) = false := decide_eq_false e4
      have HP := hide (HYE.out (by omega))
      go_upto_region 3 with (fail)
      go_wp2_with fail
      refine (HBE.out _ HW.out).mono ?_
      rintro e w2 ⟨rfl, hb2⟩
      have HW2 := hide (below2 HW.out hb2)
      obtain ⟨x, rfl⟩ : ∃ x : Nat, a = x := ⟨a.toNat, by omega⟩
      obtain ⟨y, rfl⟩ : ∃ y : Nat, b = y := ⟨b.toNat, by omega⟩
      have hi1 := index_rel R w2 x (by omega)
      have hi2 := index_row R x w2 y (by omega)
      have HP2 : Hid (P = R x y) := hide (by have h := HP.out; rwa [Int.toNat_natCast, Int.toNat_natCast] at h)
      clear c0 c1 hb2 bO hd1 hd2 hd3 hd4 e1 e2 e3 e4 HP
      go_wp2_with fail
      go_ret
      exact ⟨by rw [HP2.out]; rfl, HW2.out⟩
end Go.Proofs.YtnidcoinfmcffaaDoor
/- The reference of chapter 15: Close. Conditions: how the order lies in memory. -/
namespace Go.Proofs.YtnidcoinfmcffaaDoor
open Go.RowKit
attribute [local go_sem] Oper.semAt_some
theorem order_set {w W : World} {b B : Nat} {n : Int} {v : Value} {x : Value} (h : Blk W b [.int .i64 0, x] 25) (hB : B ≤ b) (hb : Below B w W) :
  Below B w ((W.setCell ⟨b, 0, none⟩ (.int .i64 n)).setCell ⟨b, 1, none⟩ v) ∧ Blk ((W.setCell ⟨b, 0, none⟩ (.int .i64 n)).setCell ⟨b, 1, none⟩ v) b [.int .i64 n, v] 25 :=
 ⟨(hb.setCell (p := ⟨b, 0, none⟩) hB _).setCell (p := ⟨b, 1, none⟩) hB _, (h.set 0 _).set 1 _⟩
set_option maxRecDepth 100000 in
set_option maxHeartbeats 2000000 in
theorem rclose_no (o : OrderD) (pv : Value) (w : World) (hp : PairsIn w.cell? pv o.pairs) (hv : validO o = false) : Calls Tryd.prog 45 #[orderV o.n pv] w (Ret (.tuple #[orderV 0 (.slice none 0 0), .int .i64 150]) w) := by
 obtain ⟨on, ps⟩ := o
 obtain ⟨pa, pm, rfl, -, -, -⟩ := id hp
 have HVA := hide (fun W (hb : Below w.heap.size w W) => by
  have h := rvalid_any ⟨on, ps⟩ (.slice pa ps.length pm) W (RecIn.below hb hp)
  rw [hv] at h
  exact h)
 clear hp hv
 go_enter Tryd.func45, Tryd.ntmps45
 go_wp2_with fail
 generalize hX1 : World.alloc w _ = X1
 have zX1 : X1.heap.size = w.heap.size + 1 := by rw [← hX1]; simp
 have bX1 : Below w.heap.size w X1 := by rw [← hX1]; exact bal w _
 have bO_1 : Blk X1 (w.heap.size) [.int .i64 on, .slice pa ps.length pm] 25 := by rw [← hX1]; exact Blk.newA w _ (by first | rfl | simp)
 generalize hX2 : World.alloc X1 _ = X2
 have zX2 : X2.heap.size = w.heap.size + 1 + 1 := by rw [← hX2]; simp [zX1]
 have bX2 : Below X1.heap.size X1 X2 := by rw [← hX2]; exact bal X1 _
 have bR : Blk X2 (w.heap.size + 1) [.int .i64 0, .slice none 0 0] 25 := by rw [← hX2, ← zX1]; exact Blk.newA X1 _ (by first | rfl | simp)
 have bO := bO_1.later bX2
 have Xb := below2 (bX1) bX2
 have Xz := zX2
 clear hX1 zX1 bX1 hX2 zX2 bX2 bO_1
 have c0 := bO.cell 0 rfl
 have c1 := bO.cell 1 rfl
 go_wp2_with fail
 refine (HVA.out _ Xb).mono ?_
 rintro e w1 ⟨rfl, hb⟩
 have hw := below2 Xb hb
 replace bR := bR.later hb
 clear c0 c1 bO hb Xb Xz
 have r0 := bR.cell 0 rfl
 have r1 := bR.cell 1 rfl
 have rf0 := bR.frozen 0
 have rf1 := bR.frozen 1
 go_wp2_with fail
 have q := order_set (n := 0) (v := .slice none 0 0) bR (show w.heap.size ≤ w.heap.size + 1 by omega) hw
 have x0 := q.2.cell 0 rfl
 have x1 := q.2.cell 1 rfl
 refine bodyPost_ret (v := .tuple #[orderV 0 (.slice none 0 0), .int .i64 150]) (by simp [results, Tryd.results45, go_sem, x0, x1]) rfl ?_
 exact ⟨rfl, q.1⟩
set_option maxRecDepth 100000 in
set_option maxHeartbeats 2000000 in
theorem rclose_yes (n : Nat) (ps : List (Int × Int)) (pv : Value) (w : World) (hp : PairsIn w.cell? pv ps) (hv : validO ⟨n, ps⟩ = true) : Calls Tryd.prog 45 #[orderV n pv] w (OrdEQ n (listO n (beforeO ⟨n, ps⟩)) w) := by
 obtain ⟨pa, pm, rfl, -, -, -⟩ := id hp
 have hf : formedO ⟨(n : Int), ps⟩ = true := by unfold validO at hv; rw [Bool.and_eq_true] at hv; exact hv.1
 have hn8 : n ≤ 8 := by
  have := (formed_n hf).1.2
  simp only at this
  omega
 have HPO := hide (show PoO n (beforeO ⟨n, ps⟩) from before_po hv)
 have HVA := hide (fun W (hb : Below w.heap.size w W) => by
  have h := rvalid_any ⟨(n : Int), ps⟩ (.slice pa ps.length pm) W (RecIn.below hb hp)
  rw [hv] at h
  exact h)
 have HBE := hide (fun W (hb : Below w.heap.size w W) => rbefore_any n ps (.slice pa ps.length pm) W (RecIn.below hb hp) hf)
 generalize beforeO ⟨(n : Int), ps⟩ = R at *
 clear hp hv hf
 have HLI := hide (fun W => rlisted_any n R W hn8)
 generalize listO n R = LO at *
 go_enter Tryd.func45, Tryd.ntmps45
 go_wp2_with fail
 generalize hX1 : World.alloc w _ = X1
 have zX1 : X1.heap.size = w.heap.size + 1 := by rw [← hX1]; simp
 have bX1 : Below w.heap.size w X1 := by rw [← hX1]; exact bal w _
 have bO_1 : Blk X1 (w.heap.size) [.int .i64 n, .slice pa ps.length pm] 25 := by rw [← hX1]; exact Blk.newA w _ (by first | rfl | simp)
 generalize hX2 : World.alloc X1 _ = X2
 have zX2 : X2.heap.size = w.heap.size + 1 + 1 := by rw [← hX2]; simp [zX1]
 have bX2 : Below X1.heap.size X1 X2 := by rw [← hX2]; exact bal X1 _
 have bR : Blk X2 (w.heap.size + 1) [.int .i64 0, .slice none 0 0] 25 := by rw [← hX2, ← zX1]; exact Blk.newA X1 _ (by first | rfl | simp)
 have bO := bO_1.later bX2
 have Xb := below2 (bX1) bX2
 have Xz := zX2
 clear hX1 zX1 bX1 hX2 zX2 bX2 bO_1
 have c0 := bO.cell 0 rfl
 have c1 := bO.cell 1 rfl
 go_wp2_with fail
 refine (HVA.out _ Xb).mono ?_
 rintro e w1 ⟨rfl, hb⟩
 have HW := hide (below2 Xb hb)
 have BO := hide (bO.later hb)
 have BR := hide (bR.later hb)
 have HNE : Hid (w.heap.size ≠ w.heap.size + 1) := hide (by omega)
 have HLT : Hid (w.heap.size + 1 < w1.heap.size) := hide BR.out.lt
 clear c0 c1 bO bR hb Xb Xz
 go_upto_region 3 with (fail)
 refine wp_region_inv [some 8, some 9, some 10, some 11, some 12, none, some 3] (fun L vs W => match vs with | [x0, x1, x2, x3, x4, x5, x6] => ((Below w.heap.size w W ∧ Eff (· = w.heap.size + 1) w1 W) ∧ (L 5 = false → Blk W (w.heap.size + 1) [.int .i64 0, .slice none 0 0] 25)) ∧ (L 0 = true → x0 = .pointer (some ⟨w.heap.size, 0, none⟩)) ∧ (L 1 = true → x1 = .int .i64 n) ∧ (L 2 = true → x2 = .agg #[.int .i64 n, .slice pa ps.length pm]) ∧ (L 3 = true → x3 = relV R) ∧ (L 4 = true → ∃ qa qm qc, x4 = orderV n (.slice qa qm qc) ∧ PairsIn (frm w1.heap.size W) (.slice qa qm qc) LO) ∧ (L 5 = true → L 4 = true ∧ ∃ qa qm qc, x4 = orderV n (.slice qa qm qc) ∧ Blk W (w.heap.size + 1) [.int .i64 n, .slice qa qm qc] 25) ∧ (L 6 = true → x6 = .int .i64 0) | _ => False) [_, _, _, _, _, undef, _] (by kernel_rfl) (by kernel_rfl) rfl (by simp only [puts, Act.put, List.setIfInBounds_toArray, List.set_cons_zero, List.set_cons_succ] <;> rfl) ?_ ?_ ?_
 ·exact ⟨⟨⟨HW.out.drew, Eff.drew _ _⟩, fun _ => BR.out.later (Below.refl _ _).drew⟩, (fun h => by cases h), (fun h => by cases h), (fun h => by cases h), (fun h => by cases h), (fun h => by cases h), (fun h => by cases h), (fun h => by cases h)⟩
 ·refine ⟨?_, ?_, ?_, ?_, ?_, ?_, ?_, trivial⟩
  ·intro L vs W hlen hL hD hI K hK
   obtain ⟨x0, x1, x2, x3, x4, x5, x6, rfl⟩ := len7 hlen
   have hG := hI.1
   replace hI := hI.2
   have f0 := hide hI.1
   replace hI := hI.2
   have f1 := hide hI.1
   replace hI := hI.2
   have f2 := hide hI.1
   replace hI := hI.2
   have f3 := hide hI.1
   replace hI := hI.2
   have f4 := hide hI.1
   replace hI := hI.2
   have f5 := hide hI.1
   replace hI := hI.2
   have f6 := hide hI
   clear hI
   try simp only [puts, Act.put, List.setIfInBounds_toArray, List.set_cons_zero, List.set_cons_succ]
   try go_simp
   exact hK.out _ _ _ (by simp only [puts, Act.put, List.setIfInBounds_toArray, List.set_cons_zero, List.set_cons_succ] <;> rfl) ⟨hG, (fun _ => rfl), (fun h => f1.out h), (fun h => f2.out h), (fun h => f3.out h), (fun h => f4.out h), (fun h => f5.out h), (fun h => f6.out h)⟩
  ·intro L vs W hlen hL hD hI K hK
   obtain ⟨x0, x1, x2, x3, x4, x5, x6, rfl⟩ := len7 hlen
   have hG := hI.1
   replace hI := hI.2
   have f0 := hide hI.1
   replace hI := hI.2
   have f1 := hide hI.1
   replace hI := hI.2
   have f2 := hide hI.1
   replace hI := hI.2
   have f3 := hide hI.1
   replace hI := hI.2
   have f4 := hide hI.1
   replace hI := hI.2
   have f5 := hide hI.1
   replace hI := hI.2
   have f6 := hide hI
   clear hI
   obtain rfl := f0.out (hD.on 0 (by kernel_rfl))
   try simp only [puts, Act.put, List.setIfInBounds_toArray, List.set_cons_zero, List.set_cons_succ]
   have z0 := (BO.out.eff hG.1.2 HNE.out).cell 0 rfl
   go_simp
   exact hK.out _ _ _ (by simp only [puts, Act.put, List.setIfInBounds_toArray, List.set_cons_zero, List.set_cons_succ] <;> rfl) ⟨hG, (fun h => f0.out h), (fun _ => rfl), (fun h => f2.out h), (fun h => f3.out h), (fun h => f4.out h), (fun h => f5.out h), (fun h => f6.out h)⟩
  ·intro L vs W hlen hL hD hI K hK
   obtain ⟨x0, x1, x2, x3, x4, x5, x6, rfl⟩ := len7 hlen
   have hG := hI.1
   replace hI := hI.2
   have f0 := hide hI.1
   replace hI := hI.2
   have f1 := hide hI.1
   replace hI := hI.2
   have f2 := hide hI.1
   replace hI := hI.2
   have f3 := hide hI.1
   replace hI := hI.2
   have f4 := hide hI.1
   replace hI := hI.2
   have f5 := hide hI.1
   replace hI := hI.2
   have f6 := hide hI
   clear hI
   try simp only [puts, Act.put, List.setIfInBounds_toArray, List.set_cons_zero, List.set_cons_succ]
   have z0 := (BO.out.eff hG.1.2 HNE.out).cell 0 rfl
   have z1 := (BO.out.eff hG.1.2 HNE.out).cell 1 rfl
   go_simp
   exact hK.out _ _ _ (by simp only [puts, Act.put, List.setIfInBounds_toArray, List.set_cons_zero, List.set_cons_succ] <;> rfl) ⟨hG, (fun h => f0.out h), (fun h => f1.out h), (fun _ => rfl), (fun h => f3.out h), (fun h => f4.out h), (fun h => f5.out h), (fun h => f6.out h)⟩
  ·intro L vs W hlen hL hD hI K hK
   obtain ⟨x0, x1, x2, x3, x4, x5, x6, rfl⟩ := len7 hlen
   have hG := hI.1
   replace hI := hI.2
   have f0 := hide hI.1
   replace hI := hI.2
   have f1 := hide hI.1
   replace hI := hI.2
   have f2 := hide hI.1
   replace hI := hI.2
   have f3 := hide hI.1
   replace hI := hI.2
   have f4 := hide hI.1
   replace hI := hI.2
   have f5 := hide hI.1
   replace hI := hI.2
   have f6 := hide hI
   clear hI
   obtain rfl := f2.out (hD.on 2 (by kernel_rfl))
   try simp only [puts, Act.put, List.setIfInBounds_toArray, List.set_cons_zero, List.set_cons_succ]
   have HC1 := hide (HBE.out W hG.1.1)
   go_simp
   refine HC1.out.mono ?_
   rintro e W' ⟨rfl, hb⟩
   try go_simp
   exact hK.out _ _ _ (by simp only [puts, Act.put, List.setIfInBounds_toArray, List.set_cons_zero, List.set_cons_succ] <;> rfl) ⟨⟨⟨below2 hG.1.1 hb, hG.1.2.trans (Eff.of_below hb _)⟩, fun h => (hG.2 h).later hb⟩, (fun h => f0.out h), (fun h => f1.out h), (fun h => f2.out h), (fun _ => rfl), (fun h => (fun h => let ⟨qa, qm, qc, e, hP⟩ := h; ⟨qa, qm, qc, e, hP.keeps (keeps_frm_later fun k _ hk => hb.block k hk)⟩) (f4.out h)), (fun h => (fun h => ⟨h.1, let ⟨qa, qm, qc, e, k⟩ := h.2; ⟨qa, qm, qc, e, k.later hb⟩⟩) (f5.out h)), (fun h => f6.out h)⟩
  ·intro L vs W hlen hL hD hI K hK
   obtain ⟨x0, x1, x2, x3, x4, x5, x6, rfl⟩ := len7 hlen
   have hG := hI.1
   replace hI := hI.2
   have f0 := hide hI.1
   replace hI := hI.2
   have f1 := hide hI.1
   replace hI := hI.2
   have f2 := hide hI.1
   replace hI := hI.2
   have f3 := hide hI.1
   replace hI := hI.2
   have f4 := hide hI.1
   replace hI := hI.2
   have f5 := hide hI.1
   replace hI := hI.2
   have f6 := hide hI
   clear hI
   obtain rfl := f1.out (hD.on 1 (by kernel_rfl))
   obtain rfl := f3.out (hD.on 3 (by kernel_rfl))
   try simp only [puts, Act.put, List.setIfInBounds_toArray, List.set_cons_zero, List.set_cons_succ]
   have HC1 := hide (HLI.out W)
   go_simp
   refine HC1.out.mono ?_
   rintro e W' ⟨pv', rfl, hP, hb⟩
   obtain ⟨qa, qc, rfl, -⟩ := id hP
   have hP2 := hP.keeps (keeps_frm_le _ hG.1.2.size)
   try go_simp
   exact hK.out _ _ _ (by simp only [puts, Act.put, List.setIfInBounds_toArray, List.set_cons_zero, List.set_cons_succ] <;> rfl) ⟨⟨⟨below2 hG.1.1 hb, hG.1.2.trans (Eff.of_below hb _)⟩, fun h => (hG.2 h).later hb⟩, (fun h => f0.out h), (fun h => f1.out h), (fun h => f2.out h), (fun h => f3.out h), (fun _ => ⟨_, _, _, rfl, hP2⟩), (fun h => (fun h => absurd (h.1.symm.trans hL) (by decide)) (f5.out h)), (fun h => f6.out h)⟩
  ·intro L vs W hlen hL hD hI K hK
   obtain ⟨x0, x1, x2, x3, x4, x5, x6, rfl⟩ := len7 hlen
   have hG := hI.1
   replace hI := hI.2
   have f0 := hide hI.1
   replace hI := hI.2
   have f1 := hide hI.1
   replace hI := hI.2
   have f2 := hide hI.1
   replace hI := hI.2
   have f3 := hide hI.1
   replace hI := hI.2
   have f4 := hide hI.1
   replace hI := hI.2
   have f5 := hide hI.1
   replace hI := hI.2
   have f6 := hide hI
   clear hI
   have g4 := f4.out (hD.on 4 (by kernel_rfl))
   try simp only [puts, Act.put, List.setIfInBounds_toArray, List.set_cons_zero, List.set_cons_succ]
   obtain ⟨qa, qm, qc, rfl, hP⟩ := g4
   have bR := hG.2 hL
   have r0 := bR.cell 0 rfl
   have r1 := bR.cell 1 rfl
   have rf0 := bR.frozen 0
   have rf1 := bR.frozen 1
   go_simp
   have hq := order_set (n := n) (v := .slice qa qm qc) bR (show w.heap.size ≤ w.heap.size + 1 by omega) hG.1.1
   have hb : True := trivial
   exact hK.out _ undef _ (by simp only [puts, Act.put, List.setIfInBounds_toArray, List.set_cons_zero, List.set_cons_succ] <;> rfl) ⟨⟨⟨hq.1, (hG.1.2.trans (Eff.setCell _ _ _ _)).trans (Eff.setCell _ _ _ _)⟩, (fun h => by cases h)⟩, (fun h => f0.out h), (fun h => f1.out h), (fun h => f2.out h), (fun h => f3.out h), (fun h => (fun h => let ⟨qa2, qm2, qc2, e2, hP2⟩ := h; ⟨qa2, qm2, qc2, e2, (hP2.keeps (frm_set HLT.out _)).keeps (frm_set HLT.out _)⟩) (f4.out h)), (fun _ => ⟨hD.on 4 (by kernel_rfl), _, _, _, rfl, hq.2⟩), (fun h => f6.out h)⟩
  ·intro L vs W hlen hL hD hI K hK
   obtain ⟨x0, x1, x2, x3, x4, x5, x6, rfl⟩ := len7 hlen
   have hG := hI.1
   replace hI := hI.2
   have f0 := hide hI.1
   replace hI := hI.2
   have f1 := hide hI.1
   replace hI := hI.2
   have f2 := hide hI.1
   replace hI := hI.2
   have f3 := hide hI.1
   replace hI := hI.2
   have f4 := hide hI.1
   replace hI := hI.2
   have f5 := hide hI.1
   replace hI := hI.2
   have f6 := hide hI
   clear hI
   try simp only [puts, Act.put, List.setIfInBounds_toArray, List.set_cons_zero, List.set_cons_succ]
   try go_simp
   exact hK.out _ _ _ (by simp only [puts, Act.put, List.setIfInBounds_toArray, List.set_cons_zero, List.set_cons_succ] <;> rfl) ⟨hG, (fun h => f0.out h), (fun h => f1.out h), (fun h => f2.out h), (fun h => f3.out h), (fun h => f4.out h), (fun h => f5.out h), (fun _ => rfl)⟩
 intro L vs W hlen hall hI
 obtain ⟨x0, x1, x2, x3, x4, x5, x6, rfl⟩ := len7 hlen
 have hG := hI.1
 replace hI := hI.2
 have f0 := hide hI.1
 replace hI := hI.2
 have f1 := hide hI.1
 replace hI := hI.2
 have f2 := hide hI.1
 replace hI := hI.2
 have f3 := hide hI.1
 replace hI := hI.2
 have f4 := hide hI.1
 replace hI := hI.2
 have f5 := hide hI.1
 replace hI := hI.2
 have f6 := hide hI
 clear hI
 obtain rfl := f0.out (hall 0 (by decide))
 obtain rfl := f1.out (hall 1 (by decide))
 obtain rfl := f2.out (hall 2 (by decide))
 obtain rfl := f3.out (hall 3 (by decide))
 have g4 := f4.out (hall 4 (by decide))
 have g5 := f5.out (hall 5 (by decide))
 obtain rfl := f6.out (hall 6 (by decide))
 have hal := hide hall
 clear hall f0 f1 f2 f3 f4 f5 f6
 try simp only [puts, Act.put, List.setIfInBounds_toArray, List.set_cons_zero, List.set_cons_succ]
 obtain ⟨qa, qm, qc, rfl, hP⟩ := g4
 obtain ⟨-, qa', qm', qc', e, hB⟩ := g5
 obtain ⟨e1, e2, e3⟩ : qa = qa' ∧ qm = qm' ∧ qc = qc' := by
  have e := e
  simp only [Value.agg.injEq, Array.mk.injEq, List.cons.injEq, Value.slice.injEq, and_true, true_and] at e
  exact e
 subst e1 e2 e3
 have HP := hide (hP.keeps (keeps_frm_le _ HW.out.size))
 have HF := hide hG.1.1
 have x0 := hB.cell 0 rfl
 have x1 := hB.cell 1 rfl
 clear e hG hP
 go_wp2_with fail
 refine bodyPost_ret (v := .tuple #[orderV n (.slice qa qm qc), .int .i64 0]) (by simp [results, Tryd.results45, go_sem, x0, x1]) rfl ?_
 exact ⟨_, rfl, HP.out, HF.out⟩
end Go.Proofs.YtnidcoinfmcffaaDoor
/- The reference of chapter 15: Prefixes, IsLine. Conditions: how the order lies in memory. -/
namespace Go.Proofs.YtnidcoinfmcffaaDoor
open Go.RowKit
attribute [local go_sem] Oper.semAt_some
theorem shrN {S k : Nat} : ((S : Int) / 2 ^ k) % 2 = ((S / 2 ^ k % 2 : Nat) : Int) := by simp
theorem shrT {S k : Nat} : ((S : Int) / 2 ^ k).tmod 2 = ((S / 2 ^ k % 2 : Nat) : Int) := by
 rw [Int.tmod_eq_emod_of_nonneg (Int.ediv_nonneg (by omega) (Int.pow_nonneg (by decide))), shrN]
theorem bitN1 {S k : Nat} : ((((S / 2 ^ k % 2 : Nat) : Int)) == 1) = S.testBit k := by
 rw [Nat.testBit_eq_decide_div_mod_eq]
 have h2 : S / 2 ^ k % 2 < 2 := Nat.mod_lt _ (by decide)
 generalize S / 2 ^ k % 2 = q at *
 show decide ((q : Int) = 1) = decide (q = 1)
 rw [decide_eq_decide]; omega
theorem bitN0 {S k : Nat} : ((((S / 2 ^ k % 2 : Nat) : Int)) == 0) = !S.testBit k := by
 rw [Nat.testBit_eq_decide_div_mod_eq]
 have h2 : S / 2 ^ k % 2 < 2 := Nat.mod_lt _ (by decide)
 generalize S / 2 ^ k % 2 = q at *
 show decide ((q : Int) = 0) = !decide (q = 1)
 rcases Nat.lt_or_ge q 1 with h | h
 ·obtain rfl : q = 0 := by omega
  rfl
 ·obtain rfl : q = 1 := by omega
  rfl
/-- the four facts by which the walk decides a bit of a set -/
theorem bit4 (S k : Nat) : ((S : Int) / 2 ^ k % 2 == 1) = S.testBit k ∧ (((S : Int) / 2 ^ k).tmod 2 == 1) = S.testBit k ∧ ((S : Int) / 2 ^ k % 2 == 0) = (!S.testBit k) ∧ (((S : Int) / 2 ^ k).tmod 2 == 0) = (!S.testBit k) := by
 refine ⟨?_, ?_, ?_, ?_⟩
 ·rw [shrN]; exact bitN1
 ·rw [shrT]; exact bitN1
 ·rw [shrN]; exact bitN0
 ·rw [shrT]; exact bitN0
def badB (R : RelO) (S x y : Nat) : Bool := R x y && (S.testBit y && !S.testBit x)
def prB (n : Nat) (R : RelO) (S a b : Nat) : Bool := ((List.range a).all fun x => (List.range n).all fun y => !badB R S x y) && (List.range b).all fun y => !badB R S a y
theorem prB_zero (n : Nat) (R : RelO) (S : Nat) : prB n R S 0 0 = true := rfl
theorem prB_next (n : Nat) (R : RelO) (S a b : Nat) : prB n R S a (b + 1) = (prB n R S a b && !badB R S a b) := by
 unfold prB
 rw [List.range_succ, List.all_append, List.all_cons, List.all_nil, Bool.and_true, Bool.and_assoc]
theorem prB_row (n : Nat) (R : RelO) (S a : Nat) : prB n R S a n = prB n R S (a + 1) 0 := by
 unfold prB
 rw [List.range_succ, List.all_append, List.all_cons, List.all_nil, Bool.and_true]; simp
theorem prB_all {n : Nat} {R : RelO} (h : PoO n R) (S : Nat) : prB n R S n 0 = prefO n R S.testBit := by
 rw [Bool.eq_iff_iff, pref_iff h]
 unfold prB
 simp only [List.range_zero, List.all_nil, Bool.and_true, List.all_eq_true, List.mem_range]
 constructor
 ·intro h1 a x hr hx
  have := h1 a (h.dom a x hr).1 x (h.dom a x hr).2
  unfold badB at this
  rw [hr, hx] at this
  simpa using this
 ·intro h1 x hx y hy
  unfold badB
  cases e1 : R x y with
  | false => rfl
  | true =>
   cases e2 : S.testBit y with
   | false => rfl
   | true => rw [h1 x y e1 e2]; rfl
theorem rprefixes_no (o : OrderD) (pv : Value) (w : World) (hp : PairsIn w.cell? pv o.pairs) (hv : validO o = false) : Calls Tryd.prog 50 #[orderV o.n pv] w (Ret (.tuple #[.slice none 0 0, .int .i64 150]) w) := by
 obtain ⟨on, ps⟩ := o
 obtain ⟨pa, pm, rfl, -, -, -⟩ := id hp
 have HVA := hide (fun W (hb : Below w.heap.size w W) => by
  have h := rvalid_any ⟨on, ps⟩ (.slice pa ps.length pm) W (RecIn.below hb hp)
  rw [hv] at h
  exact h)
 clear hp hv
 go_enter Tryd.func50, Tryd.ntmps50
 go_wp2_with fail
 generalize hX1 : World.alloc w _ = X1
 have zX1 : X1.heap.size = w.heap.size + 1 := by rw [← hX1]; simp
 have bX1 : Below w.heap.size w X1 := by rw [← hX1]; exact bal w _
 have bO : Blk X1 (w.heap.size) [.int .i64 on, .slice pa ps.length pm] 25 := by rw [← hX1]; exact Blk.newA w _ (by first | rfl | simp)
 have Xb := bX1
 have Xz := zX1
 clear hX1 zX1 bX1
 have c0 := bO.cell 0 rfl
 have c1 := bO.cell 1 rfl
 go_wp2_with fail
 refine (HVA.out _ Xb).mono ?_
 rintro e w1 ⟨rfl, hb⟩
 have hw := below2 Xb hb
 clear c0 c1 bO hb Xb Xz
 go_wp2_with fail
 go_ret2
 exact ⟨rfl, hw⟩
set_option maxRecDepth 100000 in
set_option maxHeartbeats 4000000 in
theorem rprefixes_yes (n : Nat) (ps : List (Int × Int)) (pv : Value) (w : World) (hp : PairsIn w.cell? pv ps) (hv : validO ⟨n, ps⟩ = true) : Calls Tryd.prog 50 #[orderV n pv] w (IntsEQ (natsO (prefixesO n (beforeO ⟨n, ps⟩))) w) := by
 obtain ⟨pa, pm, rfl, -, -, -⟩ := id hp
 have hf : formedO ⟨(n : Int), ps⟩ = true := by unfold validO at hv; rw [Bool.and_eq_true] at hv; exact hv.1
 have hn8 : n ≤ 8 := by
  have := (formed_n hf).1.2
  simp only at this
  omega
 have HPO := hide (show PoO n (beforeO ⟨n, ps⟩) from before_po hv)
 have HVA := hide (fun W (hb : Below w.heap.size w W) => by
  have h := rvalid_any ⟨(n : Int), ps⟩ (.slice pa ps.length pm) W (RecIn.below hb hp)
  rw [hv] at h
  exact h)
 have HBE := hide (fun W (hb : Below w.heap.size w W) => rbefore_any n ps (.slice pa ps.length pm) W (RecIn.below hb hp) hf)
 generalize beforeO ⟨(n : Int), ps⟩ = R at *
 clear hp hv hf
 have HPE : Hid (prefixesO n R = prefK n R (2 ^ n)) := hide rfl
 have HP0 : Hid (prefK n R 0 = []) := hide rfl
 have HPY := hide (fun k h => prefK_yes (n := n) (R := R) (k := k) h)
 have HPN := hide (fun k h => prefK_no (n := n) (R := R) (k := k) h)
 have HPL := hide (prefK_le n R)
 have HB0 := hide (prB_zero n R)
 have HBN := hide (prB_next n R)
 have HBR := hide (prB_row n R)
 have HBA := hide (prB_all HPO.out)
 generalize prefixesO n R = PX at *
 generalize prefK n R = PK at *
 generalize prB n R = PB at *
 generalize prefO n R = PF at *
 have hw64 := wrapw hn8
 have hw65 := wrap_pow hn8
 have h256 := pow_256 hn8
 obtain ⟨T, hT⟩ : ∃ T, 2 ^ n = T := ⟨_, rfl⟩
 rw [hT] at hw64 hw65 HPE h256
 clear hT
 go_enter Tryd.func50, Tryd.ntmps50
 go_wp2_with fail
 generalize hX1 : World.alloc w _ = X1
 have zX1 : X1.heap.size = w.heap.size + 1 := by rw [← hX1]; simp
 have bX1 : Below w.heap.size w X1 := by rw [← hX1]; exact bal w _
 have bO : Blk X1 (w.heap.size) [.int .i64 n, .slice pa ps.length pm] 25 := by rw [← hX1]; exact Blk.newA w _ (by first | rfl | simp)
 have Xb := bX1
 have Xz := zX1
 clear hX1 zX1 bX1
 have c0 := bO.cell 0 rfl
 have c1 := bO.cell 1 rfl
 go_wp2_with fail
 refine (HVA.out _ Xb).mono ?_
 rintro e w1 ⟨rfl, hb⟩
 have HW := hide (below2 Xb hb)
 replace bO := bO.later hb
 clear c0 c1 hb Xb Xz
 have c0 := bO.cell 0 rfl
 have c1 := bO.cell 1 rfl
 go_wp2_with fail
 refine (HBE.out _ HW.out).mono ?_
 rintro e w2 ⟨rfl, hb2⟩
 have HW2 := hide (below2 HW.out hb2)
 have BO2 := hide (bO.later hb2)
 clear c0 c1 hb2 bO HW HVA HBE
 go_wp2_with (refine wp_store_new rfl _ _ rfl R rfl rfl rfl ?_; intro W2 bM hb2; have BO3 := hide (BO2.out.later hb2); have HW3 := hide (below2 HW2.out hb2); have BM := hide bM; clear bM hb2 HW2 BO2)
 obtain ⟨mb, hmb⟩ : ∃ mb, w2.heap.size = mb := ⟨_, rfl⟩
 rw [hmb] at BM ⊢
 clear hmb
 go_loopw [5, 6] (fun v i wr => ∃ S : Nat, S ≤ T ∧ i = .int .i64 S ∧ OwnI wr W2.heap.size v (natsO (PK S)) ∧ Below W2.heap.size W2 wr) (fun _ i _ => T - (intOf i).toNat)
 case atStart => exact ⟨0, by omega, rfl, by rw [HP0.out]; exact OwnI.nil _ _, Below.refl _ _⟩
 case round =>
  obtain ⟨S, hS, rfl, hO, hbr⟩ := hrel
  obtain ⟨va, vc, rfl⟩ := hO.form
  have HO := hide hO
  have HBF := hide hbr
  have BO4 := hide (BO3.out.later hbr)
  have BM4 := hide (BM.out.later hbr)
  have c0 := BO4.out.cell 0 rfl
  clear hO hbr
  by_cases hlS : S < T
  ·have hlSI : (S : Int) < T := by omega
   have HS := hide hlS
   have hpl : (natsO (PK S)).length ≤ 256 := by
    unfold natsO
    rw [List.length_map]
    exact Nat.le_trans (HPL.out S) (by omega)
   have HYS : Hid (PF S.testBit = true → natsO (PK (S + 1)) = natsO (PK S) ++ [(S : Int)]) := hide (fun h => by rw [HPY.out S h]; unfold natsO; rw [List.map_append]; rfl)
   have HNS : Hid (PF S.testBit = false → natsO (PK (S + 1)) = natsO (PK S)) := hide (fun h => by rw [HPN.out S h])
   have hpm : (natsO (PK S)).length < 1000000 := by omega
   generalize natsO (PK S) = L at *
   go_wp2_with fail
   clear c0
   generalize wr = wA at *
   go_loopw [7, 8] (fun g i wz => ∃ a : Nat, a ≤ n ∧ i = .int .i64 a ∧ g = .bool (PB S a 0) ∧ wz = wA) (fun _ i _ => n - (intOf i).toNat)
   case atStart => exact ⟨0, by omega, rfl, by rw [HB0.out], rfl⟩
   case round =>
    obtain ⟨a, ha, rfl, rfl, hwz⟩ := hrel
    obtain rfl := hwz.symm
    have c0 := BO4.out.cell 0 rfl
    by_cases hla : a < n
    ·have hlaI : (a : Int) < n := by omega
     have HA := hide hla
     have ha8 : a < 8 := by omega
     have ha8I : (a : Int) < 8 := by omega
     have ha0 : ¬ (a : Int) < 0 := by omega
     go_wp2_with fail
     clear c0
     go_loopw [7, 9] (fun g i wq => ∃ b : Nat, b ≤ n ∧ i = .int .i64 b ∧ g = .bool (PB S a b) ∧ wq = wA) (fun _ i _ => n - (intOf i).toNat)
     case atStart => exact ⟨0, by omega, rfl, rfl, rfl⟩
     case round =>
      obtain ⟨b, hb, rfl, rfl, hwz⟩ := hrel
      obtain rfl := hwz.symm
      have c0 := BO4.out.cell 0 rfl
      by_cases hlb : b < n
      ·have hlbI : (b : Int) < n := by omega
       have HB := hide hlb
       have hb8 : b < 8 := by omega
       have hb8I : (b : Int) < 8 := by omega
       have hb0 : ¬ (b : Int) < 0 := by omega
       have t0 := BM4.out.cell _ (relL_get R ha8 hb8)
       obtain ⟨f1, f2, -, -⟩ := bit4 S b
       obtain ⟨-, -, f3, f4⟩ := bit4 S a
       have HN : Hid (PB S a (b + 1) = (PB S a b && !(R a b && (S.testBit b && !S.testBit a)))) := hide (HBN.out S a b)
       generalize PB S a b = g at *
       generalize R a b = r1 at *
       generalize S.testBit b = r2 at *
       generalize S.testBit a = r3 at *
       cases r1
       ·go_wp2_with fail
        clear c0 t0
        go_roundw
        case rel => exact ⟨b + 1, by have := HB.out; omega, by go_num, by rw [HN.out]; simp, by trivial⟩
        case measure => have := HB.out; simp [intOf]; omega
       ·cases r2
        ·go_wp2_with fail
         clear c0 t0
         go_roundw
         case rel => exact ⟨b + 1, by have := HB.out; omega, by go_num, by rw [HN.out]; simp, by trivial⟩
         case measure => have := HB.out; simp [intOf]; omega
        ·cases r3
         ·go_wp2_with fail
          clear c0 t0
          go_roundw
          case rel => exact ⟨b + 1, by have := HB.out; omega, by go_num, by rw [HN.out]; simp, by trivial⟩
          case measure => have := HB.out; simp [intOf]; omega
         ·go_wp2_with fail
          clear c0 t0
          go_roundw
          case rel => exact ⟨b + 1, by have := HB.out; omega, by go_num, by rw [HN.out]; simp, by trivial⟩
          case measure => have := HB.out; simp [intOf]; omega
      ·obtain rfl : b = n := by omega
       have HR1 := hide (HBR.out S a)
       go_wp2_with fail
       clear c0
       go_roundw
       case rel => exact ⟨a + 1, by have := HA.out; omega, by go_num, by rw [HR1.out], by trivial⟩
       case measure => have := HA.out; simp [intOf]; omega
    ·obtain rfl : a = n := by omega
     have HR1 := hide (HBA.out S)
     obtain ⟨g, hg⟩ : ∃ g, PB S a 0 = g := ⟨_, rfl⟩
     rw [hg] at HR1 ⊢
     clear hg
     have hsz := HBF.out.size
     have hO := HO.out
     cases g
     ·have HL := hide (HNS.out HR1.out.symm)
      go_wp2_with fail
      clear c0
      go_roundw
      case rel => exact ⟨S + 1, by have := HS.out; omega, by go_num, by rw [HL.out]; exact HO.out, HBF.out⟩
      case measure => have := HS.out; simp [intOf]; omega
     ·have HL := hide (HYS.out HR1.out.symm)
      go_wp2_with (at_builtin; refine app_intE rfl _ _ rfl W2.heap.size _ L rfl hO (S : Int) rfl hpm hsz ?_; intro v3 w3 hO3 hE3 hob3; have HB3 := hide (HBF.out.trans (hE3.below hsz (fun k e => (hO.ltB e.symm).1))); have HO3 := hide hO3; clear hO3 hE3 hob3)
      clear c0 hO
      go_roundw
      case rel => exact ⟨S + 1, by have := HS.out; omega, by go_num, by rw [HL.out]; exact HO3.out, HB3.out⟩
      case measure => have := HS.out; simp [intOf]; omega
  ·obtain rfl : S = T := by omega
   have HR1 : Hid (IntsIn (frm w.heap.size wr) (.slice va (natsO (PK S)).length vc) (natsO PX)) := hide (by rw [HPE.out]; exact HO.out.intsF HW3.out.size)
   have HF := hide (below2 HW3.out HBF.out)
   go_wp2_with fail
   go_ret2
   exact ⟨_, rfl, HR1.out, HF.out⟩
end Go.Proofs.YtnidcoinfmcffaaDoor
/- The reference of chapter 15: IsLine, Lines. Conditions: how the order and the list lie in memory. -/
namespace Go.Proofs.YtnidcoinfmcffaaDoor
open Go.RowKit
attribute [local go_sem] Oper.semAt_some
theorem ints_low {w W : World} {v : Value} {l : List Int} (h : IntsIn w.cell? v l) (hb : Below w.heap.size w W) : IntsIn W.cell? v l := h.keeps (keeps_of_below hb)
theorem intsR_at {W : World} {a : Option Addr} {n c : Nat} {l : List Int} (h : IntsIn W.cell? (.slice a n c) l) {i : Nat} (hi : i < l.length) : ∃ b o, a = some ⟨b, o, none⟩ ∧ W.cell? ⟨b, o + i, none⟩ = some (.int .i64 (l.getD i 0)) := by
 obtain ⟨a', m', e, -, -, hc⟩ := h
 obtain ⟨rfl, -, -⟩ := Value.slice.inj e
 exact hc i hi
theorem risline_no (o : OrderD) (pv lv : Value) (l : List Int) (w : World) (hp : PairsIn w.cell? pv o.pairs) (hl : IntsAt w lv l) (hv : validO o = false) : Calls Tryd.prog 44 #[orderV o.n pv, lv] w (Ret (.bool false) w) := by
 obtain ⟨la, lc, rfl, -, -, -⟩ := id hl
 clear hl
 obtain ⟨on, ps⟩ := o
 obtain ⟨pa, pm, rfl, -, -, -⟩ := id hp
 have HVA := hide (fun W (hb : Below w.heap.size w W) => by
  have h := rvalid_any ⟨on, ps⟩ (.slice pa ps.length pm) W (RecIn.below hb hp)
  rw [hv] at h
  exact h)
 clear hp hv
 go_enter Tryd.func44, Tryd.ntmps44
 go_wp2_with fail
 generalize hX1 : World.alloc w _ = X1
 have zX1 : X1.heap.size = w.heap.size + 1 := by rw [← hX1]; simp
 have bX1 : Below w.heap.size w X1 := by rw [← hX1]; exact bal w _
 have bO : Blk X1 (w.heap.size) [.int .i64 on, .slice pa ps.length pm] 25 := by rw [← hX1]; exact Blk.newA w _ (by first | rfl | simp)
 have Xb := bX1
 have Xz := zX1
 clear hX1 zX1 bX1
 have c0 := bO.cell 0 rfl
 have c1 := bO.cell 1 rfl
 go_wp2_with fail
 refine (HVA.out _ Xb).mono ?_
 rintro e w1 ⟨rfl, hb⟩
 have hw := below2 Xb hb
 clear c0 c1 bO hb Xb Xz
 go_wp2_with fail
 go_ret
 exact ⟨rfl, hw⟩
def rlineK (R : RelO) (l : List Int) (i k : Nat) : Bool := !decide (l.getD k 0 = l.getD i 0) && !R (l.getD i 0).toNat (l.getD k 0).toNat
theorem rlineB_no {n : Nat} {R : RelO} {l : List Int} {i : Nat} (hi : i < l.length) (h : rlineS n R l i = false) : rlineB n R l = false := by
 unfold rlineB
 cases e : (List.range l.length).all (rlineS n R l) with
 | false => rw [Bool.and_false]
 | true =>
  rw [List.all_eq_true] at e
  rw [e i (List.mem_range.2 hi)] at h; cases h
theorem rlineS_no {n : Nat} {R : RelO} {l : List Int} {i k : Nat} (hk : k < i) (h : rlineK R l i k = false) : rlineS n R l i = false := by
 unfold rlineS
 cases e : (List.range i).all fun k => !decide (l.getD k 0 = l.getD i 0) && !R (l.getD i 0).toNat (l.getD k 0).toNat with
 | false => rw [Bool.and_false]
 | true =>
  rw [List.all_eq_true] at e
  have h2 := e k (List.mem_range.2 hk)
  unfold rlineK at h
  rw [h] at h2; cases h2
theorem rlineS_out {n : Nat} {R : RelO} {l : List Int} {i : Nat} (h : ¬ (0 ≤ l.getD i 0 ∧ l.getD i 0 < n)) : rlineS n R l i = false := by
 unfold rlineS
 rw [decide_eq_false h, Bool.false_and]
theorem rlineS_in {n : Nat} {R : RelO} {l : List Int} {i : Nat} (h : rlineS n R l i = true) : 0 ≤ l.getD i 0 ∧ l.getD i 0 < n := by
 unfold rlineS at h
 rw [Bool.and_eq_true] at h
 exact of_decide_eq_true h.1
set_option maxRecDepth 100000 in
set_option maxHeartbeats 4000000 in
theorem risline_yes (n : Nat) (ps : List (Int × Int)) (pv lv : Value) (l : List Int) (w : World) (hp : PairsIn w.cell? pv ps) (hl : IntsAt w lv l) (hv : validO ⟨n, ps⟩ = true) : Calls Tryd.prog 44 #[orderV n pv, lv] w (Ret (.bool (isLineB n (beforeO ⟨n, ps⟩) l)) w) := by
 have HL := hide hl
 obtain ⟨la, lc, rfl, hl1, hl2, -⟩ := id hl
 have hlI : (l.length : Int) ≤ 9223372036854775807 := by omega
 clear hl hl1 hl2
 obtain ⟨pa, pm, rfl, -, -, -⟩ := id hp
 have hf : formedO ⟨(n : Int), ps⟩ = true := by unfold validO at hv; rw [Bool.and_eq_true] at hv; exact hv.1
 have hn8 : n ≤ 8 := by
  have := (formed_n hf).1.2
  simp only at this
  omega
 have HPO := hide (show PoO n (beforeO ⟨n, ps⟩) from before_po hv)
 have HVA := hide (fun W (hb : Below w.heap.size w W) => by
  have h := rvalid_any ⟨(n : Int), ps⟩ (.slice pa ps.length pm) W (RecIn.below hb hp)
  rw [hv] at h
  exact h)
 have HBE := hide (fun W (hb : Below w.heap.size w W) => rbefore_any n ps (.slice pa ps.length pm) W (RecIn.below hb hp) hf)
 generalize beforeO ⟨(n : Int), ps⟩ = R at *
 clear hp hv hf
 have HLB := hide (rline_eq HPO.out l)
 generalize isLineB n R l = LB at *
 by_cases hln : l.length = n
 ·have HSA : Hid (∀ i, i ≤ l.length → (List.range i).all (rlineS n R l) = true → i = l.length → LB = true) := hide (fun i _ h e => by
   rw [← HLB.out]; unfold rlineB
   rw [decide_eq_true hln, Bool.true_and, ← e]; exact h)
  have HSN : Hid (∀ i, i < l.length → rlineS n R l i = false → LB = false) := hide (fun i hi h => by rw [← HLB.out]; exact rlineB_no hi h)
  have HSK : Hid (∀ i, rlineS n R l i = (decide (0 ≤ l.getD i 0 ∧ l.getD i 0 < n) && (List.range i).all (rlineK R l i))) := hide (fun i => rfl)
  have HKN := hide (fun i k hk h => rlineS_no (n := n) (R := R) (l := l) (i := i) (k := k) hk h)
  have HSO := hide (fun i h => rlineS_out (n := n) (R := R) (l := l) (i := i) h)
  have HSI := hide (fun i h => rlineS_in (n := n) (R := R) (l := l) (i := i) h)
  have HKD : Hid (∀ i k, rlineK R l i k = (!decide (l.getD k 0 = l.getD i 0) && !R (l.getD i 0).toNat (l.getD k 0).toNat)) := hide (fun _ _ => rfl)
  generalize rlineS n R l = SS at *
  generalize rlineK R l = KK at *
  have hlnB : ((l.length : Int) == (n : Int)) = true := by rw [hln]; simp
  have HLN := hide hln
  clear hln
  go_enter Tryd.func44, Tryd.ntmps44
  go_wp2_with fail
  generalize hX1 : World.alloc w _ = X1
  have zX1 : X1.heap.size = w.heap.size + 1 := by rw [← hX1]; simp
  have bX1 : Below w.heap.size w X1 := by rw [← hX1]; exact bal w _
  have bO : Blk X1 (w.heap.size) [.int .i64 n, .slice pa ps.length pm] 25 := by rw [← hX1]; exact Blk.newA w _ (by first | rfl | simp)
  have Xb := bX1
  have Xz := zX1
  clear hX1 zX1 bX1
  have c0 := bO.cell 0 rfl
  have c1 := bO.cell 1 rfl
  go_wp2_with fail
  refine (HVA.out _ Xb).mono ?_
  rintro e w1 ⟨rfl, hb⟩
  have HW := hide (below2 Xb hb)
  replace bO := bO.later hb
  clear c0 c1 hb Xb Xz
  have c0 := bO.cell 0 rfl
  have c1 := bO.cell 1 rfl
  go_wp2_with fail
  refine (HBE.out _ HW.out).mono ?_
  rintro e w2 ⟨rfl, hb2⟩
  have HW2 := hide (below2 HW.out hb2)
  have BO2 := hide (bO.later hb2)
  clear c0 c1 hb2 bO HW HVA HBE
  go_wp2_with (refine wp_store_new rfl _ _ rfl R rfl rfl rfl ?_; intro W2 bM hb2; have BO3 := hide (BO2.out.later hb2); have HW3 := hide (below2 HW2.out hb2); have BM := hide bM; clear bM hb2 HW2 BO2)
  obtain ⟨mb, hmb⟩ : ∃ mb, w2.heap.size = mb := ⟨_, rfl⟩
  rw [hmb] at BM ⊢
  have HLW := hide (ints_low HL.out HW3.out)
  clear hmb hlnB
  go_loopw [6] (fun i wr => ∃ k : Nat, k ≤ l.length ∧ i = .int .i64 k ∧ (List.range k).all SS = true ∧ Below W2.heap.size W2 wr) (fun i _ => l.length - (intOf i).toNat)
  case atStart => exact ⟨0, by omega, rfl, rfl, Below.refl _ _⟩
  case round =>
   obtain ⟨i, hi, rfl, hal, hbr⟩ := hrel
   have HAL := hide hal
   have HBR := hide hbr
   have BO4 := hide (BO3.out.later hbr)
   have BM4 := hide (BM.out.later hbr)
   have HLR := hide (ints_low HLW.out hbr)
   clear hal hbr
   by_cases hli : i < l.length
   ·have hliI : (i : Int) < l.length := by omega
    have HI := hide hli
    obtain ⟨lb, lo, rfl, hci⟩ := intsR_at HLR.out hli
    have HSO1 := hide (HSO.out i)
    have HSN1 := hide (HSN.out i hli)
    obtain ⟨x0, hx⟩ : ∃ x, l.getD i 0 = x := ⟨_, rfl⟩
    rw [hx] at hci HSO1
    have HX := hide hx
    clear hx
    have q1 : ∀ j : Bw wr.heap.size wr, j.W.cell? ⟨lb, lo + i, none⟩ = some (.int .i64 x0) := bwc hci
    have q2 : ∀ j : Bw wr.heap.size wr, j.W.cell? ⟨w.heap.size, 0, none⟩ = some (.int .i64 (n : Nat)) := bwc (BO4.out.cell 0 rfl)
    have q3 : ∀ j : Bw wr.heap.size wr, j.W.cell? ⟨w.heap.size, 1, none⟩ = some (.slice pa ps.length pm) := bwc (BO4.out.cell 1 rfl)
    have hfin : Hid (∀ W, Below wr.heap.size wr W → Below w.heap.size w W) := hide (fun W h => below2 (below2 HW3.out HBR.out) h)
    clear hci
    by_cases e1 : x0 < 0
    ·have hd1 : decide (x0 < 0) = true := decide_eq_true e1
     have HN := hide (HSN1.out (HSO1.out (by omega)))
     go_upto_region 7 with (fail)
     refine wp_region_bw (by kernel_rfl) (by kernel_rfl) ?_
     repeat (go_big_quiet_step (fail))
     refine wpQuiet_nil ?_
     rintro _ ⟨j, rfl⟩
     go_wp2_with fail
     go_ret
     exact ⟨by rw [HN.out]; rfl, hfin.out _ j.h⟩
    ·have hd1 : decide (x0 < 0) = false := decide_eq_false e1
     by_cases e2 : (n : Int) ≤ x0
     ·have hd2 : decide ((n : Int) ≤ x0) = true := decide_eq_true e2
      have HN := hide (HSN1.out (HSO1.out (by omega)))
      go_upto_region 7 with (fail)
      refine wp_region_bw (by kernel_rfl) (by kernel_rfl) ?_
      repeat (go_big_quiet_step (fail))
      refine wpQuiet_nil ?_
      rintro _ ⟨j, rfl⟩
      go_wp2_with fail
      go_ret
      exact ⟨by rw [HN.out]; rfl, hfin.out _ j.h⟩
     ·have hd2 : decide ((n : Int) ≤ x0) = false := decide_eq_false e2
      obtain ⟨x, rfl⟩ : ∃ x : Nat, x0 = x := ⟨x0.toNat, by omega⟩
      have HXN : Hid (x < n) := hide (by omega)
      have hd3 : decide (n ≤ x) = false := decide_eq_false (by omega)
      clear HSO1 e1 e2
      go_upto_region 7 with (fail)
      refine wp_region_bw (by kernel_rfl) (by kernel_rfl) ?_
      repeat (go_big_quiet_step (fail))
      refine wpQuiet_nil ?_
      rintro _ ⟨j, rfl⟩
      have HB5 := hide (HBR.out.trans (j.h.mono HBR.out.size))
      have BM5 := hide (BM4.out.later j.h)
      have HLR5 := hide (ints_low HLR.out j.h)
      clear q1 q2 q3 hd1 hd2 hd3 hfin BM4 HLR BO4 HBR
      generalize j.W = w5 at *
      go_wp2_with fail
      go_loopw [7] (fun m wz => ∃ k : Nat, k ≤ i ∧ m = .int .i64 k ∧ (List.range k).all (KK i) = true ∧ Below w5.heap.size w5 wz) (fun m _ => i - (intOf m).toNat)
      case atStart => exact ⟨0, by omega, rfl, rfl, Below.refl _ _⟩
      case round =>
       obtain ⟨k, hk, rfl, hak, hbz⟩ := hrel
       have HAK := hide hak
       have HBZ := hide hbz
       have BM6 := hide (BM5.out.later hbz)
       have HLR6 := hide (ints_low HLR5.out hbz)
       clear hak hbz
       by_cases hlk : k < i
       ·have hlkI : (k : Int) < i := by omega
        have HK := hide hlk
        have hkl : k < l.length := by have := HI.out; omega
        have hil : i < l.length := HI.out
        have hklI : (k : Int) < l.length := by omega
        have hilI : (i : Int) < l.length := by omega
        obtain ⟨lb', lo', e', hck⟩ := intsR_at HLR6.out hkl
        cases e'
        obtain ⟨lb', lo', e', hci⟩ := intsR_at HLR6.out hil
        cases e'
        have hyn := HSI.out k (by have h := HAL.out; rw [List.all_eq_true] at h; exact h k (List.mem_range.2 hlk))
        have HKE := hide (HKD.out i k)
        have HKN1 := hide (fun h => HSN1.out (HKN.out i k hlk h))
        obtain ⟨y0, hy⟩ : ∃ y, l.getD k 0 = y := ⟨_, rfl⟩
        rw [hy] at hck hyn HKE
        rw [HX.out] at hci HKE
        obtain ⟨y, rfl⟩ : ∃ y : Nat, y0 = y := ⟨y0.toNat, by omega⟩
        rw [Int.toNat_natCast, Int.toNat_natCast] at HKE
        have hx8 : x < 8 := by have := HXN.out; omega
        have hy8 : y < 8 := by omega
        have hx8I : (x : Int) < 8 := by omega
        have hy8I : (y : Int) < 8 := by omega
        have t1 := BM6.out.cell _ (relL_get R hx8 hy8)
        have q1 : ∀ j : Bw wr.heap.size wr, j.W.cell? ⟨lb, lo + i, none⟩ = some (.int .i64 (x : Nat)) := bwc hci
        have q2 : ∀ j : Bw wr.heap.size wr, j.W.cell? ⟨lb, lo + k, none⟩ = some (.int .i64 (y : Nat)) := bwc hck
        have q3 : ∀ j : Bw wr.heap.size wr, j.W.cell? ⟨mb, x * 8 + y, none⟩ = some (.bool (R x y)) := bwc t1
        have HFB := hide (below2 (below2 HW3.out HB5.out) HBZ.out)
        clear hci hck t1 hy hyn
        by_cases e3 : y = x
        ·subst e3
         have HN := hide (HKN1.out (by rw [HKE.out]; simp))
         go_upto_region 12 with (fail)
         refine wp_region_bw (by kernel_rfl) (by kernel_rfl) ?_
         repeat (go_big_quiet_step (fail))
         refine wpQuiet_nil ?_
         rintro _ ⟨j, rfl⟩
         go_wp2_with fail
         go_ret
         exact ⟨by rw [HN.out]; rfl, below2 HFB.out j.h⟩
        ·have hd3 : ((y : Int) == (x : Int)) = false := beq_eq_false_iff_ne.2 (by omega)
         have hd4 : (y == x) = false := beq_eq_false_iff_ne.2 e3
         have hd5 : decide (y = x) = false := decide_eq_false e3
         have HKE2 : Hid (KK i k = !R x y) := hide (by rw [HKE.out, decide_eq_false (by omega)]; rfl)
         clear e3 HKE
         generalize R x y = rxy at *
         cases rxy
         ·go_upto_region 12 with (fail)
          refine wp_region_bw (by kernel_rfl) (by kernel_rfl) ?_
          repeat (go_big_quiet_step (fail))
          refine wpQuiet_nil ?_
          rintro _ ⟨j, rfl⟩
          have HB7 := hide (HBZ.out.trans (j.h.mono HBZ.out.size))
          clear q1 q2 q3 hd3 hd4 hd5
          go_wp2_with fail
          go_roundw
          case rel => exact ⟨k + 1, by have := HK.out; omega, by go_num, by rw [List.range_succ, List.all_append, HAK.out, List.all_cons, HKE2.out]; rfl, HB7.out⟩
          case measure => have := HK.out; simp [intOf]; omega
         ·have HN := hide (HKN1.out (by rw [HKE2.out]; rfl))
          go_upto_region 12 with (fail)
          refine wp_region_bw (by kernel_rfl) (by kernel_rfl) ?_
          repeat (go_big_quiet_step (fail))
          refine wpQuiet_nil ?_
          rintro _ ⟨j, rfl⟩
          go_wp2_with fail
          go_ret
          exact ⟨by rw [HN.out]; rfl, below2 HFB.out j.h⟩
       ·obtain rfl : k = i := by omega
        have HSE : Hid (SS k = true) := hide (by rw [HSK.out, HAK.out, HX.out, decide_eq_true (by have := HXN.out; omega)]; rfl)
        have HB7 := hide (HB5.out.trans (HBZ.out.mono HB5.out.size))
        go_wp2_with fail
        go_roundw
        case rel => exact ⟨k + 1, by have := HI.out; omega, by go_num, by rw [List.range_succ, List.all_append, HAL.out, List.all_cons, HSE.out]; rfl, HB7.out⟩
        case measure => have := HI.out; simp [intOf]; omega
   ·obtain rfl : i = l.length := by omega
    have HN := hide (HSA.out _ (Nat.le_refl _) HAL.out rfl)
    have HF := hide (below2 HW3.out HBR.out)
    go_wp2_with fail
    go_ret
    exact ⟨by rw [HN.out]; rfl, HF.out⟩
 ·have HN : Hid (LB = false) := hide (by rw [← HLB.out]; unfold rlineB; rw [decide_eq_false hln]; rfl)
  have hlnB : ((l.length : Int) == (n : Int)) = false := beq_eq_false_iff_ne.2 (by omega)
  have hlnC : (l.length == n) = false := beq_eq_false_iff_ne.2 hln
  have hlnD : decide (l.length = n) = false := decide_eq_false hln
  clear hln HLB
  go_enter Tryd.func44, Tryd.ntmps44
  go_wp2_with fail
  generalize hX1 : World.alloc w _ = X1
  have zX1 : X1.heap.size = w.heap.size + 1 := by rw [← hX1]; simp
  have bX1 : Below w.heap.size w X1 := by rw [← hX1]; exact bal w _
  have bO : Blk X1 (w.heap.size) [.int .i64 n, .slice pa ps.length pm] 25 := by rw [← hX1]; exact Blk.newA w _ (by first | rfl | simp)
  have Xb := bX1
  have Xz := zX1
  clear hX1 zX1 bX1
  have c0 := bO.cell 0 rfl
  have c1 := bO.cell 1 rfl
  go_wp2_with fail
  refine (HVA.out _ Xb).mono ?_
  rintro e w1 ⟨rfl, hb⟩
  have HW := hide (below2 Xb hb)
  replace bO := bO.later hb
  clear c0 c1 hb Xb Xz
  have c0 := bO.cell 0 rfl
  go_wp2_with fail
  go_ret
  exact ⟨by rw [HN.out]; rfl, HW.out⟩
end Go.Proofs.YtnidcoinfmcffaaDoor
namespace Go.Proofs.YtnidcoinfmcffaaDoor
open Go.RowKit
attribute [local go_sem] Oper.semAt_some
/-- 'append([][2]int{}, x...)', in a plain list of operations -/
theorem app_copyP {W : World} {ops : Array Oper} {rest : List Oper} {o : Oper} {a : Act} {Q : Exit → Act → World → Prop} (hgd : o.guard = none) (s x : Operand)
  (ho : o.op = .call { callee := .builtin .append, args := #[s, x], argTypes := #[22, 22] }) (B b0 : Nat) (hs : a.eval s = .slice (some ⟨b0, 0, none⟩) 0 0) (hown : OwnR W B 46 2 (.slice (some ⟨b0, 0, none⟩) 0 0) [])
  (xa : Option Addr) (m c : Nat) (ps : List (Int × Int)) (hx : a.eval x = .slice xa m c) (hps : PairsIn W.cell? (.slice xa m c) ps) (hl : m ≤ 1000) (hB : B ≤ W.heap.size)
  (h : ∀ va vc W', OwnR W' B 46 2 (.slice va m vc) (ps.map pairC) → Below W.heap.size W W' → wpList Tryd.prog ops Q rest (a.put o.dst (.slice va m vc)) W') :
  wpList Tryd.prog ops Q (o :: rest) a W := by
 have hm := pairs_form hps
 obtain ⟨i0, hi, hz0, hz1, hz2⟩ := info_parts infoPair
 refine wpList_plain hgd fun K hK => ?_
 unfold Oper.wp execOp
 by_cases h0 : m = 0
 ·subst h0
  obtain rfl : ps = [] := List.eq_nil_of_length_eq_zero hm.symm
  simp only [ho, resolve, invoke, builtin, Sem.run_bind, Sem.run_pure, Result.andThen_ok, List.map_toArray, List.map_cons, List.map_nil, hs, hx, run_pairs_none]
  exact hK _ _ (h _ _ _ hown (Below.refl _ _))
 ·cases xa with
  | none =>
   have := pairs_none hps
   rw [List.map_eq_nil_iff] at this
   rw [this] at hm; exact absurd hm h0
  | some ad =>
   obtain ⟨v', w', hrun, r1, r2⟩ := run_append_arg_grows (P := Tryd.prog) W 22 o.type 46 i0 _ 2 16 Tryd.underlying22 hi hz0 hz1 hz2 rfl (by decide) ⟨b0, 0, none⟩ 0 0 [] rfl (fun j u hj => by simp at hj) ad m c (ps.map pairC).flatten (by rw [flat_len (pairs_one ps), List.length_map, hm]) (pairs_flat hps ad rfl) (by omega) (by unfold maxLen; omega) (by omega)
   simp only [ho, resolve, invoke, builtin, Sem.run_bind, Sem.run_pure, Result.andThen_ok, List.map_toArray, List.map_cons, List.map_nil, hs, hx, hrun]
   have hO : OwnR w' W.heap.size 46 2 v' (ps.map pairC) := ⟨by rw [List.length_map, ← hm]; simpa using r1, pairs_one ps⟩
   obtain ⟨va, vc, e⟩ := OwnR.formE hO
   rw [List.length_map, ← hm] at e
   subst e
   exact hK _ _ (h _ _ _ (OwnR.weaken' hO hB) (below_grownN r2))
theorem i64_tdiv8 {x : Int} (h : i64B x) : i64B (x.tdiv 8) := by
 unfold i64B at *
 rcases Int.le_total 0 x with h0 | h0
 ·rw [Int.tdiv_eq_ediv_of_nonneg h0]; omega
 ·obtain ⟨y, rfl⟩ : ∃ y, x = -y := ⟨-x, by omega⟩
  rw [Int.neg_tdiv, Int.tdiv_eq_ediv_of_nonneg (by omega)]; omega
/-- some order in memory -/
def SomeO (w : World) (e : Ending) (w' : World) : Prop := ∃ (o : OrderD) (pv : Value), e = .returned (orderV o.n pv) ∧ PairsIn w'.cell? pv o.pairs ∧ Below w.heap.size w w'
theorem OwnP.inAt {w : World} {B : Nat} {v : Value} {l : List (Int × Int)} (h : OwnP w B v l) : PairsIn w.cell? v l := (OwnP.inF h (Nat.le_refl _)).at
/-- what stands while Bent works -/
structure BenG (w : World) (B : Nat) (n : Int) (v : Value) (ps : List (Int × Int)) (W : World) : Prop where
 bP : Blk W w.heap.size [.int .i64 n, v] 25
 bR : Blk W (w.heap.size + 1) [.int .i64 0, .slice none 0 0] 25
 own : OwnP W B v ps
 hb : Below w.heap.size w W
 sz : B ≤ W.heap.size
theorem BenG.later {w : World} {B : Nat} {n : Int} {v : Value} {ps : List (Int × Int)} {W W' : World} (h : BenG w B n v ps W) (hb : Below W.heap.size W W') : BenG w B n v ps W' :=
 ⟨h.bP.later hb, h.bR.later hb, OwnR.later' h.own hb, below2 h.hb hb, Nat.le_trans h.sz hb.size⟩
theorem BenG.setN {w : World} {B : Nat} {n : Int} {v : Value} {ps : List (Int × Int)} {W : World} (h : BenG w B n v ps W) (k : Int) : BenG w B k v ps (W.setCell ⟨w.heap.size, 0, none⟩ (.int .i64 k)) :=
 ⟨h.bP.set 0 _, h.bR.other (show w.heap.size + 1 ≠ w.heap.size by omega) _ _, OwnR.setO h.own h.bP (by decide) (j := 0) _, h.hb.setCell (p := ⟨w.heap.size, 0, none⟩) (Nat.le_refl _) _, by simpa [World.setCell] using h.sz⟩
theorem BenG.ret {w : World} {B : Nat} {n : Int} {v : Value} {ps : List (Int × Int)} {W : World} (h : BenG w B n v ps W) :
  Blk ((W.setCell ⟨w.heap.size + 1, 0, none⟩ (.int .i64 n)).setCell ⟨w.heap.size + 1, 1, none⟩ v) (w.heap.size + 1) [.int .i64 n, v] 25 ∧ PairsIn ((W.setCell ⟨w.heap.size + 1, 0, none⟩ (.int .i64 n)).setCell ⟨w.heap.size + 1, 1, none⟩ v).cell? v ps ∧ Below w.heap.size w ((W.setCell ⟨w.heap.size + 1, 0, none⟩ (.int .i64 n)).setCell ⟨w.heap.size + 1, 1, none⟩ v) :=
 ⟨(h.bR.set 0 _).set 1 _, OwnP.inAt ((OwnR.setO h.own h.bR (by decide) (j := 0) _).setO (h.bR.set 0 _) (by decide) (j := 1) _), (h.hb.setCell (p := ⟨w.heap.size + 1, 0, none⟩) (by show w.heap.size ≤ w.heap.size + 1; omega) _).setCell (p := ⟨w.heap.size + 1, 1, none⟩) (by show w.heap.size ≤ w.heap.size + 1; omega) _⟩
theorem BenG.setP {w : World} {B g m vc : Nat} {n : Int} {ps : List (Int × Int)} {W : World} (h : BenG w B n (.slice (some ⟨g, 0, none⟩) m vc) ps W) (hB : w.heap.size + 1 < B) (hm : ps.length = m) {k j : Nat} (hk : k < m) (hj : j < 2) (x : Int) :
  ∃ ps', ps'.length = m ∧ BenG w B n (.slice (some ⟨g, 0, none⟩) m vc) ps' (W.setCell ⟨g, k * 2 + j, none⟩ (.int .i64 x)) := by
 subst hm
 have hg : B ≤ g := (OwnR.ltB h.own (g := g) rfl).1
 have hlm : (ps.map pairC).length = ps.length := by rw [List.length_map]
 have ho : OwnR W B 46 2 (.slice (some ⟨g, 0, none⟩) (ps.map pairC).length vc) (ps.map pairC) := by rw [hlm]; exact h.own
 have hs := ho.set k j (by rw [hlm]; exact hk) hj (.int .i64 x)
 obtain ⟨p', hp'⟩ : ∃ p' : Int × Int, ((ps.map pairC).getD k []).set j (.int .i64 x) = pairC p' := by
  rw [List.getD_eq_getElem?_getD, List.getElem?_map, List.getElem?_eq_getElem hk]
  rcases Nat.lt_or_ge j 1 with h0 | h0
  ·obtain rfl : j = 0 := by omega
   exact ⟨(x, ps[k].2), rfl⟩
  ·obtain rfl : j = 1 := by omega
   exact ⟨(ps[k].1, x), rfl⟩
 refine ⟨ps.set k p', by rw [List.length_set], h.bP.other (by omega) _ _, h.bR.other (by omega) _ _, ?_, h.hb.setCell (p := ⟨g, k * 2 + j, none⟩) (by show w.heap.size ≤ g; omega) _, by simpa [World.setCell] using h.sz⟩
 show OwnR _ _ _ _ _ _
 rw [List.map_set, ← hp']
 rw [hlm] at hs
 exact hs
/-- how long the list in an order's box is -/
def lenB (W : World) (P : Nat) : Nat := match W.cell? ⟨P, 1, none⟩ with
 | some v => lenV v
 | none => 0
theorem lenB_at {W : World} {P q c : Nat} {a : Option Addr} (h : W.cell? ⟨P, 1, none⟩ = some (.slice a q c)) : lenB W P = q := by
 unfold lenB
 rw [h]; rfl
set_option maxRecDepth 100000 in
set_option maxHeartbeats 4000000 in
theorem rbent_any (n : Int) (ps : List (Int × Int)) (pv : Value) (how nn at_ : Int) (w : World) (hp : PairsIn w.cell? pv ps) (hps : ps.length ≤ 100) (h1 : i64B how) (h2 : i64B nn) (h3 : i64B at_) : Calls Tryd.prog 16 #[orderV n pv, .int .i64 how, .int .i64 nn, .int .i64 at_] w (SomeO w) := by
 obtain ⟨pa, pm, rfl, -, -, -⟩ := id hp
 have HP := hide hp
 have HPH := hide (fun W => pickr_any how 4 W h1 (by decide) (by decide))
 have HPA := hide (fun m W (h0 : 0 < m) (hm : m ≤ 1000000) => pickr_any at_ m W h3 h0 hm)
 have HPN := hide (fun W => pickr_any nn 4 W h2 (by decide) (by decide))
 have hh4 := pk_lt how (n := 4) (by decide)
 have hn4 := pk_lt nn (n := 4) (by decide)
 have HAL := hide (fun m (h0 : 0 < m) => pk_lt at_ (n := m) h0)
 have HP8 := hide (fun W => pickr_any (at_.tdiv 8) 2 W (i64_tdiv8 h3) (by decide) (by decide))
 have HWD := hide (show IntKind.i64.wrap (at_.tdiv 8) = at_.tdiv 8 from IntWalk.i64_in _ (by have := i64_tdiv8 h3; unfold i64B at this; exact this))
 have h82 := pk_lt (at_.tdiv 8) (n := 2) (by decide)
 generalize pkO (at_.tdiv 8) 2 = j8 at *
 generalize pkO how 4 = h4 at *
 generalize pkO nn 4 = n4 at *
 clear hp h1 h2 h3
 obtain ⟨m, hm⟩ : ∃ m, ps.length = m := ⟨_, rfl⟩
 rw [hm] at hps HP ⊢
 have HM := hide hm
 clear hm
 go_enter Tryd.func16, Tryd.ntmps16
 go_upto_region 1 with (fail)
 generalize hX1 : World.alloc w _ = X1
 have zX1 : X1.heap.size = w.heap.size + 1 := by rw [← hX1]; simp
 have bX1 : Below w.heap.size w X1 := by rw [← hX1]; exact bal w _
 have bO_1 : Blk X1 (w.heap.size) [.int .i64 n, .slice pa m pm] 25 := by rw [← hX1]; exact Blk.newA w _ (by first | rfl | simp)
 generalize hX2 : World.alloc X1 _ = X2
 have zX2 : X2.heap.size = w.heap.size + 1 + 1 := by rw [← hX2]; simp [zX1]
 have bX2 : Below X1.heap.size X1 X2 := by rw [← hX2]; exact bal X1 _
 have bR : Blk X2 (w.heap.size + 1) [.int .i64 0, .slice none 0 0] 25 := by rw [← hX2, ← zX1]; exact Blk.newA X1 _ (by first | rfl | simp)
 have bO := bO_1.later bX2
 have Xb := below2 (bX1) bX2
 have Xz := zX2
 clear hX1 zX1 bX1 hX2 zX2 bX2 bO_1
 have c1 : ∀ o, (X2.alloc o).cell? ⟨w.heap.size, 1, none⟩ = some (.slice pa m pm) := fun o => keep (bal X2 o) (bO.cell 1 rfl)
 have hpX := RecIn.below Xb HP.out
 have HXB := hide Xb
 have BO := hide bO
 have BR := hide bR
 have HXZ := hide Xz
 clear Xz Xb bO bR
 go_wp2_with (at_builtin; refine app_copyP rfl _ _ rfl X2.heap.size _ rfl (lit_recsK X2 _ 2 (Nat.le_refl _)) _ m _ ps rfl (RecIn.below (bal X2 _) hpX) (by omega) (by simp) ?_; intro va vc W3 hO hb3; have hbX := below2 (bal X2 _) hb3; have zf := (BO.out.later hbX).frozen 1; have z1 := (BO.out.later hbX).cell 1 rfl; have HBX := hide hbX; have HO3 := hide hO; clear hbX hO hb3)
 have HG0 : Hid (BenG w X2.heap.size n (.slice va m vc) ps (W3.setCell ⟨w.heap.size, 1, none⟩ (.slice va m vc))) := hide (by
  have b1 := BO.out.later HBX.out
  exact ⟨b1.set 1 _, (BR.out.later HBX.out).other (show w.heap.size + 1 ≠ w.heap.size by omega) _ _, OwnR.setO HO3.out b1 (by decide) (j := 1) _, (below2 HXB.out HBX.out).setCell (p := ⟨w.heap.size, 1, none⟩) (Nat.le_refl _) _, by simpa [World.setCell] using HBX.out.size⟩)
 have HBZ : Hid (w.heap.size + 1 < X2.heap.size) := hide (by have := HXZ.out; omega)
 generalize (W3.setCell ⟨w.heap.size, 1, none⟩ (.slice va m vc)) = W4 at *
 generalize X2.heap.size = B at *
 clear c1 zf z1 hpX HXB BO BR HXZ HO3 HBX
 by_cases hz : h4 = 0
 ·subst hz
  have HG1 := hide (HG0.out.setN nn)
  refine (HPH.out _).mono ?_
  rintro e w5 ⟨rfl, hw5⟩
  obtain rfl := hw5.symm
  have c0 := HG0.out.bP.cell 0 rfl
  have c1 := HG0.out.bP.cell 1 rfl
  have f0 := HG0.out.bP.frozen 0
  have f1 := HG0.out.bP.frozen 1
  have r0 := HG0.out.bR.cell 0 rfl
  have r1 := HG0.out.bR.cell 1 rfl
  have rf0 := HG0.out.bR.frozen 0
  have rf1 := HG0.out.bR.frozen 1
  go_wp2_with fail
  have HZ := hide HG1.out.ret
  clear c0 c1 f0 f1 r0 r1 rf0 rf1
  have x0 := HZ.out.1.cell 0 rfl
  have x1 := HZ.out.1.cell 1 rfl
  refine bodyPost_ret (v := orderV nn (.slice va m vc)) (by simp [results, Tryd.results16, go_sem, x0, x1]) rfl ?_
  exact ⟨⟨nn, ps⟩, _, rfl, HZ.out.2.1, HZ.out.2.2⟩
 ·have hzI : ((h4 : Int) == 0) = false := beq_eq_false_iff_ne.2 (by omega)
  have hzN : (h4 == 0) = false := beq_eq_false_iff_ne.2 hz
  by_cases hm0 : m = 0
  ·have HM0 := hide hm0
   subst hm0
   have HG1 := hide (HG0.out.setN nn)
   clear hz
   refine (HPH.out _).mono ?_
   rintro e w5 ⟨rfl, hw5⟩
   obtain rfl := hw5.symm
   have c0 := HG0.out.bP.cell 0 rfl
   have c1 := HG0.out.bP.cell 1 rfl
   have f0 := HG0.out.bP.frozen 0
   have f1 := HG0.out.bP.frozen 1
   have r0 := HG0.out.bR.cell 0 rfl
   have r1 := HG0.out.bR.cell 1 rfl
   have rf0 := HG0.out.bR.frozen 0
   have rf1 := HG0.out.bR.frozen 1
   go_wp2_with fail
   have HZ := hide HG1.out.ret
   clear c0 c1 f0 f1 r0 r1 rf0 rf1
   have x0 := HZ.out.1.cell 0 rfl
   have x1 := HZ.out.1.cell 1 rfl
   refine bodyPost_ret (v := orderV nn (.slice va 0 vc)) (by simp [results, Tryd.results16, go_sem, x0, x1]) rfl ?_
   exact ⟨⟨nn, ps⟩, _, rfl, HZ.out.2.1, HZ.out.2.2⟩
  ·have hmI : ((m : Int) == 0) = false := beq_eq_false_iff_ne.2 (by omega)
   have hmN : (m == 0) = false := beq_eq_false_iff_ne.2 hm0
   have hmp : 0 < m := by omega
   have h123 : h4 = 1 ∨ h4 = 2 ∨ h4 = 3 := by omega
   have HPK := hide (fun W => HPA.out m W hmp (by omega))
   have hkm := HAL.out m hmp
   generalize pkO at_ m = k at *
   obtain ⟨g, rfl⟩ : ∃ g, va = some ⟨g, 0, none⟩ := by
    rcases HG0.out.own.form with ⟨e, e2⟩ | ⟨g, c, cur, e1, -⟩
    ·cases e; omega
    ·cases e1; exact ⟨_, rfl⟩
   have HOC : Hid (∀ k j, k < m → j < 2 → ∃ x : Int, W4.drew.cell? ⟨g, k * 2 + j, none⟩ = some (.int .i64 x)) := hide (fun k j hk hj => by
    have ho : OwnR W4 B 46 2 (.slice (some ⟨g, 0, none⟩) m vc) (ps.map pairC) := HG0.out.own
    have hkl : k < ps.length := by rw [HM.out]; exact hk
    have e : (ps.map pairC).getD k [] = pairC ps[k] := by
     rw [List.getD_eq_getElem?_getD, List.getElem?_map, List.getElem?_eq_getElem hkl]; rfl
    rcases Nat.lt_or_ge j 1 with h0 | h0
    ·obtain rfl : j = 0 := by omega
     exact ⟨_, keep (Below.refl _ _).drew (ho.cell k 0 (by rw [List.length_map]; exact hkl) (by decide) (by rw [e]; rfl))⟩
    ·obtain rfl : j = 1 := by omega
     exact ⟨_, keep (Below.refl _ _).drew (ho.cell k 1 (by rw [List.length_map]; exact hkl) (by decide) (by rw [e]; rfl))⟩)
   refine (HPH.out _).mono ?_
   rintro e w5 ⟨rfl, hw5⟩
   obtain rfl := hw5.symm
   have c0 := HG0.out.bP.cell 0 rfl
   have c1 := HG0.out.bP.cell 1 rfl
   have f0 := HG0.out.bP.frozen 0
   have f1 := HG0.out.bP.frozen 1
   have r0 := HG0.out.bR.cell 0 rfl
   have r1 := HG0.out.bR.cell 1 rfl
   have rf0 := HG0.out.bR.frozen 0
   have rf1 := HG0.out.bR.frozen 1
   clear hz hm0
   go_wp2_with fail
   refine (HPK.out _).mono ?_
   rintro e w5 ⟨rfl, hw5⟩
   obtain rfl := hw5.symm
   go_wp2_with fail
   refine (HPH.out _).mono ?_
   rintro e w5 ⟨rfl, hw5⟩
   obtain rfl := hw5.symm
   clear hzI hzN hmI hmN
   have hwd : IntKind.i64.wrap (at_.tdiv 8) = at_.tdiv 8 := HWD.out
   have hkI : (k : Int) < m := by omega
   rcases h123 with rfl | rfl | rfl
   ·have hj2I : (j8 : Int) < 2 := by omega
    obtain ⟨ps', hl', hGN⟩ := (HG0.out.later (Below.refl _ _).drew).setP HBZ.out HM.out hkm h82 nn
    have HG1 := hide hGN
    have hown : OwnR W4 B 46 2 (.slice (some ⟨g, 0, none⟩) (ps.map pairC).length vc) (ps.map pairC) := by rw [List.length_map, HM.out]; exact HG0.out.own
    have zf : W4.drew.frozen? ⟨g, k * 2 + j8, none⟩ = false := (OwnR.later' hown (Below.refl _ _).drew).frozen _
    obtain ⟨xo, z0⟩ := HOC.out k j8 hkm h82
    clear hl' hGN hown c0 c1 f0 f1 r0 r1 rf0 rf1
    have c1 := HG0.out.bP.cell 1 rfl
    go_upto_region 10 with (fail)
    refine wp_region_still_tail 9 (by kernel_rfl) (by kernel_rfl) ?_
    simp only [List.take_succ_cons, List.take_zero, List.drop_succ_cons, List.drop_zero]
    repeat (with_reducible refine wpStill_step (fun K hK => ?_) ; go_simp ; with_reducible refine hK _ ?_ ; clear hK K)
    with_reducible refine wpStill_step (fun K hK => ?_)
    go_simp
    refine ⟨_, (HP8.out _), ?_⟩
    with_reducible refine hK _ ?_
    clear hK K
    repeat (with_reducible refine wpStill_step (fun K hK => ?_) ; go_simp ; with_reducible refine hK _ ?_ ; clear hK K)
    refine wpStill_nil ?_
    change wpList _ _ _ _ _ W4.drew
    generalize World.drew W4 = V4 at *
    clear c1
    have c0 := HG1.out.bP.cell 0 rfl
    have c1 := HG1.out.bP.cell 1 rfl
    have f0 := HG1.out.bP.frozen 0
    have f1 := HG1.out.bP.frozen 1
    have r0 := HG1.out.bR.cell 0 rfl
    have r1 := HG1.out.bR.cell 1 rfl
    have rf0 := HG1.out.bR.frozen 0
    have rf1 := HG1.out.bR.frozen 1
    go_wp2_with fail
    have HZ := hide HG1.out.ret
    clear c0 c1 f0 f1 r0 r1 rf0 rf1
    have x0 := HZ.out.1.cell 0 rfl
    have x1 := HZ.out.1.cell 1 rfl
    refine bodyPost_ret (v := orderV n (.slice (some ⟨g, 0, none⟩) m vc)) (by simp [results, Tryd.results16, go_sem, x0, x1]) rfl ?_
    exact ⟨⟨n, ps'⟩, _, rfl, HZ.out.2.1, HZ.out.2.2⟩
   ·obtain ⟨p0, p1, hpk⟩ : ∃ p0 p1, ps.getD k (0, 0) = (p0, p1) := ⟨_, _, rfl⟩
    obtain ⟨Lr, hLr⟩ : ∃ Lr, ps.map pairC = Lr := ⟨_, rfl⟩
    have hLl : Lr.length = m := by rw [← hLr, List.length_map, HM.out]
    have HOW : Hid (OwnR W4 B 46 2 (.slice (some ⟨g, 0, none⟩) m vc) Lr) := hide (by rw [← hLr]; exact HG0.out.own)
    have hLk : Lr.getD k [] = [.int .i64 p0, .int .i64 p1] := by
     rw [← hLr, List.getD_eq_getElem?_getD, List.getElem?_map, List.getElem?_eq_getElem (by rw [HM.out]; exact hkm)]
     rw [List.getD_eq_getElem?_getD, List.getElem?_eq_getElem (by rw [HM.out]; exact hkm)] at hpk
     simp only [Option.getD_some] at hpk
     simp only [Option.map_some, Option.getD_some, hpk]; rfl
    have HO0 : Hid (∀ W, OwnR W B 46 2 (.slice (some ⟨g, 0, none⟩) m vc) Lr → W.cell? ⟨g, k * 2, none⟩ = some (.int .i64 p0)) := hide (fun W ho => ho.cell k 0 (by rw [hLl]; exact hkm) (by decide) (by rw [hLk]; rfl))
    have HO1 : Hid (∀ W, OwnR W B 46 2 (.slice (some ⟨g, 0, none⟩) m vc) Lr → W.cell? ⟨g, k * 2 + 1, none⟩ = some (.int .i64 p1)) := hide (fun W ho => ho.cell k 1 (by rw [hLl]; exact hkm) (by decide) (by rw [hLk]; rfl))
    have HLA : Hid (Lr ++ [[.int .i64 p1, .int .i64 p0]] = (ps ++ [(p1, p0)]).map pairC) := hide (by rw [← hLr, List.map_append]; rfl)
    have hsz4 := HG0.out.sz
    have hLb : Lr.length ≤ 100 := by omega
    have HLL := hide hLl
    clear hLl hLr hLk hpk c0 c1 f0 f1 r0 r1 rf0 rf1 HOC
    go_upto_region 12 with (fail)
    refine wp_region_inv [some 64, some 65, some 66, some 67, some 68, some 69, some 70, some 71, some 72, some 73, some 74, some 75, some 76, some 77, some 78, some 79, some 80, some 81, none] (fun L vs W => match vs with | [x0, x1, x2, x3, x4, x5, x6, x7, x8, x9, x10, x11, x12, x13, x14, x15, x16, x17, x18] => (EffY (B) 46 (w.heap.size) W4 W ∧ (L 18 = false → Blk W (w.heap.size) [.int .i64 n, .slice (some ⟨g, 0, none⟩) m vc] 25) ∧ (L 16 = false → OwnR W (B) 46 2 (.slice (some ⟨g, 0, none⟩) m vc) Lr)) ∧ (L 0 = true → x0 = .pointer (some ⟨w.heap.size, 1, none⟩)) ∧ (L 1 = true → x1 = .slice (some ⟨g, 0, none⟩) m vc) ∧ (L 2 = true → x2 = .pointer (some ⟨w.heap.size, 1, none⟩)) ∧ (L 3 = true → x3 = .slice (some ⟨g, 0, none⟩) m vc) ∧ (L 4 = true → x4 = .int .i64 (k : Nat)) ∧ (L 5 = true → x5 = .pointer (some ⟨g, k * 2, none⟩)) ∧ (L 6 = true → x6 = .pointer (some ⟨g, k * 2 + 1, none⟩)) ∧ (L 7 = true → x7 = .int .i64 p1) ∧ (L 8 = true → x8 = .pointer (some ⟨w.heap.size, 1, none⟩)) ∧ (L 9 = true → x9 = .slice (some ⟨g, 0, none⟩) m vc) ∧ (L 10 = true → x10 = .int .i64 (k : Nat)) ∧ (L 11 = true → x11 = .pointer (some ⟨g, k * 2, none⟩)) ∧ (L 12 = true → x12 = .pointer (some ⟨g, k * 2, none⟩)) ∧ (L 13 = true → x13 = .int .i64 p0) ∧ (L 14 = true → (L 7 = true ∧ L 13 = true) ∧ x14 = .agg #[.int .i64 p1, .int .i64 p0]) ∧ (L 15 = true → (L 7 = true ∧ L 13 = true) ∧ (L 16 = false → ∃ b0 : Nat, x15 = .slice (some ⟨b0, 0, none⟩) 1 1 ∧ Blk W b0 [.int .i64 p1, .int .i64 p0] 46)) ∧ (L 16 = true → (L 7 = true ∧ L 13 = true) ∧ ∃ g1 c1, x16 = .slice (some ⟨g1, 0, none⟩) (Lr.length + 1) c1 ∧ OwnR W (B) 46 2 x16 (Lr ++ [[.int .i64 p1, .int .i64 p0]])) ∧ (L 17 = true → x17 = .pointer (some ⟨w.heap.size, 1, none⟩)) ∧ (L 18 = true → (L 1 = true ∧ L 3 = true ∧ L 9 = true ∧ L 16 = true) ∧ ∃ g1 c1, x16 = .slice (some ⟨g1, 0, none⟩) (Lr.length + 1) c1 ∧ Blk W (w.heap.size) [.int .i64 n, x16] 25) | _ => False) [_, _, _, _, _, _, _, _, _, _, _, _, _, _, _, _, _, _, undef] (by kernel_rfl) (by kernel_rfl) rfl (by simp only [puts, Act.put, List.setIfInBounds_toArray, List.set_cons_zero, List.set_cons_succ] <;> rfl) ?_ ?_ ?_
    ·exact ⟨⟨EffY.of_below (Below.refl _ _).drew, fun _ => HG0.out.bP.later (Below.refl _ _).drew, fun _ => HOW.out.later' (Below.refl _ _).drew⟩, (fun h => by cases h), (fun h => by cases h), (fun h => by cases h), (fun h => by cases h), (fun h => by cases h), (fun h => by cases h), (fun h => by cases h), (fun h => by cases h), (fun h => by cases h), (fun h => by cases h), (fun h => by cases h), (fun h => by cases h), (fun h => by cases h), (fun h => by cases h), (fun h => by cases h), (fun h => by cases h), (fun h => by cases h), (fun h => by cases h), (fun h => by cases h)⟩
    ·refine ⟨?_, ?_, ?_, ?_, ?_, ?_, ?_, ?_, ?_, ?_, ?_, ?_, ?_, ?_, ?_, ?_, ?_, ?_, ?_, trivial⟩
     ·intro L vs W hlen hL hD hI K hK
      obtain ⟨x0, x1, x2, x3, x4, x5, x6, x7, x8, x9, x10, x11, x12, x13, x14, x15, x16, x17, x18, rfl⟩ := len19 hlen
      have hG := hI.1
      replace hI := hI.2
      have f0 := hide hI.1
      replace hI := hI.2
      have f1 := hide hI.1
      replace hI := hI.2
      have f2 := hide hI.1
      replace hI := hI.2
      have f3 := hide hI.1
      replace hI := hI.2
      have f4 := hide hI.1
      replace hI := hI.2
      have f5 := hide hI.1
      replace hI := hI.2
      have f6 := hide hI.1
      replace hI := hI.2
      have f7 := hide hI.1
      replace hI := hI.2
      have f8 := hide hI.1
      replace hI := hI.2
      have f9 := hide hI.1
      replace hI := hI.2
      have f10 := hide hI.1
      replace hI := hI.2
      have f11 := hide hI.1
      replace hI := hI.2
      have f12 := hide hI.1
      replace hI := hI.2
      have f13 := hide hI.1
      replace hI := hI.2
      have f14 := hide hI.1
      replace hI := hI.2
      have f15 := hide hI.1
      replace hI := hI.2
      have f16 := hide hI.1
      replace hI := hI.2
      have f17 := hide hI.1
      replace hI := hI.2
      have f18 := hide hI
      clear hI
      have r00 := hG.1.size
      try simp only [puts, Act.put, List.setIfInBounds_toArray, List.set_cons_zero, List.set_cons_succ]
      try go_simp
      exact hK.out _ _ _ (by simp only [puts, Act.put, List.setIfInBounds_toArray, List.set_cons_zero, List.set_cons_succ] <;> rfl) ⟨hG, (fun _ => rfl), (fun h => f1.out h), (fun h => f2.out h), (fun h => f3.out h), (fun h => f4.out h), (fun h => f5.out h), (fun h => f6.out h), (fun h => f7.out h), (fun h => f8.out h), (fun h => f9.out h), (fun h => f10.out h), (fun h => f11.out h), (fun h => f12.out h), (fun h => f13.out h), (fun h => f14.out h), (fun h => f15.out h), (fun h => f16.out h), (fun h => f17.out h), (fun h => f18.out h)⟩
     ·intro L vs W hlen hL hD hI K hK
      obtain ⟨x0, x1, x2, x3, x4, x5, x6, x7, x8, x9, x10, x11, x12, x13, x14, x15, x16, x17, x18, rfl⟩ := len19 hlen
      have hG := hI.1
      replace hI := hI.2
      have f0 := hide hI.1
      replace hI := hI.2
      have f1 := hide hI.1
      replace hI := hI.2
      have f2 := hide hI.1
      replace hI := hI.2
      have f3 := hide hI.1
      replace hI := hI.2
      have f4 := hide hI.1
      replace hI := hI.2
      have f5 := hide hI.1
      replace hI := hI.2
      have f6 := hide hI.1
      replace hI := hI.2
      have f7 := hide hI.1
      replace hI := hI.2
      have f8 := hide hI.1
      replace hI := hI.2
      have f9 := hide hI.1
      replace hI := hI.2
      have f10 := hide hI.1
      replace hI := hI.2
      have f11 := hide hI.1
      replace hI := hI.2
      have f12 := hide hI.1
      replace hI := hI.2
      have f13 := hide hI.1
      replace hI := hI.2
      have f14 := hide hI.1
      replace hI := hI.2
      have f15 := hide hI.1
      replace hI := hI.2
      have f16 := hide hI.1
      replace hI := hI.2
      have f17 := hide hI.1
      replace hI := hI.2
      have f18 := hide hI
      clear hI
      have r00 := hG.1.size
      obtain rfl := f0.out (hD.on 0 (by kernel_rfl))
      try simp only [puts, Act.put, List.setIfInBounds_toArray, List.set_cons_zero, List.set_cons_succ]
      have hst : L 18 = false := Bool.eq_false_iff.2 (fun h => absurd ((f18.out h).1.1.symm.trans hL) (by decide))
      have r0 := (hG.2.1 hst).cell 1 rfl
      go_simp
      exact hK.out _ _ _ (by simp only [puts, Act.put, List.setIfInBounds_toArray, List.set_cons_zero, List.set_cons_succ] <;> rfl) ⟨hG, (fun h => f0.out h), (fun _ => rfl), (fun h => f2.out h), (fun h => f3.out h), (fun h => f4.out h), (fun h => f5.out h), (fun h => f6.out h), (fun h => f7.out h), (fun h => f8.out h), (fun h => f9.out h), (fun h => f10.out h), (fun h => f11.out h), (fun h => f12.out h), (fun h => f13.out h), (fun h => f14.out h), (fun h => f15.out h), (fun h => f16.out h), (fun h => f17.out h), (fun h => (fun h => ⟨⟨rfl, h.1.2.1, h.1.2.2.1, h.1.2.2.2⟩, h.2⟩) (f18.out h))⟩
     ·intro L vs W hlen hL hD hI K hK
      obtain ⟨x0, x1, x2, x3, x4, x5, x6, x7, x8, x9, x10, x11, x12, x13, x14, x15, x16, x17, x18, rfl⟩ := len19 hlen
      have hG := hI.1
      replace hI := hI.2
      have f0 := hide hI.1
      replace hI := hI.2
      have f1 := hide hI.1
      replace hI := hI.2
      have f2 := hide hI.1
      replace hI := hI.2
      have f3 := hide hI.1
      replace hI := hI.2
      have f4 := hide hI.1
      replace hI := hI.2
      have f5 := hide hI.1
      replace hI := hI.2
      have f6 := hide hI.1
      replace hI := hI.2
      have f7 := hide hI.1
      replace hI := hI.2
      have f8 := hide hI.1
      replace hI := hI.2
      have f9 := hide hI.1
      replace hI := hI.2
      have f10 := hide hI.1
      replace hI := hI.2
      have f11 := hide hI.1
      replace hI := hI.2
      have f12 := hide hI.1
      replace hI := hI.2
      have f13 := hide hI.1
      replace hI := hI.2
      have f14 := hide hI.1
      replace hI := hI.2
      have f15 := hide hI.1
      replace hI := hI.2
      have f16 := hide hI.1
      replace hI := hI.2
      have f17 := hide hI.1
      replace hI := hI.2
      have f18 := hide hI
      clear hI
      have r00 := hG.1.size
      try simp only [puts, Act.put, List.setIfInBounds_toArray, List.set_cons_zero, List.set_cons_succ]
      try go_simp
      exact hK.out _ _ _ (by simp only [puts, Act.put, List.setIfInBounds_toArray, List.set_cons_zero, List.set_cons_succ] <;> rfl) ⟨hG, (fun h => f0.out h), (fun h => f1.out h), (fun _ => rfl), (fun h => f3.out h), (fun h => f4.out h), (fun h => f5.out h), (fun h => f6.out h), (fun h => f7.out h), (fun h => f8.out h), (fun h => f9.out h), (fun h => f10.out h), (fun h => f11.out h), (fun h => f12.out h), (fun h => f13.out h), (fun h => f14.out h), (fun h => f15.out h), (fun h => f16.out h), (fun h => f17.out h), (fun h => f18.out h)⟩
     ·intro L vs W hlen hL hD hI K hK
      obtain ⟨x0, x1, x2, x3, x4, x5, x6, x7, x8, x9, x10, x11, x12, x13, x14, x15, x16, x17, x18, rfl⟩ := len19 hlen
      have hG := hI.1
      replace hI := hI.2
      have f0 := hide hI.1
      replace hI := hI.2
      have f1 := hide hI.1
      replace hI := hI.2
      have f2 := hide hI.1
      replace hI := hI.2
      have f3 := hide hI.1
      replace hI := hI.2
      have f4 := hide hI.1
      replace hI := hI.2
      have f5 := hide hI.1
      replace hI := hI.2
      have f6 := hide hI.1
      replace hI := hI.2
      have f7 := hide hI.1
      replace hI := hI.2
      have f8 := hide hI.1
      replace hI := hI.2
      have f9 := hide hI.1
      replace hI := hI.2
      have f10 := hide hI.1
      replace hI := hI.2
      have f11 := hide hI.1
      replace hI := hI.2
      have f12 := hide hI.1
      replace hI := hI.2
      have f13 := hide hI.1
      replace hI := hI.2
      have f14 := hide hI.1
      replace hI := hI.2
      have f15 := hide hI.1
      replace hI := hI.2
      have f16 := hide hI.1
      replace hI := hI.2
      have f17 := hide hI.1
      replace hI := hI.2
      have f18 := hide hI
      clear hI
      have r00 := hG.1.size
      obtain rfl := f2.out (hD.on 2 (by kernel_rfl))
      try simp only [puts, Act.put, List.setIfInBounds_toArray, List.set_cons_zero, List.set_cons_succ]
      have hst : L 18 = false := Bool.eq_false_iff.2 (fun h => absurd ((f18.out h).1.2.1.symm.trans hL) (by decide))
      have r0 := (hG.2.1 hst).cell 1 rfl
      go_simp
      exact hK.out _ _ _ (by simp only [puts, Act.put, List.setIfInBounds_toArray, List.set_cons_zero, List.set_cons_succ] <;> rfl) ⟨hG, (fun h => f0.out h), (fun h => f1.out h), (fun h => f2.out h), (fun _ => rfl), (fun h => f4.out h), (fun h => f5.out h), (fun h => f6.out h), (fun h => f7.out h), (fun h => f8.out h), (fun h => f9.out h), (fun h => f10.out h), (fun h => f11.out h), (fun h => f12.out h), (fun h => f13.out h), (fun h => f14.out h), (fun h => f15.out h), (fun h => f16.out h), (fun h => f17.out h), (fun h => (fun h => ⟨⟨h.1.1, rfl, h.1.2.2.1, h.1.2.2.2⟩, h.2⟩) (f18.out h))⟩
     ·intro L vs W hlen hL hD hI K hK
      obtain ⟨x0, x1, x2, x3, x4, x5, x6, x7, x8, x9, x10, x11, x12, x13, x14, x15, x16, x17, x18, rfl⟩ := len19 hlen
      have hG := hI.1
      replace hI := hI.2
      have f0 := hide hI.1
      replace hI := hI.2
      have f1 := hide hI.1
      replace hI := hI.2
      have f2 := hide hI.1
      replace hI := hI.2
      have f3 := hide hI.1
      replace hI := hI.2
      have f4 := hide hI.1
      replace hI := hI.2
      have f5 := hide hI.1
      replace hI := hI.2
      have f6 := hide hI.1
      replace hI := hI.2
      have f7 := hide hI.1
      replace hI := hI.2
      have f8 := hide hI.1
      replace hI := hI.2
      have f9 := hide hI.1
      replace hI := hI.2
      have f10 := hide hI.1
      replace hI := hI.2
      have f11 := hide hI.1
      replace hI := hI.2
      have f12 := hide hI.1
      replace hI := hI.2
      have f13 := hide hI.1
      replace hI := hI.2
      have f14 := hide hI.1
      replace hI := hI.2
      have f15 := hide hI.1
      replace hI := hI.2
      have f16 := hide hI.1
      replace hI := hI.2
      have f17 := hide hI.1
      replace hI := hI.2
      have f18 := hide hI
      clear hI
      have r00 := hG.1.size
      try simp only [puts, Act.put, List.setIfInBounds_toArray, List.set_cons_zero, List.set_cons_succ]
      try go_simp
      exact hK.out _ _ _ (by simp only [puts, Act.put, List.setIfInBounds_toArray, List.set_cons_zero, List.set_cons_succ] <;> rfl) ⟨hG, (fun h => f0.out h), (fun h => f1.out h), (fun h => f2.out h), (fun h => f3.out h), (fun _ => rfl), (fun h => f5.out h), (fun h => f6.out h), (fun h => f7.out h), (fun h => f8.out h), (fun h => f9.out h), (fun h => f10.out h), (fun h => f11.out h), (fun h => f12.out h), (fun h => f13.out h), (fun h => f14.out h), (fun h => f15.out h), (fun h => f16.out h), (fun h => f17.out h), (fun h => f18.out h)⟩
     ·intro L vs W hlen hL hD hI K hK
      obtain ⟨x0, x1, x2, x3, x4, x5, x6, x7, x8, x9, x10, x11, x12, x13, x14, x15, x16, x17, x18, rfl⟩ := len19 hlen
      have hG := hI.1
      replace hI := hI.2
      have f0 := hide hI.1
      replace hI := hI.2
      have f1 := hide hI.1
      replace hI := hI.2
      have f2 := hide hI.1
      replace hI := hI.2
      have f3 := hide hI.1
      replace hI := hI.2
      have f4 := hide hI.1
      replace hI := hI.2
      have f5 := hide hI.1
      replace hI := hI.2
      have f6 := hide hI.1
      replace hI := hI.2
      have f7 := hide hI.1
      replace hI := hI.2
      have f8 := hide hI.1
      replace hI := hI.2
      have f9 := hide hI.1
      replace hI := hI.2
      have f10 := hide hI.1
      replace hI := hI.2
      have f11 := hide hI.1
      replace hI := hI.2
      have f12 := hide hI.1
      replace hI := hI.2
      have f13 := hide hI.1
      replace hI := hI.2
      have f14 := hide hI.1
      replace hI := hI.2
      have f15 := hide hI.1
      replace hI := hI.2
      have f16 := hide hI.1
      replace hI := hI.2
      have f17 := hide hI.1
      replace hI := hI.2
      have f18 := hide hI
      clear hI
      have r00 := hG.1.size
      obtain rfl := f3.out (hD.on 3 (by kernel_rfl))
      obtain rfl := f4.out (hD.on 4 (by kernel_rfl))
      try simp only [puts, Act.put, List.setIfInBounds_toArray, List.set_cons_zero, List.set_cons_succ]
      try go_simp
      exact hK.out _ _ _ (by simp only [puts, Act.put, List.setIfInBounds_toArray, List.set_cons_zero, List.set_cons_succ] <;> rfl) ⟨hG, (fun h => f0.out h), (fun h => f1.out h), (fun h => f2.out h), (fun h => f3.out h), (fun h => f4.out h), (fun _ => rfl), (fun h => f6.out h), (fun h => f7.out h), (fun h => f8.out h), (fun h => f9.out h), (fun h => f10.out h), (fun h => f11.out h), (fun h => f12.out h), (fun h => f13.out h), (fun h => f14.out h), (fun h => f15.out h), (fun h => f16.out h), (fun h => f17.out h), (fun h => f18.out h)⟩
     ·intro L vs W hlen hL hD hI K hK
      obtain ⟨x0, x1, x2, x3, x4, x5, x6, x7, x8, x9, x10, x11, x12, x13, x14, x15, x16, x17, x18, rfl⟩ := len19 hlen
      have hG := hI.1
      replace hI := hI.2
      have f0 := hide hI.1
      replace hI := hI.2
      have f1 := hide hI.1
      replace hI := hI.2
      have f2 := hide hI.1
      replace hI := hI.2
      have f3 := hide hI.1
      replace hI := hI.2
      have f4 := hide hI.1
      replace hI := hI.2
      have f5 := hide hI.1
      replace hI := hI.2
      have f6 := hide hI.1
      replace hI := hI.2
      have f7 := hide hI.1
      replace hI := hI.2
      have f8 := hide hI.1
      replace hI := hI.2
      have f9 := hide hI.1
      replace hI := hI.2
      have f10 := hide hI.1
      replace hI := hI.2
      have f11 := hide hI.1
      replace hI := hI.2
      have f12 := hide hI.1
      replace hI := hI.2
      have f13 := hide hI.1
      replace hI := hI.2
      have f14 := hide hI.1
      replace hI := hI.2
      have f15 := hide hI.1
      replace hI := hI.2
      have f16 := hide hI.1
      replace hI := hI.2
      have f17 := hide hI.1
      replace hI := hI.2
      have f18 := hide hI
      clear hI
      have r00 := hG.1.size
      obtain rfl := f5.out (hD.on 5 (by kernel_rfl))
      try simp only [puts, Act.put, List.setIfInBounds_toArray, List.set_cons_zero, List.set_cons_succ]
      try go_simp
      exact hK.out _ _ _ (by simp only [puts, Act.put, List.setIfInBounds_toArray, List.set_cons_zero, List.set_cons_succ] <;> rfl) ⟨hG, (fun h => f0.out h), (fun h => f1.out h), (fun h => f2.out h), (fun h => f3.out h), (fun h => f4.out h), (fun h => f5.out h), (fun _ => rfl), (fun h => f7.out h), (fun h => f8.out h), (fun h => f9.out h), (fun h => f10.out h), (fun h => f11.out h), (fun h => f12.out h), (fun h => f13.out h), (fun h => f14.out h), (fun h => f15.out h), (fun h => f16.out h), (fun h => f17.out h), (fun h => f18.out h)⟩
     ·intro L vs W hlen hL hD hI K hK
      obtain ⟨x0, x1, x2, x3, x4, x5, x6, x7, x8, x9, x10, x11, x12, x13, x14, x15, x16, x17, x18, rfl⟩ := len19 hlen
      have hG := hI.1
      replace hI := hI.2
      have f0 := hide hI.1
      replace hI := hI.2
      have f1 := hide hI.1
      replace hI := hI.2
      have f2 := hide hI.1
      replace hI := hI.2
      have f3 := hide hI.1
      replace hI := hI.2
      have f4 := hide hI.1
      replace hI := hI.2
      have f5 := hide hI.1
      replace hI := hI.2
      have f6 := hide hI.1
      replace hI := hI.2
      have f7 := hide hI.1
      replace hI := hI.2
      have f8 := hide hI.1
      replace hI := hI.2
      have f9 := hide hI.1
      replace hI := hI.2
      have f10 := hide hI.1
      replace hI := hI.2
      have f11 := hide hI.1
      replace hI := hI.2
      have f12 := hide hI.1
      replace hI := hI.2
      have f13 := hide hI.1
      replace hI := hI.2
      have f14 := hide hI.1
      replace hI := hI.2
      have f15 := hide hI.1
      replace hI := hI.2
      have f16 := hide hI.1
      replace hI := hI.2
      have f17 := hide hI.1
      replace hI := hI.2
      have f18 := hide hI
      clear hI
      have r00 := hG.1.size
      obtain rfl := f6.out (hD.on 6 (by kernel_rfl))
      try simp only [puts, Act.put, List.setIfInBounds_toArray, List.set_cons_zero, List.set_cons_succ]
      have h16 : L 16 = false := Bool.eq_false_iff.2 (fun h => absurd ((f16.out h).1.1.symm.trans hL) (by decide))
      have z9 := HO1.out W (hG.2.2 h16)
      go_simp
      exact hK.out _ _ _ (by simp only [puts, Act.put, List.setIfInBounds_toArray, List.set_cons_zero, List.set_cons_succ] <;> rfl) ⟨hG, (fun h => f0.out h), (fun h => f1.out h), (fun h => f2.out h), (fun h => f3.out h), (fun h => f4.out h), (fun h => f5.out h), (fun h => f6.out h), (fun _ => rfl), (fun h => f8.out h), (fun h => f9.out h), (fun h => f10.out h), (fun h => f11.out h), (fun h => f12.out h), (fun h => f13.out h), (fun h => (fun h => ⟨⟨rfl, h.1.2⟩, h.2⟩) (f14.out h)), (fun h => (fun h => ⟨⟨rfl, h.1.2⟩, h.2⟩) (f15.out h)), (fun h => (fun h => ⟨⟨rfl, h.1.2⟩, h.2⟩) (f16.out h)), (fun h => f17.out h), (fun h => f18.out h)⟩
     ·intro L vs W hlen hL hD hI K hK
      obtain ⟨x0, x1, x2, x3, x4, x5, x6, x7, x8, x9, x10, x11, x12, x13, x14, x15, x16, x17, x18, rfl⟩ := len19 hlen
      have hG := hI.1
      replace hI := hI.2
      have f0 := hide hI.1
      replace hI := hI.2
      have f1 := hide hI.1
      replace hI := hI.2
      have f2 := hide hI.1
      replace hI := hI.2
      have f3 := hide hI.1
      replace hI := hI.2
      have f4 := hide hI.1
      replace hI := hI.2
      have f5 := hide hI.1
      replace hI := hI.2
      have f6 := hide hI.1
      replace hI := hI.2
      have f7 := hide hI.1
      replace hI := hI.2
      have f8 := hide hI.1
      replace hI := hI.2
      have f9 := hide hI.1
      replace hI := hI.2
      have f10 := hide hI.1
      replace hI := hI.2
      have f11 := hide hI.1
      replace hI := hI.2
      have f12 := hide hI.1
      replace hI := hI.2
      have f13 := hide hI.1
      replace hI := hI.2
      have f14 := hide hI.1
      replace hI := hI.2
      have f15 := hide hI.1
      replace hI := hI.2
      have f16 := hide hI.1
      replace hI := hI.2
      have f17 := hide hI.1
      replace hI := hI.2
      have f18 := hide hI
      clear hI
      have r00 := hG.1.size
      try simp only [puts, Act.put, List.setIfInBounds_toArray, List.set_cons_zero, List.set_cons_succ]
      try go_simp
      exact hK.out _ _ _ (by simp only [puts, Act.put, List.setIfInBounds_toArray, List.set_cons_zero, List.set_cons_succ] <;> rfl) ⟨hG, (fun h => f0.out h), (fun h => f1.out h), (fun h => f2.out h), (fun h => f3.out h), (fun h => f4.out h), (fun h => f5.out h), (fun h => f6.out h), (fun h => f7.out h), (fun _ => rfl), (fun h => f9.out h), (fun h => f10.out h), (fun h => f11.out h), (fun h => f12.out h), (fun h => f13.out h), (fun h => f14.out h), (fun h => f15.out h), (fun h => f16.out h), (fun h => f17.out h), (fun h => f18.out h)⟩
     ·intro L vs W hlen hL hD hI K hK
      obtain ⟨x0, x1, x2, x3, x4, x5, x6, x7, x8, x9, x10, x11, x12, x13, x14, x15, x16, x17, x18, rfl⟩ := len19 hlen
      have hG := hI.1
      replace hI := hI.2
      have f0 := hide hI.1
      replace hI := hI.2
      have f1 := hide hI.1
      replace hI := hI.2
      have f2 := hide hI.1
      replace hI := hI.2
      have f3 := hide hI.1
      replace hI := hI.2
      have f4 := hide hI.1
      replace hI := hI.2
      have f5 := hide hI.1
      replace hI := hI.2
      have f6 := hide hI.1
      replace hI := hI.2
      have f7 := hide hI.1
      replace hI := hI.2
      have f8 := hide hI.1
      replace hI := hI.2
      have f9 := hide hI.1
      replace hI := hI.2
      have f10 := hide hI.1
      replace hI := hI.2
      have f11 := hide hI.1
      replace hI := hI.2
      have f12 := hide hI.1
      replace hI := hI.2
      have f13 := hide hI.1
      replace hI := hI.2
      have f14 := hide hI.1
      replace hI := hI.2
      have f15 := hide hI.1
      replace hI := hI.2
      have f16 := hide hI.1
      replace hI := hI.2
      have f17 := hide hI.1
      replace hI := hI.2
      have f18 := hide hI
      clear hI
      have r00 := hG.1.size
      obtain rfl := f8.out (hD.on 8 (by kernel_rfl))
      try simp only [puts, Act.put, List.setIfInBounds_toArray, List.set_cons_zero, List.set_cons_succ]
      have hst : L 18 = false := Bool.eq_false_iff.2 (fun h => absurd ((f18.out h).1.2.2.1.symm.trans hL) (by decide))
      have r0 := (hG.2.1 hst).cell 1 rfl
      go_simp
      exact hK.out _ _ _ (by simp only [puts, Act.put, List.setIfInBounds_toArray, List.set_cons_zero, List.set_cons_succ] <;> rfl) ⟨hG, (fun h => f0.out h), (fun h => f1.out h), (fun h => f2.out h), (fun h => f3.out h), (fun h => f4.out h), (fun h => f5.out h), (fun h => f6.out h), (fun h => f7.out h), (fun h => f8.out h), (fun _ => rfl), (fun h => f10.out h), (fun h => f11.out h), (fun h => f12.out h), (fun h => f13.out h), (fun h => f14.out h), (fun h => f15.out h), (fun h => f16.out h), (fun h => f17.out h), (fun h => (fun h => ⟨⟨h.1.1, h.1.2.1, rfl, h.1.2.2.2⟩, h.2⟩) (f18.out h))⟩
     ·intro L vs W hlen hL hD hI K hK
      obtain ⟨x0, x1, x2, x3, x4, x5, x6, x7, x8, x9, x10, x11, x12, x13, x14, x15, x16, x17, x18, rfl⟩ := len19 hlen
      have hG := hI.1
      replace hI := hI.2
      have f0 := hide hI.1
      replace hI := hI.2
      have f1 := hide hI.1
      replace hI := hI.2
      have f2 := hide hI.1
      replace hI := hI.2
      have f3 := hide hI.1
      replace hI := hI.2
      have f4 := hide hI.1
      replace hI := hI.2
      have f5 := hide hI.1
      replace hI := hI.2
      have f6 := hide hI.1
      replace hI := hI.2
      have f7 := hide hI.1
      replace hI := hI.2
      have f8 := hide hI.1
      replace hI := hI.2
      have f9 := hide hI.1
      replace hI := hI.2
      have f10 := hide hI.1
      replace hI := hI.2
      have f11 := hide hI.1
      replace hI := hI.2
      have f12 := hide hI.1
      replace hI := hI.2
      have f13 := hide hI.1
      replace hI := hI.2
      have f14 := hide hI.1
      replace hI := hI.2
      have f15 := hide hI.1
      replace hI := hI.2
      have f16 := hide hI.1
      replace hI := hI.2
      have f17 := hide hI.1
      replace hI := hI.2
      have f18 := hide hI
      clear hI
      have r00 := hG.1.size
      try simp only [puts, Act.put, List.setIfInBounds_toArray, List.set_cons_zero, List.set_cons_succ]
      try go_simp
      exact hK.out _ _ _ (by simp only [puts, Act.put, List.setIfInBounds_toArray, List.set_cons_zero, List.set_cons_succ] <;> rfl) ⟨hG, (fun h => f0.out h), (fun h => f1.out h), (fun h => f2.out h), (fun h => f3.out h), (fun h => f4.out h), (fun h => f5.out h), (fun h => f6.out h), (fun h => f7.out h), (fun h => f8.out h), (fun h => f9.out h), (fun _ => rfl), (fun h => f11.out h), (fun h => f12.out h), (fun h => f13.out h), (fun h => f14.out h), (fun h => f15.out h), (fun h => f16.out h), (fun h => f17.out h), (fun h => f18.out h)⟩
     ·intro L vs W hlen hL hD hI K hK
      obtain ⟨x0, x1, x2, x3, x4, x5, x6, x7, x8, x9, x10, x11, x12, x13, x14, x15, x16, x17, x18, rfl⟩ := len19 hlen
      have hG := hI.1
      replace hI := hI.2
      have f0 := hide hI.1
      replace hI := hI.2
      have f1 := hide hI.1
      replace hI := hI.2
      have f2 := hide hI.1
      replace hI := hI.2
      have f3 := hide hI.1
      replace hI := hI.2
      have f4 := hide hI.1
      replace hI := hI.2
      have f5 := hide hI.1
      replace hI := hI.2
      have f6 := hide hI.1
      replace hI := hI.2
      have f7 := hide hI.1
      replace hI := hI.2
      have f8 := hide hI.1
      replace hI := hI.2
      have f9 := hide hI.1
      replace hI := hI.2
      have f10 := hide hI.1
      replace hI := hI.2
      have f11 := hide hI.1
      replace hI := hI.2
      have f12 := hide hI.1
      replace hI := hI.2
      have f13 := hide hI.1
      replace hI := hI.2
      have f14 := hide hI.1
      replace hI := hI.2
      have f15 := hide hI.1
      replace hI := hI.2
      have f16 := hide hI.1
      replace hI := hI.2
      have f17 := hide hI.1
      replace hI := hI.2
      have f18 := hide hI
      clear hI
      have r00 := hG.1.size
      obtain rfl := f9.out (hD.on 9 (by kernel_rfl))
      obtain rfl := f10.out (hD.on 10 (by kernel_rfl))
      try simp only [puts, Act.put, List.setIfInBounds_toArray, List.set_cons_zero, List.set_cons_succ]
      try go_simp
      exact hK.out _ _ _ (by simp only [puts, Act.put, List.setIfInBounds_toArray, List.set_cons_zero, List.set_cons_succ] <;> rfl) ⟨hG, (fun h => f0.out h), (fun h => f1.out h), (fun h => f2.out h), (fun h => f3.out h), (fun h => f4.out h), (fun h => f5.out h), (fun h => f6.out h), (fun h => f7.out h), (fun h => f8.out h), (fun h => f9.out h), (fun h => f10.out h), (fun _ => rfl), (fun h => f12.out h), (fun h => f13.out h), (fun h => f14.out h), (fun h => f15.out h), (fun h => f16.out h), (fun h => f17.out h), (fun h => f18.out h)⟩
     ·intro L vs W hlen hL hD hI K hK
      obtain ⟨x0, x1, x2, x3, x4, x5, x6, x7, x8, x9, x10, x11, x12, x13, x14, x15, x16, x17, x18, rfl⟩ := len19 hlen
      have hG := hI.1
      replace hI := hI.2
      have f0 := hide hI.1
      replace hI := hI.2
      have f1 := hide hI.1
      replace hI := hI.2
      have f2 := hide hI.1
      replace hI := hI.2
      have f3 := hide hI.1
      replace hI := hI.2
      have f4 := hide hI.1
      replace hI := hI.2
      have f5 := hide hI.1
      replace hI := hI.2
      have f6 := hide hI.1
      replace hI := hI.2
      have f7 := hide hI.1
      replace hI := hI.2
      have f8 := hide hI.1
      replace hI := hI.2
      have f9 := hide hI.1
      replace hI := hI.2
      have f10 := hide hI.1
      replace hI := hI.2
      have f11 := hide hI.1
      replace hI := hI.2
      have f12 := hide hI.1
      replace hI := hI.2
      have f13 := hide hI.1
      replace hI := hI.2
      have f14 := hide hI.1
      replace hI := hI.2
      have f15 := hide hI.1
      replace hI := hI.2
      have f16 := hide hI.1
      replace hI := hI.2
      have f17 := hide hI.1
      replace hI := hI.2
      have f18 := hide hI
      clear hI
      have r00 := hG.1.size
      obtain rfl := f11.out (hD.on 11 (by kernel_rfl))
      try simp only [puts, Act.put, List.setIfInBounds_toArray, List.set_cons_zero, List.set_cons_succ]
      try go_simp
      exact hK.out _ _ _ (by simp only [puts, Act.put, List.setIfInBounds_toArray, List.set_cons_zero, List.set_cons_succ] <;> rfl) ⟨hG, (fun h => f0.out h), (fun h => f1.out h), (fun h => f2.out h), (fun h => f3.out h), (fun h => f4.out h), (fun h => f5.out h), (fun h => f6.out h), (fun h => f7.out h), (fun h => f8.out h), (fun h => f9.out h), (fun h => f10.out h), (fun h => f11.out h), (fun _ => rfl), (fun h => f13.out h), (fun h => f14.out h), (fun h => f15.out h), (fun h => f16.out h), (fun h => f17.out h), (fun h => f18.out h)⟩
     ·intro L vs W hlen hL hD hI K hK
      obtain ⟨x0, x1, x2, x3, x4, x5, x6, x7, x8, x9, x10, x11, x12, x13, x14, x15, x16, x17, x18, rfl⟩ := len19 hlen
      have hG := hI.1
      replace hI := hI.2
      have f0 := hide hI.1
      replace hI := hI.2
      have f1 := hide hI.1
      replace hI := hI.2
      have f2 := hide hI.1
      replace hI := hI.2
      have f3 := hide hI.1
      replace hI := hI.2
      have f4 := hide hI.1
      replace hI := hI.2
      have f5 := hide hI.1
      replace hI := hI.2
      have f6 := hide hI.1
      replace hI := hI.2
      have f7 := hide hI.1
      replace hI := hI.2
      have f8 := hide hI.1
      replace hI := hI.2
      have f9 := hide hI.1
      replace hI := hI.2
      have f10 := hide hI.1
      replace hI := hI.2
      have f11 := hide hI.1
      replace hI := hI.2
      have f12 := hide hI.1
      replace hI := hI.2
      have f13 := hide hI.1
      replace hI := hI.2
      have f14 := hide hI.1
      replace hI := hI.2
      have f15 := hide hI.1
      replace hI := hI.2
      have f16 := hide hI.1
      replace hI := hI.2
      have f17 := hide hI.1
      replace hI := hI.2
      have f18 := hide hI
      clear hI
      have r00 := hG.1.size
      obtain rfl := f12.out (hD.on 12 (by kernel_rfl))
      try simp only [puts, Act.put, List.setIfInBounds_toArray, List.set_cons_zero, List.set_cons_succ]
      have h16 : L 16 = false := Bool.eq_false_iff.2 (fun h => absurd ((f16.out h).1.2.symm.trans hL) (by decide))
      have z9 := HO0.out W (hG.2.2 h16)
      go_simp
      exact hK.out _ _ _ (by simp only [puts, Act.put, List.setIfInBounds_toArray, List.set_cons_zero, List.set_cons_succ] <;> rfl) ⟨hG, (fun h => f0.out h), (fun h => f1.out h), (fun h => f2.out h), (fun h => f3.out h), (fun h => f4.out h), (fun h => f5.out h), (fun h => f6.out h), (fun h => f7.out h), (fun h => f8.out h), (fun h => f9.out h), (fun h => f10.out h), (fun h => f11.out h), (fun h => f12.out h), (fun _ => rfl), (fun h => (fun h => ⟨⟨h.1.1, rfl⟩, h.2⟩) (f14.out h)), (fun h => (fun h => ⟨⟨h.1.1, rfl⟩, h.2⟩) (f15.out h)), (fun h => (fun h => ⟨⟨h.1.1, rfl⟩, h.2⟩) (f16.out h)), (fun h => f17.out h), (fun h => f18.out h)⟩
     ·intro L vs W hlen hL hD hI K hK
      obtain ⟨x0, x1, x2, x3, x4, x5, x6, x7, x8, x9, x10, x11, x12, x13, x14, x15, x16, x17, x18, rfl⟩ := len19 hlen
      have hG := hI.1
      replace hI := hI.2
      have f0 := hide hI.1
      replace hI := hI.2
      have f1 := hide hI.1
      replace hI := hI.2
      have f2 := hide hI.1
      replace hI := hI.2
      have f3 := hide hI.1
      replace hI := hI.2
      have f4 := hide hI.1
      replace hI := hI.2
      have f5 := hide hI.1
      replace hI := hI.2
      have f6 := hide hI.1
      replace hI := hI.2
      have f7 := hide hI.1
      replace hI := hI.2
      have f8 := hide hI.1
      replace hI := hI.2
      have f9 := hide hI.1
      replace hI := hI.2
      have f10 := hide hI.1
      replace hI := hI.2
      have f11 := hide hI.1
      replace hI := hI.2
      have f12 := hide hI.1
      replace hI := hI.2
      have f13 := hide hI.1
      replace hI := hI.2
      have f14 := hide hI.1
      replace hI := hI.2
      have f15 := hide hI.1
      replace hI := hI.2
      have f16 := hide hI.1
      replace hI := hI.2
      have f17 := hide hI.1
      replace hI := hI.2
      have f18 := hide hI
      clear hI
      have r00 := hG.1.size
      obtain rfl := f7.out (hD.on 7 (by kernel_rfl))
      obtain rfl := f13.out (hD.on 13 (by kernel_rfl))
      try simp only [puts, Act.put, List.setIfInBounds_toArray, List.set_cons_zero, List.set_cons_succ]
      try go_simp
      exact hK.out _ _ _ (by simp only [puts, Act.put, List.setIfInBounds_toArray, List.set_cons_zero, List.set_cons_succ] <;> rfl) ⟨hG, (fun h => f0.out h), (fun h => f1.out h), (fun h => f2.out h), (fun h => f3.out h), (fun h => f4.out h), (fun h => f5.out h), (fun h => f6.out h), (fun h => f7.out h), (fun h => f8.out h), (fun h => f9.out h), (fun h => f10.out h), (fun h => f11.out h), (fun h => f12.out h), (fun h => f13.out h), (fun _ => ⟨⟨hD.on 7 (by kernel_rfl), hD.on 13 (by kernel_rfl)⟩, rfl⟩), (fun h => f15.out h), (fun h => f16.out h), (fun h => f17.out h), (fun h => f18.out h)⟩
     ·intro L vs W hlen hL hD hI K hK
      obtain ⟨x0, x1, x2, x3, x4, x5, x6, x7, x8, x9, x10, x11, x12, x13, x14, x15, x16, x17, x18, rfl⟩ := len19 hlen
      have hG := hI.1
      replace hI := hI.2
      have f0 := hide hI.1
      replace hI := hI.2
      have f1 := hide hI.1
      replace hI := hI.2
      have f2 := hide hI.1
      replace hI := hI.2
      have f3 := hide hI.1
      replace hI := hI.2
      have f4 := hide hI.1
      replace hI := hI.2
      have f5 := hide hI.1
      replace hI := hI.2
      have f6 := hide hI.1
      replace hI := hI.2
      have f7 := hide hI.1
      replace hI := hI.2
      have f8 := hide hI.1
      replace hI := hI.2
      have f9 := hide hI.1
      replace hI := hI.2
      have f10 := hide hI.1
      replace hI := hI.2
      have f11 := hide hI.1
      replace hI := hI.2
      have f12 := hide hI.1
      replace hI := hI.2
      have f13 := hide hI.1
      replace hI := hI.2
      have f14 := hide hI.1
      replace hI := hI.2
      have f15 := hide hI.1
      replace hI := hI.2
      have f16 := hide hI.1
      replace hI := hI.2
      have f17 := hide hI.1
      replace hI := hI.2
      have f18 := hide hI
      clear hI
      have r00 := hG.1.size
      have g14 := f14.out (hD.on 14 (by kernel_rfl))
      try simp only [puts, Act.put, List.setIfInBounds_toArray, List.set_cons_zero, List.set_cons_succ]
      obtain ⟨h714, rfl⟩ := g14
      go_simp
      generalize hW' : World.alloc W _ = W'
      have hb : Below W.heap.size W W' := by rw [← hW']; exact bal W _
      exact hK.out _ _ _ (by simp only [puts, Act.put, List.setIfInBounds_toArray, List.set_cons_zero, List.set_cons_succ] <;> rfl) ⟨⟨hG.1.then hb, fun h => (hG.2.1 h).later hb, fun h => (hG.2.2 h).later' hb⟩, (fun h => f0.out h), (fun h => f1.out h), (fun h => f2.out h), (fun h => f3.out h), (fun h => f4.out h), (fun h => f5.out h), (fun h => f6.out h), (fun h => f7.out h), (fun h => f8.out h), (fun h => f9.out h), (fun h => f10.out h), (fun h => f11.out h), (fun h => f12.out h), (fun h => f13.out h), (fun h => f14.out h), (fun _ => ⟨h714, fun _ => ⟨W.heap.size, rfl, by rw [← hW']; exact Blk.newA W _ rfl⟩⟩), (fun h => (fun h => ⟨h.1, let ⟨g1, c1, e, ho⟩ := h.2; ⟨g1, c1, e, ho.later' hb⟩⟩) (f16.out h)), (fun h => f17.out h), (fun h => (fun h => ⟨h.1, let ⟨g1, c1, e, hk⟩ := h.2; ⟨g1, c1, e, hk.later hb⟩⟩) (f18.out h))⟩
     ·intro L vs W hlen hL hD hI K hK
      obtain ⟨x0, x1, x2, x3, x4, x5, x6, x7, x8, x9, x10, x11, x12, x13, x14, x15, x16, x17, x18, rfl⟩ := len19 hlen
      have hG := hI.1
      replace hI := hI.2
      have f0 := hide hI.1
      replace hI := hI.2
      have f1 := hide hI.1
      replace hI := hI.2
      have f2 := hide hI.1
      replace hI := hI.2
      have f3 := hide hI.1
      replace hI := hI.2
      have f4 := hide hI.1
      replace hI := hI.2
      have f5 := hide hI.1
      replace hI := hI.2
      have f6 := hide hI.1
      replace hI := hI.2
      have f7 := hide hI.1
      replace hI := hI.2
      have f8 := hide hI.1
      replace hI := hI.2
      have f9 := hide hI.1
      replace hI := hI.2
      have f10 := hide hI.1
      replace hI := hI.2
      have f11 := hide hI.1
      replace hI := hI.2
      have f12 := hide hI.1
      replace hI := hI.2
      have f13 := hide hI.1
      replace hI := hI.2
      have f14 := hide hI.1
      replace hI := hI.2
      have f15 := hide hI.1
      replace hI := hI.2
      have f16 := hide hI.1
      replace hI := hI.2
      have f17 := hide hI.1
      replace hI := hI.2
      have f18 := hide hI
      clear hI
      have r00 := hG.1.size
      obtain rfl := f1.out (hD.on 1 (by kernel_rfl))
      have g15 := f15.out (hD.on 15 (by kernel_rfl))
      try simp only [puts, Act.put, List.setIfInBounds_toArray, List.set_cons_zero, List.set_cons_succ]
      obtain ⟨b0, rfl, hB0⟩ := g15.2 hL
      refine step_one infoPair rfl (by decide) Tryd.underlying22 rfl _ _ rfl (B) _ Lr rfl (hG.2.2 hL) b0 _ rfl hB0 rfl (pairC_one (p := (p1, p0))) (by omega) (by omega) (by omega) ?_
      intro g1 c1 W' hO' hE'
      have hb : True := trivial
      exact hK.out _ _ _ (by simp only [puts, Act.put, List.setIfInBounds_toArray, List.set_cons_zero, List.set_cons_succ] <;> rfl) ⟨⟨hG.1.app hE', fun h => hE'.blk (hG.2.1 h) (by decide), fun h => (by cases h)⟩, (fun h => f0.out h), (fun h => f1.out h), (fun h => f2.out h), (fun h => f3.out h), (fun h => f4.out h), (fun h => f5.out h), (fun h => f6.out h), (fun h => f7.out h), (fun h => f8.out h), (fun h => f9.out h), (fun h => f10.out h), (fun h => f11.out h), (fun h => f12.out h), (fun h => f13.out h), (fun h => f14.out h), (fun h => (fun h => ⟨h.1, fun h21 => by cases h21⟩) (f15.out h)), (fun _ => ⟨g15.1, g1, c1, rfl, hO'⟩), (fun h => f17.out h), (fun h => (fun h => absurd (h.1.2.2.2.symm.trans hL) (by decide)) (f18.out h))⟩
     ·intro L vs W hlen hL hD hI K hK
      obtain ⟨x0, x1, x2, x3, x4, x5, x6, x7, x8, x9, x10, x11, x12, x13, x14, x15, x16, x17, x18, rfl⟩ := len19 hlen
      have hG := hI.1
      replace hI := hI.2
      have f0 := hide hI.1
      replace hI := hI.2
      have f1 := hide hI.1
      replace hI := hI.2
      have f2 := hide hI.1
      replace hI := hI.2
      have f3 := hide hI.1
      replace hI := hI.2
      have f4 := hide hI.1
      replace hI := hI.2
      have f5 := hide hI.1
      replace hI := hI.2
      have f6 := hide hI.1
      replace hI := hI.2
      have f7 := hide hI.1
      replace hI := hI.2
      have f8 := hide hI.1
      replace hI := hI.2
      have f9 := hide hI.1
      replace hI := hI.2
      have f10 := hide hI.1
      replace hI := hI.2
      have f11 := hide hI.1
      replace hI := hI.2
      have f12 := hide hI.1
      replace hI := hI.2
      have f13 := hide hI.1
      replace hI := hI.2
      have f14 := hide hI.1
      replace hI := hI.2
      have f15 := hide hI.1
      replace hI := hI.2
      have f16 := hide hI.1
      replace hI := hI.2
      have f17 := hide hI.1
      replace hI := hI.2
      have f18 := hide hI
      clear hI
      have r00 := hG.1.size
      try simp only [puts, Act.put, List.setIfInBounds_toArray, List.set_cons_zero, List.set_cons_succ]
      try go_simp
      exact hK.out _ _ _ (by simp only [puts, Act.put, List.setIfInBounds_toArray, List.set_cons_zero, List.set_cons_succ] <;> rfl) ⟨hG, (fun h => f0.out h), (fun h => f1.out h), (fun h => f2.out h), (fun h => f3.out h), (fun h => f4.out h), (fun h => f5.out h), (fun h => f6.out h), (fun h => f7.out h), (fun h => f8.out h), (fun h => f9.out h), (fun h => f10.out h), (fun h => f11.out h), (fun h => f12.out h), (fun h => f13.out h), (fun h => f14.out h), (fun h => f15.out h), (fun h => f16.out h), (fun _ => rfl), (fun h => f18.out h)⟩
     ·intro L vs W hlen hL hD hI K hK
      obtain ⟨x0, x1, x2, x3, x4, x5, x6, x7, x8, x9, x10, x11, x12, x13, x14, x15, x16, x17, x18, rfl⟩ := len19 hlen
      have hG := hI.1
      replace hI := hI.2
      have f0 := hide hI.1
      replace hI := hI.2
      have f1 := hide hI.1
      replace hI := hI.2
      have f2 := hide hI.1
      replace hI := hI.2
      have f3 := hide hI.1
      replace hI := hI.2
      have f4 := hide hI.1
      replace hI := hI.2
      have f5 := hide hI.1
      replace hI := hI.2
      have f6 := hide hI.1
      replace hI := hI.2
      have f7 := hide hI.1
      replace hI := hI.2
      have f8 := hide hI.1
      replace hI := hI.2
      have f9 := hide hI.1
      replace hI := hI.2
      have f10 := hide hI.1
      replace hI := hI.2
      have f11 := hide hI.1
      replace hI := hI.2
      have f12 := hide hI.1
      replace hI := hI.2
      have f13 := hide hI.1
      replace hI := hI.2
      have f14 := hide hI.1
      replace hI := hI.2
      have f15 := hide hI.1
      replace hI := hI.2
      have f16 := hide hI.1
      replace hI := hI.2
      have f17 := hide hI.1
      replace hI := hI.2
      have f18 := hide hI
      clear hI
      have r00 := hG.1.size
      have g16 := f16.out (hD.on 16 (by kernel_rfl))
      obtain rfl := f17.out (hD.on 17 (by kernel_rfl))
      try simp only [puts, Act.put, List.setIfInBounds_toArray, List.set_cons_zero, List.set_cons_succ]
      obtain ⟨-, g1, c1, rfl, hO1⟩ := g16
      have bC0 := hG.2.1 hL
      have z0 := bC0.frozen 1
      have z1 := bC0.cell 1 rfl
      go_simp
      have hb : True := trivial
      exact hK.out _ undef _ (by simp only [puts, Act.put, List.setIfInBounds_toArray, List.set_cons_zero, List.set_cons_succ] <;> rfl) ⟨⟨hG.1.set 1 _, fun h => (by cases h), fun h => absurd (h.symm.trans (hD.on 16 (by kernel_rfl))) (by decide)⟩, (fun h => f0.out h), (fun h => f1.out h), (fun h => f2.out h), (fun h => f3.out h), (fun h => f4.out h), (fun h => f5.out h), (fun h => f6.out h), (fun h => f7.out h), (fun h => f8.out h), (fun h => f9.out h), (fun h => f10.out h), (fun h => f11.out h), (fun h => f12.out h), (fun h => f13.out h), (fun h => f14.out h), (fun h => (fun h => ⟨h.1, fun h21 => absurd (h21.symm.trans (hD.on 16 (by kernel_rfl))) (by decide)⟩) (f15.out h)), (fun h => (fun h => ⟨h.1, let ⟨g2, c2, e, ho⟩ := h.2; ⟨g2, c2, e, ho.setO bC0 (by decide) _⟩⟩) (f16.out h)), (fun h => f17.out h), (fun _ => ⟨⟨hD.on 1 (by kernel_rfl), hD.on 3 (by kernel_rfl), hD.on 9 (by kernel_rfl), hD.on 16 (by kernel_rfl)⟩, g1, c1, rfl, bC0.set 1 _⟩)⟩
    intro L vs W hlen hall hI
    obtain ⟨x0, x1, x2, x3, x4, x5, x6, x7, x8, x9, x10, x11, x12, x13, x14, x15, x16, x17, x18, rfl⟩ := len19 hlen
    have hG := hI.1
    replace hI := hI.2
    have f0 := hide hI.1
    replace hI := hI.2
    have f1 := hide hI.1
    replace hI := hI.2
    have f2 := hide hI.1
    replace hI := hI.2
    have f3 := hide hI.1
    replace hI := hI.2
    have f4 := hide hI.1
    replace hI := hI.2
    have f5 := hide hI.1
    replace hI := hI.2
    have f6 := hide hI.1
    replace hI := hI.2
    have f7 := hide hI.1
    replace hI := hI.2
    have f8 := hide hI.1
    replace hI := hI.2
    have f9 := hide hI.1
    replace hI := hI.2
    have f10 := hide hI.1
    replace hI := hI.2
    have f11 := hide hI.1
    replace hI := hI.2
    have f12 := hide hI.1
    replace hI := hI.2
    have f13 := hide hI.1
    replace hI := hI.2
    have f14 := hide hI.1
    replace hI := hI.2
    have f15 := hide hI.1
    replace hI := hI.2
    have f16 := hide hI.1
    replace hI := hI.2
    have f17 := hide hI.1
    replace hI := hI.2
    have f18 := hide hI
    clear hI
    obtain rfl := f0.out (hall 0 (by decide))
    obtain rfl := f1.out (hall 1 (by decide))
    obtain rfl := f2.out (hall 2 (by decide))
    obtain rfl := f3.out (hall 3 (by decide))
    obtain rfl := f4.out (hall 4 (by decide))
    obtain rfl := f5.out (hall 5 (by decide))
    obtain rfl := f6.out (hall 6 (by decide))
    obtain rfl := f7.out (hall 7 (by decide))
    obtain rfl := f8.out (hall 8 (by decide))
    obtain rfl := f9.out (hall 9 (by decide))
    obtain rfl := f10.out (hall 10 (by decide))
    obtain rfl := f11.out (hall 11 (by decide))
    obtain rfl := f12.out (hall 12 (by decide))
    obtain rfl := f13.out (hall 13 (by decide))
    have g14 := f14.out (hall 14 (by decide))
    have g15 := f15.out (hall 15 (by decide))
    have g16 := f16.out (hall 16 (by decide))
    obtain rfl := f17.out (hall 17 (by decide))
    have g18 := f18.out (hall 18 (by decide))
    have hal := hide hall
    clear hall f0 f1 f2 f3 f4 f5 f6 f7 f8 f9 f10 f11 f12 f13 f14 f15 f16 f17 f18
    try simp only [puts, Act.put, List.setIfInBounds_toArray, List.set_cons_zero, List.set_cons_succ]
    obtain ⟨-, rfl⟩ := g14
    obtain ⟨-, g1, c1, rfl, hO1⟩ := g16
    obtain ⟨-, g1', c1', -, hB1⟩ := g18
    have HG1 : Hid (BenG w B n (.slice (some ⟨g1, 0, none⟩) (Lr.length + 1) c1) (ps ++ [(p1, p0)]) W) := hide ⟨hB1, hG.1.blk HG0.out.bR (by omega) (by decide), by show OwnR _ _ _ _ _ _; rw [← HLA.out]; exact hO1, keeps_low_effY hG.1 (by have := HBZ.out; omega) (Nat.le_refl _) HG0.out.hb, Nat.le_trans hsz4 hG.1.size⟩
    clear g15 hO1 hB1 hG hal hsz4
    have c0 := HG1.out.bP.cell 0 rfl
    have c1 := HG1.out.bP.cell 1 rfl
    have f0 := HG1.out.bP.frozen 0
    have f1 := HG1.out.bP.frozen 1
    have r0 := HG1.out.bR.cell 0 rfl
    have r1 := HG1.out.bR.cell 1 rfl
    have rf0 := HG1.out.bR.frozen 0
    have rf1 := HG1.out.bR.frozen 1
    go_wp2_with fail
    have HZ := hide HG1.out.ret
    clear c0 c1 f0 f1 r0 r1 rf0 rf1
    have x0 := HZ.out.1.cell 0 rfl
    have x1 := HZ.out.1.cell 1 rfl
    refine bodyPost_ret (v := orderV n (.slice (some ⟨g1, 0, none⟩) (Lr.length + 1) c1)) (by simp [results, Tryd.results16, go_sem, x0, x1]) rfl ?_
    exact ⟨⟨n, (ps ++ [(p1, p0)])⟩, _, rfl, HZ.out.2.1, HZ.out.2.2⟩
   ·have HPN2 := hide (fun W => (show Calls Tryd.prog 37 #[.int .i64 nn, .int .i64 4] W (Ret (.int .i64 (n4 : Nat)) W) from (HPN.out W).mono fun e w' h => ⟨h.1, by rw [h.2]; exact Below.refl _ _⟩))
    have hw27 : IntKind.i64.wrap (27 + (n4 : Int)) = 27 + (n4 : Int) := IntWalk.i64_in _ ⟨by omega, by omega⟩
    have HKM := hide hkm
    clear HOC c0 c1 f0 f1 r0 r1 rf0 rf1
    go_wp2_with fail
    go_loopw [34] (fun _ wr => ∃ (q g' c' : Nat) (ps' : List (Int × Int)), ps'.length = q ∧ m ≤ q ∧ q ≤ 100 ∧ BenG w B n (.slice (some ⟨g', 0, none⟩) q c') ps' wr) (fun _ wr => 200 - lenB wr w.heap.size)
    case atStart => exact ⟨m, g, vc, ps, HM.out, Nat.le_refl _, hps, HG0.out⟩
    case round =>
     obtain ⟨q, g', c', ps', hq, hmq, hq100, hGq⟩ := hrel
     have HGQ := hide hGq
     have HQ := hide hq
     have HMQ := hide hmq
     have hlen := lenB_at (HGQ.out.bP.cell 1 rfl)
     have HLEN := hide hlen
     have hqI : (q : Int) ≤ 9223372036854775807 := by omega
     clear hGq hq hmq hlen HG0
     have q1 : ∀ j : Bw wr.heap.size wr, j.W.cell? ⟨w.heap.size, 1, none⟩ = some (.slice (some ⟨g', 0, none⟩) q c') := bwc (HGQ.out.bP.cell 1 rfl)
     by_cases hgo : (q : Int) < 27 + (n4 : Int)
     ·have hgd : decide ((q : Int) < 27 + (n4 : Int)) = true := decide_eq_true hgo
      have hq40 : q ≤ 40 := by omega
      go_upto_region 7 with (fail)
      refine wp_region_bw (by kernel_rfl) (by kernel_rfl) ?_
      repeat (go_big_quiet_step ((go_at_call 37; exact quiet (HPN2.out _))))
      refine wpQuiet_nil ?_
      rintro _ ⟨j, rfl⟩
      have HG5 := hide (HGQ.out.later j.h)
      clear q1 hgd hgo HGQ
      generalize j.W = W5 at *
      have hsz5 := HG5.out.sz
      obtain ⟨p0, p1, hpk⟩ : ∃ p0 p1, ps'.getD k (0, 0) = (p0, p1) := ⟨_, _, rfl⟩
      obtain ⟨Lr, hLr⟩ : ∃ Lr, ps'.map pairC = Lr := ⟨_, rfl⟩
      have hLl : Lr.length = q := by rw [← hLr, List.length_map, HQ.out]
      have HOW : Hid (OwnR W5 B 46 2 (.slice (some ⟨g', 0, none⟩) q c') Lr) := hide (by rw [← hLr]; exact HG5.out.own)
      have hLk : Lr.getD k [] = [.int .i64 p0, .int .i64 p1] := by
       rw [← hLr, List.getD_eq_getElem?_getD, List.getElem?_map, List.getElem?_eq_getElem (by rw [HQ.out]; exact (Nat.lt_of_lt_of_le HKM.out HMQ.out))]
       rw [List.getD_eq_getElem?_getD, List.getElem?_eq_getElem (by rw [HQ.out]; exact (Nat.lt_of_lt_of_le HKM.out HMQ.out))] at hpk
       simp only [Option.getD_some] at hpk
       simp only [Option.map_some, Option.getD_some, hpk]; rfl
      have HO0 : Hid (∀ W, OwnR W B 46 2 (.slice (some ⟨g', 0, none⟩) q c') Lr → W.cell? ⟨g', k * 2, none⟩ = some (.int .i64 p0)) := hide (fun W ho => ho.cell k 0 (by rw [hLl]; exact (Nat.lt_of_lt_of_le HKM.out HMQ.out)) (by decide) (by rw [hLk]; rfl))
      have HO1 : Hid (∀ W, OwnR W B 46 2 (.slice (some ⟨g', 0, none⟩) q c') Lr → W.cell? ⟨g', k * 2 + 1, none⟩ = some (.int .i64 p1)) := hide (fun W ho => ho.cell k 1 (by rw [hLl]; exact (Nat.lt_of_lt_of_le HKM.out HMQ.out)) (by decide) (by rw [hLk]; rfl))
      have HLA : Hid (Lr ++ [[.int .i64 p0, .int .i64 p1]] = (ps' ++ [(p0, p1)]).map pairC) := hide (by rw [← hLr, List.map_append]; rfl)
      have hLb : Lr.length ≤ 100 := by omega
      have HLL := hide hLl
      have hkqI : (k : Int) < q := by have := HKM.out; have := HMQ.out; omega
      clear hLl hLr hLk hpk
      go_upto_region 8 with (fail)
      refine wp_region_inv [some 41, some 42, some 43, some 44, some 45, some 46, some 47, some 48, some 49, some 50, none] (fun L vs W => match vs with | [x0, x1, x2, x3, x4, x5, x6, x7, x8, x9, x10] => (EffY (B) 46 (w.heap.size) W5 W ∧ (L 10 = false → Blk W (w.heap.size) [.int .i64 n, .slice (some ⟨g', 0, none⟩) q c'] 25) ∧ (L 8 = false → OwnR W (B) 46 2 (.slice (some ⟨g', 0, none⟩) q c') Lr)) ∧ (L 0 = true → x0 = .pointer (some ⟨w.heap.size, 1, none⟩)) ∧ (L 1 = true → x1 = .slice (some ⟨g', 0, none⟩) q c') ∧ (L 2 = true → x2 = .pointer (some ⟨w.heap.size, 1, none⟩)) ∧ (L 3 = true → x3 = .slice (some ⟨g', 0, none⟩) q c') ∧ (L 4 = true → x4 = .int .i64 (k : Nat)) ∧ (L 5 = true → x5 = .pointer (some ⟨g', k * 2, none⟩)) ∧ (L 6 = true → x6 = .agg #[.int .i64 p0, .int .i64 p1]) ∧ (L 7 = true → L 6 = true ∧ (L 8 = false → ∃ b0 : Nat, x7 = .slice (some ⟨b0, 0, none⟩) 1 1 ∧ Blk W b0 [.int .i64 p0, .int .i64 p1] 46)) ∧ (L 8 = true → L 6 = true ∧ ∃ g1 c1, x8 = .slice (some ⟨g1, 0, none⟩) (Lr.length + 1) c1 ∧ OwnR W (B) 46 2 x8 (Lr ++ [[.int .i64 p0, .int .i64 p1]])) ∧ (L 9 = true → x9 = .pointer (some ⟨w.heap.size, 1, none⟩)) ∧ (L 10 = true → (L 1 = true ∧ L 3 = true ∧ L 8 = true) ∧ ∃ g1 c1, x8 = .slice (some ⟨g1, 0, none⟩) (Lr.length + 1) c1 ∧ Blk W (w.heap.size) [.int .i64 n, x8] 25) | _ => False) [_, _, _, _, _, _, _, _, _, _, undef] (by kernel_rfl) (by kernel_rfl) rfl (by simp only [puts, Act.put, List.setIfInBounds_toArray, List.set_cons_zero, List.set_cons_succ] <;> rfl) ?_ ?_ ?_
      ·exact ⟨⟨EffY.of_below (Below.refl _ _).drew, fun _ => HG5.out.bP.later (Below.refl _ _).drew, fun _ => HOW.out.later' (Below.refl _ _).drew⟩, (fun h => by cases h), (fun h => by cases h), (fun h => by cases h), (fun h => by cases h), (fun h => by cases h), (fun h => by cases h), (fun h => by cases h), (fun h => by cases h), (fun h => by cases h), (fun h => by cases h), (fun h => by cases h)⟩
      ·refine ⟨?_, ?_, ?_, ?_, ?_, ?_, ?_, ?_, ?_, ?_, ?_, trivial⟩
       ·intro L vs W hlen hL hD hI K hK
        obtain ⟨x0, x1, x2, x3, x4, x5, x6, x7, x8, x9, x10, rfl⟩ := len11 hlen
        have hG := hI.1
        replace hI := hI.2
        have f0 := hide hI.1
        replace hI := hI.2
        have f1 := hide hI.1
        replace hI := hI.2
        have f2 := hide hI.1
        replace hI := hI.2
        have f3 := hide hI.1
        replace hI := hI.2
        have f4 := hide hI.1
        replace hI := hI.2
        have f5 := hide hI.1
        replace hI := hI.2
        have f6 := hide hI.1
        replace hI := hI.2
        have f7 := hide hI.1
        replace hI := hI.2
        have f8 := hide hI.1
        replace hI := hI.2
        have f9 := hide hI.1
        replace hI := hI.2
        have f10 := hide hI
        clear hI
        have r00 := hG.1.size
        try simp only [puts, Act.put, List.setIfInBounds_toArray, List.set_cons_zero, List.set_cons_succ]
        try go_simp
        exact hK.out _ _ _ (by simp only [puts, Act.put, List.setIfInBounds_toArray, List.set_cons_zero, List.set_cons_succ] <;> rfl) ⟨hG, (fun _ => rfl), (fun h => f1.out h), (fun h => f2.out h), (fun h => f3.out h), (fun h => f4.out h), (fun h => f5.out h), (fun h => f6.out h), (fun h => f7.out h), (fun h => f8.out h), (fun h => f9.out h), (fun h => f10.out h)⟩
       ·intro L vs W hlen hL hD hI K hK
        obtain ⟨x0, x1, x2, x3, x4, x5, x6, x7, x8, x9, x10, rfl⟩ := len11 hlen
        have hG := hI.1
        replace hI := hI.2
        have f0 := hide hI.1
        replace hI := hI.2
        have f1 := hide hI.1
        replace hI := hI.2
        have f2 := hide hI.1
        replace hI := hI.2
        have f3 := hide hI.1
        replace hI := hI.2
        have f4 := hide hI.1
        replace hI := hI.2
        have f5 := hide hI.1
        replace hI := hI.2
        have f6 := hide hI.1
        replace hI := hI.2
        have f7 := hide hI.1
        replace hI := hI.2
        have f8 := hide hI.1
        replace hI := hI.2
        have f9 := hide hI.1
        replace hI := hI.2
        have f10 := hide hI
        clear hI
        have r00 := hG.1.size
        obtain rfl := f0.out (hD.on 0 (by kernel_rfl))
        try simp only [puts, Act.put, List.setIfInBounds_toArray, List.set_cons_zero, List.set_cons_succ]
        have hst : L 10 = false := Bool.eq_false_iff.2 (fun h => absurd ((f10.out h).1.1.symm.trans hL) (by decide))
        have r0 := (hG.2.1 hst).cell 1 rfl
        go_simp
        exact hK.out _ _ _ (by simp only [puts, Act.put, List.setIfInBounds_toArray, List.set_cons_zero, List.set_cons_succ] <;> rfl) ⟨hG, (fun h => f0.out h), (fun _ => rfl), (fun h => f2.out h), (fun h => f3.out h), (fun h => f4.out h), (fun h => f5.out h), (fun h => f6.out h), (fun h => f7.out h), (fun h => f8.out h), (fun h => f9.out h), (fun h => (fun h => ⟨⟨rfl, h.1.2⟩, h.2⟩) (f10.out h))⟩
       ·intro L vs W hlen hL hD hI K hK
        obtain ⟨x0, x1, x2, x3, x4, x5, x6, x7, x8, x9, x10, rfl⟩ := len11 hlen
        have hG := hI.1
        replace hI := hI.2
        have f0 := hide hI.1
        replace hI := hI.2
        have f1 := hide hI.1
        replace hI := hI.2
        have f2 := hide hI.1
        replace hI := hI.2
        have f3 := hide hI.1
        replace hI := hI.2
        have f4 := hide hI.1
        replace hI := hI.2
        have f5 := hide hI.1
        replace hI := hI.2
        have f6 := hide hI.1
        replace hI := hI.2
        have f7 := hide hI.1
        replace hI := hI.2
        have f8 := hide hI.1
        replace hI := hI.2
        have f9 := hide hI.1
        replace hI := hI.2
        have f10 := hide hI
        clear hI
        have r00 := hG.1.size
        try simp only [puts, Act.put, List.setIfInBounds_toArray, List.set_cons_zero, List.set_cons_succ]
        try go_simp
        exact hK.out _ _ _ (by simp only [puts, Act.put, List.setIfInBounds_toArray, List.set_cons_zero, List.set_cons_succ] <;> rfl) ⟨hG, (fun h => f0.out h), (fun h => f1.out h), (fun _ => rfl), (fun h => f3.out h), (fun h => f4.out h), (fun h => f5.out h), (fun h => f6.out h), (fun h => f7.out h), (fun h => f8.out h), (fun h => f9.out h), (fun h => f10.out h)⟩
       ·intro L vs W hlen hL hD hI K hK
        obtain ⟨x0, x1, x2, x3, x4, x5, x6, x7, x8, x9, x10, rfl⟩ := len11 hlen
        have hG := hI.1
        replace hI := hI.2
        have f0 := hide hI.1
        replace hI := hI.2
        have f1 := hide hI.1
        replace hI := hI.2
        have f2 := hide hI.1
        replace hI := hI.2
        have f3 := hide hI.1
        replace hI := hI.2
        have f4 := hide hI.1
        replace hI := hI.2
        have f5 := hide hI.1
        replace hI := hI.2
        have f6 := hide hI.1
        replace hI := hI.2
        have f7 := hide hI.1
        replace hI := hI.2
        have f8 := hide hI.1
        replace hI := hI.2
        have f9 := hide hI.1
        replace hI := hI.2
        have f10 := hide hI
        clear hI
        have r00 := hG.1.size
        obtain rfl := f2.out (hD.on 2 (by kernel_rfl))
        try simp only [puts, Act.put, List.setIfInBounds_toArray, List.set_cons_zero, List.set_cons_succ]
        have hst : L 10 = false := Bool.eq_false_iff.2 (fun h => absurd ((f10.out h).1.2.1.symm.trans hL) (by decide))
        have r0 := (hG.2.1 hst).cell 1 rfl
        go_simp
        exact hK.out _ _ _ (by simp only [puts, Act.put, List.setIfInBounds_toArray, List.set_cons_zero, List.set_cons_succ] <;> rfl) ⟨hG, (fun h => f0.out h), (fun h => f1.out h), (fun h => f2.out h), (fun _ => rfl), (fun h => f4.out h), (fun h => f5.out h), (fun h => f6.out h), (fun h => f7.out h), (fun h => f8.out h), (fun h => f9.out h), (fun h => (fun h => ⟨⟨h.1.1, rfl, h.1.2.2⟩, h.2⟩) (f10.out h))⟩
       ·intro L vs W hlen hL hD hI K hK
        obtain ⟨x0, x1, x2, x3, x4, x5, x6, x7, x8, x9, x10, rfl⟩ := len11 hlen
        have hG := hI.1
        replace hI := hI.2
        have f0 := hide hI.1
        replace hI := hI.2
        have f1 := hide hI.1
        replace hI := hI.2
        have f2 := hide hI.1
        replace hI := hI.2
        have f3 := hide hI.1
        replace hI := hI.2
        have f4 := hide hI.1
        replace hI := hI.2
        have f5 := hide hI.1
        replace hI := hI.2
        have f6 := hide hI.1
        replace hI := hI.2
        have f7 := hide hI.1
        replace hI := hI.2
        have f8 := hide hI.1
        replace hI := hI.2
        have f9 := hide hI.1
        replace hI := hI.2
        have f10 := hide hI
        clear hI
        have r00 := hG.1.size
        try simp only [puts, Act.put, List.setIfInBounds_toArray, List.set_cons_zero, List.set_cons_succ]
        try go_simp
        exact hK.out _ _ _ (by simp only [puts, Act.put, List.setIfInBounds_toArray, List.set_cons_zero, List.set_cons_succ] <;> rfl) ⟨hG, (fun h => f0.out h), (fun h => f1.out h), (fun h => f2.out h), (fun h => f3.out h), (fun _ => rfl), (fun h => f5.out h), (fun h => f6.out h), (fun h => f7.out h), (fun h => f8.out h), (fun h => f9.out h), (fun h => f10.out h)⟩
       ·intro L vs W hlen hL hD hI K hK
        obtain ⟨x0, x1, x2, x3, x4, x5, x6, x7, x8, x9, x10, rfl⟩ := len11 hlen
        have hG := hI.1
        replace hI := hI.2
        have f0 := hide hI.1
        replace hI := hI.2
        have f1 := hide hI.1
        replace hI := hI.2
        have f2 := hide hI.1
        replace hI := hI.2
        have f3 := hide hI.1
        replace hI := hI.2
        have f4 := hide hI.1
        replace hI := hI.2
        have f5 := hide hI.1
        replace hI := hI.2
        have f6 := hide hI.1
        replace hI := hI.2
        have f7 := hide hI.1
        replace hI := hI.2
        have f8 := hide hI.1
        replace hI := hI.2
        have f9 := hide hI.1
        replace hI := hI.2
        have f10 := hide hI
        clear hI
        have r00 := hG.1.size
        obtain rfl := f3.out (hD.on 3 (by kernel_rfl))
        obtain rfl := f4.out (hD.on 4 (by kernel_rfl))
        try simp only [puts, Act.put, List.setIfInBounds_toArray, List.set_cons_zero, List.set_cons_succ]
        try go_simp
        exact hK.out _ _ _ (by simp only [puts, Act.put, List.setIfInBounds_toArray, List.set_cons_zero, List.set_cons_succ] <;> rfl) ⟨hG, (fun h => f0.out h), (fun h => f1.out h), (fun h => f2.out h), (fun h => f3.out h), (fun h => f4.out h), (fun _ => rfl), (fun h => f6.out h), (fun h => f7.out h), (fun h => f8.out h), (fun h => f9.out h), (fun h => f10.out h)⟩
       ·intro L vs W hlen hL hD hI K hK
        obtain ⟨x0, x1, x2, x3, x4, x5, x6, x7, x8, x9, x10, rfl⟩ := len11 hlen
        have hG := hI.1
        replace hI := hI.2
        have f0 := hide hI.1
        replace hI := hI.2
        have f1 := hide hI.1
        replace hI := hI.2
        have f2 := hide hI.1
        replace hI := hI.2
        have f3 := hide hI.1
        replace hI := hI.2
        have f4 := hide hI.1
        replace hI := hI.2
        have f5 := hide hI.1
        replace hI := hI.2
        have f6 := hide hI.1
        replace hI := hI.2
        have f7 := hide hI.1
        replace hI := hI.2
        have f8 := hide hI.1
        replace hI := hI.2
        have f9 := hide hI.1
        replace hI := hI.2
        have f10 := hide hI
        clear hI
        have r00 := hG.1.size
        obtain rfl := f5.out (hD.on 5 (by kernel_rfl))
        try simp only [puts, Act.put, List.setIfInBounds_toArray, List.set_cons_zero, List.set_cons_succ]
        have h8 : L 8 = false := Bool.eq_false_iff.2 (fun h => absurd ((f8.out h).1.symm.trans hL) (by decide))
        have z8 := HO0.out W (hG.2.2 h8)
        have z9 := HO1.out W (hG.2.2 h8)
        go_simp
        exact hK.out _ _ _ (by simp only [puts, Act.put, List.setIfInBounds_toArray, List.set_cons_zero, List.set_cons_succ] <;> rfl) ⟨hG, (fun h => f0.out h), (fun h => f1.out h), (fun h => f2.out h), (fun h => f3.out h), (fun h => f4.out h), (fun h => f5.out h), (fun _ => rfl), (fun h => (fun h => ⟨rfl, h.2⟩) (f7.out h)), (fun h => (fun h => ⟨rfl, h.2⟩) (f8.out h)), (fun h => f9.out h), (fun h => f10.out h)⟩
       ·intro L vs W hlen hL hD hI K hK
        obtain ⟨x0, x1, x2, x3, x4, x5, x6, x7, x8, x9, x10, rfl⟩ := len11 hlen
        have hG := hI.1
        replace hI := hI.2
        have f0 := hide hI.1
        replace hI := hI.2
        have f1 := hide hI.1
        replace hI := hI.2
        have f2 := hide hI.1
        replace hI := hI.2
        have f3 := hide hI.1
        replace hI := hI.2
        have f4 := hide hI.1
        replace hI := hI.2
        have f5 := hide hI.1
        replace hI := hI.2
        have f6 := hide hI.1
        replace hI := hI.2
        have f7 := hide hI.1
        replace hI := hI.2
        have f8 := hide hI.1
        replace hI := hI.2
        have f9 := hide hI.1
        replace hI := hI.2
        have f10 := hide hI
        clear hI
        have r00 := hG.1.size
        obtain rfl := f6.out (hD.on 6 (by kernel_rfl))
        try simp only [puts, Act.put, List.setIfInBounds_toArray, List.set_cons_zero, List.set_cons_succ]
        go_simp
        generalize hW' : World.alloc W _ = W'
        have hb : Below W.heap.size W W' := by rw [← hW']; exact bal W _
        exact hK.out _ _ _ (by simp only [puts, Act.put, List.setIfInBounds_toArray, List.set_cons_zero, List.set_cons_succ] <;> rfl) ⟨⟨hG.1.then hb, fun h => (hG.2.1 h).later hb, fun h => (hG.2.2 h).later' hb⟩, (fun h => f0.out h), (fun h => f1.out h), (fun h => f2.out h), (fun h => f3.out h), (fun h => f4.out h), (fun h => f5.out h), (fun h => f6.out h), (fun _ => ⟨hD.on 6 (by kernel_rfl), fun _ => ⟨W.heap.size, rfl, by rw [← hW']; exact Blk.newA W _ rfl⟩⟩), (fun h => (fun h => ⟨h.1, let ⟨g1, c1, e, ho⟩ := h.2; ⟨g1, c1, e, ho.later' hb⟩⟩) (f8.out h)), (fun h => f9.out h), (fun h => (fun h => ⟨h.1, let ⟨g1, c1, e, hk⟩ := h.2; ⟨g1, c1, e, hk.later hb⟩⟩) (f10.out h))⟩
       ·intro L vs W hlen hL hD hI K hK
        obtain ⟨x0, x1, x2, x3, x4, x5, x6, x7, x8, x9, x10, rfl⟩ := len11 hlen
        have hG := hI.1
        replace hI := hI.2
        have f0 := hide hI.1
        replace hI := hI.2
        have f1 := hide hI.1
        replace hI := hI.2
        have f2 := hide hI.1
        replace hI := hI.2
        have f3 := hide hI.1
        replace hI := hI.2
        have f4 := hide hI.1
        replace hI := hI.2
        have f5 := hide hI.1
        replace hI := hI.2
        have f6 := hide hI.1
        replace hI := hI.2
        have f7 := hide hI.1
        replace hI := hI.2
        have f8 := hide hI.1
        replace hI := hI.2
        have f9 := hide hI.1
        replace hI := hI.2
        have f10 := hide hI
        clear hI
        have r00 := hG.1.size
        obtain rfl := f1.out (hD.on 1 (by kernel_rfl))
        have g7 := f7.out (hD.on 7 (by kernel_rfl))
        try simp only [puts, Act.put, List.setIfInBounds_toArray, List.set_cons_zero, List.set_cons_succ]
        obtain ⟨b0, rfl, hB0⟩ := g7.2 hL
        refine step_one infoPair rfl (by decide) Tryd.underlying22 rfl _ _ rfl (B) _ Lr rfl (hG.2.2 hL) b0 _ rfl hB0 rfl (pairC_one (p := (p0, p1))) (by omega) (by omega) (by omega) ?_
        intro g1 c1 W' hO' hE'
        have hb : True := trivial
        exact hK.out _ _ _ (by simp only [puts, Act.put, List.setIfInBounds_toArray, List.set_cons_zero, List.set_cons_succ] <;> rfl) ⟨⟨hG.1.app hE', fun h => hE'.blk (hG.2.1 h) (by decide), fun h => (by cases h)⟩, (fun h => f0.out h), (fun h => f1.out h), (fun h => f2.out h), (fun h => f3.out h), (fun h => f4.out h), (fun h => f5.out h), (fun h => f6.out h), (fun h => (fun h => ⟨h.1, fun h21 => by cases h21⟩) (f7.out h)), (fun _ => ⟨g7.1, g1, c1, rfl, hO'⟩), (fun h => f9.out h), (fun h => (fun h => absurd (h.1.2.2.symm.trans hL) (by decide)) (f10.out h))⟩
       ·intro L vs W hlen hL hD hI K hK
        obtain ⟨x0, x1, x2, x3, x4, x5, x6, x7, x8, x9, x10, rfl⟩ := len11 hlen
        have hG := hI.1
        replace hI := hI.2
        have f0 := hide hI.1
        replace hI := hI.2
        have f1 := hide hI.1
        replace hI := hI.2
        have f2 := hide hI.1
        replace hI := hI.2
        have f3 := hide hI.1
        replace hI := hI.2
        have f4 := hide hI.1
        replace hI := hI.2
        have f5 := hide hI.1
        replace hI := hI.2
        have f6 := hide hI.1
        replace hI := hI.2
        have f7 := hide hI.1
        replace hI := hI.2
        have f8 := hide hI.1
        replace hI := hI.2
        have f9 := hide hI.1
        replace hI := hI.2
        have f10 := hide hI
        clear hI
        have r00 := hG.1.size
        try simp only [puts, Act.put, List.setIfInBounds_toArray, List.set_cons_zero, List.set_cons_succ]
        try go_simp
        exact hK.out _ _ _ (by simp only [puts, Act.put, List.setIfInBounds_toArray, List.set_cons_zero, List.set_cons_succ] <;> rfl) ⟨hG, (fun h => f0.out h), (fun h => f1.out h), (fun h => f2.out h), (fun h => f3.out h), (fun h => f4.out h), (fun h => f5.out h), (fun h => f6.out h), (fun h => f7.out h), (fun h => f8.out h), (fun _ => rfl), (fun h => f10.out h)⟩
       ·intro L vs W hlen hL hD hI K hK
        obtain ⟨x0, x1, x2, x3, x4, x5, x6, x7, x8, x9, x10, rfl⟩ := len11 hlen
        have hG := hI.1
        replace hI := hI.2
        have f0 := hide hI.1
        replace hI := hI.2
        have f1 := hide hI.1
        replace hI := hI.2
        have f2 := hide hI.1
        replace hI := hI.2
        have f3 := hide hI.1
        replace hI := hI.2
        have f4 := hide hI.1
        replace hI := hI.2
        have f5 := hide hI.1
        replace hI := hI.2
        have f6 := hide hI.1
        replace hI := hI.2
        have f7 := hide hI.1
        replace hI := hI.2
        have f8 := hide hI.1
        replace hI := hI.2
        have f9 := hide hI.1
        replace hI := hI.2
        have f10 := hide hI
        clear hI
        have r00 := hG.1.size
        have g8 := f8.out (hD.on 8 (by kernel_rfl))
        obtain rfl := f9.out (hD.on 9 (by kernel_rfl))
        try simp only [puts, Act.put, List.setIfInBounds_toArray, List.set_cons_zero, List.set_cons_succ]
        obtain ⟨-, g1, c1, rfl, hO1⟩ := g8
        have bC0 := hG.2.1 hL
        have z0 := bC0.frozen 1
        have z1 := bC0.cell 1 rfl
        go_simp
        have hb : True := trivial
        exact hK.out _ undef _ (by simp only [puts, Act.put, List.setIfInBounds_toArray, List.set_cons_zero, List.set_cons_succ] <;> rfl) ⟨⟨hG.1.set 1 _, fun h => (by cases h), fun h => absurd (h.symm.trans (hD.on 8 (by kernel_rfl))) (by decide)⟩, (fun h => f0.out h), (fun h => f1.out h), (fun h => f2.out h), (fun h => f3.out h), (fun h => f4.out h), (fun h => f5.out h), (fun h => f6.out h), (fun h => (fun h => ⟨h.1, fun h21 => absurd (h21.symm.trans (hD.on 8 (by kernel_rfl))) (by decide)⟩) (f7.out h)), (fun h => (fun h => ⟨h.1, let ⟨g2, c2, e, ho⟩ := h.2; ⟨g2, c2, e, ho.setO bC0 (by decide) _⟩⟩) (f8.out h)), (fun h => f9.out h), (fun _ => ⟨⟨hD.on 1 (by kernel_rfl), hD.on 3 (by kernel_rfl), hD.on 8 (by kernel_rfl)⟩, g1, c1, rfl, bC0.set 1 _⟩)⟩
      intro L vs W hlen hall hI
      obtain ⟨x0, x1, x2, x3, x4, x5, x6, x7, x8, x9, x10, rfl⟩ := len11 hlen
      have hG := hI.1
      replace hI := hI.2
      have f0 := hide hI.1
      replace hI := hI.2
      have f1 := hide hI.1
      replace hI := hI.2
      have f2 := hide hI.1
      replace hI := hI.2
      have f3 := hide hI.1
      replace hI := hI.2
      have f4 := hide hI.1
      replace hI := hI.2
      have f5 := hide hI.1
      replace hI := hI.2
      have f6 := hide hI.1
      replace hI := hI.2
      have f7 := hide hI.1
      replace hI := hI.2
      have f8 := hide hI.1
      replace hI := hI.2
      have f9 := hide hI.1
      replace hI := hI.2
      have f10 := hide hI
      clear hI
      obtain rfl := f0.out (hall 0 (by decide))
      obtain rfl := f1.out (hall 1 (by decide))
      obtain rfl := f2.out (hall 2 (by decide))
      obtain rfl := f3.out (hall 3 (by decide))
      obtain rfl := f4.out (hall 4 (by decide))
      obtain rfl := f5.out (hall 5 (by decide))
      obtain rfl := f6.out (hall 6 (by decide))
      have g7 := f7.out (hall 7 (by decide))
      have g8 := f8.out (hall 8 (by decide))
      obtain rfl := f9.out (hall 9 (by decide))
      have g10 := f10.out (hall 10 (by decide))
      have hal := hide hall
      clear hall f0 f1 f2 f3 f4 f5 f6 f7 f8 f9 f10
      try simp only [puts, Act.put, List.setIfInBounds_toArray, List.set_cons_zero, List.set_cons_succ]
      obtain ⟨-, g1, c1, rfl, hO1⟩ := g8
      obtain ⟨-, g1', c1', -, hB1⟩ := g10
      have HG1 : Hid (BenG w B n (.slice (some ⟨g1, 0, none⟩) (q + 1) c1) (ps' ++ [(p0, p1)]) W) := hide ⟨by rw [← HLL.out]; exact hB1, hG.1.blk HG5.out.bR (by omega) (by decide), by show OwnR _ _ _ _ _ _; rw [← HLA.out, ← HLL.out]; exact hO1, keeps_low_effY hG.1 (by have := HBZ.out; omega) (Nat.le_refl _) HG5.out.hb, Nat.le_trans hsz5 hG.1.size⟩
      have hln2 := lenB_at (HG1.out.bP.cell 1 rfl)
      have HLN2 := hide hln2
      clear g7 hO1 hB1 hG hal hsz5 hln2
      go_wp2_with fail
      go_roundw
      case rel => exact ⟨q + 1, g1, c1, _, by rw [List.length_append, HQ.out]; rfl, by have := HMQ.out; omega, by omega, HG1.out⟩
      case measure => rw [HLN2.out, HLEN.out]; omega
     ·have hgd : decide ((q : Int) < 27 + (n4 : Int)) = false := decide_eq_false hgo
      go_upto_region 7 with (fail)
      refine wp_region_bw (by kernel_rfl) (by kernel_rfl) ?_
      repeat (go_big_quiet_step ((go_at_call 37; exact quiet (HPN2.out _))))
      refine wpQuiet_nil ?_
      rintro _ ⟨j, rfl⟩
      have HG1 := hide (HGQ.out.later j.h)
      clear q1 hgd hgo HGQ
      generalize j.W = W5 at *
      have c0 := HG1.out.bP.cell 0 rfl
      have c1 := HG1.out.bP.cell 1 rfl
      have f0 := HG1.out.bP.frozen 0
      have f1 := HG1.out.bP.frozen 1
      have r0 := HG1.out.bR.cell 0 rfl
      have r1 := HG1.out.bR.cell 1 rfl
      have rf0 := HG1.out.bR.frozen 0
      have rf1 := HG1.out.bR.frozen 1
      go_wp2_with fail
      have HZ := hide HG1.out.ret
      clear c0 c1 f0 f1 r0 r1 rf0 rf1
      have x0 := HZ.out.1.cell 0 rfl
      have x1 := HZ.out.1.cell 1 rfl
      refine bodyPost_ret (v := orderV n (.slice (some ⟨g', 0, none⟩) q c')) (by simp [results, Tryd.results16, go_sem, x0, x1]) rfl ?_
      exact ⟨⟨n, ps'⟩, _, rfl, HZ.out.2.1, HZ.out.2.2⟩
end Go.Proofs.YtnidcoinfmcffaaDoor
