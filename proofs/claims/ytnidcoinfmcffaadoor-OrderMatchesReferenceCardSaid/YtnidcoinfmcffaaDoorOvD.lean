/- The reference of chapter 15: Formed, pairs, before, Valid. Conditions: how the order lies in memory. -/
import Derived.Test.YtnidcoinfmcffaaDoorOvC
namespace Go.Proofs.YtnidcoinfmcffaaDoor
open Go.RowKit
attribute [local go_sem] Oper.semAt_some
set_option maxRecDepth 100000 in
set_option maxHeartbeats 2000000 in
theorem rformed_any (o : OrderD) (pv : Value) (w : World) (hp : PairsIn w.cell? pv o.pairs) : Calls Tryd.prog 42 #[orderV o.n pv] w (Ret (.bool (formedO o)) w) := by
 obtain ⟨n, ps⟩ := o
 simp only
 obtain ⟨pa, pm, rfl, hp1, hp2, -⟩ := id hp
 have hpl : (ps.length : Int) ≤ 9223372036854775807 := by simp only at hp1; omega
 have HPI : Hid (PairsIn w.cell? (.slice pa ps.length pm) ps) := hide hp
 have HF : Hid (formedO ⟨n, ps⟩ = (decide (0 ≤ n ∧ n ≤ 8) && decide (ps.length ≤ 28) && ps.all (pairOkO n))) := hide rfl
 generalize formedO ⟨n, ps⟩ = F at HF ⊢
 clear hp hp1 hp2
 by_cases h1 : n < 0
 ·have HR : Hid (F = false) := hide (by rw [HF.out, decide_eq_false (by omega : ¬ (0 ≤ n ∧ n ≤ 8))]; rfl)
  have h1d : decide (n < 0) = true := decide_eq_true h1
  go_enter Tryd.func42, Tryd.ntmps42
  go_wp2_with fail
  go_ret
  exact ⟨by rw [HR.out]; rfl, bal w _⟩
 ·have h1d : decide (n < 0) = false := decide_eq_false h1
  by_cases h2 : 8 < n
  ·have HR : Hid (F = false) := hide (by rw [HF.out, decide_eq_false (by omega : ¬ (0 ≤ n ∧ n ≤ 8))]; rfl)
   have h2d : decide (8 < n) = true := decide_eq_true h2
   go_enter Tryd.func42, Tryd.ntmps42
   go_wp2_with fail
   go_ret
   exact ⟨by rw [HR.out]; rfl, bal w _⟩
  ·have h2d : decide (8 < n) = false := decide_eq_false h2
   by_cases h3 : (28 : Int) < ps.length
   ·have HR : Hid (F = false) := hide (by rw [HF.out, decide_eq_false (by omega : ¬ ps.length ≤ 28)]; simp)
    have h3d : decide ((28 : Int) < ps.length) = true := decide_eq_true h3
    go_enter Tryd.func42, Tryd.ntmps42
    go_wp2_with fail
    go_ret
    exact ⟨by rw [HR.out]; rfl, bal w _⟩
   ·have h3d : decide ((28 : Int) < ps.length) = false := decide_eq_false h3
    have HQ : Hid (F = ps.all (pairOkO n)) := hide (by rw [HF.out, decide_eq_true (by omega : 0 ≤ n ∧ n ≤ 8), decide_eq_true (by omega : ps.length ≤ 28)]; rfl)
    clear HF
    go_enter Tryd.func42, Tryd.ntmps42
    go_wp2_with fail
    generalize hX1 : World.alloc w _ = X1
    have zX1 : X1.heap.size = w.heap.size + 1 := by rw [← hX1]; simp
    have bX1 : Below w.heap.size w X1 := by rw [← hX1]; exact bal w _
    have bO : Blk X1 (w.heap.size) [.int .i64 n, .slice pa ps.length pm] 25 := by rw [← hX1]; exact Blk.newA w _ (by first | rfl | simp)
    have Xb := bX1
    have Xz := zX1
    clear hX1 zX1 bX1
    have c0 := bO.cell 0 rfl
    have c1 := bO.cell 1 rfl
    go_wp2_with fail
    have HBO := hide bO
    have HXB := hide Xb
    clear c0 c1 bO Xb Xz
    go_loopw [3] (fun i wr => ∃ k : Nat, k ≤ ps.length ∧ i = .int .i64 k ∧ (ps.take k).all (pairOkO n) = true ∧ Below X1.heap.size X1 wr) (fun i _ => ps.length - (intOf i).toNat)
    case atStart => exact ⟨0, by omega, rfl, rfl, Below.refl _ _⟩
    case round =>
     obtain ⟨k, hk, rfl, hal, hbr⟩ := hrel
     have HAL := hide hal
     have bO := HBO.out.later hbr
     have HGB := hide (below2 HXB.out hbr)
     have HBR := hide hbr
     clear hal hbr
     have c0 := bO.cell 0 rfl
     have c1 := bO.cell 1 rfl
     by_cases hlt : k < ps.length
     ·have hltI : (k : Int) < ps.length := by omega
      have HK := hide hlt
      obtain ⟨b, o', rfl, hck⟩ := (RecIn.below HGB.out HPI.out).cell hlt
      have HNX : Hid ((ps.take (k + 1)).all (pairOkO n) = pairOkO n (ps.getD k (0, 0))) := hide (by
       rw [take_succ' ps k (0, 0) hlt, List.all_append, HAL.out, List.all_cons, List.all_nil, Bool.and_true, Bool.true_and])
      have HNO : Hid (pairOkO n (ps.getD k (0, 0)) = false → F = false) := hide (fun h => by
       rw [HQ.out]
       cases e : ps.all (pairOkO n) with
       | false => rfl
       | true =>
        rw [List.all_eq_true] at e
        rw [e _ (getD_mem ps k hlt)] at h; cases h)
      obtain ⟨p, hpe⟩ : ∃ p, ps.getD k (0, 0) = p := ⟨_, rfl⟩
      rw [hpe] at hck HNX HNO
      obtain ⟨p0, p1⟩ := p
      have d0 := hck 0 _ rfl
      rw [Nat.add_zero] at d0
      have d1 := hck 1 _ rfl
      clear hck hpe
      have HOK : Hid (pairOkO n (p0, p1) = decide (0 ≤ p0 ∧ p0 < n ∧ 0 ≤ p1 ∧ p1 < n ∧ p0 ≠ p1)) := hide rfl
      go_upto_region 7 with (fail)
      generalize hV1 : World.alloc wr _ = V1
      have zV1 : V1.heap.size = wr.heap.size + 1 := by rw [← hV1]; simp
      have bV1 : Below wr.heap.size wr V1 := by rw [← hV1]; exact bal wr _
      have bP : Blk V1 (wr.heap.size) [.int .i64 p0, .int .i64 p1] 46 := by rw [← hV1]; exact Blk.newA wr _ (by first | rfl | simp)
      have Vb := bV1
      have Vz := zV1
      clear hV1 zV1 bV1
      replace bO := bO.later Vb
      have HGB := hide (below2 HGB.out Vb)
      have HVB := hide Vb
      clear c0 c1 d0 d1 Vb Vz
      have c0 := bO.cell 0 rfl
      have q0 := bP.cell 0 rfl
      have q1 := bP.cell 1 rfl
      by_cases e1 : p0 < 0
      ·have hd1 : decide (p0 < 0) = true := decide_eq_true e1
       have HR : Hid (F = false) := hide (HNO.out (by rw [HOK.out]; exact decide_eq_false (by omega)))
       go_wp2_with fail
       go_ret
       exact ⟨by rw [HR.out]; rfl, HGB.out⟩
      ·have hd1 : decide (p0 < 0) = false := decide_eq_false e1
       by_cases e2 : n ≤ p0
       ·have hd2 : decide (n ≤ p0) = true := decide_eq_true e2
        have HR : Hid (F = false) := hide (HNO.out (by rw [HOK.out]; exact decide_eq_false (by omega)))
        go_wp2_with fail
        go_ret
        exact ⟨by rw [HR.out]; rfl, HGB.out⟩
       ·have hd2 : decide (n ≤ p0) = false := decide_eq_false e2
        by_cases e3 : p1 < 0
        ·have hd3 : decide (p1 < 0) = true := decide_eq_true e3
         have HR : Hid (F = false) := hide (HNO.out (by rw [HOK.out]; exact decide_eq_false (by omega)))
         go_wp2_with fail
         go_ret
         exact ⟨by rw [HR.out]; rfl, HGB.out⟩
        ·have hd3 : decide (p1 < 0) = false := decide_eq_false e3
         by_cases e4 : n ≤ p1
         ·have hd4 : decide (n ≤ p1) = true := decide_eq_true e4
          have HR : Hid (F = false) := hide (HNO.out (by rw [HOK.out]; exact decide_eq_false (by omega)))
          go_wp2_with fail
          go_ret
          exact ⟨by rw [HR.out]; rfl, HGB.out⟩
         ·have hd4 : decide (n ≤ p1) = false := decide_eq_false e4
          by_cases e5 : p0 = p1
          ·have HR : Hid (F = false) := hide (HNO.out (by rw [HOK.out]; exact decide_eq_false (by omega)))
           subst e5
           go_wp2_with fail
           go_ret
           exact ⟨by rw [HR.out]; rfl, HGB.out⟩
          ·have hd5 : (p0 == p1) = false := beq_eq_false_iff_ne.2 e5
           have HR : Hid ((ps.take (k + 1)).all (pairOkO n) = true) := hide (by rw [HNX.out, HOK.out]; exact decide_eq_true (by omega))
           go_wp2_with fail
           clear c0 q0 q1
           go_roundw
           case rel => exact ⟨k + 1, by have := HK.out; omega, by go_num, HR.out, below2 HBR.out HVB.out⟩
           case measure => have := HK.out; simp [intOf]; omega
     ·obtain rfl : k = ps.length := by omega
      have HR : Hid (F = true) := hide (by rw [HQ.out]; have h := HAL.out; rwa [List.take_length] at h)
      go_wp2_with fail
      go_ret
      exact ⟨by rw [HR.out]; rfl, HGB.out⟩
set_option maxRecDepth 100000 in
set_option maxHeartbeats 2000000 in
theorem rpairs_any (n : Nat) (ps : List (Int × Int)) (pv : Value) (w : World) (hp : PairsIn w.cell? pv ps) (hF : formedO ⟨n, ps⟩ = true) : Calls Tryd.prog 71 #[orderV n pv] w (Ret (relV (relP ps)) w) := by
 obtain ⟨pa, pm, rfl, hp1, hp2, -⟩ := id hp
 have hpl : (ps.length : Int) ≤ 9223372036854775807 := by omega
 have HPI := hide hp
 obtain ⟨⟨-, hn8⟩, -, hpk⟩ := formed_n hF
 simp only at hn8 hpk
 have HPK := hide hpk
 clear hp hp1 hp2 hpk hF
 go_enter Tryd.func71, Tryd.ntmps71
 go_wp2_with fail
 generalize hX1 : World.alloc w _ = X1
 have zX1 : X1.heap.size = w.heap.size + 1 := by rw [← hX1]; simp
 have bX1 : Below w.heap.size w X1 := by rw [← hX1]; exact bal w _
 have bO_1 : Blk X1 (w.heap.size) [.int .i64 (n : Int), .slice pa ps.length pm] 25 := by rw [← hX1]; exact Blk.newA w _ (by first | rfl | simp)
 generalize hX2 : World.alloc X1 _ = X2
 have zX2 : X2.heap.size = w.heap.size + 1 + 1 := by rw [← hX2]; simp [zX1]
 have bX2 : Below X1.heap.size X1 X2 := by rw [← hX2]; exact bal X1 _
 have bS_2 : Blk X2 (w.heap.size + 1) (relL zeroR) 62 := by rw [← hX2, ← zX1]; exact Blk.newA X1 _ (by first | rfl | simp)
 have bO_2 := bO_1.later bX2
 generalize hX3 : World.alloc X2 _ = X3
 have zX3 : X3.heap.size = w.heap.size + 1 + 1 + 1 := by rw [← hX3]; simp [zX2]
 have bX3 : Below X2.heap.size X2 X3 := by rw [← hX3]; exact bal X2 _
 have bR : Blk X3 (w.heap.size + 1 + 1) (relL zeroR) 62 := by rw [← hX3, ← zX2]; exact Blk.newA X2 _ (by first | rfl | simp)
 have bO := bO_2.later bX3
 have bS := bS_2.later bX3
 have Xb := below2 (below2 (bX1) bX2) bX3
 have Xz := zX3
 clear hX1 zX1 bX1 hX2 zX2 bX2 hX3 zX3 bX3 bO_1 bO_2 bS_2
 have hG0 : RelG w X3 (w.heap.size + 1 + 1) (relP (ps.take 0)) X3 := ⟨Xb, Eff.of_below (Below.refl _ _) _, bR⟩
 go_wp2_with fail
 go_loopw [4] (fun i wr => ∃ k : Nat, k ≤ ps.length ∧ i = .int .i64 k ∧ RelG w X3 (w.heap.size + 1 + 1) (relP (ps.take k)) wr) (fun i _ => ps.length - (intOf i).toNat)
 case atStart => exact ⟨0, by omega, rfl, hG0⟩
 case round =>
  obtain ⟨k, hk, rfl, hG⟩ := hrel
  have c1 := (hG.blk bO (show w.heap.size ≠ w.heap.size + 1 + 1 by omega)).cell 1 rfl
  by_cases hlt : k < ps.length
  ·have hltI : (k : Int) < ps.length := by omega
   have HK := hide hlt
   obtain ⟨b, o', rfl, hck⟩ := (RecIn.below hG.hb HPI.out).cell hlt
   have hpk := HPK.out _ (getD_mem ps k (d := (0, 0)) hlt)
   obtain ⟨p, hpe⟩ : ∃ p, ps.getD k (0, 0) = p := ⟨_, rfl⟩
   rw [hpe] at hck hpk
   obtain ⟨p0, p1⟩ := p
   obtain ⟨g0, g1, g2, g3, -⟩ := hpk
   obtain ⟨x, rfl⟩ : ∃ x : Nat, p0 = x := ⟨p0.toNat, by omega⟩
   obtain ⟨y, rfl⟩ : ∃ y : Nat, p1 = y := ⟨p1.toNat, by omega⟩
   have HNX := hide (relP_next hlt hpe)
   have d0 := hck 0 _ rfl
   rw [Nat.add_zero] at d0
   have d1 := hck 1 _ rfl
   have hx8 : x < 8 := by omega
   have hy8 : y < 8 := by omega
   have hx8I : (x : Int) < 8 := by omega
   have hy8I : (y : Int) < 8 := by omega
   clear hck hpe g0 g1 g2 g3
   go_wp2_with fail
   refine wp_region_still_tail 14 (by kernel_rfl) (by kernel_rfl) ?_
   simp only [List.take_succ_cons, List.take_zero, List.drop_succ_cons, List.drop_zero]
   repeat (with_reducible refine wpStill_step (fun K hK => ?_) ; go_simp ; with_reducible refine hK _ ?_ ; clear hK K)
   refine wpStill_nil ?_
   change wpList _ _ _ _ _ wr.drew
   have hbd : Below wr.heap.size wr wr.drew := (Below.refl _ _).drew
   generalize World.drew wr = V2 at hbd ⊢
   have hG2 := hG.later hbd
   have z0 := RelG.cell hG2 hx8 hy8
   have zf := hG2.done.frozen (x * 8 + y)
   have HG3 := hide ((RelG.put hG2 (by omega) hx8 hy8 true).eq (congrArg relL HNX.out))
   clear hG2 hbd hG c1 d0 d1
   go_wp2_with fail
   go_roundw
   case rel => exact ⟨k + 1, by have := HK.out; omega, by go_num, HG3.out⟩
   case measure => have := HK.out; simp [intOf]; omega
  ·obtain rfl : k = ps.length := by omega
   rw [List.take_length] at hG
   generalize relP ps = R at *
   have HRB := hide hG.done
   have HRS := hide (hG.blk bS (show w.heap.size + 1 ≠ w.heap.size + 1 + 1 by omega))
   have HWF := hide (Below.setCellsB (vs := relL R) (o := 0) (show w.heap.size ≤ w.heap.size + 1 by omega) hG.hb)
   have HWB := hide (HRS.out.setRel (R := R))
   clear hG bS
   go_wp2_with (first | (refine wp_load_rel rfl _ rfl (w.heap.size + 1 + 1) rfl R HRB.out ?_) | (refine wp_store_rel rfl _ _ rfl (w.heap.size + 1) R zeroR rfl rfl HRS.out ?_))
   refine bodyPost_ret (results_rel (p := 2) rfl _ _ (w.heap.size + 1) R rfl HWB.out) rfl ?_
   exact ⟨rfl, HWF.out⟩
set_option maxRecDepth 100000 in
set_option maxHeartbeats 2000000 in
theorem rbefore_any (n : Nat) (ps : List (Int × Int)) (pv : Value) (w : World) (hp : PairsIn w.cell? pv ps) (hF : formedO ⟨n, ps⟩ = true) : Calls Tryd.prog 39 #[orderV n pv] w (Ret (relV (beforeO ⟨n, ps⟩)) w) := by
 obtain ⟨pa, pm, rfl, -, -, -⟩ := id hp
 have HPA := hide (fun W (hb : Below w.heap.size w W) => rpairs_any n ps _ W (RecIn.below hb hp) hF)
 obtain ⟨⟨-, hn8⟩, -, -⟩ := formed_n hF
 simp only at hn8
 have hn8' : n ≤ 8 := by omega
 have hd := relP_dom hF
 simp only [Int.toNat_natCast] at hd
 have HD := hide hd
 have HBO : Hid (beforeO ⟨n, ps⟩ = relK (relP ps) n) := hide (by unfold beforeO; rw [Int.toNat_natCast])
 generalize beforeO ⟨n, ps⟩ = BO at *
 generalize relP ps = r at *
 clear hp hF hd hn8
 go_enter Tryd.func39, Tryd.ntmps39
 go_wp2_with fail
 generalize hX1 : World.alloc w _ = X1
 have zX1 : X1.heap.size = w.heap.size + 1 := by rw [← hX1]; simp
 have bX1 : Below w.heap.size w X1 := by rw [← hX1]; exact bal w _
 have bO_1 : Blk X1 (w.heap.size) [.int .i64 (n : Int), .slice pa ps.length pm] 25 := by rw [← hX1]; exact Blk.newA w _ (by first | rfl | simp)
 generalize hX2 : World.alloc X1 _ = X2
 have zX2 : X2.heap.size = w.heap.size + 1 + 1 := by rw [← hX2]; simp [zX1]
 have bX2 : Below X1.heap.size X1 X2 := by rw [← hX2]; exact bal X1 _
 have bS : Blk X2 (w.heap.size + 1) (relL zeroR) 62 := by rw [← hX2, ← zX1]; exact Blk.newA X1 _ (by first | rfl | simp)
 have bO := bO_1.later bX2
 have Xb := below2 (bX1) bX2
 have Xz := zX2
 clear hX1 zX1 bX1 hX2 zX2 bX2 bO_1
 have c0 := bO.cell 0 rfl
 have c1 := bO.cell 1 rfl
 go_wp2_with fail
 refine (HPA.out _ Xb).mono ?_
 rintro e w1 ⟨rfl, hb1⟩
 have HW1 := hide (below2 Xb hb1)
 have BO1 := hide (bO.later hb1)
 have BS1 := hide (bS.later hb1)
 clear c0 c1 hb1 Xb Xz bO bS
 go_wp2_with (refine wp_store_new rfl _ _ rfl r rfl rfl rfl ?_; intro W2 bR hb2; have hG0 : RelG w W2 w1.heap.size (relK r 0) W2 := ⟨below2 HW1.out hb2, Eff.of_below (Below.refl _ _) _, bR⟩; have BO2 := hide (BO1.out.later hb2); have BS2 := hide (BS1.out.later hb2); clear bR hb2)
 obtain ⟨rb, hrb⟩ : ∃ rb, w1.heap.size = rb := ⟨_, rfl⟩
 have HN0 : Hid (w.heap.size ≠ rb) := hide (by have := BO1.out.lt; omega)
 have HN1 : Hid (w.heap.size + 1 ≠ rb) := hide (by have := BS1.out.lt; omega)
 have HLE : Hid (w.heap.size ≤ rb) := hide (by have := BO1.out.lt; omega)
 rw [hrb] at hG0 ⊢
 clear hrb BO1 BS1 HW1 HPA
 go_loopw [4] (fun i wr => ∃ k : Nat, k ≤ n ∧ i = .int .i64 k ∧ RelG w W2 rb (relK r k) wr) (fun i _ => n - (intOf i).toNat)
 case atStart => exact ⟨0, by omega, rfl, hG0⟩
 case round =>
  obtain ⟨k, hk, rfl, hG⟩ := hrel
  have c0 := (hG.blk BO2.out HN0.out).cell 0 rfl
  by_cases hlk : k < n
  ·have hlkI : (k : Int) < n := by omega
   have HK := hide hlk
   have hk8 : k < 8 := by omega
   have hk8I : (k : Int) < 8 := by omega
   have hG1 := RelG.eq hG (congrArg relL (midR_zero r k).symm)
   clear hG
   go_wp2_with fail
   clear c0
   go_loopw [5] (fun i wz => ∃ a : Nat, a ≤ n ∧ i = .int .i64 a ∧ RelG w W2 rb (midR r k a 0) wz) (fun i _ => n - (intOf i).toNat)
   case atStart => exact ⟨0, by omega, rfl, hG1⟩
   case round =>
    obtain ⟨a, ha, rfl, hG⟩ := hrel
    have c0 := (hG.blk BO2.out HN0.out).cell 0 rfl
    by_cases hla : a < n
    ·have hlaI : (a : Int) < n := by omega
     have HA := hide hla
     have ha8 : a < 8 := by omega
     have ha8I : (a : Int) < 8 := by omega
     have hG2 := hG
     clear hG
     go_wp2_with fail
     clear c0
     go_loopw [6] (fun i wq => ∃ b : Nat, b ≤ n ∧ i = .int .i64 b ∧ RelG w W2 rb (midR r k a b) wq) (fun i _ => n - (intOf i).toNat)
     case atStart => exact ⟨0, by omega, rfl, hG2⟩
     case round =>
      obtain ⟨b, hb, rfl, hG⟩ := hrel
      have c0 := (hG.blk BO2.out HN0.out).cell 0 rfl
      by_cases hlb : b < n
      ·have hlbI : (b : Int) < n := by omega
       have HB := hide hlb
       have hb8 : b < 8 := by omega
       have hb8I : (b : Int) < 8 := by omega
       have t0 := RelG.cell hG ha8 hk8
       have t1 := RelG.cell hG hk8 hb8
       rw [midR_l] at t0
       rw [midR_r] at t1
       have HY := hide (fun h => midR_yes (r := r) (k := k) (a := a) (b := b) h)
       have HNO := hide (fun h => midR_no (r := r) (k := k) (a := a) (b := b) h)
       have HG := hide hG
       clear hG
       cases h1 : relK r k a k
       ·rw [h1] at t0 HNO
        have HG3 := hide (RelG.eq HG.out (congrArg relL (HNO.out rfl).symm))
        clear h1 HNO HY HG
        go_wp2_with fail
        clear c0 t0 t1
        go_roundw
        case rel => exact ⟨b + 1, by have := HB.out; omega, by go_num, HG3.out⟩
        case measure => have := HB.out; simp [intOf]; omega
       ·rw [h1] at t0 HNO HY
        cases h2 : relK r k k b
        ·rw [h2] at t1 HNO
         have HG3 := hide (RelG.eq HG.out (congrArg relL (HNO.out rfl).symm))
         clear h1 h2 HNO HY HG
         go_wp2_with fail
         clear c0 t0 t1
         go_roundw
         case rel => exact ⟨b + 1, by have := HB.out; omega, by go_num, HG3.out⟩
         case measure => have := HB.out; simp [intOf]; omega
        ·rw [h2] at t1 HY
         have zf := HG.out.done.frozen (a * 8 + b)
         have z0 := RelG.cell HG.out ha8 hb8
         have HG3 := hide ((RelG.put HG.out HLE.out ha8 hb8 true).eq (congrArg relL (HY.out rfl)))
         clear h1 h2 HNO HY HG
         go_wp2_with fail
         clear c0 t0 t1 zf z0
         go_roundw
         case rel => exact ⟨b + 1, by have := HB.out; omega, by go_num, HG3.out⟩
         case measure => have := HB.out; simp [intOf]; omega
      ·obtain rfl : b = n := by omega
       have HGF := hide (RelG.eq hG (congrArg relL (midR_row HD.out k a)))
       clear hG
       go_wp2_with fail
       clear c0
       go_roundw
       case rel => exact ⟨a + 1, by have := HA.out; omega, by go_num, HGF.out⟩
       case measure => have := HA.out; simp [intOf]; omega
    ·obtain rfl : a = n := by omega
     have HGF := hide (RelG.eq hG (congrArg relL (midR_all HD.out k)))
     clear hG
     go_wp2_with fail
     clear c0
     go_roundw
     case rel => exact ⟨k + 1, by have := HK.out; omega, by go_num, HGF.out⟩
     case measure => have := HK.out; simp [intOf]; omega
  ·obtain rfl : k = n := by omega
   have HRE := hide (show BO = relK r k from HBO.out)
   generalize relK r k = R at *
   have HRB := hide hG.done
   have HRS := hide (hG.blk BS2.out HN1.out)
   have HWF := hide (Below.setCellsB (vs := relL R) (o := 0) (show w.heap.size ≤ w.heap.size + 1 by omega) hG.hb)
   have HWB := hide (HRS.out.setRel (R := R))
   clear hG
   go_wp2_with (first | (refine wp_load_rel rfl _ rfl rb rfl R HRB.out ?_) | (refine wp_store_rel rfl _ _ rfl (w.heap.size + 1) R zeroR rfl rfl HRS.out ?_))
   refine bodyPost_ret (results_rel (p := 2) rfl _ _ (w.heap.size + 1) R rfl HWB.out) rfl ?_
   exact ⟨by rw [HRE.out], HWF.out⟩
end Go.Proofs.YtnidcoinfmcffaaDoor
