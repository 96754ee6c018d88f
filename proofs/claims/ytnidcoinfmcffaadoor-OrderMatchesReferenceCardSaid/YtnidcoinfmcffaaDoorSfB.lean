/- The reference of chapter 15: Levels. Conditions: how the order lies in memory. -/
import Derived.Test.YtnidcoinfmcffaaDoorSfA
import Derived.Test.YtnidcoinfmcffaaDoorOqB
import Derived.Test.YtnidcoinfmcffaaDoorOvA
import Derived.Test.YtnidcoinfmcffaaDoorOsH
/- The reference of chapter 15: Reduce. Conditions: how the order lies in memory. -/
namespace Go.Proofs.YtnidcoinfmcffaaDoor
open Go.RowKit
attribute [local go_sem] Oper.semAt_some
def redS (n : Nat) (R : RelO) (a b : Nat) : RelO := fun x y => decide (x < a ∨ (x = a ∧ y < b)) && redO n R x y
def redV (R : RelO) (a b k : Nat) : Bool := R a b && !(List.range k).any fun c => R a c && R c b
theorem redS_zero (n : Nat) (R : RelO) : redS n R 0 0 = zeroR := by
 funext x y
 unfold redS zeroR
 rw [decide_eq_false (by omega)]; rfl
theorem redV_zero (R : RelO) (a b : Nat) : redV R a b 0 = R a b := by unfold redV; simp
theorem putR_twice (S : RelO) (a b : Nat) (u v : Bool) : putR (putR S a b u) a b v = putR S a b v := by
 funext x y
 unfold putR
 split <;> rfl
theorem redV_yes {R : RelO} {a b k : Nat} (h : (R a k && R k b) = true) : redV R a b (k + 1) = false := by
 unfold redV
 rw [List.range_succ, List.any_append, List.any_cons, h]; simp
theorem redV_no {R : RelO} {a b k : Nat} (h : (R a k && R k b) = false) : redV R a b (k + 1) = redV R a b k := by
 unfold redV
 rw [List.range_succ, List.any_append, List.any_cons, h]; simp
theorem redS_next (n : Nat) (R : RelO) (a b : Nat) : putR (redS n R a b) a b (redV R a b n) = redS n R a (b + 1) := by
 funext x y
 unfold putR redS
 by_cases e : x = a ∧ y = b
 ·rw [if_pos e, e.1, e.2, decide_eq_true (show a < a ∨ (a = a ∧ b < b + 1) by omega), Bool.true_and]; rfl
 ·rw [if_neg e]
  by_cases h : x < a ∨ (x = a ∧ y < b)
  ·rw [decide_eq_true h, decide_eq_true (show x < a ∨ (x = a ∧ y < b + 1) by omega)]
  ·rw [decide_eq_false h, decide_eq_false (show ¬ (x < a ∨ (x = a ∧ y < b + 1)) by omega)]
theorem redS_row {n : Nat} {R : RelO} (hR : PoO n R) (a : Nat) : redS n R a n = redS n R (a + 1) 0 := by
 funext x y
 unfold redS
 cases e : redO n R x y with
 | false => rw [Bool.and_false, Bool.and_false]
 | true =>
  have := (hR.dom x y (red_sub hR e)).2
  rw [Bool.and_true, Bool.and_true, decide_eq_decide]; omega
theorem redS_all {n : Nat} {R : RelO} (hR : PoO n R) : redS n R n 0 = redO n R := by
 funext x y
 unfold redS
 cases e : redO n R x y with
 | false => rw [Bool.and_false]
 | true =>
  have := (hR.dom x y (red_sub hR e)).1
  rw [Bool.and_true, decide_eq_true (by omega)]
set_option maxRecDepth 100000 in
set_option maxHeartbeats 2000000 in
theorem rreduce_no (o : OrderD) (pv : Value) (w : World) (hp : PairsIn w.cell? pv o.pairs) (hv : validO o = false) : Calls Tryd.prog 46 #[orderV o.n pv] w (Ret (.tuple #[orderV 0 (.slice none 0 0), .int .i64 150]) w) := by
 obtain ⟨on, ps⟩ := o
 obtain ⟨pa, pm, rfl, -, -, -⟩ := id hp
 have HVA := hide (fun W (hb : Below w.heap.size w W) => by
  have h := rvalid_any ⟨on, ps⟩ (.slice pa ps.length pm) W (RecIn.below hb hp)
  rw [hv] at h
  exact h)
 clear hp hv
 go_enter Tryd.func46, Tryd.ntmps46
 go_wp2_with fail
 generalize hX1 : World.alloc w _ = X1
 have zX1 : X1.heap.size = w.heap.size + 1 := by rw [← hX1]; simp
 have bX1 : Below w.heap.size w X1 := by rw [← hX1]; exact bal w _
 have bO_1 : Blk X1 (w.heap.size) [.int .i64 on, .slice pa ps.length pm] 25 := by rw [← hX1]; exact Blk.newA w _ (by first | rfl | simp)
 generalize hX2 : World.alloc X1 _ = X2
 have zX2 : X2.heap.size = w.heap.size + 1 + 1 := by rw [← hX2]; simp [zX1]
 have bX2 : Below X1.heap.size X1 X2 := by rw [← hX2]; exact bal X1 _
 have bR : Blk X2 (w.heap.size + 1) [.int .i64 0, .slice none 0 0] 25 := by rw [← hX2, ← zX1]; exact Blk.newA X1 _ (by first | rfl | simp)
 have bO := bO_1.later bX2
 have Xb := below2 (bX1) bX2
 have Xz := zX2
 clear hX1 zX1 bX1 hX2 zX2 bX2 bO_1
 have c0 := bO.cell 0 rfl
 have c1 := bO.cell 1 rfl
 go_wp2_with fail
 refine (HVA.out _ Xb).mono ?_
 rintro e w1 ⟨rfl, hb⟩
 have hw := below2 Xb hb
 replace bR := bR.later hb
 clear c0 c1 bO hb Xb Xz
 have r0 := bR.cell 0 rfl
 have r1 := bR.cell 1 rfl
 have rf0 := bR.frozen 0
 have rf1 := bR.frozen 1
 go_wp2_with fail
 have q := order_set (n := 0) (v := .slice none 0 0) bR (show w.heap.size ≤ w.heap.size + 1 by omega) hw
 have x0 := q.2.cell 0 rfl
 have x1 := q.2.cell 1 rfl
 refine bodyPost_ret (v := .tuple #[orderV 0 (.slice none 0 0), .int .i64 150]) (by simp [results, Tryd.results46, go_sem, x0, x1]) rfl ?_
 exact ⟨rfl, q.1⟩
set_option maxRecDepth 100000 in
set_option maxHeartbeats 4000000 in
theorem rreduce_yes (n : Nat) (ps : List (Int × Int)) (pv : Value) (w : World) (hp : PairsIn w.cell? pv ps) (hv : validO ⟨n, ps⟩ = true) : Calls Tryd.prog 46 #[orderV n pv] w (OrdEQ n (redL n (beforeO ⟨n, ps⟩)) w) := by
 obtain ⟨pa, pm, rfl, -, -, -⟩ := id hp
 have hf : formedO ⟨(n : Int), ps⟩ = true := by unfold validO at hv; rw [Bool.and_eq_true] at hv; exact hv.1
 have hn8 : n ≤ 8 := by
  have := (formed_n hf).1.2
  simp only at this
  omega
 have HPO := hide (show PoO n (beforeO ⟨n, ps⟩) from before_po hv)
 have HVA := hide (fun W (hb : Below w.heap.size w W) => by
  have h := rvalid_any ⟨(n : Int), ps⟩ (.slice pa ps.length pm) W (RecIn.below hb hp)
  rw [hv] at h
  exact h)
 have HBE := hide (fun W (hb : Below w.heap.size w W) => rbefore_any n ps (.slice pa ps.length pm) W (RecIn.below hb hp) hf)
 generalize beforeO ⟨(n : Int), ps⟩ = R at *
 clear hp hv hf
 have HLI : Hid (∀ W, Calls Tryd.prog 73 #[.int .i64 n, relV (redO n R)] W (OrdQ n (redL n R) W)) := hide (fun W => rlisted_any n (redO n R) W hn8)
 have HZ := hide (redS_zero n R)
 have HVZ := hide (redV_zero R)
 have HVY := hide (fun a b k h => redV_yes (R := R) (a := a) (b := b) (k := k) h)
 have HVN := hide (fun a b k h => redV_no (R := R) (a := a) (b := b) (k := k) h)
 have HSN := hide (redS_next n R)
 have HSR := hide (redS_row HPO.out)
 have HSA := hide (redS_all HPO.out)
 generalize redL n R = LO at *
 generalize redO n R = RO at *
 generalize redS n R = RS at *
 generalize redV R = RV at *
 go_enter Tryd.func46, Tryd.ntmps46
 go_wp2_with fail
 generalize hX1 : World.alloc w _ = X1
 have zX1 : X1.heap.size = w.heap.size + 1 := by rw [← hX1]; simp
 have bX1 : Below w.heap.size w X1 := by rw [← hX1]; exact bal w _
 have bO_1 : Blk X1 (w.heap.size) [.int .i64 n, .slice pa ps.length pm] 25 := by rw [← hX1]; exact Blk.newA w _ (by first | rfl | simp)
 generalize hX2 : World.alloc X1 _ = X2
 have zX2 : X2.heap.size = w.heap.size + 1 + 1 := by rw [← hX2]; simp [zX1]
 have bX2 : Below X1.heap.size X1 X2 := by rw [← hX2]; exact bal X1 _
 have bR : Blk X2 (w.heap.size + 1) [.int .i64 0, .slice none 0 0] 25 := by rw [← hX2, ← zX1]; exact Blk.newA X1 _ (by first | rfl | simp)
 have bO := bO_1.later bX2
 have Xb := below2 (bX1) bX2
 have Xz := zX2
 clear hX1 zX1 bX1 hX2 zX2 bX2 bO_1
 have c0 := bO.cell 0 rfl
 have c1 := bO.cell 1 rfl
 go_wp2_with fail
 refine (HVA.out _ Xb).mono ?_
 rintro e w1 ⟨rfl, hb⟩
 have HW := hide (below2 Xb hb)
 replace bO := bO.later hb
 have BR := hide (bR.later hb)
 clear c0 c1 bR hb Xb Xz
 have c0 := bO.cell 0 rfl
 have c1 := bO.cell 1 rfl
 go_wp2_with fail
 refine (HBE.out _ HW.out).mono ?_
 rintro e w2 ⟨rfl, hb2⟩
 have HW2 := hide (below2 HW.out hb2)
 have BO2 := hide (bO.later hb2)
 have BR2 := hide (BR.out.later hb2)
 clear c0 c1 hb2 bO BR HW HVA HBE
 go_wp2_with (refine wp_store_new rfl _ _ rfl R rfl rfl rfl ?_; intro W2 bM hb2; have BO3 := hide (BO2.out.later hb2); have BR3 := hide (BR2.out.later hb2); have HW3 := hide (below2 HW2.out hb2); have BM := hide bM; clear bM hb2 HW2 BO2 BR2)
 generalize hY1 : World.alloc W2 _ = Y1
 have zY1 : Y1.heap.size = W2.heap.size + 1 := by rw [← hY1]; simp
 have bY1 : Below W2.heap.size W2 Y1 := by rw [← hY1]; exact bal W2 _
 have bZ : Blk Y1 (W2.heap.size) (relL zeroR) 62 := by rw [← hY1]; exact Blk.newA W2 _ (by first | rfl | simp)
 have Yb := bY1
 have Yz := zY1
 clear hY1 zY1 bY1
 rw [← HZ.out] at bZ
 obtain ⟨mb, hmb⟩ : ∃ mb, w2.heap.size = mb := ⟨_, rfl⟩
 obtain ⟨ob, hob⟩ : ∃ ob, W2.heap.size = ob := ⟨_, rfl⟩
 have HNM : Hid (mb ≠ ob) := hide (by have := BM.out.lt; omega)
 have HNO : Hid (w.heap.size ≠ ob) := hide (by have := BO3.out.lt; omega)
 have HNR : Hid (w.heap.size + 1 ≠ ob) := hide (by have := BR3.out.lt; omega)
 have HLE : Hid (w.heap.size ≤ ob) := hide (by have := BO3.out.lt; omega)
 have hG0 : RelG w Y1 ob (RS 0 0) Y1 := ⟨below2 HW3.out Yb, Eff.of_below (Below.refl _ _) _, by rw [← hob]; exact bZ⟩
 have BO4 := hide (BO3.out.later Yb)
 have BR4 := hide (BR3.out.later Yb)
 have BM4 : Hid (Blk Y1 mb (relL R) 62) := hide (by rw [← hmb]; exact BM.out.later Yb)
 rw [hmb, hob]
 clear hmb hob bZ Yb Yz BO3 BR3 HW3 BM
 go_wp2_with fail
 go_loopw [6] (fun i wr => ∃ a : Nat, a ≤ n ∧ i = .int .i64 a ∧ RelG w Y1 ob (RS a 0) wr) (fun i _ => n - (intOf i).toNat)
 case atStart => exact ⟨0, by omega, rfl, hG0⟩
 case round =>
  obtain ⟨a, ha, rfl, hG⟩ := hrel
  have c0 := (hG.blk BO4.out HNO.out).cell 0 rfl
  by_cases hla : a < n
  ·have hlaI : (a : Int) < n := by omega
   have HA := hide hla
   have ha8 : a < 8 := by omega
   have ha8I : (a : Int) < 8 := by omega
   have hG1 := hG
   clear hG
   go_wp2_with fail
   clear c0
   go_loopw [7] (fun i wz => ∃ b : Nat, b ≤ n ∧ i = .int .i64 b ∧ RelG w Y1 ob (RS a b) wz) (fun i _ => n - (intOf i).toNat)
   case atStart => exact ⟨0, by omega, rfl, hG1⟩
   case round =>
    obtain ⟨b, hb, rfl, hG⟩ := hrel
    have c0 := (hG.blk BO4.out HNO.out).cell 0 rfl
    by_cases hlb : b < n
    ·have hlbI : (b : Int) < n := by omega
     have HB := hide hlb
     have hb8 : b < 8 := by omega
     have hb8I : (b : Int) < 8 := by omega
     have t0 := (hG.blk BM4.out HNM.out).cell _ (relL_get R ha8 hb8)
     have HG := hide hG
     clear hG hG0 hG1
     go_upto_region 11 with (fail)
     refine wp_region_still_tail 9 (by kernel_rfl) (by kernel_rfl) ?_
     simp only [List.take_succ_cons, List.take_zero, List.drop_succ_cons, List.drop_zero]
     repeat (with_reducible refine wpStill_step (fun K hK => ?_) ; go_simp ; with_reducible refine hK _ ?_ ; clear hK K)
     refine wpStill_nil ?_
     change wpList _ _ _ _ _ wr.drew
     have hbd : Below wr.heap.size wr wr.drew := (Below.refl _ _).drew
     generalize World.drew wr = V2 at hbd ⊢
     have hG2 := HG.out.later hbd
     have z0 := RelG.cell hG2 ha8 hb8
     have zf := hG2.done.frozen (a * 8 + b)
     have hG3 := (RelG.put hG2 HLE.out ha8 hb8 (R a b)).eq (congrArg relL (show _ = putR (RS a b) a b (RV a b 0) by rw [HVZ.out]))
     clear hG2 hbd HG t0 c0
     go_wp2_with fail
     clear z0 zf
     go_loopw [8] (fun i wq => ∃ k : Nat, k ≤ n ∧ i = .int .i64 k ∧ RelG w Y1 ob (putR (RS a b) a b (RV a b k)) wq) (fun i _ => n - (intOf i).toNat)
     case atStart => exact ⟨0, by omega, rfl, hG3⟩
     case round =>
      obtain ⟨k, hk, rfl, hG⟩ := hrel
      have c0 := (hG.blk BO4.out HNO.out).cell 0 rfl
      by_cases hlk : k < n
      ·have hlkI : (k : Int) < n := by omega
       have HK := hide hlk
       have hk8 : k < 8 := by omega
       have hk8I : (k : Int) < 8 := by omega
       have t0 := (hG.blk BM4.out HNM.out).cell _ (relL_get R ha8 hk8)
       have t1 := (hG.blk BM4.out HNM.out).cell _ (relL_get R hk8 hb8)
       have HY := hide (HVY.out a b k)
       have HNN := hide (HVN.out a b k)
       have HG := hide hG
       clear hG
       cases h1 : R a k
       ·rw [h1] at t0 HNN
        have HG3 := hide (RelG.eq HG.out (congrArg relL (congrArg (putR (RS a b) a b) (HNN.out rfl).symm)))
        clear h1 HNN HY HG
        go_wp2_with fail
        clear c0 t0 t1
        go_roundw
        case rel => exact ⟨k + 1, by have := HK.out; omega, by go_num, HG3.out⟩
        case measure => have := HK.out; simp [intOf]; omega
       ·rw [h1] at t0 HNN HY
        cases h2 : R k b
        ·rw [h2] at t1 HNN
         have HG3 := hide (RelG.eq HG.out (congrArg relL (congrArg (putR (RS a b) a b) (HNN.out rfl).symm)))
         clear h1 h2 HNN HY HG
         go_wp2_with fail
         clear c0 t0 t1
         go_roundw
         case rel => exact ⟨k + 1, by have := HK.out; omega, by go_num, HG3.out⟩
         case measure => have := HK.out; simp [intOf]; omega
        ·rw [h2] at t1 HY
         have zf := HG.out.done.frozen (a * 8 + b)
         have z0 := RelG.cell HG.out ha8 hb8
         have HG3 := hide ((RelG.put HG.out HLE.out ha8 hb8 false).eq (congrArg relL (show _ = putR (RS a b) a b (RV a b (k + 1)) by rw [putR_twice, HY.out rfl])))
         clear h1 h2 HNN HY HG
         go_wp2_with fail
         clear c0 t0 t1 zf z0
         go_roundw
         case rel => exact ⟨k + 1, by have := HK.out; omega, by go_num, HG3.out⟩
         case measure => have := HK.out; simp [intOf]; omega
      ·obtain rfl : k = n := by omega
       have HGF := hide (RelG.eq hG (congrArg relL (HSN.out a b)))
       clear hG
       go_wp2_with fail
       clear c0
       go_roundw
       case rel => exact ⟨b + 1, by have := HB.out; omega, by go_num, HGF.out⟩
       case measure => have := HB.out; simp [intOf]; omega
    ·obtain rfl : b = n := by omega
     have HGF := hide (RelG.eq hG (congrArg relL (HSR.out a)))
     clear hG
     go_wp2_with fail
     clear c0
     go_roundw
     case rel => exact ⟨a + 1, by have := HA.out; omega, by go_num, HGF.out⟩
     case measure => have := HA.out; simp [intOf]; omega
  ·obtain rfl : a = n := by omega
   have HGF := hide (RelG.eq hG (congrArg relL HSA.out))
   have HBR := hide (hG.blk BR4.out HNR.out)
   clear hG
   have HOB := hide HGF.out.done
   go_wp2_with (refine wp_load_rel rfl _ rfl ob rfl RO HOB.out ?_)
   refine (HLI.out _).mono ?_
   rintro e w3 ⟨pv', rfl, hP, hb3⟩
   obtain ⟨qa, qc, rfl, -⟩ := id hP
   have bR := HBR.out.later hb3
   have hw := below2 HGF.out.hb hb3
   have hlt := HBR.out.lt
   have HP := hide (((hP.keeps (frm_set (b := w.heap.size + 1) (j := 0) hlt (.int .i64 (a : Int)))).keeps (frm_set (b := w.heap.size + 1) (j := 1) hlt (.slice qa LO.length qc))).keeps (keeps_frm_le _ HGF.out.hb.size))
   have r0 := bR.cell 0 rfl
   have r1 := bR.cell 1 rfl
   have rf0 := bR.frozen 0
   have rf1 := bR.frozen 1
   have q := order_set (n := a) (v := .slice qa LO.length qc) bR (show w.heap.size ≤ w.heap.size + 1 by omega) hw
   have HQ := hide q
   clear q hP hb3 hlt hw HGF HOB bR
   generalize LO.length = m at *
   go_wp2_with fail
   have x0 := HQ.out.2.cell 0 rfl
   have x1 := HQ.out.2.cell 1 rfl
   refine bodyPost_ret (v := .tuple #[orderV a (.slice qa m qc), .int .i64 0]) (by simp [results, Tryd.results46, go_sem, x0, x1]) rfl ?_
   exact ⟨_, rfl, HP.out, HQ.out.1⟩
end Go.Proofs.YtnidcoinfmcffaaDoor
/- Plain words for OrderMatchesReference: antichains, levels, chains. Conditions: none. -/
namespace Go.Proofs.YtnidcoinfmcffaaDoor
open Go.RowKit
/-- no thing of a list stands before another one, as the reference asks it -/
def noneB (R : RelO) (l : List Nat) : Bool := l.all fun x => l.all fun y => !R x y
theorem bel_test (R : RelO) (a : Nat) : ∀ l : List Nat, (belO R l).testBit a = (decide (a < 8) && l.any fun x => R a x)
 | [] => by show Nat.testBit 0 a = _; rw [Nat.zero_testBit]; simp
 | x :: l => by
  show (bitsO _ ||| belO R l).testBit a = _
  rw [Nat.testBit_or, bits_test, bel_test R a l, List.any_cons]
  cases decide (a < 8) <;> simp
theorem none_eq (R : RelO) {S : Nat} (hS : S < 256) : ((belO R (thingsO S)) &&& S == 0) = noneB R (thingsO S) := by
 rw [Bool.eq_iff_iff, beq_iff_eq]
 unfold noneB
 rw [List.all_eq_true]
 have hm : ∀ x, x ∈ thingsO S ↔ S.testBit x = true := fun x => by
  unfold thingsO
  rw [List.mem_filter, List.mem_range]
  exact ⟨fun h => h.2, fun h => ⟨bit_lo hS h, h⟩⟩
 constructor
 ·intro h x hx
  rw [List.all_eq_true]
  intro y hy
  have h1 := congrArg (fun z => Nat.testBit z x) h
  simp only [Nat.testBit_and, bel_test, Nat.zero_testBit] at h1
  rw [(hm x).1 hx, decide_eq_true (bit_lo hS ((hm x).1 hx)), Bool.true_and, Bool.and_true] at h1
  cases e : R x y with
  | false => rfl
  | true =>
   rw [List.any_eq_false] at h1
   exact absurd e (h1 y hy)
 ·intro h
  refine Nat.eq_of_testBit_eq fun x => ?_
  rw [Nat.testBit_and, bel_test, Nat.zero_testBit]
  cases e : S.testBit x with
  | false => simp
  | true =>
   have h1 := h x ((hm x).2 e)
   rw [List.all_eq_true] at h1
   have h2 : (thingsO S).any (fun y => R x y) = false := by
    rw [List.any_eq_false]
    intro y hy hr
    have := h1 y hy
    rw [hr] at this; cases this
   rw [h2]; simp
/-- which of two lists of one length comes first, as the reference finds it -/
def firstB : List Int → List Int → Bool
 | x :: a, y :: b => if x = y then firstB a b else decide (x < y)
 | _, _ => false
theorem first_cmp : ∀ {a b : List Int}, a.length = b.length → firstB a b = decide (cmpL a b < 0)
 | [], [], _ => rfl
 | x :: a, y :: b, h => by
  unfold firstB cmpL
  by_cases e : x = y
  ·subst e
   rw [if_pos rfl, if_pos (by unfold cmpI; rw [if_neg (by omega), if_neg (by omega)])]
   exact first_cmp (by simpa using h)
  ·rw [if_neg e]
   by_cases h1 : x < y
   ·rw [show cmpI x y = -1 from if_pos h1]; simp [h1]
   ·rw [show cmpI x y = 1 by unfold cmpI; rw [if_neg h1, if_pos (by omega)]]; simp [h1]
theorem better_eq (b l : List Int) : betterO b l = (decide (b.length < l.length) || (decide (l.length = b.length) && firstB l b)) := by
 unfold betterO orL orL orL cmpI
 by_cases h1 : (b.length : Int) < l.length
 ·rw [if_pos h1]
  have : b.length < l.length := by omega
  simp [this]
 ·rw [if_neg h1]
  by_cases h2 : (l.length : Int) < b.length
  ·rw [if_pos h2]
   have e1 : decide (b.length < l.length) = false := decide_eq_false (by omega)
   have e2 : decide (l.length = b.length) = false := decide_eq_false (by omega)
   rw [e1, e2]; rfl
  ·rw [if_neg h2]
   have e1 : decide (b.length < l.length) = false := decide_eq_false (by omega)
   have e2 : l.length = b.length := by omega
   rw [e1, decide_eq_true e2, first_cmp e2, if_pos rfl, Bool.false_or, Bool.true_and]
   split <;> simp_all
theorem first_step {a b : List Int} {k : Nat} (h1 : k < a.length) (h2 : k < b.length) : firstB (a.drop k) (b.drop k) = if a.getD k 0 = b.getD k 0 then firstB (a.drop (k + 1)) (b.drop (k + 1)) else decide (a.getD k 0 < b.getD k 0) := by
 rw [drop_getD h1, drop_getD h2]; rfl
theorem first_end {a b : List Int} {k : Nat} (h : a.length ≤ k ∨ b.length ≤ k) : firstB (a.drop k) (b.drop k) = false := by
 rcases h with h | h
 ·rw [List.drop_eq_nil_of_le h]; rfl
 ·rw [List.drop_eq_nil_of_le h]
  cases a.drop k <;> rfl
theorem anti_succ (R : RelO) {S : Nat} (hS : S < 256) : antiK R (S + 1) = if noneB R (thingsO S) && (decide ((antiK R S).length < (thingsO S).length) || (decide ((thingsO S).length = (antiK R S).length) && firstB (natsO (thingsO S)) (natsO (antiK R S)))) then thingsO S else antiK R S := by
 show (if _ then _ else _) = _
 rw [none_eq R hS, better_eq]
 have e : ∀ l : List Nat, (natsO l).length = l.length := fun l => by unfold natsO; rw [List.length_map]
 rw [e, e]
/-- levels, as the reference makes them: along a line, from what stands ahead in it -/
theorem supF_set {R : RelO} {f : Nat → Nat} {x : Nat} {l m : List Nat} (h : ∀ a, R a x = true → (a ∈ l ↔ a ∈ m)) : supF R f x l 0 = supF R f x m 0 := by
 have half : ∀ {l m : List Nat}, (∀ a, R a x = true → a ∈ l → a ∈ m) → supF R f x l 0 ≤ supF R f x m 0 := fun {l m} h => by
  rcases supF_att (R := R) (f := f) (x := x) l 0 with e | ⟨a, ha, hr, e⟩
  ·rw [e]; exact Nat.zero_le _
  ·rw [e]; exact (supF_mono m 0).2 a (h a hr ha) hr
 exact Nat.le_antisymm (half fun a hr ha => (h a hr).1 ha) (half fun a hr ha => (h a hr).2 ha)
theorem lev_round {n : Nat} {R : RelO} (h : PoO n R) {l : List Nat} {b : Nat} (hs : StartO n R (l ++ [b])) : levL n R (l ++ [b]) = (levL n R l).set b (supF R (fun a => (levL n R l).getD a 0) b l 0) := by
 rw [levL_next h hs]
 congr 1
 refine supF_set fun a hr => ⟨fun _ => ?_, fun ha => List.mem_range.2 (hs.lt a (by simp [ha]))⟩
 rcases List.mem_append.1 (hs.down b (by simp) a hr) with h1 | h1
 ·exact h1
 ·rw [List.mem_singleton] at h1; subst h1
  rw [h.irr] at hr; cases hr
theorem supF_take {R : RelO} {f : Nat → Nat} {x : Nat} {l : List Nat} {k : Nat} (hk : k < l.length) : supF R f x (l.take (k + 1)) 0 = if R (l.getD k 0) x then max (supF R f x (l.take k) 0) (f (l.getD k 0) + 1) else supF R f x (l.take k) 0 := by
 rw [take_succ' l k 0 hk]
 unfold supF
 rw [List.foldl_append]; rfl
end Go.Proofs.YtnidcoinfmcffaaDoor
/- The reference of chapter 15: lines, Lines. Conditions: how the order lies in memory. -/
namespace Go.Proofs.YtnidcoinfmcffaaDoor
open Go.RowKit
attribute [local go_sem] Oper.semAt_some
def freeK (R : RelO) (S x a : Nat) : Bool := !S.testBit x && (List.range a).all fun a => !R a x || S.testBit a
theorem freeK_succ (R : RelO) (S x a : Nat) : freeK R S x (a + 1) = (freeK R S x a && (!R a x || S.testBit a)) := by
 unfold freeK
 rw [List.range_succ, List.all_append, List.all_cons, List.all_nil, Bool.and_true, Bool.and_assoc]
theorem freeK_bit {R : RelO} {S x a : Nat} (h : freeK R S x a = true) : S.testBit x = false := by
 unfold freeK at h
 rw [Bool.and_eq_true] at h
 simpa using h.1
theorem wrap_s {S X : Nat} (h : S + X < 256) : IntKind.i64.wrap ((S : Int) + X) = ((S + X : Nat) : Int) := by
 rw [show ((S + X : Nat) : Int) = (S : Int) + X by omega]
 exact IntWalk.i64_in _ ⟨by omega, by omega⟩
theorem wrap_m {S X : Nat} (h : S ≤ 134217728) (h2 : X ≤ 134217728) : IntKind.i64.wrap ((S : Int) + X) = ((S + X : Nat) : Int) := by
 rw [show ((S + X : Nat) : Int) = (S : Int) + X by omega]
 exact IntWalk.i64_in _ ⟨by omega, by omega⟩
theorem pow8 {c : Nat} (h : c ≤ 8) : 8 ^ c ≤ 16777216 := Nat.le_trans (Nat.pow_le_pow_right (by decide) h) (by decide)
/-- what the walk needs of a thing that is put to a set -/
theorem put_pre {n S x : Nat} (h8 : n ≤ 8) (hS : S < 2 ^ n) (hx : x < n) (h : S.testBit x = false) : ∃ X q : Nat, wrap64 (2 ^ x) = (X : Int) ∧ IntKind.i64.wrap (2 ^ x) = (X : Int) ∧ S + 2 ^ x = q ∧ IntKind.i64.wrap ((S : Int) + X) = (q : Int) ∧ q < 2 ^ n ∧ zeroN n q < zeroN n S := by
 have h1 := (set_in_n h8 hS hx h).1
 have h256 := pow_256 h8
 exact ⟨2 ^ x, S + 2 ^ x, wrapw (by omega), wrap_pow (by omega), rfl, wrap_s (Nat.lt_of_lt_of_le h1 h256), h1, zero_lt h8 hS hx h⟩
theorem full_pre {n S : Nat} (h8 : n ≤ 8) : ∃ T : Nat, wrap64 (2 ^ n) = (T : Int) ∧ IntKind.i64.wrap (2 ^ n) = (T : Int) ∧ 0 < T ∧ T ≤ 256 ∧ (((S : Int) == (T : Int) - 1) = decide (S = 2 ^ n - 1)) := by
 have h0 : 0 < 2 ^ n := Nat.pow_pos (by decide)
 refine ⟨2 ^ n, wrapw h8, wrap_pow h8, h0, pow_256 h8, ?_⟩
 generalize 2 ^ n = T at *
 show decide ((S : Int) = (T : Int) - 1) = _
 rw [decide_eq_decide]; omega
set_option maxRecDepth 100000 in
set_option maxHeartbeats 4000000 in
theorem rlinesN_any {n : Nat} (R : RelO) (hn8 : n ≤ 8) : ∀ (c S : Nat) (w : World), c ≤ 8 → S < 2 ^ n → zeroN n S ≤ c → Calls Tryd.prog 74 #[.int .i64 (n : Nat), relV R, .int .i64 (S : Nat)] w (Ret (.int .i64 (fwdN n R c S : Nat)) w) := by
 intro c
 induction c with
 | zero =>
  intro S w hc hS hz
  have e := zero_full hS (by omega)
  have HF : Hid (fwdN n R 0 S = 1) := hide (by unfold fwdN; rw [if_pos e])
  obtain ⟨T, hT1, hT2, hT0, hT256, hTe⟩ := full_pre (S := S) hn8
  rw [decide_eq_true e] at hTe
  have hT3 : IntKind.i64.wrap ((T : Int) - 1) = (T : Int) - 1 := IntWalk.i64_in _ ⟨by omega, by omega⟩
  clear e hS hz
  go_enter Tryd.func74, Tryd.ntmps74
  go_wp2_with fail
  go_ret
  exact ⟨by rw [HF.out]; rfl, bal w _⟩
 | succ c ih =>
  intro S w hc hS hz
  obtain ⟨T, hT1, hT2, hT0, hT256, hTe⟩ := full_pre (S := S) hn8
  have hT3 : IntKind.i64.wrap ((T : Int) - 1) = (T : Int) - 1 := IntWalk.i64_in _ ⟨by omega, by omega⟩
  by_cases e : S = 2 ^ n - 1
  ·have HF : Hid (fwdN n R (c + 1) S = 1) := hide (by unfold fwdN; rw [if_pos e])
   rw [decide_eq_true e] at hTe
   clear e hS hz ih
   go_enter Tryd.func74, Tryd.ntmps74
   go_wp2_with fail
   go_ret
   exact ⟨by rw [HF.out]; rfl, bal w _⟩
  ·rw [decide_eq_false e] at hTe
   have HF : Hid (fwdN n R (c + 1) S = sumN (fun x => if freeS n R S x then fwdN n R c (S + 2 ^ x) else 0) n) := hide (by
    show (if S = 2 ^ n - 1 then 1 else _) = _
    rw [if_neg e])
   have HIH := hide (fun q W h1 h2 => ih q W (by omega) h1 h2)
   have HFB := hide (fun q => Nat.le_trans (fwdN_bd (R := R) hn8 c q) (pow8 (c := c) (by omega)))
   generalize hfw : fwdN n R c = FW at *
   have HSB : Hid (∀ x, x ≤ n → sumN (fun x => if freeS n R S x then FW (S + 2 ^ x) else 0) x ≤ 134217728) := hide (fun x hx => by
    refine Nat.le_trans (sum_bd (b := 16777216) (fun y => ?_) x) (by omega)
    show (if _ then _ else _) ≤ _
    split
    ·exact HFB.out _
    ·omega)
   have HSS : Hid (∀ x, sumN (fun x => if freeS n R S x then FW (S + 2 ^ x) else 0) (x + 1) = sumN (fun x => if freeS n R S x then FW (S + 2 ^ x) else 0) x + if freeS n R S x then FW (S + 2 ^ x) else 0) := hide (fun x => rfl)
   have HS0 : Hid (sumN (fun x => if freeS n R S x then FW (S + 2 ^ x) else 0) 0 = 0) := hide rfl
   generalize sumN (fun x => if freeS n R S x then FW (S + 2 ^ x) else 0) = SF at *
   have HFN : Hid (∀ x, freeK R S x n = freeS n R S x) := hide (fun _ => rfl)
   have HF0 : Hid (∀ x, freeK R S x 0 = !S.testBit x) := hide (fun _ => by unfold freeK; simp)
   have HFS := hide (freeK_succ R S)
   have HPP := hide (fun x (hx : x < n) h => put_pre hn8 hS hx h)
   have HFK := hide (fun x a h => freeK_bit (R := R) (S := S) (x := x) (a := a) h)
   have HZ := hide hz
   generalize freeS n R S = FS at *
   generalize freeK R S = FK at *
   clear e hS hz ih hfw
   go_enter Tryd.func74, Tryd.ntmps74
   go_wp2_with fail
   generalize hX1 : World.alloc w _ = X1
   have zX1 : X1.heap.size = w.heap.size + 1 := by rw [← hX1]; simp
   have bX1 : Below w.heap.size w X1 := by rw [← hX1]; exact bal w _
   have bM : Blk X1 (w.heap.size) (relL R) 62 := by rw [← hX1]; exact Blk.newA w _ (by first | rfl | simp)
   have Xb := bX1
   have Xz := zX1
   clear hX1 zX1 bX1
   go_loopw [7, 8] (fun s i wr => ∃ x : Nat, x ≤ n ∧ i = .int .i64 x ∧ s = .int .i64 (SF x : Nat) ∧ Below X1.heap.size X1 wr) (fun _ i _ => n - (intOf i).toNat)
   case atStart => exact ⟨0, by omega, rfl, by rw [HS0.out]; rfl, Below.refl _ _⟩
   case round =>
    obtain ⟨x, hx, rfl, rfl, hbr⟩ := hrel
    have HBR := hide hbr
    have BM1 := hide (bM.later hbr)
    clear hbr
    by_cases hlx : x < n
    ·have hlxI : (x : Int) < n := by omega
     have HX := hide hlx
     have hx8 : x < 8 := by omega
     have hx8I : (x : Int) < 8 := by omega
     have hx0 : ¬ (x : Int) < 0 := by omega
     obtain ⟨-, -, f3, f4⟩ := bit4 S x
     have HFX0 := hide (HF0.out x)
     have HPX := hide (HPP.out x hlx)
     have HSX := hide (HSS.out x)
     have hsb := HSB.out x hx
     have HFX := hide (fun a => HFK.out x a)
     have HFE := hide (HFN.out x)
     have HFU := hide (fun a => HFS.out x a)
     generalize FK x = FKx at *
     generalize FS x = FSx at *
     generalize S.testBit x = sx at *
     generalize SF x = sm at *
     go_wp2_with fail
     generalize wr = wA at *
     clear f3 f4
     go_loopw [9, 10] (fun g i wz => ∃ a : Nat, a ≤ n ∧ i = .int .i64 a ∧ g = .bool (FKx a) ∧ wz = wA) (fun _ i _ => n - (intOf i).toNat)
     case atStart => exact ⟨0, by omega, rfl, by rw [HFX0.out], rfl⟩
     case round =>
      obtain ⟨a, ha, rfl, rfl, hwz⟩ := hrel
      obtain rfl := hwz.symm
      by_cases hla : a < n
      ·have hlaI : (a : Int) < n := by omega
       have HA := hide hla
       have ha8 : a < 8 := by omega
       have ha8I : (a : Int) < 8 := by omega
       have ha0 : ¬ (a : Int) < 0 := by omega
       obtain ⟨f1, f2, -, -⟩ := bit4 S a
       have t0 := BM1.out.cell _ (relL_get R ha8 hx8)
       have HN := hide (HFU.out a)
       generalize FKx a = g at *
       generalize R a x = r1 at *
       generalize S.testBit a = r2 at *
       cases g
       ·go_wp2_with fail
        clear t0 f1 f2
        go_roundw
        case rel => exact ⟨a + 1, by have := HA.out; omega, by go_num, by rw [HN.out]; rfl, by trivial⟩
        case measure => have := HA.out; simp [intOf]; omega
       ·cases r1
        ·go_wp2_with fail
         clear t0 f1 f2
         go_roundw
         case rel => exact ⟨a + 1, by have := HA.out; omega, by go_num, by rw [HN.out]; rfl, by trivial⟩
         case measure => have := HA.out; simp [intOf]; omega
        ·cases r2
         ·go_wp2_with fail
          clear t0 f1 f2
          go_roundw
          case rel => exact ⟨a + 1, by have := HA.out; omega, by go_num, by rw [HN.out]; rfl, by trivial⟩
          case measure => have := HA.out; simp [intOf]; omega
         ·go_wp2_with fail
          clear t0 f1 f2
          go_roundw
          case rel => exact ⟨a + 1, by have := HA.out; omega, by go_num, by rw [HN.out]; rfl, by trivial⟩
          case measure => have := HA.out; simp [intOf]; omega
      ·obtain rfl : a = n := by omega
       have HFB1 := hide (HFX.out a)
       obtain ⟨g, hg⟩ : ∃ g, FKx a = g := ⟨_, rfl⟩
       rw [hg] at HFE HFB1
       rw [hg]
       clear hg
       cases g
       ·have HN := hide HSX.out
        rw [← HFE.out] at HN
        go_wp2_with fail
        go_roundw
        case rel => exact ⟨x + 1, by have := HX.out; omega, by go_num, by rw [HN.out]; simp, HBR.out⟩
        case measure => have := HX.out; simp [intOf]; omega
       ·obtain ⟨X, q, g1, g2, g3, g4, g5, g6⟩ := HPX.out (HFB1.out rfl)
        have HN := hide HSX.out
        rw [← HFE.out, if_pos rfl, g3] at HN
        have HC1 := hide (fun W => HIH.out q W g5 (by have := HZ.out; omega))
        have hfb := HFB.out q
        obtain ⟨fq, hfq⟩ : ∃ fq, FW q = fq := ⟨_, rfl⟩
        rw [hfq] at HN HC1 hfb
        have hsum := wrap_m hsb (Nat.le_trans hfb (by decide))
        have HLD := hide (fun (W : World) (h : ∃ i : Bw wA.heap.size wA, W = i.W) => show Blk W w.heap.size (relL R) 62 from by obtain ⟨i, rfl⟩ := h; exact BM1.out.later i.h)
        have HBX := hide (fun W (h : Below wA.heap.size wA W) => HBR.out.trans (h.mono HBR.out.size))
        clear g3 g5 g6 hfb hfq HFB1 HFE HSX HPX
        go_upto_region 13 with (fail)
        refine wp_region_bw (by kernel_rfl) (by kernel_rfl) ?_
        repeat (first | go_big_quiet_skip | (go_big_quiet_want; refine quiet_relV _ (w.heap.size) R rfl rfl HLD.out ?_; simp only [Act.put, List.setIfInBounds_toArray, List.set_cons_zero, List.set_cons_succ]; go_big_quiet_on) | go_big_quiet_step ((go_at_call 74; exact quiet (HC1.out _))))
        refine wpQuiet_nil ?_
        rintro _ ⟨j, rfl⟩
        clear g1 g2 g4 hsum hsb
        have HB2 := hide (HBX.out _ j.h)
        go_wp2_with fail
        go_roundw
        case rel => exact ⟨x + 1, by have := HX.out; omega, by go_num, by rw [HN.out, Int.natCast_add], HB2.out⟩
        case measure => have := HX.out; simp [intOf]; omega
    ·obtain rfl : x = n := by omega
     have HB2 := hide (below2 Xb HBR.out)
     go_wp2_with fail
     go_ret
     exact ⟨by rw [HF.out]; rfl, HB2.out⟩
theorem rlines_no (o : OrderD) (pv : Value) (w : World) (hp : PairsIn w.cell? pv o.pairs) (hv : validO o = false) : Calls Tryd.prog 47 #[orderV o.n pv] w (Ret (.tuple #[.int .i64 0, .int .i64 150]) w) := by
 obtain ⟨on, ps⟩ := o
 obtain ⟨pa, pm, rfl, -, -, -⟩ := id hp
 have HVA := hide (fun W (hb : Below w.heap.size w W) => by
  have h := rvalid_any ⟨on, ps⟩ (.slice pa ps.length pm) W (RecIn.below hb hp)
  rw [hv] at h
  exact h)
 clear hp hv
 go_enter Tryd.func47, Tryd.ntmps47
 go_wp2_with fail
 generalize hX1 : World.alloc w _ = X1
 have zX1 : X1.heap.size = w.heap.size + 1 := by rw [← hX1]; simp
 have bX1 : Below w.heap.size w X1 := by rw [← hX1]; exact bal w _
 have bO : Blk X1 (w.heap.size) [.int .i64 on, .slice pa ps.length pm] 25 := by rw [← hX1]; exact Blk.newA w _ (by first | rfl | simp)
 have Xb := bX1
 have Xz := zX1
 clear hX1 zX1 bX1
 have c0 := bO.cell 0 rfl
 have c1 := bO.cell 1 rfl
 go_wp2_with fail
 refine (HVA.out _ Xb).mono ?_
 rintro e w1 ⟨rfl, hb⟩
 have hw := below2 Xb hb
 clear c0 c1 bO hb Xb Xz
 go_wp2_with fail
 go_ret2
 exact ⟨rfl, hw⟩
set_option maxRecDepth 100000 in
set_option maxHeartbeats 2000000 in
theorem rlines_yes (n : Nat) (ps : List (Int × Int)) (pv : Value) (w : World) (hp : PairsIn w.cell? pv ps) (hv : validO ⟨n, ps⟩ = true) : Calls Tryd.prog 47 #[orderV n pv] w (Ret (.tuple #[.int .i64 ((linesO n (beforeO ⟨n, ps⟩)).length : Nat), .int .i64 0]) w) := by
 obtain ⟨pa, pm, rfl, -, -, -⟩ := id hp
 have hf : formedO ⟨(n : Int), ps⟩ = true := by unfold validO at hv; rw [Bool.and_eq_true] at hv; exact hv.1
 have hn8 : n ≤ 8 := by
  have := (formed_n hf).1.2
  simp only at this
  omega
 have HPO := hide (show PoO n (beforeO ⟨n, ps⟩) from before_po hv)
 have HVA := hide (fun W (hb : Below w.heap.size w W) => by
  have h := rvalid_any ⟨(n : Int), ps⟩ (.slice pa ps.length pm) W (RecIn.below hb hp)
  rw [hv] at h
  exact h)
 have HBE := hide (fun W (hb : Below w.heap.size w W) => rbefore_any n ps (.slice pa ps.length pm) W (RecIn.below hb hp) hf)
 generalize beforeO ⟨(n : Int), ps⟩ = R at *
 clear hp hv hf
 have HLE := hide (lines_eq HPO.out hn8)
 have HLI := hide (fun W => rlinesN_any R hn8 n 0 W hn8 (Nat.pow_pos (by decide)) (Nat.le_trans (List.length_filter_le _ _) (by simp)))
 rw [HLE.out] at HLI
 generalize (linesO n R).length = LN at *
 go_enter Tryd.func47, Tryd.ntmps47
 go_wp2_with fail
 generalize hX1 : World.alloc w _ = X1
 have zX1 : X1.heap.size = w.heap.size + 1 := by rw [← hX1]; simp
 have bX1 : Below w.heap.size w X1 := by rw [← hX1]; exact bal w _
 have bO : Blk X1 (w.heap.size) [.int .i64 n, .slice pa ps.length pm] 25 := by rw [← hX1]; exact Blk.newA w _ (by first | rfl | simp)
 have Xb := bX1
 have Xz := zX1
 clear hX1 zX1 bX1
 have c0 := bO.cell 0 rfl
 have c1 := bO.cell 1 rfl
 go_wp2_with fail
 refine (HVA.out _ Xb).mono ?_
 rintro e w1 ⟨rfl, hb⟩
 have HW := hide (below2 Xb hb)
 replace bO := bO.later hb
 clear c0 c1 hb Xb Xz
 have q0 : ∀ j : Bw w1.heap.size w1, j.W.cell? ⟨w.heap.size, 0, none⟩ = some (.int .i64 (n : Nat)) := bwc (bO.cell 0 rfl)
 have q1 : ∀ j : Bw w1.heap.size w1, j.W.cell? ⟨w.heap.size, 1, none⟩ = some (.slice pa ps.length pm) := bwc (bO.cell 1 rfl)
 have HB1 := hide (fun j : Bw w1.heap.size w1 => HBE.out j.W (below2 HW.out j.h))
 go_upto_region 3 with (fail)
 refine wp_region_bw (by kernel_rfl) (by kernel_rfl) ?_
 repeat (go_big_quiet_step ((first | (go_at_call 39; exact quiet (HB1.out _)) | (go_at_call 74; exact quiet (HLI.out _)))))
 refine wpQuiet_nil ?_
 rintro _ ⟨j, rfl⟩
 go_wp2_with fail
 go_ret2
 exact ⟨rfl, below2 HW.out j.h⟩
end Go.Proofs.YtnidcoinfmcffaaDoor
/- The reference of chapter 15: Line, Things, first. Conditions: how the order and the lists lie in memory. -/
namespace Go.Proofs.YtnidcoinfmcffaaDoor
open Go.RowKit
attribute [local go_sem] Oper.semAt_some
theorem any_nats (l : List Nat) (x : Nat) : ((natsO l).any fun y => decide (y = (x : Int))) = l.contains x := by
  unfold natsO
  rw [List.any_map, Bool.eq_iff_iff]
  simp only [List.any_eq_true, Function.comp, decide_eq_true_eq, List.contains_eq_mem]
  exact ⟨fun ⟨y, hy, e⟩ => by obtain rfl : y = x := by omega
                              exact hy, fun h => ⟨x, h, rfl⟩⟩
theorem natsO_ln (l : List Nat) : (natsO l).length = l.length := by unfold natsO; rw [List.length_map]
def freeA (R : RelO) (l : List Nat) (x a : Nat) : Bool := !l.contains x && (List.range a).all fun a => !R a x || l.contains a
theorem freeA_succ (R : RelO) (l : List Nat) (x a : Nat) : freeA R l x (a + 1) = (freeA R l x a && (!R a x || l.contains a)) := by
 unfold freeA
 rw [List.range_succ, List.all_append, List.all_cons, List.all_nil, Bool.and_true, Bool.and_assoc]
theorem rline_no (o : OrderD) (pv : Value) (w : World) (hp : PairsIn w.cell? pv o.pairs) (hv : validO o = false) : Calls Tryd.prog 14 #[orderV o.n pv] w (Ret (.tuple #[.slice none 0 0, .int .i64 150]) w) := by
 obtain ⟨on, ps⟩ := o
 obtain ⟨pa, pm, rfl, -, -, -⟩ := id hp
 have HVA := hide (fun W (hb : Below w.heap.size w W) => by
  have h := rvalid_any ⟨on, ps⟩ (.slice pa ps.length pm) W (RecIn.below hb hp)
  rw [hv] at h
  exact h)
 clear hp hv
 go_enter Tryd.func14, Tryd.ntmps14
 go_wp2_with fail
 generalize hX1 : World.alloc w _ = X1
 have zX1 : X1.heap.size = w.heap.size + 1 := by rw [← hX1]; simp
 have bX1 : Below w.heap.size w X1 := by rw [← hX1]; exact bal w _
 have bO : Blk X1 (w.heap.size) [.int .i64 on, .slice pa ps.length pm] 25 := by rw [← hX1]; exact Blk.newA w _ (by first | rfl | simp)
 have Xb := bX1
 have Xz := zX1
 clear hX1 zX1 bX1
 have c0 := bO.cell 0 rfl
 have c1 := bO.cell 1 rfl
 go_wp2_with fail
 refine (HVA.out _ Xb).mono ?_
 rintro e w1 ⟨rfl, hb⟩
 have hw := below2 Xb hb
 clear c0 c1 bO hb Xb Xz
 go_wp2_with fail
 go_ret2
 exact ⟨rfl, hw⟩
set_option maxRecDepth 100000 in
set_option maxHeartbeats 4000000 in
theorem rline_yes (n : Nat) (ps : List (Int × Int)) (pv : Value) (w : World) (hp : PairsIn w.cell? pv ps) (hv : validO ⟨n, ps⟩ = true) : Calls Tryd.prog 14 #[orderV n pv] w (IntsEQ (natsO (lineO n (beforeO ⟨n, ps⟩))) w) := by
 obtain ⟨pa, pm, rfl, -, -, -⟩ := id hp
 have hf : formedO ⟨(n : Int), ps⟩ = true := by unfold validO at hv; rw [Bool.and_eq_true] at hv; exact hv.1
 have hn8 : n ≤ 8 := by
  have := (formed_n hf).1.2
  simp only at this
  omega
 have HPO := hide (show PoO n (beforeO ⟨n, ps⟩) from before_po hv)
 have HVA := hide (fun W (hb : Below w.heap.size w W) => by
  have h := rvalid_any ⟨(n : Int), ps⟩ (.slice pa ps.length pm) W (RecIn.below hb hp)
  rw [hv] at h
  exact h)
 have HBE := hide (fun W (hb : Below w.heap.size w W) => rbefore_any n ps (.slice pa ps.length pm) W (RecIn.below hb hp) hf)
 generalize beforeO ⟨(n : Int), ps⟩ = R at *
 clear hp hv hf
 have HST := hide (fun k hk => lineK_start HPO.out k hk)
 have HFR : Hid (∀ l : List Nat, StartO n R l → l.length < n → ∃ x, x < n ∧ freeO n R l x = true) := hide (fun (l : List Nat) (h : StartO n R l) (hl : l.length < n) => h.free HPO.out hl)
 have HLN : Hid (lineK n R n = lineO n R) := hide rfl
 have HL0 : Hid (lineK n R 0 = []) := hide rfl
 have HLS : Hid (∀ k x, (List.range n).find? (freeO n R (lineK n R k)) = some x → lineK n R (k + 1) = lineK n R k ++ [x]) := hide (fun k x h => by
  show lineK n R k ++ _ = _
  rw [h]; rfl)
 have HFN : Hid (∀ l x, freeA R l x n = freeO n R l x) := hide (fun _ _ => rfl)
 have HF0 : Hid (∀ l x, freeA R l x 0 = !l.contains x) := hide (fun _ _ => by unfold freeA; simp)
 have HFS := hide (freeA_succ R)
 generalize lineO n R = LO at *
 generalize lineK n R = LK at *
 generalize freeO n R = FO at *
 generalize freeA R = FA at *
 go_enter Tryd.func14, Tryd.ntmps14
 go_wp2_with fail
 generalize hX1 : World.alloc w _ = X1
 have zX1 : X1.heap.size = w.heap.size + 1 := by rw [← hX1]; simp
 have bX1 : Below w.heap.size w X1 := by rw [← hX1]; exact bal w _
 have bO : Blk X1 (w.heap.size) [.int .i64 n, .slice pa ps.length pm] 25 := by rw [← hX1]; exact Blk.newA w _ (by first | rfl | simp)
 have Xb := bX1
 have Xz := zX1
 clear hX1 zX1 bX1
 have c0 := bO.cell 0 rfl
 have c1 := bO.cell 1 rfl
 go_wp2_with fail
 refine (HVA.out _ Xb).mono ?_
 rintro e w1 ⟨rfl, hb⟩
 have HW := hide (below2 Xb hb)
 replace bO := bO.later hb
 clear c0 c1 hb Xb Xz
 have c0 := bO.cell 0 rfl
 have c1 := bO.cell 1 rfl
 go_wp2_with fail
 refine (HBE.out _ HW.out).mono ?_
 rintro e w2 ⟨rfl, hb2⟩
 have HW2 := hide (below2 HW.out hb2)
 have BO2 := hide (bO.later hb2)
 clear c0 c1 hb2 bO HW HVA HBE
 go_wp2_with (refine wp_store_new rfl _ _ rfl R rfl rfl rfl ?_; intro W2 bM hb2; have BO3 := hide (BO2.out.later hb2); have HW3 := hide (below2 HW2.out hb2); have BM := hide bM; clear bM hb2 HW2 BO2)
 obtain ⟨mb, hmb⟩ : ∃ mb, w2.heap.size = mb := ⟨_, rfl⟩
 rw [hmb] at BM ⊢
 clear hmb
 go_loopw [5] (fun v wr => ∃ k : Nat, k ≤ n ∧ OwnI wr W2.heap.size v (natsO (LK k)) ∧ Below W2.heap.size W2 wr) (fun v _ => n - lenV v)
 case atStart => exact ⟨0, by omega, by rw [HL0.out]; exact OwnI.nil _ _, Below.refl _ _⟩
 case round =>
  obtain ⟨k, hk, hO, hbr⟩ := hrel
  obtain ⟨va, vc, rfl⟩ := hO.form
  obtain ⟨hst, hlk⟩ := HST.out k hk
  have hll : (natsO (LK k)).length = k := by rw [natsO_ln, hlk]
  rw [hll] at hO ⊢
  have HO := hide hO
  have HBF := hide hbr
  have BO4 := hide (BO3.out.later hbr)
  have BM4 := hide (BM.out.later hbr)
  have HLL := hide hll
  have c0 := BO4.out.cell 0 rfl
  by_cases hlk' : k < n
  ·have hlkI : (k : Int) < n := by omega
   have HK := hide hlk'
   have HFK := hide (HFR.out (LK k) hst (by rw [hlk]; exact hlk'))
   have HLX := hide (fun x h => HLS.out k x h)
   clear hO hbr hll hst hlk
   go_wp2_with fail
   clear c0
   generalize wr = wA at *
   go_loopw [5, 6] (fun ov i wz => ∃ x : Nat, x ≤ n ∧ i = .int .i64 x ∧ ov = .slice va k vc ∧ Hid (∀ y, y < x → FO (LK k) y = false) ∧ wz = wA) (fun _ i _ => n - (intOf i).toNat)
   case atStart => exact ⟨0, by omega, rfl, rfl, hide (fun y h => by omega), rfl⟩
   case round =>
    obtain ⟨x, hx, rfl, rfl, HFY, hwz⟩ := hrel
    obtain rfl := hwz.symm
    have c0 := BO4.out.cell 0 rfl
    by_cases hlx : x < n
    ·have hlxI : (x : Int) < n := by omega
     have HX := hide hlx
     have hx8 : x < 8 := by omega
     have hx8I : (x : Int) < 8 := by omega
     have HI := hide HO.out.ints
     have HC := hide (fun y : Nat => rhas_any (natsO (LK k)) (y : Int) _ wA HI.out)
     have HCN := hide (fun y : Nat => any_nats (LK k) y)
     have hfl : (LK k).length ≤ n := by rw [(HST.out k hk).2]; exact hk
     have HFX0 := hide (HF0.out (LK k) x)
     have HFXN := hide (HFN.out (LK k) x)
     have HFXS := hide (fun a => HFS.out (LK k) x a)
     have HNO : Hid (FO (LK k) x = false → ∀ y, y < x + 1 → FO (LK k) y = false) := hide (fun h y hy => by
      rcases Nat.lt_or_ge y x with h1 | h1
      ·exact HFY.out y h1
      ·obtain rfl : y = x := by omega
       exact h)
     have HYE : Hid (FO (LK k) x = true → LK (k + 1) = LK k ++ [x]) := hide (fun h => HLX.out x (find_of hlx HFY.out h))
     generalize FA (LK k) x = FAx at *
     generalize FO (LK k) x = FOx at *
     have HCX := hide (HC.out x)
     rw [HCN.out x] at HCX
     go_wp2_with fail
     refine HCX.out.mono ?_
     rintro e w5 ⟨rfl, hw5⟩
     obtain rfl := hw5.symm
     obtain ⟨cx, hcx⟩ : ∃ c, (LK k).contains x = c := ⟨_, rfl⟩
     rw [hcx] at HFX0
     rw [hcx]
     clear hcx HCX c0
     go_wp2_with fail
     go_loopw [7, 8] (fun g i wq => ∃ a : Nat, a ≤ n ∧ i = .int .i64 a ∧ g = .bool (FAx a) ∧ wq = wA) (fun _ i _ => n - (intOf i).toNat)
     case atStart => exact ⟨0, by omega, rfl, by rw [HFX0.out], rfl⟩
     case round =>
      obtain ⟨a, ha, rfl, rfl, hwz⟩ := hrel
      obtain rfl := hwz.symm
      have c0 := BO4.out.cell 0 rfl
      by_cases hla : a < n
      ·have hlaI : (a : Int) < n := by omega
       have HA := hide hla
       have ha8 : a < 8 := by omega
       have ha8I : (a : Int) < 8 := by omega
       have t0 := BM4.out.cell _ (relL_get R ha8 hx8)
       have HN := hide (HFXS.out a)
       have HCA := hide (HC.out a)
       rw [HCN.out a] at HCA
       generalize FAx a = g at *
       generalize R a x = r1 at *
       generalize (LK k).contains a = r2 at *
       cases r1
       ·go_wp2_with fail
        clear t0 c0
        go_roundw
        case rel => exact ⟨a + 1, by have := HA.out; omega, by go_num, by rw [HN.out]; simp, by trivial⟩
        case measure => have := HA.out; simp [intOf]; omega
       ·cases r2
        ·go_wp2_with fail
         refine HCA.out.mono ?_
         rintro e w5 ⟨rfl, hw5⟩
         obtain rfl := hw5.symm
         clear t0 c0
         go_wp2_with fail
         go_roundw
         case rel => exact ⟨a + 1, by have := HA.out; omega, by go_num, by rw [HN.out]; simp, by trivial⟩
         case measure => have := HA.out; simp [intOf]; omega
        ·go_wp2_with fail
         refine HCA.out.mono ?_
         rintro e w5 ⟨rfl, hw5⟩
         obtain rfl := hw5.symm
         clear t0 c0
         go_wp2_with fail
         go_roundw
         case rel => exact ⟨a + 1, by have := HA.out; omega, by go_num, by rw [HN.out]; simp, by trivial⟩
         case measure => have := HA.out; simp [intOf]; omega
      ·obtain rfl : a = n := by omega
       obtain ⟨g, hg⟩ : ∃ g, FAx a = g := ⟨_, rfl⟩
       rw [hg] at HFXN
       rw [hg]
       clear hg
       have hsz := HBF.out.size
       have hO := HO.out
       have hkm : (natsO (LK k)).length < 1000000 := by rw [natsO_ln]; omega
       cases g
       ·have HN := hide (HNO.out HFXN.out.symm)
        go_wp2_with fail
        clear c0
        go_roundw
        case rel => exact ⟨x + 1, by have := HX.out; omega, by go_num, rfl, HN, by trivial⟩
        case measure => have := HX.out; simp [intOf]; omega
       ·have HN := hide (HYE.out HFXN.out.symm)
        go_wp2_with (at_builtin; refine app_intE rfl _ _ rfl W2.heap.size _ (natsO (LK k)) rfl hO (x : Int) rfl hkm hsz ?_; intro v3 w3 hO3 hE3 hob3; have HB3 := hide (HBF.out.trans (hE3.below hsz (fun k e => (OwnI.ltB hO e.symm).1))); have HO3 := hide hO3; clear hO3 hE3 hob3)
        obtain ⟨va3, vc3, e3⟩ := HO3.out.form
        have hl3 : (natsO (LK k) ++ [(x : Int)]).length = k + 1 := by rw [List.length_append, HLL.out]; rfl
        rw [hl3] at e3
        subst e3
        clear c0 hO hl3
        go_wp2_with fail
        go_roundw
        case rel => exact ⟨k + 1, by have := HK.out; omega, by rw [HN.out, natsO_snoc]; exact HO3.out, HB3.out⟩
        case measure => have := HK.out; simp [lenV]; omega
    ·obtain rfl : x = n := by omega
     obtain ⟨y, hy1, hy2⟩ := HFK.out
     have HFY1 := HFY.out y hy1
     rw [HFY1] at hy2; cases hy2
  ·obtain rfl : k = n := by omega
   have HR1 : Hid (IntsIn (frm w.heap.size wr) (.slice va k vc) (natsO LO)) := hide (by rw [← HLN.out]; exact HO.out.intsF HW3.out.size)
   have HF := hide (below2 HW3.out HBF.out)
   clear hO hbr hll hst hlk
   go_wp2_with fail
   go_ret2
   exact ⟨_, rfl, HR1.out, HF.out⟩
theorem things_succ (S k : Nat) : natsO ((List.range (k + 1)).filter S.testBit) = natsO ((List.range k).filter S.testBit) ++ if S.testBit k then [(k : Int)] else [] := by
 rw [List.range_succ, List.filter_append, List.filter_cons, List.filter_nil]
 unfold natsO
 rw [List.map_append]
 split <;> rfl
set_option maxRecDepth 100000 in
set_option maxHeartbeats 2000000 in
theorem rthings_any (S : Nat) (w : World) : Calls Tryd.prog 77 #[.int .i64 (S : Nat)] w (OwnIQ (natsO (thingsO S)) w) := by
 have HT : Hid (natsO ((List.range 8).filter S.testBit) = natsO (thingsO S)) := hide rfl
 have HTS := hide (things_succ S)
 have HT0 : Hid (natsO ((List.range 0).filter S.testBit) = []) := hide rfl
 have HTL : Hid (∀ k, k ≤ 8 → (natsO ((List.range k).filter S.testBit)).length < 1000000) := hide (fun k hk => by
  rw [natsO_ln]
  have := List.length_filter_le S.testBit (List.range k)
  rw [List.length_range] at this
  omega)
 generalize natsO (thingsO S) = TS at *
 generalize hTK : (fun k => natsO ((List.range k).filter S.testBit)) = TK at *
 have HTK := hide (fun k => congrFun hTK k)
 clear hTK
 go_enter Tryd.func77, Tryd.ntmps77
 go_wp2_with fail
 go_loopw [3, 4] (fun v i wr => ∃ k : Nat, k ≤ 8 ∧ i = .int .i64 k ∧ OwnI wr w.heap.size v (TK k) ∧ Below w.heap.size w wr) (fun _ i _ => 8 - (intOf i).toNat)
 case atStart => exact ⟨0, by omega, rfl, by rw [← HTK.out]; exact OwnI.nil _ _, Below.refl _ _⟩
 case round =>
  obtain ⟨k, hk, rfl, hO, hbr⟩ := hrel
  obtain ⟨va, vc, rfl⟩ := hO.form
  have HO := hide hO
  have HBF := hide hbr
  clear hO hbr
  by_cases hlk : k < 8
  ·have hlkI : (k : Int) < 8 := by omega
   have HK := hide hlk
   have hk0 : ¬ (k : Int) < 0 := by omega
   obtain ⟨f1, f2, -, -⟩ := bit4 S k
   have hl : (TK k).length < 1000000 := by rw [← HTK.out]; exact HTL.out k hk
   have HN : Hid (TK (k + 1) = TK k ++ if S.testBit k then [(k : Int)] else []) := hide (by rw [← HTK.out, ← HTK.out]; exact HTS.out k)
   generalize TK k = L at *
   generalize S.testBit k = g at *
   have hsz := HBF.out.size
   have hO := HO.out
   cases g
   ·go_wp2_with fail
    clear f1 f2
    go_roundw
    case rel => exact ⟨k + 1, by have := HK.out; omega, by go_num, by rw [HN.out]; simpa using HO.out, HBF.out⟩
    case measure => have := HK.out; simp [intOf]; omega
   ·go_wp2_with (at_builtin; refine app_intE rfl _ _ rfl w.heap.size _ L rfl hO (k : Int) rfl hl hsz ?_; intro v3 w3 hO3 hE3 hob3; have HB3 := hide (HBF.out.trans (hE3.below hsz (fun k e => (OwnI.ltB hO e.symm).1))); have HO3 := hide hO3; clear hO3 hE3 hob3)
    clear f1 f2 hO
    go_roundw
    case rel => exact ⟨k + 1, by have := HK.out; omega, by go_num, by rw [HN.out]; simpa using HO3.out, HB3.out⟩
    case measure => have := HK.out; simp [intOf]; omega
  ·obtain rfl : k = 8 := by omega
   have HR1 := hide HO.out
   rw [show TK 8 = TS by rw [← HTK.out]; exact HT.out] at HR1 ⊢
   go_wp2_with fail
   go_ret
   exact ⟨_, rfl, HR1.out, HBF.out⟩
set_option maxRecDepth 100000 in
set_option maxHeartbeats 2000000 in
theorem rfirst_any (a b : List Int) (av bv : Value) (w : World) (ha : IntsIn w.cell? av a) (hb : IntsIn w.cell? bv b) : Calls Tryd.prog 78 #[av, bv] w (Ret (.bool (firstB a b)) w) := by
 have HA := hide ha
 have HB := hide hb
 obtain ⟨aa, ac, rfl, h1, h2, -⟩ := id ha
 obtain ⟨ba, bc, rfl, h3, h4, -⟩ := id hb
 have haI : (a.length : Int) ≤ 9223372036854775807 := by omega
 have hbI : (b.length : Int) ≤ 9223372036854775807 := by omega
 have HS := hide (fun k h1 h2 => first_step (a := a) (b := b) (k := k) h1 h2)
 have HE := hide (fun k h => first_end (a := a) (b := b) (k := k) h)
 obtain ⟨F, HF⟩ : ∃ F, Hid (firstB (a.drop 0) (b.drop 0) = F) := ⟨_, hide rfl⟩
 rw [show firstB a b = F from HF.out]
 generalize hFK : (fun k => firstB (a.drop k) (b.drop k)) = FK at *
 have HFK := hide (fun k => congrFun hFK k)
 clear ha hb h1 h2 h3 h4 hFK
 go_enter Tryd.func78, Tryd.ntmps78
 go_wp2_with fail
 go_loopw [5] (fun i wr => ∃ k : Nat, k ≤ a.length ∧ i = .int .i64 k ∧ FK k = F ∧ Below w.heap.size w wr) (fun i _ => a.length - (intOf i).toNat)
 case atStart => exact ⟨0, by omega, rfl, by rw [← HFK.out]; exact HF.out, Below.refl _ _⟩
 case round =>
  obtain ⟨k, hk, rfl, hf, hbr⟩ := hrel
  have HFE := hide hf
  have HBR := hide hbr
  have HAR := hide (ints_low HA.out hbr)
  have HBW := hide (ints_low HB.out hbr)
  clear hf hbr
  by_cases hla : k < a.length
  ·have hlaI : (k : Int) < a.length := by omega
   by_cases hlb : k < b.length
   ·have hlbI : (k : Int) < b.length := by omega
    have HK := hide hla
    obtain ⟨ab, ao, rfl, hca⟩ := intsR_at HAR.out hla
    obtain ⟨bb, bo, rfl, hcb⟩ := intsR_at HBW.out hlb
    have HSK := hide (HS.out k hla hlb)
    rw [HFK.out k, HFK.out (k + 1), HFE.out] at HSK
    obtain ⟨x, hx⟩ : ∃ x, a.getD k 0 = x := ⟨_, rfl⟩
    obtain ⟨y, hy⟩ : ∃ y, b.getD k 0 = y := ⟨_, rfl⟩
    rw [hx] at hca HSK
    rw [hy] at hcb HSK
    have q1 : ∀ j : Bw wr.heap.size wr, j.W.cell? ⟨ab, ao + k, none⟩ = some (.int .i64 x) := bwc hca
    have q2 : ∀ j : Bw wr.heap.size wr, j.W.cell? ⟨bb, bo + k, none⟩ = some (.int .i64 y) := bwc hcb
    clear hca hcb hx hy
    by_cases e : x = y
    ·subst e
     have HN := hide (show F = FK (k + 1) by have h := HSK.out; rw [if_pos rfl] at h; exact h)
     go_upto_region 4 with (fail)
     refine wp_region_bw (by kernel_rfl) (by kernel_rfl) ?_
     repeat (go_big_quiet_step (fail))
     refine wpQuiet_nil ?_
     rintro _ ⟨j, rfl⟩
     clear q1 q2
     have HB2 := hide (below2 HBR.out j.h)
     go_wp2_with fail
     go_roundw
     case rel => exact ⟨k + 1, by have := HK.out; omega, by go_num, HN.out.symm, HB2.out⟩
     case measure => have := HK.out; simp [intOf]; omega
    ·have hxy : (x == y) = false := beq_eq_false_iff_ne.2 e
     have HN := hide (show F = decide (x < y) by have h := HSK.out; rw [if_neg e] at h; exact h)
     clear e
     go_upto_region 4 with (fail)
     refine wp_region_bw (by kernel_rfl) (by kernel_rfl) ?_
     repeat (go_big_quiet_step (fail))
     refine wpQuiet_nil ?_
     rintro _ ⟨j, rfl⟩
     have HB2 := hide (below2 HBR.out j.h)
     have q3 : ∀ j' : Bw j.W.heap.size j.W, j'.W.cell? ⟨ab, ao + k, none⟩ = some (.int .i64 x) := bwc (q1 j)
     have q4 : ∀ j' : Bw j.W.heap.size j.W, j'.W.cell? ⟨bb, bo + k, none⟩ = some (.int .i64 y) := bwc (q2 j)
     clear q1 q2
     generalize j.W = w5 at *
     go_upto_region 5 with (fail)
     refine wp_region_bw (by kernel_rfl) (by kernel_rfl) ?_
     repeat (go_big_quiet_step (fail))
     refine wpQuiet_nil ?_
     rintro _ ⟨j, rfl⟩
     go_wp2_with fail
     go_ret
     exact ⟨by rw [HN.out]; rfl, below2 HB2.out j.h⟩
   ·have hlbI : ¬ (k : Int) < b.length := by omega
    have HN := hide (HE.out k (.inr (by omega)))
    rw [HFK.out k, HFE.out] at HN
    go_wp2_with fail
    go_ret
    exact ⟨by rw [HN.out]; rfl, HBR.out⟩
  ·obtain rfl : k = a.length := by omega
   have HN := hide (HE.out a.length (.inl (Nat.le_refl _)))
   rw [HFK.out a.length, HFE.out] at HN
   go_wp2_with fail
   go_ret
   exact ⟨by rw [HN.out]; rfl, HBR.out⟩
end Go.Proofs.YtnidcoinfmcffaaDoor
/- The reference of chapter 15: Antichain. Conditions: how the order lies in memory. -/
namespace Go.Proofs.YtnidcoinfmcffaaDoor
open Go.RowKit
attribute [local go_sem] Oper.semAt_some
def isA (R : RelO) (L : List Nat) (i k : Nat) : Bool := ((L.take i).all fun x => L.all fun y => !R x y) && (L.take k).all fun y => !R (L.getD i 0) y
theorem isA_zero (R : RelO) (L : List Nat) : isA R L 0 0 = true := rfl
theorem isA_next (R : RelO) (L : List Nat) {i k : Nat} (hk : k < L.length) : isA R L i (k + 1) = (isA R L i k && !R (L.getD i 0) (L.getD k 0)) := by
 unfold isA
 rw [take_succ' L k 0 hk, List.all_append, List.all_cons, List.all_nil, Bool.and_true, Bool.and_assoc]
theorem isA_row (R : RelO) (L : List Nat) {i : Nat} (hi : i < L.length) : isA R L i L.length = isA R L (i + 1) 0 := by
 unfold isA
 rw [take_succ' L i 0 hi, List.all_append, List.all_cons, List.all_nil, Bool.and_true, List.take_length]
 simp
theorem isA_all (R : RelO) (L : List Nat) : isA R L L.length 0 = noneB R L := by
 unfold isA noneB
 rw [List.take_length]; simp
theorem rantichain_no (o : OrderD) (pv : Value) (w : World) (hp : PairsIn w.cell? pv o.pairs) (hv : validO o = false) : Calls Tryd.prog 53 #[orderV o.n pv] w (Ret (.tuple #[.slice none 0 0, .int .i64 150]) w) := by
 obtain ⟨on, ps⟩ := o
 obtain ⟨pa, pm, rfl, -, -, -⟩ := id hp
 have HVA := hide (fun W (hb : Below w.heap.size w W) => by
  have h := rvalid_any ⟨on, ps⟩ (.slice pa ps.length pm) W (RecIn.below hb hp)
  rw [hv] at h
  exact h)
 clear hp hv
 go_enter Tryd.func53, Tryd.ntmps53
 go_wp2_with fail
 generalize hX1 : World.alloc w _ = X1
 have zX1 : X1.heap.size = w.heap.size + 1 := by rw [← hX1]; simp
 have bX1 : Below w.heap.size w X1 := by rw [← hX1]; exact bal w _
 have bO : Blk X1 (w.heap.size) [.int .i64 on, .slice pa ps.length pm] 25 := by rw [← hX1]; exact Blk.newA w _ (by first | rfl | simp)
 have Xb := bX1
 have Xz := zX1
 clear hX1 zX1 bX1
 have c0 := bO.cell 0 rfl
 have c1 := bO.cell 1 rfl
 go_wp2_with fail
 refine (HVA.out _ Xb).mono ?_
 rintro e w1 ⟨rfl, hb⟩
 have hw := below2 Xb hb
 clear c0 c1 bO hb Xb Xz
 go_wp2_with fail
 go_ret2
 exact ⟨rfl, hw⟩
set_option maxRecDepth 100000 in
set_option maxHeartbeats 4000000 in
theorem rantichain_yes (n : Nat) (ps : List (Int × Int)) (pv : Value) (w : World) (hp : PairsIn w.cell? pv ps) (hv : validO ⟨n, ps⟩ = true) : Calls Tryd.prog 53 #[orderV n pv] w (IntsEQ (natsO (antiO n (beforeO ⟨n, ps⟩))) w) := by
 obtain ⟨pa, pm, rfl, -, -, -⟩ := id hp
 have hf : formedO ⟨(n : Int), ps⟩ = true := by unfold validO at hv; rw [Bool.and_eq_true] at hv; exact hv.1
 have hn8 : n ≤ 8 := by
  have := (formed_n hf).1.2
  simp only at this
  omega
 have HPO := hide (show PoO n (beforeO ⟨n, ps⟩) from before_po hv)
 have HVA := hide (fun W (hb : Below w.heap.size w W) => by
  have h := rvalid_any ⟨(n : Int), ps⟩ (.slice pa ps.length pm) W (RecIn.below hb hp)
  rw [hv] at h
  exact h)
 have HBE := hide (fun W (hb : Below w.heap.size w W) => rbefore_any n ps (.slice pa ps.length pm) W (RecIn.below hb hp) hf)
 generalize beforeO ⟨(n : Int), ps⟩ = R at *
 clear hp hv hf
 have HAE : Hid (antiO n R = antiK R (2 ^ n)) := hide rfl
 have HA0 : Hid (antiK R 0 = []) := hide rfl
 have HAS := hide (fun S h => anti_succ R (S := S) h)
 have HNB := hide (isA_all R)
 have HIZ := hide (isA_zero R)
 have HIN := hide (fun L i k h => isA_next R L (i := i) (k := k) h)
 have HIR := hide (fun L i h => isA_row R L (i := i) h)
 generalize antiO n R = AX at *
 generalize antiK R = AK at *
 generalize noneB R = NB at *
 generalize isA R = IA at *
 have hw64 := wrapw hn8
 have hw65 := wrap_pow hn8
 have h256 := pow_256 hn8
 obtain ⟨T, hT⟩ : ∃ T, 2 ^ n = T := ⟨_, rfl⟩
 rw [hT] at hw64 hw65 HAE h256
 clear hT
 go_enter Tryd.func53, Tryd.ntmps53
 go_wp2_with fail
 generalize hX1 : World.alloc w _ = X1
 have zX1 : X1.heap.size = w.heap.size + 1 := by rw [← hX1]; simp
 have bX1 : Below w.heap.size w X1 := by rw [← hX1]; exact bal w _
 have bO : Blk X1 (w.heap.size) [.int .i64 n, .slice pa ps.length pm] 25 := by rw [← hX1]; exact Blk.newA w _ (by first | rfl | simp)
 have Xb := bX1
 have Xz := zX1
 clear hX1 zX1 bX1
 have c0 := bO.cell 0 rfl
 have c1 := bO.cell 1 rfl
 go_wp2_with fail
 refine (HVA.out _ Xb).mono ?_
 rintro e w1 ⟨rfl, hb⟩
 have HW := hide (below2 Xb hb)
 replace bO := bO.later hb
 clear c0 c1 hb Xb Xz
 have c0 := bO.cell 0 rfl
 have c1 := bO.cell 1 rfl
 go_wp2_with fail
 refine (HBE.out _ HW.out).mono ?_
 rintro e w2 ⟨rfl, hb2⟩
 have HW2 := hide (below2 HW.out hb2)
 have BO2 := hide (bO.later hb2)
 clear c0 c1 hb2 bO HW HVA HBE
 go_wp2_with (refine wp_store_new rfl _ _ rfl R rfl rfl rfl ?_; intro W2 bM hb2; have BO3 := hide (BO2.out.later hb2); have HW3 := hide (below2 HW2.out hb2); have BM := hide bM; clear bM hb2 HW2 BO2)
 obtain ⟨mb, hmb⟩ : ∃ mb, w2.heap.size = mb := ⟨_, rfl⟩
 rw [hmb] at BM ⊢
 clear hmb
 go_loopw [5, 6] (fun v i wr => ∃ (S : Nat) (v' : Value), S ≤ T ∧ i = .int .i64 S ∧ v = v' ∧ IntsIn (frm W2.heap.size wr) v' (natsO (AK S)) ∧ Below W2.heap.size W2 wr) (fun _ i _ => T - (intOf i).toNat)
 case atStart => exact ⟨0, _, by omega, rfl, rfl, by rw [HA0.out]; exact IntsIn.nil _, Below.refl _ _⟩
 case round =>
  obtain ⟨S, v', hS, rfl, rfl, hbi, hbr⟩ := hrel
  obtain ⟨ba, bc, rfl, -, -, -⟩ := id hbi
  have HBI := hide hbi
  have HBF := hide hbr
  have BO4 := hide (BO3.out.later hbr)
  have BM4 := hide (BM.out.later hbr)
  have c0 := BO4.out.cell 0 rfl
  clear hbi hbr
  by_cases hlS : S < T
  ·have hlSI : (S : Int) < T := by omega
   have HS := hide hlS
   have HSN := hide (HAS.out S (by omega))
   have HTH := hide (fun W => rthings_any S W)
   have HT8 := hide (fun x (h : x ∈ thingsO S) => things_lt h)
   have hTl := things_len S
   generalize thingsO S = L at *
   obtain ⟨BZ, hBZ⟩ : ∃ BZ, natsO (AK S) = BZ := ⟨_, rfl⟩
   have HBL : Hid (BZ.length = (AK S).length) := hide (by rw [← hBZ, natsO_ln])
   have HBZ := hide hBZ
   rw [hBZ] at HSN HBI ⊢
   rw [← HBL.out] at HSN
   clear hBZ
   go_wp2_with fail
   refine (HTH.out _).mono ?_
   rintro e w4 ⟨lv, rfl, hOl, hb4⟩
   obtain ⟨la, lc, rfl⟩ := hOl.form
   have hlL : (natsO L).length = L.length := natsO_ln L
   have HLI := hide (hOl.intsF (B' := W2.heap.size) HBF.out.size)
   have HBI4 := hide (ints_later HBI.out hb4)
   have HB4 := hide (HBF.out.trans (hb4.mono HBF.out.size))
   have BM5 := hide (BM4.out.later hb4)
   have BO5 := hide (BO4.out.later hb4)
   rw [hlL] at HLI ⊢
   clear hOl hb4 c0 HBF HBI BM4 BO4 HTH hlL
   go_wp2_with fail
   have hLI : (L.length : Int) ≤ 9223372036854775807 := by omega
   go_loopw [8, 9] (fun g i wz => ∃ a : Nat, a ≤ L.length ∧ i = .int .i64 a ∧ g = .bool (IA L a 0) ∧ Below w4.heap.size w4 wz) (fun _ i _ => L.length - (intOf i).toNat)
   case atStart => exact ⟨0, by omega, rfl, by rw [HIZ.out], Below.refl _ _⟩
   case round =>
    obtain ⟨a, ha, rfl, rfl, hbz⟩ := hrel
    have HBZ2 := hide hbz
    clear hbz
    by_cases hla : a < L.length
    ·have hlaI : (a : Int) < L.length := by omega
     have HA := hide hla
     go_wp2_with fail
     generalize wr = wB at *
     go_loopw [8, 10] (fun g i wq => ∃ k : Nat, k ≤ L.length ∧ i = .int .i64 k ∧ g = .bool (IA L a k) ∧ Below w4.heap.size w4 wq) (fun _ i _ => L.length - (intOf i).toNat)
     case atStart => exact ⟨0, by omega, rfl, rfl, HBZ2.out⟩
     case round =>
      obtain ⟨k, hk, rfl, rfl, hbq⟩ := hrel
      have HBQ := hide hbq
      clear hbq
      by_cases hlk : k < L.length
      ·have hlkI : (k : Int) < L.length := by omega
       have HK := hide hlk
       have hal : a < L.length := HA.out
       have halI : (a : Int) < L.length := by omega
       have hin := ints_later HLI.out HBQ.out
       have hLl : (natsO L).length = L.length := natsO_ln L
       obtain ⟨lb, lo, rfl, hca⟩ := intsR_at hin.at (i := a) (by rw [hLl]; exact hal)
       obtain ⟨lb', lo', e', hck⟩ := intsR_at hin.at (i := k) (by rw [hLl]; exact hlk)
       cases e'
       rw [natsO_getD] at hca hck
       have hx8 : L.getD a 0 < 8 := HT8.out _ (getD_mem L a (d := 0) hal)
       have hy8 : L.getD k 0 < 8 := HT8.out _ (getD_mem L k (d := 0) hlk)
       have HN := hide (HIN.out L a k hlk)
       obtain ⟨x, hx⟩ : ∃ x, L.getD a 0 = x := ⟨_, rfl⟩
       obtain ⟨y, hy⟩ : ∃ y, L.getD k 0 = y := ⟨_, rfl⟩
       rw [hx] at hca hx8 HN
       rw [hy] at hck hy8 HN
       have hx8I : (x : Int) < 8 := by omega
       have hy8I : (y : Int) < 8 := by omega
       have hcr := (BM5.out.later HBQ.out).cell _ (relL_get R hx8 hy8)
       have q1 : ∀ j : Bw wr.heap.size wr, j.W.cell? ⟨lb, lo + a, none⟩ = some (.int .i64 (x : Nat)) := bwc hca
       have q2 : ∀ j : Bw wr.heap.size wr, j.W.cell? ⟨lb, lo + k, none⟩ = some (.int .i64 (y : Nat)) := bwc hck
       have q3 : ∀ j : Bw wr.heap.size wr, j.W.cell? ⟨mb, x * 8 + y, none⟩ = some (.bool (R x y)) := bwc hcr
       generalize IA L a k = g at *
       generalize R x y = r1 at *
       clear hca hck hcr hin hx hy hLl
       cases g
       ·go_upto_region 16 with (fail)
        refine wp_region_bw (by kernel_rfl) (by kernel_rfl) ?_
        repeat (go_big_quiet_step (fail))
        refine wpQuiet_nil ?_
        rintro _ ⟨j, rfl⟩
        clear q1 q2 q3
        have HB2 := hide (HBQ.out.trans (j.h.mono HBQ.out.size))
        go_wp2_with fail
        go_roundw
        case rel => exact ⟨k + 1, by have := HK.out; omega, by go_num, by rw [HN.out]; rfl, HB2.out⟩
        case measure => have := HK.out; simp [intOf]; omega
       ·cases r1
        ·go_upto_region 16 with (fail)
         refine wp_region_bw (by kernel_rfl) (by kernel_rfl) ?_
         repeat (go_big_quiet_step (fail))
         refine wpQuiet_nil ?_
         rintro _ ⟨j, rfl⟩
         clear q1 q2 q3
         have HB2 := hide (HBQ.out.trans (j.h.mono HBQ.out.size))
         go_wp2_with fail
         go_roundw
         case rel => exact ⟨k + 1, by have := HK.out; omega, by go_num, by rw [HN.out]; rfl, HB2.out⟩
         case measure => have := HK.out; simp [intOf]; omega
        ·go_upto_region 16 with (fail)
         refine wp_region_bw (by kernel_rfl) (by kernel_rfl) ?_
         repeat (go_big_quiet_step (fail))
         refine wpQuiet_nil ?_
         rintro _ ⟨j, rfl⟩
         clear q1 q2 q3
         have HB2 := hide (HBQ.out.trans (j.h.mono HBQ.out.size))
         go_wp2_with fail
         go_roundw
         case rel => exact ⟨k + 1, by have := HK.out; omega, by go_num, by rw [HN.out]; rfl, HB2.out⟩
         case measure => have := HK.out; simp [intOf]; omega
      ·obtain rfl : k = L.length := by omega
       have HN := hide (HIR.out L a HA.out)
       go_wp2_with fail
       go_roundw
       case rel => exact ⟨a + 1, by have := HA.out; omega, by go_num, by rw [HN.out], HBQ.out⟩
       case measure => have := HA.out; simp [intOf]; omega
    ·obtain rfl : a = L.length := by omega
     have HNX := hide (HNB.out L)
     have HBI5 := hide (ints_later HBI4.out HBZ2.out)
     have HLI5 := hide (ints_later HLI.out HBZ2.out)
     have HFB := hide (HB4.out.trans (HBZ2.out.mono HB4.out.size))
     have c0 := (BO5.out.later HBZ2.out).cell 0 rfl
     have HC1 := hide (rfirst_any (natsO L) BZ _ _ wr HLI5.out.at HBI5.out.at)
     obtain ⟨g, hg⟩ : ∃ g, IA L L.length 0 = g := ⟨_, rfl⟩
     rw [hg] at HNX ⊢
     rw [← HNX.out] at HSN
     clear hg
     cases g
     ·have HN : Hid (natsO (AK (S + 1)) = BZ) := hide (by
       rw [← HBZ.out]
       have h := HSN.out; rw [Bool.false_and, if_neg (by decide)] at h; rw [h])
      go_wp2_with fail
      clear c0
      go_roundw
      case rel => exact ⟨S + 1, _, by have := HS.out; omega, by go_num, rfl, by rw [HN.out]; exact HBI5.out, HFB.out⟩
      case measure => have := HS.out; simp [intOf]; omega
     ·by_cases e1 : BZ.length < L.length
      ·have hd1 : decide (BZ.length < L.length) = true := decide_eq_true e1
       have HN : Hid (natsO (AK (S + 1)) = natsO L) := hide (by
        have h := HSN.out; rw [hd1, Bool.true_or, Bool.true_and, if_pos rfl] at h; rw [h])
       go_wp2_with fail
       clear e1 hd1
       clear c0
       go_roundw
       case rel => exact ⟨S + 1, _, by have := HS.out; omega, by go_num, rfl, by rw [HN.out]; exact HLI5.out, HFB.out⟩
       case measure => have := HS.out; simp [intOf]; omega
      ·have hd1 : decide (BZ.length < L.length) = false := decide_eq_false e1
       by_cases e2 : L.length = BZ.length
       ·have hd2 : (L.length == BZ.length) = true := beq_iff_eq.2 e2
        have hd3 : ((L.length : Int) == (BZ.length : Int)) = true := beq_iff_eq.2 (by omega)
        have hd4 : decide (L.length = BZ.length) = true := decide_eq_true e2
        have HSM := hide HSN.out
        rw [hd1, hd4, Bool.false_or, Bool.true_and, Bool.true_and] at HSM
        generalize firstB (natsO L) BZ = fb at *
        clear e1 e2 HSN
        cases fb
        ·have HN : Hid (natsO (AK (S + 1)) = BZ) := hide (by
          rw [← HBZ.out]
          have h := HSM.out; rw [if_neg (by decide)] at h; rw [h])
         go_wp2_with fail
         refine HC1.out.mono ?_
         rintro e w6 ⟨rfl, hb6⟩
         have HBI6 := hide (ints_later HBI5.out hb6)
         have HFB6 := hide (HFB.out.trans (hb6.mono HFB.out.size))
         clear hb6
         go_wp2_with fail
         clear hd1 hd2 hd3 hd4
         clear c0
         go_roundw
         case rel => exact ⟨S + 1, _, by have := HS.out; omega, by go_num, rfl, by rw [HN.out]; exact HBI6.out, HFB6.out⟩
         case measure => have := HS.out; simp [intOf]; omega
        ·have HN : Hid (natsO (AK (S + 1)) = natsO L) := hide (by
          have h := HSM.out; rw [if_pos rfl] at h; rw [h])
         go_wp2_with fail
         refine HC1.out.mono ?_
         rintro e w6 ⟨rfl, hb6⟩
         have HLI6 := hide (ints_later HLI5.out hb6)
         have HFB6 := hide (HFB.out.trans (hb6.mono HFB.out.size))
         clear hb6
         go_wp2_with fail
         clear hd1 hd2 hd3 hd4
         clear c0
         go_roundw
         case rel => exact ⟨S + 1, _, by have := HS.out; omega, by go_num, rfl, by rw [HN.out]; exact HLI6.out, HFB6.out⟩
         case measure => have := HS.out; simp [intOf]; omega
       ·have hd2 : (L.length == BZ.length) = false := beq_eq_false_iff_ne.2 e2
        have hd3 : ((L.length : Int) == (BZ.length : Int)) = false := beq_eq_false_iff_ne.2 (by omega)
        have hd4 : decide (L.length = BZ.length) = false := decide_eq_false e2
        have HN : Hid (natsO (AK (S + 1)) = BZ) := hide (by
         rw [← HBZ.out]
         have h := HSN.out; rw [hd1, hd4, Bool.false_or, Bool.false_and, Bool.and_false, if_neg (by decide)] at h; rw [h])
        clear e1 e2
        go_wp2_with fail
        clear hd1 hd2 hd3 hd4
        clear c0
        go_roundw
        case rel => exact ⟨S + 1, _, by have := HS.out; omega, by go_num, rfl, by rw [HN.out]; exact HBI5.out, HFB.out⟩
        case measure => have := HS.out; simp [intOf]; omega
  ·obtain rfl : S = T := by omega
   have HR1 : Hid (IntsIn (frm w.heap.size wr) (.slice ba (natsO (AK S)).length bc) (natsO AX)) := hide (by rw [HAE.out]; exact HBI.out.keeps (keeps_frm_le _ HW3.out.size))
   have HF := hide (below2 HW3.out HBF.out)
   go_wp2_with fail
   go_ret2
   exact ⟨_, rfl, HR1.out, HF.out⟩
end Go.Proofs.YtnidcoinfmcffaaDoor
namespace Go.Proofs.YtnidcoinfmcffaaDoor
open Go.RowKit
attribute [local go_sem] Oper.semAt_some
theorem rlevels_no (o : OrderD) (pv : Value) (w : World) (hp : PairsIn w.cell? pv o.pairs) (hv : validO o = false) : Calls Tryd.prog 51 #[orderV o.n pv] w (Ret (.tuple #[.slice none 0 0, .int .i64 150]) w) := by
 have HLI := hide (fun W (hb : Below w.heap.size w W) => rline_no o pv W (RecIn.below hb hp) hv)
 obtain ⟨on, ps⟩ := o
 obtain ⟨pa, pm, rfl, -, -, -⟩ := id hp
 clear hp hv
 go_enter Tryd.func51, Tryd.ntmps51
 go_wp2_with fail
 generalize hX1 : World.alloc w _ = X1
 have zX1 : X1.heap.size = w.heap.size + 1 := by rw [← hX1]; simp
 have bX1 : Below w.heap.size w X1 := by rw [← hX1]; exact bal w _
 have bO : Blk X1 (w.heap.size) [.int .i64 on, .slice pa ps.length pm] 25 := by rw [← hX1]; exact Blk.newA w _ (by first | rfl | simp)
 have Xb := bX1
 have Xz := zX1
 clear hX1 zX1 bX1
 have c0 := bO.cell 0 rfl
 have c1 := bO.cell 1 rfl
 go_wp2_with fail
 refine (HLI.out _ Xb).mono ?_
 rintro e w1 ⟨rfl, hb⟩
 have hw := below2 Xb hb
 clear c0 c1 bO hb Xb Xz
 go_wp2_with fail
 go_ret2
 exact ⟨rfl, hw⟩
theorem wrap_p1 {x : Nat} (h : x < 8) : IntKind.i64.wrap ((x : Int) + 1) = (x : Int) + 1 := IntWalk.i64_in _ ⟨by omega, by omega⟩
set_option maxRecDepth 100000 in
set_option maxHeartbeats 4000000 in
theorem rlevels_yes (n : Nat) (ps : List (Int × Int)) (pv : Value) (w : World) (hp : PairsIn w.cell? pv ps) (hv : validO ⟨n, ps⟩ = true) : Calls Tryd.prog 51 #[orderV n pv] w (IntsEQ (natsO ((List.range n).map (levO n (beforeO ⟨n, ps⟩)))) w) := by
 have HLI := hide (fun W (hb : Below w.heap.size w W) => rline_yes n ps pv W (RecIn.below hb hp) hv)
 obtain ⟨pa, pm, rfl, -, -, -⟩ := id hp
 have hf : formedO ⟨(n : Int), ps⟩ = true := by unfold validO at hv; rw [Bool.and_eq_true] at hv; exact hv.1
 have hn8 : n ≤ 8 := by
  have := (formed_n hf).1.2
  simp only at this
  omega
 have HPO := hide (show PoO n (beforeO ⟨n, ps⟩) from before_po hv)
 have HVA := hide (fun W (hb : Below w.heap.size w W) => by
  have h := rvalid_any ⟨(n : Int), ps⟩ (.slice pa ps.length pm) W (RecIn.below hb hp)
  rw [hv] at h
  exact h)
 have HBE := hide (fun W (hb : Below w.heap.size w W) => rbefore_any n ps (.slice pa ps.length pm) W (RecIn.below hb hp) hf)
 generalize beforeO ⟨(n : Int), ps⟩ = R at *
 clear hp hv hf
 have HLS := hide (line_is HPO.out)
 have HST := hide ((line_is HPO.out).start HPO.out)
 have HNX := hide (fun (l : List Nat) b (hs : StartO n R (l ++ [b])) => lev_round HPO.out hs)
 have HLL := hide (levL_len n R)
 have HL0 := hide (levL_nil n R)
 have HLL2 := hide (levL_line HLS.out)
 have HLT := hide (fun (l : List Nat) {x : Nat} (hx : x < n) => levL_lt HPO.out l hx)
 have HSU := hide (fun (f : Nat → Nat) x l k (h : k < l.length) => supF_take (R := R) (f := f) (x := x) (l := l) (k := k) h)
 have HIR := hide HPO.out.irr
 have HSL := hide (fun (f : Nat → Nat) x (l : List Nat) (hf : ∀ a ∈ l, f a < 8) => (show supF R f x l 0 ≤ 8 by
  rcases supF_att (R := R) (f := f) (x := x) l 0 with h | ⟨a, ha, -, h⟩
  ·rw [h]; omega
  ·rw [h]; have := hf a ha; omega))
 have HLG := hide (fun (l : List Nat) {x : Nat} (hx : x < n) (hn : x ∉ l) => (show (levL n R l).getD x 0 = 0 by rw [levL_get hx, if_neg hn]))
 have hmk := @mkInts n (by omega)
 generalize levL n R = LV at *
 generalize lineO n R = LO at *
 go_enter Tryd.func51, Tryd.ntmps51
 go_wp2_with fail
 generalize hX1 : World.alloc w _ = X1
 have zX1 : X1.heap.size = w.heap.size + 1 := by rw [← hX1]; simp
 have bX1 : Below w.heap.size w X1 := by rw [← hX1]; exact bal w _
 have bO : Blk X1 (w.heap.size) [.int .i64 n, .slice pa ps.length pm] 25 := by rw [← hX1]; exact Blk.newA w _ (by first | rfl | simp)
 have Xb := bX1
 have Xz := zX1
 clear hX1 zX1 bX1
 have c0 := bO.cell 0 rfl
 have c1 := bO.cell 1 rfl
 go_wp2_with fail
 refine (HLI.out _ Xb).mono ?_
 rintro e w1 ⟨lv, rfl, hv, hb⟩
 have HW := hide (below2 Xb hb)
 replace bO := bO.later hb
 have hll : (natsO LO).length = n := by rw [natsO_ln, HLS.out.len]
 have hi1 := hv.at
 obtain ⟨la, lc, rfl, -, -, -⟩ := id hi1
 rw [hll] at hi1 ⊢
 have HI1 := hide hi1
 have HLEN := hide hll
 clear c0 c1 hb Xb Xz hv hi1 hll
 have c0 := bO.cell 0 rfl
 have c1 := bO.cell 1 rfl
 go_wp2_with fail
 refine (HBE.out _ HW.out).mono ?_
 rintro e w2 ⟨rfl, hb2⟩
 have HW2 := hide (below2 HW.out hb2)
 have BO2 := hide (bO.later hb2)
 have HI2 := hide (ints_low HI1.out hb2)
 clear c0 c1 hb2 bO HW HVA HBE HLI HI1
 have c0 : w2.cell? ⟨w.heap.size, 0, none⟩ = some (.int .i64 (n : Nat)) := BO2.out.cell 0 rfl
 go_wp2_with (refine wp_store_new rfl _ _ rfl R rfl rfl rfl ?_; intro W2 bM hb2; have BO3 := hide (BO2.out.later hb2); have HW3 := hide (below2 HW2.out hb2); have HI3 := hide (ints_low HI2.out hb2); have BM := hide bM; have c1 := BO3.out.cell 0 rfl; clear bM hb2 HW2 BO2 HI2 c0)
 obtain ⟨mb, hmb⟩ : ∃ mb, w2.heap.size = mb := ⟨_, rfl⟩
 obtain ⟨ob, hob⟩ : ∃ ob, W2.heap.size = ob := ⟨_, rfl⟩
 generalize hZ : World.alloc W2 _ = Z1
 have hZb : Below W2.heap.size W2 Z1 := by rw [← hZ]; exact bal W2 _
 have bL0 : Blk Z1 W2.heap.size ((List.replicate n (0 : Int)).map (Value.int .i64)) 3 := by rw [← hZ]; exact Blk.newA W2 _ (by simp)
 have bL1 : Blk Z1 ob ((natsO (LV (LO.take 0))).map (Value.int .i64)) 3 := by
  rw [← hob, show LO.take 0 = [] from rfl, HL0.out]
  unfold natsO
  rw [List.map_replicate]
  exact bL0
 have hG0 : LevG w Z1 ob (LV (LO.take 0)) Z1 := ⟨below2 HW3.out hZb, Eff.of_below (Below.refl _ _) _, bL1⟩
 have HMB : Hid (Blk Z1 mb (relL R) 62) := hide (by rw [← hmb]; exact BM.out.later hZb)
 have HMO : Hid (mb ≠ ob) := hide (by rw [← hmb, ← hob]; have := BM.out.lt; omega)
 have HOB : Hid (w.heap.size ≤ ob) := hide (by rw [← hob]; exact HW3.out.size)
 have HCL : Hid (∀ k, k < n → ∃ b o, la = some ⟨b, o, none⟩ ∧ b ≠ ob ∧ Z1.cell? ⟨b, o + k, none⟩ = some (.int .i64 (LO.getD k 0 : Nat))) := hide (fun k hk => by
  obtain ⟨b, o, e, hc⟩ := intsR_at HI3.out (i := k) (by rw [HLEN.out]; exact hk)
  rw [natsO_getD] at hc
  exact ⟨b, o, e, by have := lt_of_cell hc; rw [← hob]; intro h; have : b < W2.heap.size := this; omega, keep hZb hc⟩)
 have HLO : Hid (∀ k, k < n → ∃ b : Nat, LO.getD k 0 = b ∧ b < n ∧ LO.take (k + 1) = LO.take k ++ [b] ∧ StartO n R (LO.take k ++ [b])) := hide (fun k hk => by
  have hk' : k < LO.length := by rw [HLS.out.len]; exact hk
  have ht := take_succ' LO k 0 hk'
  refine ⟨_, rfl, ?_, ht, ?_⟩
  ·exact (HLS.out.mem _).1 (getD_mem LO k hk')
  ·rw [← ht]
   have h := HST.out
   rw [← List.take_append_drop (k + 1) LO] at h
   exact h.left)
 rw [hmb, hob]
 clear hmb hob hZ hZb bL0 bL1 hmk c1 BO3 HI3 BM
 have hnI : (n : Int) ≤ 9223372036854775807 := by omega
 go_loopw [8] (fun i wr => ∃ k : Nat, k ≤ n ∧ i = .int .i64 k ∧ LevG w Z1 ob (LV (LO.take k)) wr) (fun i _ => n - (intOf i).toNat)
 case atStart => exact ⟨0, by omega, rfl, hG0⟩
 case round =>
  obtain ⟨k, hk, rfl, hG⟩ := hrel
  by_cases hlk : k < n
  ·have hlkI : (k : Int) < n := by omega
   have HK := hide hlk
   obtain ⟨b, hb0, hbn, htk, hst⟩ := HLO.out k hlk
   have HB0 := hide hb0
   have HNX' := hide (HNX.out _ _ hst)
   have HTK := hide htk
   have HKL : Hid (k < LO.length) := hide (by rw [HLS.out.len]; exact hlk)
   have HBN := hide hbn
   obtain ⟨f, hf⟩ : ∃ f : Nat → Nat, f = fun a => (LV (LO.take k)).getD a 0 := ⟨_, rfl⟩
   have HF8 := hide (fun a (ha : a < n) => (show f a < 8 by rw [hf]; have := HLT.out (LO.take k) ha; show (LV (LO.take k)).getD a 0 < 8; omega))
   have HFA := hide (fun a => (show (LV (LO.take k)).getD a 0 = f a by rw [hf]))
   rw [← hf] at HNX'
   have HLV := hide (HLL.out (LO.take k))
   have HG0 := hide (HLG.out (LO.take k) hbn (fun hm => (List.nodup_append.1 hst.nod).2.2 b hm b (by simp) rfl))
   generalize LV (LO.take k) = l0 at *
   have hG1 : LevG w Z1 ob (l0.set b (supF R f b (LO.take 0) 0)) wr := by
    have e : l0.set b (supF R f b (LO.take 0) 0) = l0 := set_zero _ _ HG0.out
    rw [e]; exact hG
   clear hb0 hst htk hf hG hbn
   go_wp2_with fail
   go_loopw [9] (fun j wz => ∃ a : Nat, a ≤ k ∧ j = .int .i64 a ∧ LevG w Z1 ob (l0.set b (supF R f b (LO.take a) 0)) wz) (fun j _ => k - (intOf j).toNat)
   case atStart => exact ⟨0, by omega, rfl, hG1⟩
   case round =>
    clear hG1
    obtain ⟨a, ha, rfl, hG⟩ := hrel
    by_cases hla : a < k
    ·have hlaI : (a : Int) < k := by omega
     have HA := hide hla
     have hkn : k < n := HK.out
     have hknI : (k : Int) < n := by omega
     have hanI : (a : Int) < n := by omega
     obtain ⟨lb, lo, rfl, hlb, hck⟩ := HCL.out k hkn
     obtain ⟨lb', lo', e', -, hca⟩ := HCL.out a (by omega)
     cases e'
     rw [HB0.out] at hck
     have hSU := HSU.out f b LO a (by have := HKL.out; omega)
     have hxn : LO.getD a 0 < n := (HLS.out.mem _).1 (getD_mem LO a (d := 0) (by have := HKL.out; omega))
     obtain ⟨x, hx⟩ : ∃ x, LO.getD a 0 = x := ⟨_, rfl⟩
     rw [hx] at hca hSU hxn
     have hck2 := hG.cell (by exact hlb) hck
     have hca2 := hG.cell (by exact hlb) hca
     have hb8 : b < 8 := by have := HBN.out; omega
     have hx8 : x < 8 := by omega
     have hb8I : (b : Int) < 8 := by omega
     have hx8I : (x : Int) < 8 := by omega
     have hbnI : (b : Int) < n := by have := HBN.out; omega
     have hxnI : (x : Int) < n := by omega
     have hcr := (hG.blk HMB.out HMO.out).cell _ (relL_get R hx8 hb8)
     have q1 : ∀ j : Bw wr.heap.size wr, j.W.cell? ⟨lb, lo + k, none⟩ = some (.int .i64 (b : Nat)) := bwc hck2
     have q2 : ∀ j : Bw wr.heap.size wr, j.W.cell? ⟨lb, lo + a, none⟩ = some (.int .i64 (x : Nat)) := bwc hca2
     have q3 : ∀ j : Bw wr.heap.size wr, j.W.cell? ⟨mb, x * 8 + b, none⟩ = some (.bool (R x b)) := bwc hcr
     cases hr : R x b
     ·rw [hr] at q3 hSU
      have HN := hide (show supF R f b (LO.take (a + 1)) 0 = supF R f b (LO.take a) 0 by rw [hSU]; rfl)
      have HG := hide hG
      clear hG hr hSU hck2 hca2 hcr hck hca hx
      go_upto_region 12 with (fail)
      refine wp_region_bw (by kernel_rfl) (by kernel_rfl) ?_
      repeat (go_big_quiet_step (fail))
      refine wpQuiet_nil ?_
      rintro _ ⟨j, rfl⟩
      clear q1 q2 q3
      have HG2 := hide (HG.out.later j.h)
      go_wp2_with fail
      go_roundw
      case rel => exact ⟨a + 1, by have := HA.out; omega, by go_num, by rw [HN.out]; exact HG2.out⟩
      case measure => have := HA.out; simp [intOf]; omega
     ·rw [hr] at q3 hSU
      have hxb : x ≠ b := fun e => by rw [e, HIR.out b] at hr; cases hr
      have HN := hide (show supF R f b (LO.take (a + 1)) 0 = max (supF R f b (LO.take a) 0) (f x + 1) by rw [hSU]; rfl)
      have hs8 := HSL.out f b (LO.take a) (fun y hy => HF8.out y ((HLS.out.mem y).1 (List.mem_of_mem_take hy)))
      have hf8 := HF8.out x hxn
      have HG := hide hG
      clear hG hr hSU hck2 hca2 hcr hck hca hx
      go_upto_region 12 with (fail)
      refine wp_region_bw (by kernel_rfl) (by kernel_rfl) ?_
      repeat (go_big_quiet_step (fail))
      refine wpQuiet_nil ?_
      rintro _ ⟨j, rfl⟩
      have HG2 := hide (HG.out.later j.h)
      have hck2 := q1 j
      have hca2 := q2 j
      clear q1 q2 q3
      generalize j.W = wq at *
      have hlv := HLV.out
      have ob1 := HG2.out.done.cell b (natsO_get (l := l0.set b (supF R f b (LO.take a) 0)) (by rw [List.length_set, hlv]; exact HBN.out))
      rw [setC' (by rw [hlv]; exact HBN.out)] at ob1
      have ox := HG2.out.done.cell x (natsO_get (l := l0.set b (supF R f b (LO.take a) 0)) (by rw [List.length_set, hlv]; exact hxn))
      rw [setN' hxb, HFA.out] at ox
      obtain ⟨s, hs⟩ : ∃ s, supF R f b (LO.take a) 0 = s := ⟨_, rfl⟩
      obtain ⟨fx, hfx⟩ : ∃ fx, f x = fx := ⟨_, rfl⟩
      rw [hs] at ob1 HN HG2 hs8
      rw [hfx] at ox HN hf8
      have hwf := wrap_p1 hf8
      have hmx : (if (s : Int) < (fx : Int) + 1 then (fx : Int) + 1 else s) = ((max s (fx + 1) : Nat) : Int) := by split <;> omega
      have HLN2 : Hid (b < (l0.set b s).length) := hide (by rw [List.length_set, hlv]; exact HBN.out)
      clear hs hfx hlv hs8 hf8 hxb
      go_upto_region 13 with (fail)
      refine wp_region_still_tail 22 (by kernel_rfl) (by kernel_rfl) ?_
      simp only [List.take_succ_cons, List.take_zero, List.drop_succ_cons, List.drop_zero]
      repeat (with_reducible refine wpStill_step (fun K hK => ?_) ; go_simp ; with_reducible refine hK _ ?_ ; clear hK K)
      refine wpStill_nil ?_
      change wpList _ _ _ _ _ wq.drew
      have hbd : Below wq.heap.size wq wq.drew := (Below.refl _ _).drew
      generalize World.drew wq = V2 at hbd ⊢
      have hG2 := HG2.out.later hbd
      have z0 := hG2.done.cell b (natsO_get (l := l0.set b s) HLN2.out)
      have zf := hG2.done.frozen b
      have HG3 : Hid (LevG w Z1 ob (l0.set b (supF R f b (LO.take (a + 1)) 0)) (V2.setCell ⟨ob, b, none⟩ (.int .i64 ((max s (fx + 1) : Nat) : Int)))) := hide (by
       refine ⟨hG2.hb.setCell (p := ⟨ob, b, none⟩) HOB.out _, hG2.hE.trans (Eff.setCell _ _ _ _), ?_⟩
       have h := hG2.done.set b (.int .i64 ((max s (fx + 1) : Nat) : Int))
       rw [natsO_set, List.set_set] at h
       rw [HN.out]
       exact h)
      clear hG2 hbd HG ob1 ox hck2 hca2
      go_wp2_with fail
      clear z0 zf hmx hwf
      go_roundw
      case rel => exact ⟨a + 1, by have := HA.out; omega, by go_num, HG3.out⟩
      case measure => have := HA.out; simp [intOf]; omega
    ·obtain rfl : a = k := by omega
     have HGF : Hid (LevG w Z1 ob (LV (LO.take (a + 1))) wr) := hide (by rw [HTK.out, HNX'.out]; exact hG)
     clear hG
     go_wp2_with fail
     go_roundw
     case rel => exact ⟨a + 1, by have := HK.out; omega, by go_num, HGF.out⟩
     case measure => have := HK.out; simp [intOf]; omega
  ·obtain rfl : k = n := by omega
   have hlen : (LV (LO.take k)).length = k := HLL.out _
   have HR1 : Hid (IntsIn (frm w.heap.size wr) (.slice (some ⟨ob, 0, none⟩) k k) (natsO ((List.range k).map (levO k R)))) := hide (by
    rw [← HLL2.out]
    have e : LO.take k = LO := by rw [← HLS.out.len]; exact List.take_length
    rw [e] at hG hlen
    exact blkI_in hG.done hlen (by omega) HOB.out)
   have HF := hide hG.hb
   clear hG hlen
   go_wp2_with fail
   go_ret2
   exact ⟨_, rfl, HR1.out, HF.out⟩
end Go.Proofs.YtnidcoinfmcffaaDoor
