/- The reference of chapter 15: Valid, Before, has, listed, Close. Conditions: how the order lies in memory. -/
import Derived.Test.YtnidcoinfmcffaaDoorOvD
import Derived.Test.YtnidcoinfmcffaaDoorOsE
namespace Go.Proofs.YtnidcoinfmcffaaDoor
open Go.RowKit
attribute [local go_sem] Oper.semAt_some
def rowL (R : RelO) (a : Nat) : List Value := (List.range 8).map fun b => .bool (R a b)
theorem index_rel (R : RelO) (w : World) : ∀ a : Nat, a < 8 → (Instr.index 62 (relV R) (.int .i64 (a : Nat))).run Tryd.prog w = .ok (.agg (rowL R a).toArray) w
 | 0, _ => by kernel_rfl
 | 1, _ => by kernel_rfl
 | 2, _ => by kernel_rfl
 | 3, _ => by kernel_rfl
 | 4, _ => by kernel_rfl
 | 5, _ => by kernel_rfl
 | 6, _ => by kernel_rfl
 | 7, _ => by kernel_rfl
 | n + 8, h => by omega
theorem index_row (R : RelO) (a : Nat) (w : World) : ∀ b : Nat, b < 8 → (Instr.index 60 (.agg (rowL R a).toArray) (.int .i64 (b : Nat))).run Tryd.prog w = .ok (.bool (R a b)) w
 | 0, _ => by kernel_rfl
 | 1, _ => by kernel_rfl
 | 2, _ => by kernel_rfl
 | 3, _ => by kernel_rfl
 | 4, _ => by kernel_rfl
 | 5, _ => by kernel_rfl
 | 6, _ => by kernel_rfl
 | 7, _ => by kernel_rfl
 | n + 8, h => by omega
theorem acyc_some {n : Nat} {R : RelO} {a : Nat} (ha : a < n) (h : R a a = true) : acycO n R = false := by
 unfold acycO
 cases e : (List.range n).all fun a => !R a a with
 | false => rfl
 | true =>
  rw [List.all_eq_true] at e
  have := e a (List.mem_range.2 ha)
  rw [h] at this; cases this
theorem acyc_succ (R : RelO) (k : Nat) : acycO (k + 1) R = (acycO k R && !R k k) := by
 unfold acycO
 rw [List.range_succ, List.all_append, List.all_cons, List.all_nil, Bool.and_true]
set_option maxRecDepth 100000 in
set_option maxHeartbeats 2000000 in
theorem rvalid_any (o : OrderD) (pv : Value) (w : World) (hp : PairsIn w.cell? pv o.pairs) : Calls Tryd.prog 38 #[orderV o.n pv] w (Ret (.bool (validO o)) w) := by
 have HFO := hide (fun W (hb : Below w.heap.size w W) => rformed_any o pv W (RecIn.below hb hp))
 obtain ⟨on, ps⟩ := o
 obtain ⟨pa, pm, rfl, -, -, -⟩ := id hp
 cases hF : formedO ⟨on, ps⟩
 ·have hV : validO ⟨on, ps⟩ = false := by unfold validO; rw [hF]; rfl
  have HV := hide hV
  rw [hF] at HFO
  clear hF hV
  go_enter Tryd.func38, Tryd.ntmps38
  go_wp2_with fail
  generalize hX1 : World.alloc w _ = X1
  have zX1 : X1.heap.size = w.heap.size + 1 := by rw [← hX1]; simp
  have bX1 : Below w.heap.size w X1 := by rw [← hX1]; exact bal w _
  have bO : Blk X1 (w.heap.size) [.int .i64 on, .slice pa ps.length pm] 25 := by rw [← hX1]; exact Blk.newA w _ (by first | rfl | simp)
  have Xb := bX1
  have Xz := zX1
  clear hX1 zX1 bX1
  have c0 := bO.cell 0 rfl
  have c1 := bO.cell 1 rfl
  go_wp2_with fail
  refine (HFO.out _ Xb).mono ?_
  rintro e w1 ⟨rfl, hb1⟩
  have hw1 := below2 Xb hb1
  clear c0 c1 bO hb1 Xb Xz
  go_wp2_with fail
  go_ret
  exact ⟨by rw [HV.out]; rfl, hw1⟩
 ·obtain ⟨⟨h0, hn8⟩, -, -⟩ := formed_n hF
  simp only at h0 hn8
  obtain ⟨n, rfl⟩ : ∃ n : Nat, on = n := ⟨on.toNat, by omega⟩
  have HBE := hide (fun W (hb : Below w.heap.size w W) => rbefore_any n ps (.slice pa ps.length pm) W (RecIn.below hb hp) hF)
  have hV : validO ⟨n, ps⟩ = acycO n (beforeO ⟨n, ps⟩) := by unfold validO; rw [hF, Bool.true_and, Int.toNat_natCast]
  have HV := hide hV
  have hn8' : n ≤ 8 := by omega
  rw [hF] at HFO
  generalize validO ⟨n, ps⟩ = V at *
  generalize beforeO ⟨n, ps⟩ = R at *
  clear hF hV h0 hn8 hp
  go_enter Tryd.func38, Tryd.ntmps38
  go_wp2_with fail
  generalize hX1 : World.alloc w _ = X1
  have zX1 : X1.heap.size = w.heap.size + 1 := by rw [← hX1]; simp
  have bX1 : Below w.heap.size w X1 := by rw [← hX1]; exact bal w _
  have bO : Blk X1 (w.heap.size) [.int .i64 n, .slice pa ps.length pm] 25 := by rw [← hX1]; exact Blk.newA w _ (by first | rfl | simp)
  have Xb := bX1
  have Xz := zX1
  clear hX1 zX1 bX1
  have c0 := bO.cell 0 rfl
  have c1 := bO.cell 1 rfl
  go_wp2_with fail
  refine (HFO.out _ Xb).mono ?_
  rintro e w1 ⟨rfl, hb1⟩
  have hw1 := below2 Xb hb1
  replace bO := bO.later hb1
  clear c0 c1 hb1 Xb Xz
  have c0 := bO.cell 0 rfl
  have c1 := bO.cell 1 rfl
  go_wp2_with fail
  refine (HBE.out _ hw1).mono ?_
  rintro e w2 ⟨rfl, hb2⟩
  have HW2 := hide (below2 hw1 hb2)
  have BO2 := hide (bO.later hb2)
  clear c0 c1 hb2 hw1 bO HFO HBE
  go_wp2_with (refine wp_store_new rfl _ _ rfl R rfl rfl rfl ?_; intro W2 bR hb2; have BO3 := hide (BO2.out.later hb2); have HW3 := hide (below2 HW2.out hb2); have BR := hide bR; clear bR hb2 HW2 BO2)
  go_loopw [4] (fun i wr => ∃ k : Nat, k ≤ n ∧ i = .int .i64 k ∧ acycO k R = true ∧ wr = W2) (fun i _ => n - (intOf i).toNat)
  case atStart => exact ⟨0, by omega, rfl, rfl, rfl⟩
  case round =>
   obtain ⟨k, hk, rfl, hac, hwr⟩ := hrel
   obtain rfl := hwr
   have c0 := BO3.out.cell 0 rfl
   have HAC := hide hac
   clear hac
   by_cases hlk : k < n
   ·have hlkI : (k : Int) < n := by omega
    have HK := hide hlk
    have hk8 : k < 8 := by omega
    have hk8I : (k : Int) < 8 := by omega
    have t0 := BR.out.cell _ (relL_get R hk8 hk8)
    have HS := hide (acyc_succ R k)
    rw [HAC.out, Bool.true_and] at HS
    have HNO := hide (fun h => acyc_some (n := n) (R := R) (a := k) HK.out h)
    cases hr : R k k
    ·rw [hr] at t0 HS
     clear hr HNO
     go_wp2_with fail
     clear c0 t0
     go_roundw
     case rel => exact ⟨k + 1, by have := HK.out; omega, by go_num, by rw [HS.out]; rfl, by trivial⟩
     case measure => have := HK.out; simp [intOf]; omega
    ·rw [hr] at t0 HNO
     have HN := hide (HNO.out rfl)
     clear hr HNO
     go_wp2_with fail
     go_ret
     exact ⟨by rw [HV.out, HN.out]; rfl, HW3.out⟩
   ·obtain rfl : k = n := by omega
    go_wp2_with fail
    go_ret
    exact ⟨by rw [HV.out, HAC.out]; rfl, HW3.out⟩
set_option maxRecDepth 100000 in
set_option maxHeartbeats 2000000 in
theorem rhas_any (l : List Int) (n : Int) (v : Value) (w : World) (hv : IntsIn w.cell? v l) : Calls Tryd.prog 40 #[v, .int .i64 n] w (fun e w' => e = .returned (.bool (l.any fun y => decide (y = n))) ∧ w' = w) := by
 obtain ⟨a, c, rfl, hlc, hcm, hc⟩ := hv
 have hlI : (l.length : Int) ≤ 9223372036854775807 := by omega
 have HC := hide hc
 obtain ⟨F, HI⟩ : ∃ F, Hid (F = l.any fun y => decide (y = n)) := ⟨_, hide rfl⟩
 rw [show (l.any fun y => decide (y = n)) = F from HI.out.symm]
 clear hc hlc hcm
 go_enter Tryd.func40, Tryd.ntmps40
 go_wp2_with fail
 go_loopw [5] (fun i wr => ∃ k : Nat, k ≤ l.length ∧ i = .int .i64 k ∧ (l.take k).any (fun y => decide (y = n)) = false ∧ wr = w) (fun i _ => l.length - (intOf i).toNat)
 case atStart => exact ⟨0, by omega, rfl, rfl, rfl⟩
 case round =>
  obtain ⟨k, hk, rfl, hac, hwr⟩ := hrel
  obtain rfl := hwr
  have HAC := hide hac
  clear hac
  by_cases hlk : k < l.length
  ·have hlkI : (k : Int) < l.length := by omega
   have HK := hide hlk
   obtain ⟨b, o, rfl, hcl⟩ := HC.out k hlk
   have HS : Hid ((l.take (k + 1)).any (fun y => decide (y = n)) = decide (l.getD k 0 = n)) := hide (by
    rw [take_succ' l k 0 hlk, List.any_append, HAC.out, List.any_cons, List.any_nil, Bool.or_false, Bool.false_or])
   have HYE : Hid (l.getD k 0 = n → F = true) := hide (fun h => by
    rw [HI.out, List.any_eq_true]
    exact ⟨_, getD_mem l k (d := 0) hlk, decide_eq_true h⟩)
   obtain ⟨x, hx⟩ : ∃ x, l.getD k 0 = x := ⟨_, rfl⟩
   rw [hx] at hcl HS HYE
   clear hx
   by_cases e : x = n
   ·have HN := hide (HYE.out e)
    subst e
    go_wp2_with fail
    go_ret
    exact ⟨by rw [HN.out]; rfl, rfl⟩
   ·have he : (x == n) = false := beq_eq_false_iff_ne.2 e
    have HE := hide e
    clear e
    go_wp2_with fail
    go_roundw
    case rel => exact ⟨k + 1, by have := HK.out; omega, by go_num, by rw [HS.out]; exact decide_eq_false HE.out, by trivial⟩
    case measure => have := HK.out; simp [intOf]; omega
  ·obtain rfl : k = l.length := by omega
   have HN : Hid (F = false) := hide (by rw [HI.out]; have h := HAC.out; rwa [List.take_length] at h)
   go_wp2_with fail
   go_ret
   exact ⟨by rw [HN.out]; rfl, rfl⟩
set_option maxRecDepth 100000 in
set_option maxHeartbeats 2000000 in
theorem rlisted_any (n : Nat) (R : RelO) (w : World) (hn : n ≤ 8) : Calls Tryd.prog 73 #[.int .i64 n, relV R] w (OrdQ n (listO n R) w) := by
 have HL0 := hide (listK_all n R)
 have HLN := hide (fun a => listK_next n R a)
 have HLY := hide (fun a b => listK_yes (n := n) (R := R) (a := a) (b := b))
 have HLE := hide (fun a b => listK_len hn R (a := a) (b := b))
 have HLO := hide (fun a b => listK_no (n := n) (R := R) (a := a) (b := b))
 have H00 : Hid (listK n R 0 0 = []) := hide rfl
 generalize listK n R = LK at *
 generalize listO n R = LO at *
 go_enter Tryd.func73, Tryd.ntmps73
 go_wp2_with fail
 generalize hX1 : World.alloc w _ = X1
 have zX1 : X1.heap.size = w.heap.size + 1 := by rw [← hX1]; simp
 have bX1 : Below w.heap.size w X1 := by rw [← hX1]; exact bal w _
 have bT_1 : Blk X1 (w.heap.size) (relL R) 62 := by rw [← hX1]; exact Blk.newA w _ (by first | rfl | simp)
 generalize hX2 : World.alloc X1 _ = X2
 have zX2 : X2.heap.size = w.heap.size + 1 + 1 := by rw [← hX2]; simp [zX1]
 have bX2 : Below X1.heap.size X1 X2 := by rw [← hX2]; exact bal X1 _
 have bR_2 : Blk X2 (w.heap.size + 1) [.int .i64 0, .slice none 0 0] 25 := by rw [← hX2, ← zX1]; exact Blk.newA X1 _ (by first | rfl | simp)
 have bT_2 := bT_1.later bX2
 generalize hX3 : World.alloc X2 _ = X3
 have zX3 : X3.heap.size = w.heap.size + 1 + 1 + 1 := by rw [← hX3]; simp [zX2]
 have bX3 : Below X2.heap.size X2 X3 := by rw [← hX3]; exact bal X2 _
 have bO : Blk X3 (w.heap.size + 1 + 1) [.int .i64 n, .slice none 0 0] 25 := by rw [← hX3, ← zX2]; exact Blk.newA X2 _ (by first | rfl | simp)
 have bT := bT_2.later bX3
 have bR := bR_2.later bX3
 have Xb := below2 (below2 (bX1) bX2) bX3
 have Xz := zX3
 clear hX1 zX1 bX1 hX2 zX2 bX2 hX3 zX3 bX3 bT_1 bT_2 bR_2
 have hsX : w.heap.size + 1 + 1 + 1 ≤ X3.heap.size := by omega
 clear Xz
 go_wp2_with fail
 go_loopw [6] (fun i wr => ∃ (a : Nat) (ov : Value), a ≤ n ∧ i = .int .i64 a ∧ OwnP wr (w.heap.size + 1 + 1 + 1) ov (LK a 0) ∧ Blk wr (w.heap.size + 1 + 1) [.int .i64 n, ov] 25 ∧ Blk wr (w.heap.size + 1) [.int .i64 0, .slice none 0 0] 25 ∧ Blk wr w.heap.size (relL R) 62 ∧ Below w.heap.size w wr ∧ w.heap.size + 1 + 1 + 1 ≤ wr.heap.size) (fun i _ => n - (intOf i).toNat)
 case atStart => exact ⟨0, _, by omega, rfl, by rw [H00.out]; exact OwnR.nil _ _ _ _, bO, bR, bT, Xb, hsX⟩
 case round =>
  obtain ⟨a, ov, ha, rfl, hown, hbO, hbR, hbT, hbr, hsz⟩ := hrel
  by_cases hla : a < n
  ·have hlaI : (a : Int) < n := by omega
   have HA := hide hla
   have ha8 : a < 8 := by omega
   clear bO bR bT Xb
   go_wp2_with fail
   go_loopw [7] (fun j wz => ∃ (b : Nat) (ov : Value), b ≤ n ∧ j = .int .i64 b ∧ OwnP wz (w.heap.size + 1 + 1 + 1) ov (LK a b) ∧ Blk wz (w.heap.size + 1 + 1) [.int .i64 n, ov] 25 ∧ Blk wz (w.heap.size + 1) [.int .i64 0, .slice none 0 0] 25 ∧ Blk wz w.heap.size (relL R) 62 ∧ Below w.heap.size w wz ∧ w.heap.size + 1 + 1 + 1 ≤ wz.heap.size) (fun j _ => n - (intOf j).toNat)
   case atStart => exact ⟨0, _, by omega, rfl, hown, hbO, hbR, hbT, hbr, hsz⟩
   case round =>
    clear hown hbO hbR hbT hbr hsz
    obtain ⟨b, ov, hb, rfl, hown, hbO, hbR, hbT, hbr, hsz⟩ := hrel
    by_cases hlb : b < n
    ·have hlbI : (b : Int) < n := by omega
     have HB := hide hlb
     have hb8 : b < 8 := by omega
     have hb8I : (b : Int) < 8 := by omega
     have ha8I : (a : Int) < 8 := by omega
     have t0 := hbT.cell _ (relL_get R ha8 hb8)
     have hln := HLE.out a b (by omega) (by omega)
     cases hr : R a b
     ·rw [hr] at t0
      have HN := hide (HLO.out a b hr)
      have HOW := hide hown
      have HBB := hide (And.intro hbO (And.intro hbR (And.intro hbT (And.intro hbr hsz))))
      clear hr hown hbO hbR hbT hbr hsz hln
      go_wp2_with fail
      go_roundw
      case rel => exact ⟨b + 1, ov, by have := HB.out; omega, by go_num, by rw [HN.out]; exact HOW.out, HBB.out⟩
      case measure => have := HB.out; simp [intOf]; omega
     ·rw [hr] at t0
      have HN := hide (HLY.out a b hr)
      replace hown : OwnR wr (w.heap.size + 1 + 1 + 1) 46 2 ov ((LK a b).map pairC) := hown
      obtain ⟨oa, oc, rfl⟩ := OwnR.formE hown
      have hln' : ((LK a b).map pairC).length ≤ 72 := by rw [List.length_map]; exact hln
      have HM : Hid (((LK a b).map pairC) ++ [pairC ((a : Int), (b : Int))] = (LK a (b + 1)).map pairC) := hide (by rw [HN.out, List.map_append]; rfl)
      generalize hLL : (LK a b).map pairC = LL at *
      have HBR := hide hbR
      have HBT := hide hbT
      have HBW := hide hbr
      have o1 := hbO.cell 1 rfl
      clear hr hbR hbT hbr hLL HN
      go_wp2_with (at_builtin; refine app_recE infoPair rfl (by decide) Tryd.underlying22 rfl _ _ rfl (w.heap.size + 1 + 1 + 1) _ LL rfl hown (pairC ((a : Int), (b : Int))) rfl pairC_one _ rfl rfl (by omega) (by omega) hsz ?_; intro v3 w3 hO3 hE3 hob3; obtain ⟨g3', c3', rfl⟩ := own_some hO3; have hbO3 : Blk w3 (w.heap.size + 1 + 1) [.int .i64 n, .slice oa LL.length oc] 25 := hbO.eff hE3 (fun e => hown.neT hbO (by decide) e.symm); have r0 := hbO3.cell 1 rfl; have rf := hbO3.frozen 1)
      have hEE : EffE (w.heap.size + 1 + 1 + 1) 46 wr w3 := effE_of_grown hown ⟨hE3.os, hE3.tape, hE3.output, hE3.size, fun b hb hn => hE3.block b hb hn⟩
      have hEY : EffY (w.heap.size + 1 + 1 + 1) 46 (w.heap.size + 1 + 1) wr (w3.setCell ⟨w.heap.size + 1 + 1, 1, none⟩ (.slice (some ⟨g3', 0, none⟩) (LL.length + 1) c3')) := ((EffY.of_below (Below.refl _ _)).app hEE).set 1 _
      have HOW : Hid (OwnP (w3.setCell ⟨w.heap.size + 1 + 1, 1, none⟩ (.slice (some ⟨g3', 0, none⟩) (LL.length + 1) c3')) (w.heap.size + 1 + 1 + 1) (.slice (some ⟨g3', 0, none⟩) (LL.length + 1) c3') (LK a (b + 1))) := hide (by
       have h := OwnR.setO hO3 hbO3 (by decide) (j := 1) (.slice (some ⟨g3', 0, none⟩) (LL.length + 1) c3')
       rw [HM.out] at h
       exact h)
      have HO3 := hide (hbO3.set 1 (.slice (some ⟨g3', 0, none⟩) (LL.length + 1) c3'))
      have HR3 := hide (hEY.blk HBR.out (show w.heap.size + 1 ≠ w.heap.size + 1 + 1 by omega) (by decide))
      have HT3 := hide (hEY.blk HBT.out (show w.heap.size ≠ w.heap.size + 1 + 1 by omega) (by decide))
      have HB3 := hide (keeps_low_effY hEY (show w.heap.size ≤ w.heap.size + 1 + 1 + 1 by omega) (show w.heap.size ≤ w.heap.size + 1 + 1 by omega) HBW.out)
      have HS3 : Hid (w.heap.size + 1 + 1 + 1 ≤ _) := hide (Nat.le_trans hsz hEY.size)
      clear hEY hEE
      go_roundw
      case rel => exact ⟨b + 1, _, by have := HB.out; omega, by go_num, HOW.out, HO3.out, HR3.out, HT3.out, HB3.out, HS3.out⟩
      case measure => have := HB.out; simp [intOf]; omega
    ·obtain rfl : b = n := by omega
     have HOW : Hid (OwnP wr (w.heap.size + 1 + 1 + 1) ov (LK (a + 1) 0)) := hide (by rw [← HLN.out]; exact hown)
     have HBB := hide (And.intro hbO (And.intro hbR (And.intro hbT (And.intro hbr hsz))))
     clear hown hbO hbR hbT hbr hsz
     go_wp2_with fail
     go_roundw
     case rel => exact ⟨a + 1, ov, by have := HA.out; omega, by go_num, HOW.out, HBB.out⟩
     case measure => have := HA.out; simp [intOf]; omega
  ·obtain rfl : a = n := by omega
   obtain ⟨oa, oc, rfl⟩ := OwnR.formE hown
   generalize ((LK a 0).map pairC).length = m at *
   rw [HL0.out] at hown
   have HOW := hide hown
   have o0 := hbO.cell 0 rfl
   have o1 := hbO.cell 1 rfl
   have r0 := hbR.cell 0 rfl
   have r1 := hbR.cell 1 rfl
   have rf0 := hbR.frozen 0
   have rf1 := hbR.frozen 1
   clear hown
   go_wp2_with fail
   have q := (hbR.set 0 (.int .i64 (a : Int))).set 1 (.slice oa m oc)
   have x0 := q.cell 0 rfl
   have x1 := q.cell 1 rfl
   refine bodyPost_ret (v := orderV (a : Int) (.slice oa m oc)) (by simp [results, Tryd.results73, go_sem, x0, x1]) rfl ?_
   exact ⟨_, rfl, OwnP.inF ((HOW.out.setO hbR (by decide) (j := 0) (.int .i64 (a : Int))).setO (hbR.set 0 (.int .i64 (a : Int))) (by decide) (j := 1) (.slice oa m oc)) (show w.heap.size ≤ w.heap.size + 1 + 1 + 1 by omega), (hbr.setCell (p := ⟨w.heap.size + 1, 0, none⟩) (by show w.heap.size ≤ w.heap.size + 1; omega) _).setCell (p := ⟨w.heap.size + 1, 1, none⟩) (by show w.heap.size ≤ w.heap.size + 1; omega) _⟩
end Go.Proofs.YtnidcoinfmcffaaDoor
