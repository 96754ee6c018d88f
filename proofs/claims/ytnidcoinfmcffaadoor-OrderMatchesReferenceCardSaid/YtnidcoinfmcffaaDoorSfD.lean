/- The reference of chapter 15: Cover. Conditions: how the order lies in memory. -/
import Derived.Test.YtnidcoinfmcffaaDoorSfC
import Derived.Test.YtnidcoinfmcffaaDoorSfB
import Derived.Test.YtnidcoinfmcffaaDoorOsY
/- The reference of chapter 15: cycle from the empty list, Cycle. Conditions: how the order lies in memory. -/
namespace Go.Proofs.YtnidcoinfmcffaaDoor
open Go.RowKit
attribute [local go_sem] Oper.semAt_some
set_option maxRecDepth 100000 in
set_option maxHeartbeats 4000000 in
theorem rcyc0_any {n : Nat} {A : RelO} {k : Nat} (hn8 : n ≤ 8) (hk8 : k ≤ 8) (hk2 : 2 ≤ k) (w : World) : Calls Tryd.prog 72 #[.int .i64 (n : Nat), relV A, .slice none 0 0, .int .i64 (k : Nat)] w (CyQ (firstO (fun x => extC n A k (k - 1) [x]) n) w) := by
 obtain ⟨p, hp⟩ : ∃ p : List Nat, p = [] := ⟨_, rfl⟩
 have HIH : Hid (∀ x, x < n → ∀ W v, IntsIn W.cell? v (natsO p ++ [(x : Int)]) → Calls Tryd.prog 72 #[.int .i64 (n : Nat), relV A, v, .int .i64 (k : Nat)] W (CyQ (extC n A k (k - 1) [x]) W)) := hide (fun x hx W v hv => rcyc_any hn8 hk8 (k - 1) [x] v W (by simp) (by simp; omega) (fun y hy => by rw [List.mem_singleton.1 hy]; exact hx) (by rw [hp] at hv; exact hv))
 have HCT0 : Hid (IntsIn w.cell? (.slice none 0 0) (natsO p)) := hide (by rw [hp]; exact IntsIn.nil _)
 have HHA : Hid (∀ (x : Nat) (W : World), Calls Tryd.prog 40 #[.slice none 0 0, .int .i64 (x : Nat)] W (fun e w' => e = .returned (.bool false) ∧ w' = W)) := hide (fun x W => rhas_any [] (x : Int) (.slice none 0 0) W (IntsIn.nil _))
 have hm1 : 0 < 1000000 := by omega
 have hd2 : ((0 : Int) == (k : Int)) = false := beq_eq_false_iff_ne.2 (by omega)
 have hd3 : (0 == k) = false := beq_eq_false_iff_ne.2 (by omega)
 have HF0 : Hid (firstO (fun x => extC n A k (k - 1) [x]) 0 = none) := hide rfl
 have HFN : Hid (∀ x, firstO (fun x => extC n A k (k - 1) [x]) x = none → firstO (fun x => extC n A k (k - 1) [x]) (x + 1) = extC n A k (k - 1) [x]) := hide (fun x h => first_next h)
 have HFH : Hid (∀ x c, x < n → firstO (fun x => extC n A k (k - 1) [x]) x = none → extC n A k (k - 1) [x] = some c → firstO (fun x => extC n A k (k - 1) [x]) n = some c) := hide (fun x c hx h1 h2 => first_hit (f := fun x => extC n A k (k - 1) [x]) h1 h2 hx)
 generalize firstO (fun x => extC n A k (k - 1) [x]) = FO at *
 clear hp
 go_enter Tryd.func72, Tryd.ntmps72
 go_wp2_with fail
 generalize hX1 : World.alloc w _ = X1
 have zX1 : X1.heap.size = w.heap.size + 1 := by rw [← hX1]; simp
 have bX1 : Below w.heap.size w X1 := by rw [← hX1]; exact bal w _
 have bM : Blk X1 (w.heap.size) (relL A) 62 := by rw [← hX1]; exact Blk.newA w _ (by first | rfl | simp)
 have Xb := bX1
 have Xz := zX1
 clear hX1 zX1 bX1
 have HXB := hide Xb
 have HBM := hide bM
 clear bM Xb Xz hd2 hd3
 go_loopw [9] (fun i wr => ∃ x : Nat, x ≤ n ∧ i = .int .i64 x ∧ FO x = none ∧ Below X1.heap.size X1 wr) (fun i _ => n - (intOf i).toNat)
 case atStart => exact ⟨0, by omega, rfl, HF0.out, Below.refl _ _⟩
 case round =>
  obtain ⟨x, hx, rfl, hfo, hbr⟩ := hrel
  have HFX := hide hfo
  have HBR := hide hbr
  have BM1 := hide (HBM.out.later hbr)
  have HCT := hide (ints_low HCT0.out (below2 HXB.out hbr))
  clear hbr hfo
  by_cases hlx : x < n
  ·have hlxI : (x : Int) < n := by omega
   have HX := hide hlx
   have HCN := hide (HHA.out x wr)
   have HNX := hide (HFN.out x HFX.out)
   have HYE := hide (fun c h => HFH.out x c hlx HFX.out h)
   have HCX := hide (HIH.out x hlx)
   generalize extC n A k (k - 1) [x] = r at *
   have HNO := hide (fun h : r = none => HNX.out.trans h)
   go_wp2_with fail
   refine HCN.out.mono ?_
   rintro e w5 ⟨rfl, hw5⟩
   obtain rfl := hw5.symm
   go_upto_region 9 with (fail)
   refine wp_region_inv [some 53, some 54, some 55, some 56, some 57, some 58, some 59, some 60, some 61, some 62, some 63, some 64, some 65, some 10] (fun L vs W => match vs with | [x0, x1, x2, x3, x4, x5, x6, x7, x8, x9, x10, x11, x12, x13] => (Below wr.heap.size wr W) ∧ (L 0 = true → x0 = .int .i64 (n : Nat)) ∧ (L 1 = true → x1 = relV A) ∧ (L 2 = true → x2 = .slice none 0 0) ∧ (L 3 = true → x3 = .slice none 0 0) ∧ (L 4 = true → x4 = .int .i64 0) ∧ (L 5 = true → x5 = .slice none 0 0) ∧ (L 6 = true → x6 = .int .i64 0) ∧ (L 7 = true → x7 = .slice none 0 0) ∧ (L 8 = true → x8 = .int .i64 (x : Nat)) ∧ (L 9 = true → ∃ b0 : Nat, x9 = .slice (some ⟨b0, 0, none⟩) 1 1 ∧ Blk W b0 [.int .i64 x] 3) ∧ (L 10 = true → ∃ va vc, x10 = .slice va 1 vc ∧ IntsIn W.cell? (.slice va 1 vc) (natsO p ++ [(x : Int)])) ∧ (L 11 = true → x11 = .int .i64 (k : Nat)) ∧ (L 12 = true → OptV r x12 W) ∧ (L 13 = true → OptV r x13 W) | _ => False) [_, _, _, _, _, _, _, _, _, _, _, _, _, _] (by kernel_rfl) (by kernel_rfl) rfl (by simp only [puts, Act.put, List.setIfInBounds_toArray, List.set_cons_zero, List.set_cons_succ] <;> rfl) ?_ ?_ ?_
   ·exact ⟨(Below.refl _ _).drew, (fun h => by cases h), (fun h => by cases h), (fun h => by cases h), (fun h => by cases h), (fun h => by cases h), (fun h => by cases h), (fun h => by cases h), (fun h => by cases h), (fun h => by cases h), (fun h => by cases h), (fun h => by cases h), (fun h => by cases h), (fun h => by cases h), (fun h => by cases h)⟩
   ·refine ⟨?_, ?_, ?_, ?_, ?_, ?_, ?_, ?_, ?_, ?_, ?_, ?_, ?_, ?_, trivial⟩
    ·intro L vs W hlen hL hD hI K hK
     obtain ⟨x0, x1, x2, x3, x4, x5, x6, x7, x8, x9, x10, x11, x12, x13, rfl⟩ := len14 hlen
     have hG := hI.1
     replace hI := hI.2
     have f0 := hide hI.1
     replace hI := hI.2
     have f1 := hide hI.1
     replace hI := hI.2
     have f2 := hide hI.1
     replace hI := hI.2
     have f3 := hide hI.1
     replace hI := hI.2
     have f4 := hide hI.1
     replace hI := hI.2
     have f5 := hide hI.1
     replace hI := hI.2
     have f6 := hide hI.1
     replace hI := hI.2
     have f7 := hide hI.1
     replace hI := hI.2
     have f8 := hide hI.1
     replace hI := hI.2
     have f9 := hide hI.1
     replace hI := hI.2
     have f10 := hide hI.1
     replace hI := hI.2
     have f11 := hide hI.1
     replace hI := hI.2
     have f12 := hide hI.1
     replace hI := hI.2
     have f13 := hide hI
     clear hI
     try simp only [puts, Act.put, List.setIfInBounds_toArray, List.set_cons_zero, List.set_cons_succ]
     try go_simp
     exact hK.out _ _ _ (by simp only [puts, Act.put, List.setIfInBounds_toArray, List.set_cons_zero, List.set_cons_succ] <;> rfl) ⟨hG, (fun _ => rfl), (fun h => f1.out h), (fun h => f2.out h), (fun h => f3.out h), (fun h => f4.out h), (fun h => f5.out h), (fun h => f6.out h), (fun h => f7.out h), (fun h => f8.out h), (fun h => f9.out h), (fun h => f10.out h), (fun h => f11.out h), (fun h => f12.out h), (fun h => f13.out h)⟩
    ·intro L vs W hlen hL hD hI K hK
     obtain ⟨x0, x1, x2, x3, x4, x5, x6, x7, x8, x9, x10, x11, x12, x13, rfl⟩ := len14 hlen
     have hG := hI.1
     replace hI := hI.2
     have f0 := hide hI.1
     replace hI := hI.2
     have f1 := hide hI.1
     replace hI := hI.2
     have f2 := hide hI.1
     replace hI := hI.2
     have f3 := hide hI.1
     replace hI := hI.2
     have f4 := hide hI.1
     replace hI := hI.2
     have f5 := hide hI.1
     replace hI := hI.2
     have f6 := hide hI.1
     replace hI := hI.2
     have f7 := hide hI.1
     replace hI := hI.2
     have f8 := hide hI.1
     replace hI := hI.2
     have f9 := hide hI.1
     replace hI := hI.2
     have f10 := hide hI.1
     replace hI := hI.2
     have f11 := hide hI.1
     replace hI := hI.2
     have f12 := hide hI.1
     replace hI := hI.2
     have f13 := hide hI
     clear hI
     try simp only [puts, Act.put, List.setIfInBounds_toArray, List.set_cons_zero, List.set_cons_succ]
     refine step_load_rel rfl _ rfl w.heap.size rfl A (BM1.out.later hG) ?_
     exact hK.out _ _ _ (by simp only [puts, Act.put, List.setIfInBounds_toArray, List.set_cons_zero, List.set_cons_succ] <;> rfl) ⟨hG, (fun h => f0.out h), (fun _ => rfl), (fun h => f2.out h), (fun h => f3.out h), (fun h => f4.out h), (fun h => f5.out h), (fun h => f6.out h), (fun h => f7.out h), (fun h => f8.out h), (fun h => f9.out h), (fun h => f10.out h), (fun h => f11.out h), (fun h => f12.out h), (fun h => f13.out h)⟩
    ·intro L vs W hlen hL hD hI K hK
     obtain ⟨x0, x1, x2, x3, x4, x5, x6, x7, x8, x9, x10, x11, x12, x13, rfl⟩ := len14 hlen
     have hG := hI.1
     replace hI := hI.2
     have f0 := hide hI.1
     replace hI := hI.2
     have f1 := hide hI.1
     replace hI := hI.2
     have f2 := hide hI.1
     replace hI := hI.2
     have f3 := hide hI.1
     replace hI := hI.2
     have f4 := hide hI.1
     replace hI := hI.2
     have f5 := hide hI.1
     replace hI := hI.2
     have f6 := hide hI.1
     replace hI := hI.2
     have f7 := hide hI.1
     replace hI := hI.2
     have f8 := hide hI.1
     replace hI := hI.2
     have f9 := hide hI.1
     replace hI := hI.2
     have f10 := hide hI.1
     replace hI := hI.2
     have f11 := hide hI.1
     replace hI := hI.2
     have f12 := hide hI.1
     replace hI := hI.2
     have f13 := hide hI
     clear hI
     try simp only [puts, Act.put, List.setIfInBounds_toArray, List.set_cons_zero, List.set_cons_succ]
     try go_simp
     exact hK.out _ _ _ (by simp only [puts, Act.put, List.setIfInBounds_toArray, List.set_cons_zero, List.set_cons_succ] <;> rfl) ⟨hG, (fun h => f0.out h), (fun h => f1.out h), (fun _ => rfl), (fun h => f3.out h), (fun h => f4.out h), (fun h => f5.out h), (fun h => f6.out h), (fun h => f7.out h), (fun h => f8.out h), (fun h => f9.out h), (fun h => f10.out h), (fun h => f11.out h), (fun h => f12.out h), (fun h => f13.out h)⟩
    ·intro L vs W hlen hL hD hI K hK
     obtain ⟨x0, x1, x2, x3, x4, x5, x6, x7, x8, x9, x10, x11, x12, x13, rfl⟩ := len14 hlen
     have hG := hI.1
     replace hI := hI.2
     have f0 := hide hI.1
     replace hI := hI.2
     have f1 := hide hI.1
     replace hI := hI.2
     have f2 := hide hI.1
     replace hI := hI.2
     have f3 := hide hI.1
     replace hI := hI.2
     have f4 := hide hI.1
     replace hI := hI.2
     have f5 := hide hI.1
     replace hI := hI.2
     have f6 := hide hI.1
     replace hI := hI.2
     have f7 := hide hI.1
     replace hI := hI.2
     have f8 := hide hI.1
     replace hI := hI.2
     have f9 := hide hI.1
     replace hI := hI.2
     have f10 := hide hI.1
     replace hI := hI.2
     have f11 := hide hI.1
     replace hI := hI.2
     have f12 := hide hI.1
     replace hI := hI.2
     have f13 := hide hI
     clear hI
     try simp only [puts, Act.put, List.setIfInBounds_toArray, List.set_cons_zero, List.set_cons_succ]
     try go_simp
     exact hK.out _ _ _ (by simp only [puts, Act.put, List.setIfInBounds_toArray, List.set_cons_zero, List.set_cons_succ] <;> rfl) ⟨hG, (fun h => f0.out h), (fun h => f1.out h), (fun h => f2.out h), (fun _ => rfl), (fun h => f4.out h), (fun h => f5.out h), (fun h => f6.out h), (fun h => f7.out h), (fun h => f8.out h), (fun h => f9.out h), (fun h => f10.out h), (fun h => f11.out h), (fun h => f12.out h), (fun h => f13.out h)⟩
    ·intro L vs W hlen hL hD hI K hK
     obtain ⟨x0, x1, x2, x3, x4, x5, x6, x7, x8, x9, x10, x11, x12, x13, rfl⟩ := len14 hlen
     have hG := hI.1
     replace hI := hI.2
     have f0 := hide hI.1
     replace hI := hI.2
     have f1 := hide hI.1
     replace hI := hI.2
     have f2 := hide hI.1
     replace hI := hI.2
     have f3 := hide hI.1
     replace hI := hI.2
     have f4 := hide hI.1
     replace hI := hI.2
     have f5 := hide hI.1
     replace hI := hI.2
     have f6 := hide hI.1
     replace hI := hI.2
     have f7 := hide hI.1
     replace hI := hI.2
     have f8 := hide hI.1
     replace hI := hI.2
     have f9 := hide hI.1
     replace hI := hI.2
     have f10 := hide hI.1
     replace hI := hI.2
     have f11 := hide hI.1
     replace hI := hI.2
     have f12 := hide hI.1
     replace hI := hI.2
     have f13 := hide hI
     clear hI
     obtain rfl := f3.out (hD.on 3 (by kernel_rfl))
     try simp only [puts, Act.put, List.setIfInBounds_toArray, List.set_cons_zero, List.set_cons_succ]
     try go_simp
     exact hK.out _ _ _ (by simp only [puts, Act.put, List.setIfInBounds_toArray, List.set_cons_zero, List.set_cons_succ] <;> rfl) ⟨hG, (fun h => f0.out h), (fun h => f1.out h), (fun h => f2.out h), (fun h => f3.out h), (fun _ => rfl), (fun h => f5.out h), (fun h => f6.out h), (fun h => f7.out h), (fun h => f8.out h), (fun h => f9.out h), (fun h => f10.out h), (fun h => f11.out h), (fun h => f12.out h), (fun h => f13.out h)⟩
    ·intro L vs W hlen hL hD hI K hK
     obtain ⟨x0, x1, x2, x3, x4, x5, x6, x7, x8, x9, x10, x11, x12, x13, rfl⟩ := len14 hlen
     have hG := hI.1
     replace hI := hI.2
     have f0 := hide hI.1
     replace hI := hI.2
     have f1 := hide hI.1
     replace hI := hI.2
     have f2 := hide hI.1
     replace hI := hI.2
     have f3 := hide hI.1
     replace hI := hI.2
     have f4 := hide hI.1
     replace hI := hI.2
     have f5 := hide hI.1
     replace hI := hI.2
     have f6 := hide hI.1
     replace hI := hI.2
     have f7 := hide hI.1
     replace hI := hI.2
     have f8 := hide hI.1
     replace hI := hI.2
     have f9 := hide hI.1
     replace hI := hI.2
     have f10 := hide hI.1
     replace hI := hI.2
     have f11 := hide hI.1
     replace hI := hI.2
     have f12 := hide hI.1
     replace hI := hI.2
     have f13 := hide hI
     clear hI
     try simp only [puts, Act.put, List.setIfInBounds_toArray, List.set_cons_zero, List.set_cons_succ]
     try go_simp
     exact hK.out _ _ _ (by simp only [puts, Act.put, List.setIfInBounds_toArray, List.set_cons_zero, List.set_cons_succ] <;> rfl) ⟨hG, (fun h => f0.out h), (fun h => f1.out h), (fun h => f2.out h), (fun h => f3.out h), (fun h => f4.out h), (fun _ => rfl), (fun h => f6.out h), (fun h => f7.out h), (fun h => f8.out h), (fun h => f9.out h), (fun h => f10.out h), (fun h => f11.out h), (fun h => f12.out h), (fun h => f13.out h)⟩
    ·intro L vs W hlen hL hD hI K hK
     obtain ⟨x0, x1, x2, x3, x4, x5, x6, x7, x8, x9, x10, x11, x12, x13, rfl⟩ := len14 hlen
     have hG := hI.1
     replace hI := hI.2
     have f0 := hide hI.1
     replace hI := hI.2
     have f1 := hide hI.1
     replace hI := hI.2
     have f2 := hide hI.1
     replace hI := hI.2
     have f3 := hide hI.1
     replace hI := hI.2
     have f4 := hide hI.1
     replace hI := hI.2
     have f5 := hide hI.1
     replace hI := hI.2
     have f6 := hide hI.1
     replace hI := hI.2
     have f7 := hide hI.1
     replace hI := hI.2
     have f8 := hide hI.1
     replace hI := hI.2
     have f9 := hide hI.1
     replace hI := hI.2
     have f10 := hide hI.1
     replace hI := hI.2
     have f11 := hide hI.1
     replace hI := hI.2
     have f12 := hide hI.1
     replace hI := hI.2
     have f13 := hide hI
     clear hI
     obtain rfl := f5.out (hD.on 5 (by kernel_rfl))
     try simp only [puts, Act.put, List.setIfInBounds_toArray, List.set_cons_zero, List.set_cons_succ]
     try go_simp
     exact hK.out _ _ _ (by simp only [puts, Act.put, List.setIfInBounds_toArray, List.set_cons_zero, List.set_cons_succ] <;> rfl) ⟨hG, (fun h => f0.out h), (fun h => f1.out h), (fun h => f2.out h), (fun h => f3.out h), (fun h => f4.out h), (fun h => f5.out h), (fun _ => rfl), (fun h => f7.out h), (fun h => f8.out h), (fun h => f9.out h), (fun h => f10.out h), (fun h => f11.out h), (fun h => f12.out h), (fun h => f13.out h)⟩
    ·intro L vs W hlen hL hD hI K hK
     obtain ⟨x0, x1, x2, x3, x4, x5, x6, x7, x8, x9, x10, x11, x12, x13, rfl⟩ := len14 hlen
     have hG := hI.1
     replace hI := hI.2
     have f0 := hide hI.1
     replace hI := hI.2
     have f1 := hide hI.1
     replace hI := hI.2
     have f2 := hide hI.1
     replace hI := hI.2
     have f3 := hide hI.1
     replace hI := hI.2
     have f4 := hide hI.1
     replace hI := hI.2
     have f5 := hide hI.1
     replace hI := hI.2
     have f6 := hide hI.1
     replace hI := hI.2
     have f7 := hide hI.1
     replace hI := hI.2
     have f8 := hide hI.1
     replace hI := hI.2
     have f9 := hide hI.1
     replace hI := hI.2
     have f10 := hide hI.1
     replace hI := hI.2
     have f11 := hide hI.1
     replace hI := hI.2
     have f12 := hide hI.1
     replace hI := hI.2
     have f13 := hide hI
     clear hI
     obtain rfl := f2.out (hD.on 2 (by kernel_rfl))
     obtain rfl := f4.out (hD.on 4 (by kernel_rfl))
     obtain rfl := f6.out (hD.on 6 (by kernel_rfl))
     try simp only [puts, Act.put, List.setIfInBounds_toArray, List.set_cons_zero, List.set_cons_succ]
     try go_simp
     exact hK.out _ _ _ (by simp only [puts, Act.put, List.setIfInBounds_toArray, List.set_cons_zero, List.set_cons_succ] <;> rfl) ⟨hG, (fun h => f0.out h), (fun h => f1.out h), (fun h => f2.out h), (fun h => f3.out h), (fun h => f4.out h), (fun h => f5.out h), (fun h => f6.out h), (fun _ => rfl), (fun h => f8.out h), (fun h => f9.out h), (fun h => f10.out h), (fun h => f11.out h), (fun h => f12.out h), (fun h => f13.out h)⟩
    ·intro L vs W hlen hL hD hI K hK
     obtain ⟨x0, x1, x2, x3, x4, x5, x6, x7, x8, x9, x10, x11, x12, x13, rfl⟩ := len14 hlen
     have hG := hI.1
     replace hI := hI.2
     have f0 := hide hI.1
     replace hI := hI.2
     have f1 := hide hI.1
     replace hI := hI.2
     have f2 := hide hI.1
     replace hI := hI.2
     have f3 := hide hI.1
     replace hI := hI.2
     have f4 := hide hI.1
     replace hI := hI.2
     have f5 := hide hI.1
     replace hI := hI.2
     have f6 := hide hI.1
     replace hI := hI.2
     have f7 := hide hI.1
     replace hI := hI.2
     have f8 := hide hI.1
     replace hI := hI.2
     have f9 := hide hI.1
     replace hI := hI.2
     have f10 := hide hI.1
     replace hI := hI.2
     have f11 := hide hI.1
     replace hI := hI.2
     have f12 := hide hI.1
     replace hI := hI.2
     have f13 := hide hI
     clear hI
     try simp only [puts, Act.put, List.setIfInBounds_toArray, List.set_cons_zero, List.set_cons_succ]
     try go_simp
     exact hK.out _ _ _ (by simp only [puts, Act.put, List.setIfInBounds_toArray, List.set_cons_zero, List.set_cons_succ] <;> rfl) ⟨hG, (fun h => f0.out h), (fun h => f1.out h), (fun h => f2.out h), (fun h => f3.out h), (fun h => f4.out h), (fun h => f5.out h), (fun h => f6.out h), (fun h => f7.out h), (fun _ => rfl), (fun h => f9.out h), (fun h => f10.out h), (fun h => f11.out h), (fun h => f12.out h), (fun h => f13.out h)⟩
    ·intro L vs W hlen hL hD hI K hK
     obtain ⟨x0, x1, x2, x3, x4, x5, x6, x7, x8, x9, x10, x11, x12, x13, rfl⟩ := len14 hlen
     have hG := hI.1
     replace hI := hI.2
     have f0 := hide hI.1
     replace hI := hI.2
     have f1 := hide hI.1
     replace hI := hI.2
     have f2 := hide hI.1
     replace hI := hI.2
     have f3 := hide hI.1
     replace hI := hI.2
     have f4 := hide hI.1
     replace hI := hI.2
     have f5 := hide hI.1
     replace hI := hI.2
     have f6 := hide hI.1
     replace hI := hI.2
     have f7 := hide hI.1
     replace hI := hI.2
     have f8 := hide hI.1
     replace hI := hI.2
     have f9 := hide hI.1
     replace hI := hI.2
     have f10 := hide hI.1
     replace hI := hI.2
     have f11 := hide hI.1
     replace hI := hI.2
     have f12 := hide hI.1
     replace hI := hI.2
     have f13 := hide hI
     clear hI
     obtain rfl := f8.out (hD.on 8 (by kernel_rfl))
     try simp only [puts, Act.put, List.setIfInBounds_toArray, List.set_cons_zero, List.set_cons_succ]
     try go_simp
     generalize hW' : World.alloc W _ = W'
     have hb : Below W.heap.size W W' := by rw [← hW']; exact bal W _
     exact hK.out _ _ _ (by simp only [puts, Act.put, List.setIfInBounds_toArray, List.set_cons_zero, List.set_cons_succ] <;> rfl) ⟨below2 hG hb, (fun h => f0.out h), (fun h => f1.out h), (fun h => f2.out h), (fun h => f3.out h), (fun h => f4.out h), (fun h => f5.out h), (fun h => f6.out h), (fun h => f7.out h), (fun h => f8.out h), (fun _ => ⟨W.heap.size, rfl, by rw [← hW']; exact Blk.newA W _ rfl⟩), (fun h => (fun h => let ⟨va, vc, e, k⟩ := h; ⟨va, vc, e, ints_low k hb⟩) (f10.out h)), (fun h => f11.out h), (fun h => (fun h => h.later hb) (f12.out h)), (fun h => (fun h => h.later hb) (f13.out h))⟩
    ·intro L vs W hlen hL hD hI K hK
     obtain ⟨x0, x1, x2, x3, x4, x5, x6, x7, x8, x9, x10, x11, x12, x13, rfl⟩ := len14 hlen
     have hG := hI.1
     replace hI := hI.2
     have f0 := hide hI.1
     replace hI := hI.2
     have f1 := hide hI.1
     replace hI := hI.2
     have f2 := hide hI.1
     replace hI := hI.2
     have f3 := hide hI.1
     replace hI := hI.2
     have f4 := hide hI.1
     replace hI := hI.2
     have f5 := hide hI.1
     replace hI := hI.2
     have f6 := hide hI.1
     replace hI := hI.2
     have f7 := hide hI.1
     replace hI := hI.2
     have f8 := hide hI.1
     replace hI := hI.2
     have f9 := hide hI.1
     replace hI := hI.2
     have f10 := hide hI.1
     replace hI := hI.2
     have f11 := hide hI.1
     replace hI := hI.2
     have f12 := hide hI.1
     replace hI := hI.2
     have f13 := hide hI
     clear hI
     obtain rfl := f7.out (hD.on 7 (by kernel_rfl))
     have g9 := f9.out (hD.on 9 (by kernel_rfl))
     try simp only [puts, Act.put, List.setIfInBounds_toArray, List.set_cons_zero, List.set_cons_succ]
     obtain ⟨b0, rfl, hB0⟩ := g9
     refine step_cut1 rfl _ _ rfl none 0 (natsO p) rfl (ints_low HCT.out hG) b0 (x : Int) rfl hB0 hm1 ?_
     intro va vc W' hI hb
     exact hK.out _ _ _ (by simp only [puts, Act.put, List.setIfInBounds_toArray, List.set_cons_zero, List.set_cons_succ] <;> rfl) ⟨below2 hG hb, (fun h => f0.out h), (fun h => f1.out h), (fun h => f2.out h), (fun h => f3.out h), (fun h => f4.out h), (fun h => f5.out h), (fun h => f6.out h), (fun h => f7.out h), (fun h => f8.out h), (fun h => (fun h => let ⟨b0, e, k⟩ := h; ⟨b0, e, k.later hb⟩) (f9.out h)), (fun _ => ⟨va, vc, rfl, hI⟩), (fun h => f11.out h), (fun h => (fun h => h.later hb) (f12.out h)), (fun h => (fun h => h.later hb) (f13.out h))⟩
    ·intro L vs W hlen hL hD hI K hK
     obtain ⟨x0, x1, x2, x3, x4, x5, x6, x7, x8, x9, x10, x11, x12, x13, rfl⟩ := len14 hlen
     have hG := hI.1
     replace hI := hI.2
     have f0 := hide hI.1
     replace hI := hI.2
     have f1 := hide hI.1
     replace hI := hI.2
     have f2 := hide hI.1
     replace hI := hI.2
     have f3 := hide hI.1
     replace hI := hI.2
     have f4 := hide hI.1
     replace hI := hI.2
     have f5 := hide hI.1
     replace hI := hI.2
     have f6 := hide hI.1
     replace hI := hI.2
     have f7 := hide hI.1
     replace hI := hI.2
     have f8 := hide hI.1
     replace hI := hI.2
     have f9 := hide hI.1
     replace hI := hI.2
     have f10 := hide hI.1
     replace hI := hI.2
     have f11 := hide hI.1
     replace hI := hI.2
     have f12 := hide hI.1
     replace hI := hI.2
     have f13 := hide hI
     clear hI
     try simp only [puts, Act.put, List.setIfInBounds_toArray, List.set_cons_zero, List.set_cons_succ]
     try go_simp
     exact hK.out _ _ _ (by simp only [puts, Act.put, List.setIfInBounds_toArray, List.set_cons_zero, List.set_cons_succ] <;> rfl) ⟨hG, (fun h => f0.out h), (fun h => f1.out h), (fun h => f2.out h), (fun h => f3.out h), (fun h => f4.out h), (fun h => f5.out h), (fun h => f6.out h), (fun h => f7.out h), (fun h => f8.out h), (fun h => f9.out h), (fun h => f10.out h), (fun _ => rfl), (fun h => f12.out h), (fun h => f13.out h)⟩
    ·intro L vs W hlen hL hD hI K hK
     obtain ⟨x0, x1, x2, x3, x4, x5, x6, x7, x8, x9, x10, x11, x12, x13, rfl⟩ := len14 hlen
     have hG := hI.1
     replace hI := hI.2
     have f0 := hide hI.1
     replace hI := hI.2
     have f1 := hide hI.1
     replace hI := hI.2
     have f2 := hide hI.1
     replace hI := hI.2
     have f3 := hide hI.1
     replace hI := hI.2
     have f4 := hide hI.1
     replace hI := hI.2
     have f5 := hide hI.1
     replace hI := hI.2
     have f6 := hide hI.1
     replace hI := hI.2
     have f7 := hide hI.1
     replace hI := hI.2
     have f8 := hide hI.1
     replace hI := hI.2
     have f9 := hide hI.1
     replace hI := hI.2
     have f10 := hide hI.1
     replace hI := hI.2
     have f11 := hide hI.1
     replace hI := hI.2
     have f12 := hide hI.1
     replace hI := hI.2
     have f13 := hide hI
     clear hI
     obtain rfl := f0.out (hD.on 0 (by kernel_rfl))
     obtain rfl := f1.out (hD.on 1 (by kernel_rfl))
     have g10 := f10.out (hD.on 10 (by kernel_rfl))
     obtain rfl := f11.out (hD.on 11 (by kernel_rfl))
     try simp only [puts, Act.put, List.setIfInBounds_toArray, List.set_cons_zero, List.set_cons_succ]
     obtain ⟨va, vc, rfl, hI⟩ := g10
     have HC1 := hide (HCX.out W _ hI)
     go_simp
     refine HC1.out.mono ?_
     rintro e W' ⟨v, rfl, hv, hb⟩
     obtain ⟨ga, gm, gc, rfl, -⟩ := id hv
     try go_simp
     exact hK.out _ _ _ (by simp only [puts, Act.put, List.setIfInBounds_toArray, List.set_cons_zero, List.set_cons_succ] <;> rfl) ⟨below2 hG hb, (fun h => f0.out h), (fun h => f1.out h), (fun h => f2.out h), (fun h => f3.out h), (fun h => f4.out h), (fun h => f5.out h), (fun h => f6.out h), (fun h => f7.out h), (fun h => f8.out h), (fun h => (fun h => let ⟨b0, e, k⟩ := h; ⟨b0, e, k.later hb⟩) (f9.out h)), (fun h => (fun h => let ⟨va, vc, e, k⟩ := h; ⟨va, vc, e, ints_low k hb⟩) (f10.out h)), (fun h => f11.out h), (fun _ => hv), (fun h => (fun h => h.later hb) (f13.out h))⟩
    ·intro L vs W hlen hL hD hI K hK
     obtain ⟨x0, x1, x2, x3, x4, x5, x6, x7, x8, x9, x10, x11, x12, x13, rfl⟩ := len14 hlen
     have hG := hI.1
     replace hI := hI.2
     have f0 := hide hI.1
     replace hI := hI.2
     have f1 := hide hI.1
     replace hI := hI.2
     have f2 := hide hI.1
     replace hI := hI.2
     have f3 := hide hI.1
     replace hI := hI.2
     have f4 := hide hI.1
     replace hI := hI.2
     have f5 := hide hI.1
     replace hI := hI.2
     have f6 := hide hI.1
     replace hI := hI.2
     have f7 := hide hI.1
     replace hI := hI.2
     have f8 := hide hI.1
     replace hI := hI.2
     have f9 := hide hI.1
     replace hI := hI.2
     have f10 := hide hI.1
     replace hI := hI.2
     have f11 := hide hI.1
     replace hI := hI.2
     have f12 := hide hI.1
     replace hI := hI.2
     have f13 := hide hI
     clear hI
     have g12 := f12.out (hD.on 12 (by kernel_rfl))
     try simp only [puts, Act.put, List.setIfInBounds_toArray, List.set_cons_zero, List.set_cons_succ]
     obtain ⟨ga, gm, gc, rfl, hI⟩ := g12
     go_simp
     exact hK.out _ _ _ (by simp only [puts, Act.put, List.setIfInBounds_toArray, List.set_cons_zero, List.set_cons_succ] <;> rfl) ⟨hG, (fun h => f0.out h), (fun h => f1.out h), (fun h => f2.out h), (fun h => f3.out h), (fun h => f4.out h), (fun h => f5.out h), (fun h => f6.out h), (fun h => f7.out h), (fun h => f8.out h), (fun h => f9.out h), (fun h => f10.out h), (fun h => f11.out h), (fun h => f12.out h), (fun _ => ⟨ga, gm, gc, rfl, hI⟩)⟩
   intro L vs W hlen hall hI
   obtain ⟨x0, x1, x2, x3, x4, x5, x6, x7, x8, x9, x10, x11, x12, x13, rfl⟩ := len14 hlen
   have hG := hI.1
   replace hI := hI.2
   have f0 := hide hI.1
   replace hI := hI.2
   have f1 := hide hI.1
   replace hI := hI.2
   have f2 := hide hI.1
   replace hI := hI.2
   have f3 := hide hI.1
   replace hI := hI.2
   have f4 := hide hI.1
   replace hI := hI.2
   have f5 := hide hI.1
   replace hI := hI.2
   have f6 := hide hI.1
   replace hI := hI.2
   have f7 := hide hI.1
   replace hI := hI.2
   have f8 := hide hI.1
   replace hI := hI.2
   have f9 := hide hI.1
   replace hI := hI.2
   have f10 := hide hI.1
   replace hI := hI.2
   have f11 := hide hI.1
   replace hI := hI.2
   have f12 := hide hI.1
   replace hI := hI.2
   have f13 := hide hI
   clear hI
   obtain rfl := f0.out (hall 0 (by decide))
   obtain rfl := f1.out (hall 1 (by decide))
   obtain rfl := f2.out (hall 2 (by decide))
   obtain rfl := f3.out (hall 3 (by decide))
   obtain rfl := f4.out (hall 4 (by decide))
   obtain rfl := f5.out (hall 5 (by decide))
   obtain rfl := f6.out (hall 6 (by decide))
   obtain rfl := f7.out (hall 7 (by decide))
   obtain rfl := f8.out (hall 8 (by decide))
   have g9 := f9.out (hall 9 (by decide))
   have g10 := f10.out (hall 10 (by decide))
   obtain rfl := f11.out (hall 11 (by decide))
   have g12 := f12.out (hall 12 (by decide))
   have g13 := f13.out (hall 13 (by decide))
   have hal := hide hall
   clear hall f0 f1 f2 f3 f4 f5 f6 f7 f8 f9 f10 f11 f12 f13
   try simp only [puts, Act.put, List.setIfInBounds_toArray, List.set_cons_zero, List.set_cons_succ]
   obtain ⟨_, rfl, -⟩ := g9
   obtain ⟨_, _, rfl, -⟩ := g10
   obtain ⟨_, _, _, rfl, -⟩ := g12
   obtain ⟨ga, gm, gc, rfl, hI⟩ := g13
   have HBF := hide (HBR.out.trans (hG.mono HBR.out.size))
   have HBW := hide (below2 HXB.out HBF.out)
   clear hG hal
   cases r with
   | none =>
    obtain ⟨rfl, rfl, rfl⟩ := hI
    have HN := hide (HNO.out rfl)
    go_wp2_with fail
    go_roundw
    case rel => exact ⟨x + 1, by have := HX.out; omega, by go_num, HN.out, HBF.out⟩
    case measure => have := HX.out; simp [intOf]; omega
   | some c =>
    obtain ⟨⟨gb, go, rfl⟩, hI⟩ := hI
    have HI := hide hI
    have HN := hide (HYE.out c rfl)
    clear hI
    go_wp2_with fail
    go_ret
    exact ⟨_, rfl, by rw [HN.out]; exact ⟨_, _, _, rfl, ⟨_, _, rfl⟩, HI.out⟩, HBW.out⟩
  ·obtain rfl : x = n := by omega
   go_wp2_with fail
   go_ret
   exact ⟨_, rfl, by rw [HFX.out]; exact ⟨none, 0, 0, rfl, rfl, rfl, rfl⟩, below2 HXB.out HBR.out⟩
def CycA (r : Option (List Nat)) (w : World) (e : Ending) (w' : World) : Prop := ∃ v, e = .returned (.tuple #[v, .bool r.isSome]) ∧ IntsIn w'.cell? v (natsO (r.getD [])) ∧ Below w.heap.size w w'
set_option maxRecDepth 100000 in
set_option maxHeartbeats 4000000 in
theorem rcycle_any (o : OrderD) (pv : Value) (w : World) (hp : PairsIn w.cell? pv o.pairs) : Calls Tryd.prog 41 #[orderV o.n pv] w (CycA (cycF o) w) := by
 have HFO := hide (fun W (hb : Below w.heap.size w W) => rformed_any o pv W (RecIn.below hb hp))
 obtain ⟨on, ps⟩ := o
 obtain ⟨pa, pm, rfl, -, -, -⟩ := id hp
 cases hF : formedO ⟨on, ps⟩
 ·have HV : Hid (cycF ⟨on, ps⟩ = none) := hide (by unfold cycF; rw [hF]; rfl)
  rw [hF] at HFO
  clear hF hp
  go_enter Tryd.func41, Tryd.ntmps41
  go_wp2_with fail
  generalize hX1 : World.alloc w _ = X1
  have zX1 : X1.heap.size = w.heap.size + 1 := by rw [← hX1]; simp
  have bX1 : Below w.heap.size w X1 := by rw [← hX1]; exact bal w _
  have bO : Blk X1 (w.heap.size) [.int .i64 on, .slice pa ps.length pm] 25 := by rw [← hX1]; exact Blk.newA w _ (by first | rfl | simp)
  have Xb := bX1
  have Xz := zX1
  clear hX1 zX1 bX1
  have c0 := bO.cell 0 rfl
  have c1 := bO.cell 1 rfl
  go_wp2_with fail
  refine (HFO.out _ Xb).mono ?_
  rintro e w1 ⟨rfl, hb1⟩
  have hw1 := below2 Xb hb1
  clear c0 c1 bO hb1 Xb Xz
  go_wp2_with fail
  go_ret2
  exact ⟨_, by rw [HV.out]; rfl, by rw [HV.out]; exact IntsIn.nil _, hw1⟩
 ·obtain ⟨⟨h0, hn8⟩, -, -⟩ := formed_n hF
  simp only at h0 hn8
  obtain ⟨n, rfl⟩ : ∃ n : Nat, on = n := ⟨on.toNat, by omega⟩
  have hn8' : n ≤ 8 := by omega
  have HPA := hide (fun W (hb : Below w.heap.size w W) => rpairs_any n ps (.slice pa ps.length pm) W (RecIn.below hb hp) hF)
  have HV : Hid (cycF ⟨n, ps⟩ = cycO n (relP ps)) := hide (by unfold cycF; rw [hF]; rfl)
  rw [hF] at HFO
  rw [HV.out]
  generalize relP ps = A at *
  have HCY := hide (fun i W (h : i + 2 ≤ n) => rcyc0_any (n := n) (A := A) (k := i + 2) hn8' (by omega) (by omega) W)
  have HF0 : Hid (firstO (fun i => firstO (fun x => extC n A (i + 2) (i + 1) [x]) n) 0 = none) := hide rfl
  have HFN : Hid (∀ i, firstO (fun i => firstO (fun x => extC n A (i + 2) (i + 1) [x]) n) i = none → firstO (fun i => firstO (fun x => extC n A (i + 2) (i + 1) [x]) n) (i + 1) = firstO (fun x => extC n A (i + 2) (i + 1) [x]) n) := hide (fun x h => first_next h)
  have HFH : Hid (∀ i c, i < n - 1 → firstO (fun i => firstO (fun x => extC n A (i + 2) (i + 1) [x]) n) i = none → firstO (fun x => extC n A (i + 2) (i + 1) [x]) n = some c → cycO n A = some c) := hide (fun x c hx h1 h2 => first_hit (f := fun i => firstO (fun x => extC n A (i + 2) (i + 1) [x]) n) h1 h2 hx)
  have HFE : Hid (firstO (fun i => firstO (fun x => extC n A (i + 2) (i + 1) [x]) n) (n - 1) = cycO n A) := hide rfl
  generalize hGO : firstO (fun i => firstO (fun x => extC n A (i + 2) (i + 1) [x]) n) = GO at *
  generalize cycO n A = CO at *
  clear hF hp h0 hn8 hGO HV
  go_enter Tryd.func41, Tryd.ntmps41
  go_wp2_with fail
  generalize hX1 : World.alloc w _ = X1
  have zX1 : X1.heap.size = w.heap.size + 1 := by rw [← hX1]; simp
  have bX1 : Below w.heap.size w X1 := by rw [← hX1]; exact bal w _
  have bO : Blk X1 (w.heap.size) [.int .i64 n, .slice pa ps.length pm] 25 := by rw [← hX1]; exact Blk.newA w _ (by first | rfl | simp)
  have Xb := bX1
  have Xz := zX1
  clear hX1 zX1 bX1
  have c0 := bO.cell 0 rfl
  have c1 := bO.cell 1 rfl
  go_wp2_with fail
  refine (HFO.out _ Xb).mono ?_
  rintro e w1 ⟨rfl, hb1⟩
  have HW := hide (below2 Xb hb1)
  have BO := hide (bO.later hb1)
  clear c0 c1 bO hb1 Xb Xz
  go_wp2_with fail
  go_loopw [4] (fun k wr => ∃ i : Nat, i ≤ n - 1 ∧ k = .int .i64 ((i + 2 : Nat) : Int) ∧ GO i = none ∧ Below w1.heap.size w1 wr) (fun k _ => n + 2 - (intOf k).toNat)
  case atStart => exact ⟨0, by omega, rfl, HF0.out, Below.refl _ _⟩
  case round =>
   obtain ⟨i, hi, rfl, hgo, hbr⟩ := hrel
   have HGX := hide hgo
   have HBR := hide hbr
   have BO1 := hide (BO.out.later hbr)
   clear hbr hgo
   have c0 := BO1.out.cell 0 rfl
   by_cases hli : i + 2 ≤ n
   ·have hli1 : ((i + 2 : Nat) : Int) ≤ n := by omega
    have hli2 : ((i : Int) + 2) ≤ n := by omega
    have hli3 : decide (i + 2 ≤ n) = true := decide_eq_true hli
    have HI := hide hli
    have HC1 := hide (fun W => HCY.out i W hli)
    have HNX := hide (HFN.out i HGX.out)
    have HYE := hide (fun c h => HFH.out i c (by omega) HGX.out h)
    rw [show i + 2 - 1 = i + 1 by omega] at HC1
    generalize firstO (fun x => extC n A (i + 2) (i + 1) [x]) n = r at *
    obtain ⟨k, hk⟩ : ∃ k, i + 2 = k := ⟨_, rfl⟩
    have HKE := hide hk
    rw [hk] at HC1 hli1 hli3 ⊢
    clear hk hli hli2
    go_upto_region 6 with (fail)
    refine wp_region_inv [some 15, some 16, some 17, some 18, some 19, some 20, some 5] (fun L vs W => match vs with | [x0, x1, x2, x3, x4, x5, x6] => (Below wr.heap.size wr W) ∧ (L 0 = true → x0 = .pointer (some ⟨w.heap.size, 0, none⟩)) ∧ (L 1 = true → x1 = .int .i64 n) ∧ (L 2 = true → x2 = .agg #[.int .i64 n, .slice pa ps.length pm]) ∧ (L 3 = true → x3 = relV A) ∧ (L 4 = true → x4 = .int .i64 (k : Nat)) ∧ (L 5 = true → OptV r x5 W) ∧ (L 6 = true → OptV r x6 W) | _ => False) [_, _, _, _, _, _, _] (by kernel_rfl) (by kernel_rfl) rfl (by simp only [puts, Act.put, List.setIfInBounds_toArray, List.set_cons_zero, List.set_cons_succ] <;> rfl) ?_ ?_ ?_
    ·exact ⟨(Below.refl _ _).drew, (fun h => by cases h), (fun h => by cases h), (fun h => by cases h), (fun h => by cases h), (fun h => by cases h), (fun h => by cases h), (fun h => by cases h)⟩
    ·refine ⟨?_, ?_, ?_, ?_, ?_, ?_, ?_, trivial⟩
     ·intro L vs W hlen hL hD hI K hK
      obtain ⟨x0, x1, x2, x3, x4, x5, x6, rfl⟩ := len7 hlen
      have hG := hI.1
      replace hI := hI.2
      have f0 := hide hI.1
      replace hI := hI.2
      have f1 := hide hI.1
      replace hI := hI.2
      have f2 := hide hI.1
      replace hI := hI.2
      have f3 := hide hI.1
      replace hI := hI.2
      have f4 := hide hI.1
      replace hI := hI.2
      have f5 := hide hI.1
      replace hI := hI.2
      have f6 := hide hI
      clear hI
      try simp only [puts, Act.put, List.setIfInBounds_toArray, List.set_cons_zero, List.set_cons_succ]
      try go_simp
      exact hK.out _ _ _ (by simp only [puts, Act.put, List.setIfInBounds_toArray, List.set_cons_zero, List.set_cons_succ] <;> rfl) ⟨hG, (fun _ => rfl), (fun h => f1.out h), (fun h => f2.out h), (fun h => f3.out h), (fun h => f4.out h), (fun h => f5.out h), (fun h => f6.out h)⟩
     ·intro L vs W hlen hL hD hI K hK
      obtain ⟨x0, x1, x2, x3, x4, x5, x6, rfl⟩ := len7 hlen
      have hG := hI.1
      replace hI := hI.2
      have f0 := hide hI.1
      replace hI := hI.2
      have f1 := hide hI.1
      replace hI := hI.2
      have f2 := hide hI.1
      replace hI := hI.2
      have f3 := hide hI.1
      replace hI := hI.2
      have f4 := hide hI.1
      replace hI := hI.2
      have f5 := hide hI.1
      replace hI := hI.2
      have f6 := hide hI
      clear hI
      obtain rfl := f0.out (hD.on 0 (by kernel_rfl))
      try simp only [puts, Act.put, List.setIfInBounds_toArray, List.set_cons_zero, List.set_cons_succ]
      have z0 := (BO1.out.later hG).cell 0 rfl
      go_simp
      exact hK.out _ _ _ (by simp only [puts, Act.put, List.setIfInBounds_toArray, List.set_cons_zero, List.set_cons_succ] <;> rfl) ⟨hG, (fun h => f0.out h), (fun _ => rfl), (fun h => f2.out h), (fun h => f3.out h), (fun h => f4.out h), (fun h => f5.out h), (fun h => f6.out h)⟩
     ·intro L vs W hlen hL hD hI K hK
      obtain ⟨x0, x1, x2, x3, x4, x5, x6, rfl⟩ := len7 hlen
      have hG := hI.1
      replace hI := hI.2
      have f0 := hide hI.1
      replace hI := hI.2
      have f1 := hide hI.1
      replace hI := hI.2
      have f2 := hide hI.1
      replace hI := hI.2
      have f3 := hide hI.1
      replace hI := hI.2
      have f4 := hide hI.1
      replace hI := hI.2
      have f5 := hide hI.1
      replace hI := hI.2
      have f6 := hide hI
      clear hI
      try simp only [puts, Act.put, List.setIfInBounds_toArray, List.set_cons_zero, List.set_cons_succ]
      have z0 := (BO1.out.later hG).cell 0 rfl
      have z1 := (BO1.out.later hG).cell 1 rfl
      go_simp
      exact hK.out _ _ _ (by simp only [puts, Act.put, List.setIfInBounds_toArray, List.set_cons_zero, List.set_cons_succ] <;> rfl) ⟨hG, (fun h => f0.out h), (fun h => f1.out h), (fun _ => rfl), (fun h => f3.out h), (fun h => f4.out h), (fun h => f5.out h), (fun h => f6.out h)⟩
     ·intro L vs W hlen hL hD hI K hK
      obtain ⟨x0, x1, x2, x3, x4, x5, x6, rfl⟩ := len7 hlen
      have hG := hI.1
      replace hI := hI.2
      have f0 := hide hI.1
      replace hI := hI.2
      have f1 := hide hI.1
      replace hI := hI.2
      have f2 := hide hI.1
      replace hI := hI.2
      have f3 := hide hI.1
      replace hI := hI.2
      have f4 := hide hI.1
      replace hI := hI.2
      have f5 := hide hI.1
      replace hI := hI.2
      have f6 := hide hI
      clear hI
      obtain rfl := f2.out (hD.on 2 (by kernel_rfl))
      try simp only [puts, Act.put, List.setIfInBounds_toArray, List.set_cons_zero, List.set_cons_succ]
      have HC2 := hide (HPA.out W (below2 (below2 HW.out HBR.out) hG))
      go_simp
      refine HC2.out.mono ?_
      rintro e W' ⟨rfl, hb⟩
      try go_simp
      exact hK.out _ _ _ (by simp only [puts, Act.put, List.setIfInBounds_toArray, List.set_cons_zero, List.set_cons_succ] <;> rfl) ⟨below2 hG hb, (fun h => f0.out h), (fun h => f1.out h), (fun h => f2.out h), (fun _ => rfl), (fun h => f4.out h), (fun h => (fun h => h.later hb) (f5.out h)), (fun h => (fun h => h.later hb) (f6.out h))⟩
     ·intro L vs W hlen hL hD hI K hK
      obtain ⟨x0, x1, x2, x3, x4, x5, x6, rfl⟩ := len7 hlen
      have hG := hI.1
      replace hI := hI.2
      have f0 := hide hI.1
      replace hI := hI.2
      have f1 := hide hI.1
      replace hI := hI.2
      have f2 := hide hI.1
      replace hI := hI.2
      have f3 := hide hI.1
      replace hI := hI.2
      have f4 := hide hI.1
      replace hI := hI.2
      have f5 := hide hI.1
      replace hI := hI.2
      have f6 := hide hI
      clear hI
      try simp only [puts, Act.put, List.setIfInBounds_toArray, List.set_cons_zero, List.set_cons_succ]
      try go_simp
      exact hK.out _ _ _ (by simp only [puts, Act.put, List.setIfInBounds_toArray, List.set_cons_zero, List.set_cons_succ] <;> rfl) ⟨hG, (fun h => f0.out h), (fun h => f1.out h), (fun h => f2.out h), (fun h => f3.out h), (fun _ => rfl), (fun h => f5.out h), (fun h => f6.out h)⟩
     ·intro L vs W hlen hL hD hI K hK
      obtain ⟨x0, x1, x2, x3, x4, x5, x6, rfl⟩ := len7 hlen
      have hG := hI.1
      replace hI := hI.2
      have f0 := hide hI.1
      replace hI := hI.2
      have f1 := hide hI.1
      replace hI := hI.2
      have f2 := hide hI.1
      replace hI := hI.2
      have f3 := hide hI.1
      replace hI := hI.2
      have f4 := hide hI.1
      replace hI := hI.2
      have f5 := hide hI.1
      replace hI := hI.2
      have f6 := hide hI
      clear hI
      obtain rfl := f1.out (hD.on 1 (by kernel_rfl))
      obtain rfl := f3.out (hD.on 3 (by kernel_rfl))
      obtain rfl := f4.out (hD.on 4 (by kernel_rfl))
      try simp only [puts, Act.put, List.setIfInBounds_toArray, List.set_cons_zero, List.set_cons_succ]
      have HC2 := hide (HC1.out W)
      go_simp
      refine HC2.out.mono ?_
      rintro e W' ⟨v, rfl, hv, hb⟩
      obtain ⟨ga, gm, gc, rfl, -⟩ := id hv
      try go_simp
      exact hK.out _ _ _ (by simp only [puts, Act.put, List.setIfInBounds_toArray, List.set_cons_zero, List.set_cons_succ] <;> rfl) ⟨below2 hG hb, (fun h => f0.out h), (fun h => f1.out h), (fun h => f2.out h), (fun h => f3.out h), (fun h => f4.out h), (fun _ => hv), (fun h => (fun h => h.later hb) (f6.out h))⟩
     ·intro L vs W hlen hL hD hI K hK
      obtain ⟨x0, x1, x2, x3, x4, x5, x6, rfl⟩ := len7 hlen
      have hG := hI.1
      replace hI := hI.2
      have f0 := hide hI.1
      replace hI := hI.2
      have f1 := hide hI.1
      replace hI := hI.2
      have f2 := hide hI.1
      replace hI := hI.2
      have f3 := hide hI.1
      replace hI := hI.2
      have f4 := hide hI.1
      replace hI := hI.2
      have f5 := hide hI.1
      replace hI := hI.2
      have f6 := hide hI
      clear hI
      have g5 := f5.out (hD.on 5 (by kernel_rfl))
      try simp only [puts, Act.put, List.setIfInBounds_toArray, List.set_cons_zero, List.set_cons_succ]
      obtain ⟨ga, gm, gc, rfl, hI⟩ := g5
      go_simp
      exact hK.out _ _ _ (by simp only [puts, Act.put, List.setIfInBounds_toArray, List.set_cons_zero, List.set_cons_succ] <;> rfl) ⟨hG, (fun h => f0.out h), (fun h => f1.out h), (fun h => f2.out h), (fun h => f3.out h), (fun h => f4.out h), (fun h => f5.out h), (fun _ => ⟨ga, gm, gc, rfl, hI⟩)⟩
    intro L vs W hlen hall hI
    obtain ⟨x0, x1, x2, x3, x4, x5, x6, rfl⟩ := len7 hlen
    have hG := hI.1
    replace hI := hI.2
    have f0 := hide hI.1
    replace hI := hI.2
    have f1 := hide hI.1
    replace hI := hI.2
    have f2 := hide hI.1
    replace hI := hI.2
    have f3 := hide hI.1
    replace hI := hI.2
    have f4 := hide hI.1
    replace hI := hI.2
    have f5 := hide hI.1
    replace hI := hI.2
    have f6 := hide hI
    clear hI
    obtain rfl := f0.out (hall 0 (by decide))
    obtain rfl := f1.out (hall 1 (by decide))
    obtain rfl := f2.out (hall 2 (by decide))
    obtain rfl := f3.out (hall 3 (by decide))
    obtain rfl := f4.out (hall 4 (by decide))
    have g5 := f5.out (hall 5 (by decide))
    have g6 := f6.out (hall 6 (by decide))
    have hal := hide hall
    clear hall f0 f1 f2 f3 f4 f5 f6
    try simp only [puts, Act.put, List.setIfInBounds_toArray, List.set_cons_zero, List.set_cons_succ]
    obtain ⟨_, _, _, rfl, -⟩ := g5
    obtain ⟨ga, gm, gc, rfl, hI⟩ := g6
    have HBF := hide (HBR.out.trans (hG.mono HBR.out.size))
    have HBW := hide (below2 HW.out HBF.out)
    clear hG hal c0
    cases r with
    | none =>
     obtain ⟨rfl, rfl, rfl⟩ := hI
     go_wp2_with fail
     go_roundw
     case rel => exact ⟨i + 1, by have := HI.out; omega, by rw [← HKE.out]; go_num, HNX.out, HBF.out⟩
     case measure => have := HI.out; have := HKE.out; simp [intOf]; omega
    | some c =>
     obtain ⟨⟨gb, go, rfl⟩, hI⟩ := hI
     have HI2 := hide hI
     have HN := hide (HYE.out c rfl)
     clear hI
     go_wp2_with fail
     go_ret2
     exact ⟨_, by rw [HN.out]; rfl, by rw [HN.out]; exact HI2.out, HBW.out⟩
   ·have hli1 : decide (i + 2 ≤ n) = false := decide_eq_false hli
    have hli2 : ¬ ((i : Int) + 2) ≤ n := by omega
    have hie : i = n - 1 := by omega
    have HN : Hid (CO = none) := hide (by rw [← HFE.out, ← hie]; exact HGX.out)
    clear hli hie
    go_wp2_with fail
    go_ret2
    exact ⟨_, by rw [HN.out]; rfl, by rw [HN.out]; exact IntsIn.nil _, below2 HW.out HBR.out⟩
end Go.Proofs.YtnidcoinfmcffaaDoor
/- The reference of chapter 15: IsCover. Conditions: how the order and the chains lie in memory. -/
namespace Go.Proofs.YtnidcoinfmcffaaDoor
open Go.RowKit
attribute [local go_sem] Oper.semAt_some
def covF (L : List (List Nat)) (i k : Nat) : List Nat := (L.take i).flatten ++ (L.getD i []).take k
theorem covF_next {L : List (List Nat)} {i k : Nat} (hk : k < (L.getD i []).length) : covF L i (k + 1) = covF L i k ++ [(L.getD i []).getD k 0] := by
 unfold covF
 rw [take_succ' _ k 0 hk, List.append_assoc]
theorem covF_row {L : List (List Nat)} {i : Nat} (hi : i < L.length) : covF L i (L.getD i []).length = covF L (i + 1) 0 := by
 unfold covF
 rw [List.take_length, take_succ' L i [] hi, List.flatten_append]; simp
theorem covF_all (L : List (List Nat)) : covF L L.length 0 = L.flatten := by
 unfold covF
 rw [List.take_length]; simp
theorem bits_add {l : List Nat} {x : Nat} (hx : x < 8) : bitsO (fun a => (l ++ [x]).contains a) = bitsO (fun a => l.contains a) ||| 2 ^ x := by
 rw [bits_one _ hx]
 refine bits_congr fun a _ => ?_
 rw [List.contains_eq_mem, List.contains_eq_mem, ← Bool.decide_or, decide_eq_decide]
 simp
theorem bits_full {n : Nat} {l : List Nat} (h8 : n ≤ 8) (h : ∀ x, x ∈ l ↔ x < n) : bitsO (fun a => l.contains a) = 2 ^ n - 1 := by
 refine Nat.eq_of_testBit_eq fun i => ?_
 rw [bits_test, Nat.testBit_two_pow_sub_one, List.contains_eq_mem, ← Bool.decide_and, decide_eq_decide, h]
 omega
theorem covF_len {L : List (List Nat)} {i k : Nat} : (covF L i k).length ≤ L.flatten.length := by
 unfold covF
 rw [List.length_append]
 have h1 : L = L.take i ++ L.drop i := (List.take_append_drop i L).symm
 have h2 : (L.getD i []).length ≤ (L.drop i).flatten.length := by
  rw [List.getD_eq_getElem?_getD]
  by_cases hi : i < L.length
  ·rw [List.getElem?_eq_getElem hi, List.drop_eq_getElem_cons hi, List.flatten_cons, List.length_append]; simp
  ·rw [List.getElem?_eq_none (by omega)]; simp
 have h3 : ((L.getD i []).take k).length ≤ (L.getD i []).length := by rw [List.length_take]; omega
 have h4 : L.flatten.length = (L.take i).flatten.length + (L.drop i).flatten.length := by rw [← List.length_append, ← List.flatten_append, List.take_append_drop]
 omega
theorem mem_flat_len {L : List (List Nat)} {c : List Nat} (h : c ∈ L) : c.length ≤ L.flatten.length := by
 obtain ⟨a, b, rfl⟩ := List.append_of_mem h
 rw [List.flatten_append, List.length_append, List.flatten_cons, List.length_append]; omega
theorem wrap_n1 {x : Nat} (h : x ≤ 1000) : IntKind.i64.wrap ((x : Int) + 1) = ((x + 1 : Nat) : Int) := by
 rw [show ((x + 1 : Nat) : Int) = (x : Int) + 1 by omega]
 exact IntWalk.i64_in _ ⟨by omega, by omega⟩
theorem wrap_m1 {x : Nat} (h : x ≤ 1000) : IntKind.i64.wrap ((x : Int) - 1) = (x : Int) - 1 := IntWalk.i64_in _ ⟨by omega, by omega⟩
def bitsC (l : List Nat) : Nat := bitsO fun a => l.contains a
theorem bitsC_add {l : List Nat} {x : Nat} (hx : x < 8) : bitsC (l ++ [x]) = bitsC l ||| 2 ^ x := bits_add hx
theorem bitsC_lt (l : List Nat) : bitsC l < 256 := bits_lt _
set_option maxRecDepth 100000 in
set_option maxHeartbeats 4000000 in
theorem riscover_any (n : Nat) (ps : List (Int × Int)) (pv lv : Value) (L : List (List Nat)) (w : World) (hp : PairsIn w.cell? pv ps) (hl : ListsIn w.cell? lv (natsL L)) (hv : validO ⟨n, ps⟩ = true) (hQ : CoverQ n (beforeO ⟨n, ps⟩) L) : Calls Tryd.prog 49 #[orderV n pv, lv] w (Ret (.bool true) w) := by
 obtain ⟨pa, pm, rfl, -, -, -⟩ := id hp
 have hf : formedO ⟨(n : Int), ps⟩ = true := by unfold validO at hv; rw [Bool.and_eq_true] at hv; exact hv.1
 have hn8 : n ≤ 8 := by
  have := (formed_n hf).1.2
  simp only at this
  omega
 have HPO := hide (show PoO n (beforeO ⟨n, ps⟩) from before_po hv)
 have HVA := hide (fun W (hb : Below w.heap.size w W) => by
  have h := rvalid_any ⟨(n : Int), ps⟩ (.slice pa ps.length pm) W (RecIn.below hb hp)
  rw [hv] at h
  exact h)
 have HBE := hide (fun W (hb : Below w.heap.size w W) => rbefore_any n ps (.slice pa ps.length pm) W (RecIn.below hb hp) hf)
 generalize beforeO ⟨(n : Int), ps⟩ = R at *
 clear hp hv hf
 have HQM := hide (fun x => (show x ∈ L.flatten ↔ x < n by rw [hQ.perm.mem_iff, List.mem_range]))
 have HQL : Hid (L.flatten.length = n) := hide (by rw [hQ.perm.length_eq, List.length_range])
 have HQN := hide hQ.ne
 have HQC := hide hQ.asc
 have HFL := hide (fun i k => Nat.le_trans (covF_len (L := L) (i := i) (k := k)) (Nat.le_of_eq HQL.out))
 have HBF := hide (show bitsC L.flatten = 2 ^ n - 1 from bits_full hn8 HQM.out)
 have HBA := hide (fun l x h => bitsC_add (l := l) (x := x) h)
 have HBL := hide bitsC_lt
 have HB0 : Hid (bitsC [] = 0) := hide rfl
 generalize bitsC = BC at *
 have HFN := hide (fun i k h => covF_next (L := L) (i := i) (k := k) h)
 have HFR := hide (fun i h => covF_row (L := L) (i := i) h)
 have HFA := hide (covF_all L)
 have HF0 : Hid (covF L 0 0 = []) := hide (by unfold covF; simp)
 obtain ⟨la, lc, rfl, hl1, hl2, hcc⟩ := id hl
 rw [natsL_len] at hl1 hcc ⊢
 have HCC0 := hide hcc
 have hLI : (L.length : Int) ≤ 9223372036854775807 := by omega
 have hw64 := wrapw hn8
 have hw65 := wrap_pow hn8
 have h256 := pow_256 hn8
 obtain ⟨T, hT⟩ : ∃ T, 2 ^ n = T := ⟨_, rfl⟩
 rw [hT] at hw64 hw65 HBF h256
 have hT0 : 0 < T := by rw [← hT]; exact Nat.pow_pos (by decide)
 have hT3 : IntKind.i64.wrap ((T : Int) - 1) = (T : Int) - 1 := IntWalk.i64_in _ ⟨by omega, by omega⟩
 generalize covF L = FF at *
 clear hT hQ hcc hl hl2
 go_enter Tryd.func49, Tryd.ntmps49
 go_wp2_with fail
 generalize hX1 : World.alloc w _ = X1
 have zX1 : X1.heap.size = w.heap.size + 1 := by rw [← hX1]; simp
 have bX1 : Below w.heap.size w X1 := by rw [← hX1]; exact bal w _
 have bO : Blk X1 (w.heap.size) [.int .i64 n, .slice pa ps.length pm] 25 := by rw [← hX1]; exact Blk.newA w _ (by first | rfl | simp)
 have Xb := bX1
 have Xz := zX1
 clear hX1 zX1 bX1
 have c0 := bO.cell 0 rfl
 have c1 := bO.cell 1 rfl
 go_wp2_with fail
 refine (HBE.out _ Xb).mono ?_
 rintro e w2 ⟨rfl, hb2⟩
 have HW2 := hide (below2 Xb hb2)
 have BO2 := hide (bO.later hb2)
 clear c0 c1 hb2 bO Xb Xz
 go_wp2_with (refine wp_store_new rfl _ _ rfl R rfl rfl rfl ?_; intro W2 bM hb2; have BO3 := hide (BO2.out.later hb2); have HW3 := hide (below2 HW2.out hb2); have BM := hide bM; clear bM hb2 HW2 BO2)
 obtain ⟨mb, hmb⟩ : ∃ mb, w2.heap.size = mb := ⟨_, rfl⟩
 rw [hmb] at BM ⊢
 clear hmb
 have HCC : Hid (∀ i, i < L.length → ∃ b o ua uc, la = some ⟨b, o, none⟩ ∧ W2.cell? ⟨b, o + i, none⟩ = some (.slice ua (L.getD i []).length uc) ∧ IntsIn W2.cell? (.slice ua (L.getD i []).length uc) (natsO (L.getD i []))) := hide (fun i hi => by
  obtain ⟨b, o, u, e, hc, hu⟩ := HCC0.out i hi
  rw [natsL_get] at hu
  obtain ⟨ua, uc, rfl, -, -, -⟩ := id hu
  rw [natsO_ln] at hc hu
  exact ⟨b, o, ua, uc, e, keep HW3.out hc, ints_low hu HW3.out⟩)
 clear HCC0 HVA HBE
 go_loopw [6, 7, 8] (fun nv sv i wr => ∃ k : Nat, k ≤ L.length ∧ i = .int .i64 k ∧ nv = .int .i64 ((FF k 0).length : Nat) ∧ sv = .int .i64 (BC (FF k 0) : Nat) ∧ wr = W2) (fun _ _ i _ => L.length - (intOf i).toNat)
 case atStart => exact ⟨0, by omega, rfl, by rw [HF0.out]; rfl, by rw [HF0.out, HB0.out]; rfl, rfl⟩
 case round =>
  obtain ⟨i, hi, rfl, rfl, rfl, hwz⟩ := hrel
  obtain rfl := hwz.symm
  by_cases hli : i < L.length
  ·have hliI : (i : Int) < L.length := by omega
   have HI := hide hli
   obtain ⟨b, o, ua, uc, rfl, hci, hui⟩ := HCC.out i hli
   have HUI := hide hui
   have hmem : L.getD i [] ∈ L := getD_mem L i hli
   have hne : 0 < (L.getD i []).length := List.length_pos_iff.2 (HQN.out _ hmem)
   have HCH := hide (HQC.out _ hmem)
   have HFR1 := hide (HFR.out i hli)
   have HFN1 := hide (fun k h => HFN.out i k h)
   have hcl : (L.getD i []).length ≤ 8 := by
    have h2 := mem_flat_len hmem
    have := HQL.out; omega
   have HXM : Hid (∀ k, k < (L.getD i []).length → (L.getD i []).getD k 0 < n) := hide (fun k hk => (HQM.out _).1 (List.mem_flatten.2 ⟨_, hmem, getD_mem _ k hk⟩))
   generalize L.getD i [] = c at *
   have hcI : (c.length : Int) ≤ 9223372036854775807 := by omega
   have hz1 : ((c.length : Int) == 0) = false := beq_eq_false_iff_ne.2 (by omega)
   have hz2 : (c.length == 0) = false := beq_eq_false_iff_ne.2 (by omega)
   have hz3 : ¬ c.length = 0 := by omega
   have HCI := hide hci
   clear hui hmem hne
   go_wp2_with fail
   clear hz1 hz2 hz3
   go_loopw [6, 7, 9] (fun nv sv j wz => ∃ k : Nat, k ≤ c.length ∧ j = .int .i64 k ∧ nv = .int .i64 ((FF i k).length : Nat) ∧ sv = .int .i64 (BC (FF i k) : Nat) ∧ wz = W2) (fun _ _ j _ => c.length - (intOf j).toNat)
   case atStart => exact ⟨0, by omega, rfl, rfl, rfl, rfl⟩
   case round =>
    obtain ⟨k, hk, rfl, rfl, rfl, hwz⟩ := hrel
    obtain rfl := hwz.symm
    have hci := HCI.out
    by_cases hlk : k < c.length
    ·have hlkI : (k : Int) < c.length := by omega
     have HK := hide hlk
     obtain ⟨cb, co, rfl, hck⟩ := intsR_at HUI.out (i := k) (by rw [natsO_ln]; exact hlk)
     rw [natsO_getD] at hck
     have hxn := HXM.out k hlk
     have HN := hide (HFN1.out k hlk)
     have hfl := HFL.out i k
     have HPV : Hid (0 < k → W2.cell? ⟨cb, co + (k - 1), none⟩ = some (.int .i64 (c.getD (k - 1) 0 : Nat)) ∧ c.getD (k - 1) 0 < n ∧ R (c.getD (k - 1) 0) (c.getD k 0) = true) := hide (fun h0 => by
      obtain ⟨cb', co', e', hcp⟩ := intsR_at HUI.out (i := k - 1) (by rw [natsO_ln]; omega)
      cases e'
      rw [natsO_getD] at hcp
      have h1 := chain_at HCH.out (i := k - 1) (by omega)
      rw [show k - 1 + 1 = k by omega] at h1
      exact ⟨hcp, HXM.out _ (by omega), h1⟩)
     obtain ⟨x, hx⟩ : ∃ x, c.getD k 0 = x := ⟨_, rfl⟩
     rw [hx] at hck hxn HN HPV
     have hx8 : x < 8 := by omega
     have hx8I : (x : Int) < 8 := by omega
     have hx0 : ¬ (x : Int) < 0 := by omega
     have hxnN : decide (n ≤ x) = false := decide_eq_false (by omega)
     have hxnI : ¬ (n : Int) ≤ x := by omega
     obtain ⟨S, hS⟩ : ∃ S : Nat, BC (FF i k) = S := ⟨_, rfl⟩
     have hS8 : S < 256 := by rw [← hS]; exact HBL.out _
     have HSN : Hid (BC (FF i (k + 1)) = S ||| 2 ^ x) := hide (by rw [HN.out, HBA.out _ _ hx8, hS])
     have HLN : Hid ((FF i (k + 1)).length = (FF i k).length + 1) := hide (by rw [HN.out, List.length_append, List.length_singleton])
     rw [hS]
     have hor := or_pow8 hS8 hx8
     obtain ⟨q, hq⟩ : ∃ q, (FF i k).length = q := ⟨_, rfl⟩
     rw [hq] at hfl HLN ⊢
     have hwq := wrap_n1 (x := q) (by omega)
     obtain ⟨X, hX⟩ : ∃ X, 2 ^ x = X := ⟨_, rfl⟩
     have hwX : wrap64 (2 ^ x) = (X : Int) := by rw [← hX]; exact wrapw (by omega)
     have hwY : IntKind.i64.wrap (2 ^ x) = (X : Int) := by rw [← hX]; exact wrap_pow (by omega)
     rw [hwY, hX] at hor
     rw [hX] at HSN
     have c0 := BO3.out.cell 0 rfl
     clear hx hS hfl hq hX hS8
     by_cases hk0 : k = 0
     ·have hd0 : decide (0 < k) = false := decide_eq_false (by omega)
      have HK0 := hide hk0
      clear hk0
      go_wp2_with fail
      clear hck hor hwX hwY hwq c0 hd0
      go_roundw
      case rel => exact ⟨k + 1, by have := HK.out; omega, by go_num, by rw [HLN.out]; go_num, by rw [HSN.out], by trivial⟩
      case measure => have := HK.out; simp [intOf]; omega
     ·obtain ⟨hcp, hyn, hr⟩ := HPV.out (by omega)
      obtain ⟨y, hy⟩ : ∃ y, c.getD (k - 1) 0 = y := ⟨_, rfl⟩
      rw [hy] at hcp hyn hr
      have hy8 : y < 8 := by omega
      have hy8I : (y : Int) < 8 := by omega
      have t0 := BM.out.cell _ (relL_get R hy8 hx8)
      rw [hr] at t0
      have hd0 : decide (0 < k) = true := decide_eq_true (by omega)
      have hd1 : (0 : Int) < k := by omega
      have hwk := wrap_m1 (x := k) (by omega)
      have hmx : (if (k : Int) - 1 < 0 then 0 else (k : Int) - 1) = ((k - 1 : Nat) : Int) := by rw [if_neg (by omega)]; omega
      have hkl : ((k - 1 : Nat) : Int) < c.length := by omega
      have hkl2 : k - 1 < c.length := by omega
      clear hy hr hyn hk0
      go_wp2_with fail
      clear hck hcp t0 hor hwX hwY hwq c0 hd0 hd1 hwk hmx
      go_roundw
      case rel => exact ⟨k + 1, by have := HK.out; omega, by go_num, by rw [HLN.out]; go_num, by rw [HSN.out], by trivial⟩
      case measure => have := HK.out; simp [intOf]; omega
    ·obtain rfl : k = c.length := by omega
     rw [HFR1.out]
     go_wp2_with fail
     go_roundw
     case rel => exact ⟨i + 1, by have := HI.out; omega, by go_num, rfl, rfl, by trivial⟩
     case measure => have := HI.out; simp [intOf]; omega
  ·obtain rfl : i = L.length := by omega
   have HN1 : Hid ((FF L.length 0).length = n) := hide (by rw [HFA.out, HQL.out])
   have HN2 : Hid (BC (FF L.length 0) = T - 1) := hide (by rw [HFA.out]; exact HBF.out)
   rw [HN1.out, HN2.out]
   have c0 := BO3.out.cell 0 rfl
   have e1 : ((T - 1 : Nat) : Int) = (T : Int) - 1 := by omega
   rw [e1]
   clear e1
   go_wp2_with fail
   go_ret
   exact ⟨rfl, HW3.out⟩
end Go.Proofs.YtnidcoinfmcffaaDoor
/- The reference of chapter 15: cover. Conditions: how the line and the chains lie in memory. -/
namespace Go.Proofs.YtnidcoinfmcffaaDoor
open Go.RowKit
attribute [local go_sem] Oper.semAt_some
theorem OwnL.push2 {W W1 W' : World} {B : Nat} {v v' u : Value} {us : List Value} {L : List (List Int)} {l : List Int} (h : OwnL W B v us L) (hb : Below W.heap.size W W1) (hu : OwnI W1 W.heap.size u l) (hB : B ≤ W.heap.size)
  (hr : OwnR W' B 26 1 v' ((us.map fun u => [u]) ++ [[u]])) (hE : Eff (fun k => some k = v.ownBlock) W1 W') : OwnL W' B v' (us ++ [u]) (L ++ [l]) := by
 have hrow1 := OwnR.later' h.row hb
 refine ⟨by simp [h.len], by rw [List.map_append]; exact hr, fun i hi => ?_, fun i j hi hj hij g hg => ?_⟩
 ·rw [List.length_append, List.length_singleton] at hi
  rw [getD_snoc _ _ _ _ (by rw [h.len]; exact hi), getD_snoc _ _ _ _ hi, h.len]
  split
  ·rename_i hl
   exact OwnI.eff (own_later (h.each i hl) hb) hE fun g hg e => own_types hrow1 (own_later (h.each i hl) hb) (by decide) e.symm hg
  ·exact own_weak (OwnI.eff hu hE fun g hg e => own_types hrow1 hu (by decide) e.symm hg) hB
 ·rw [List.length_append, List.length_singleton] at hi hj
  rw [getD_snoc _ _ _ _ (by rw [h.len]; exact hi), h.len] at hg
  rw [getD_snoc _ _ _ _ (by rw [h.len]; exact hj), h.len]
  split at hg
  ·split
   ·exact h.apart i j ‹_› ‹_› hij g hg
   ·intro e
    have h1 := ((h.each i ‹_›).ltB hg).2
    have h2 := (hu.ltB e).1
    omega
  ·split
   ·intro e
    have h1 := ((h.each j ‹_›).ltB e).2
    have h2 := (hu.ltB hg).1
    omega
   ·omega
theorem OwnL.below {W W' : World} {B : Nat} {v : Value} {us : List Value} {L : List (List Int)} (h : OwnL W B v us L) (hb : Below W.heap.size W W') : OwnL W' B v us L :=
 ⟨h.len, OwnR.later' h.row hb, fun i hi => own_later (h.each i hi) hb, h.apart⟩
theorem lists_low {w W : World} {v : Value} {L : List (List Int)} (h : ListsIn w.cell? v L) (hb : Below w.heap.size w W) : ListsIn W.cell? v L := by
 obtain ⟨a, n, e, h1, h2, h3⟩ := h
 exact ⟨a, n, e, h1, h2, fun i hi => let ⟨b, o, u, e1, hc, hu⟩ := h3 i hi; ⟨b, o, u, e1, keep hb hc, ints_low hu hb⟩⟩
theorem lists_at {w : World} {a : Option Addr} {n c : Nat} {L : List (List Nat)} (h : ListsIn w.cell? (.slice a n c) (natsL L)) {i : Nat} (hi : i < L.length) : ∃ b o ua uc, a = some ⟨b, o, none⟩ ∧ w.cell? ⟨b, o + i, none⟩ = some (.slice ua (L.getD i []).length uc) ∧ IntsIn w.cell? (.slice ua (L.getD i []).length uc) (natsO (L.getD i [])) := by
 obtain ⟨a', n', e, -, -, h3⟩ := h
 obtain ⟨rfl, -, -⟩ := Value.slice.inj e
 obtain ⟨b, o, u, e, hc, hu⟩ := h3 i (by rw [natsL_len]; exact hi)
 rw [natsL_get] at hu
 obtain ⟨ua, uc, rfl, -, -, -⟩ := id hu
 rw [natsO_ln] at hc hu
 exact ⟨b, o, ua, uc, e, hc, hu⟩
/-- how many chains a cover has; never nil where there is one -/
def RcV (m : Nat) (v : Value) : Prop := ∃ a c, v = .slice a m c ∧ (0 < m → ∃ b o, a = some ⟨b, o, none⟩)
def RcQ (m : Nat) (w : World) (e : Ending) (w' : World) : Prop := ∃ v, e = .returned v ∧ RcV m v ∧ Below w.heap.size w w'
def BestV (r : Option Nat) (v : Value) : Prop := match r with
 | none => v = .slice none 0 0
 | some m => ∃ b o c, v = .slice (some ⟨b, o, none⟩) m c
def covO' (R : RelO) (x : Nat) (t : List Nat) (s : List (List Nat)) (i : Nat) : Option Nat := if i = s.length then some (rcovN R t (s ++ [[x]])) else if R (lastO (s.getD i [])) x then some (rcovN R t (s.set i (s.getD i [] ++ [x]))) else none
theorem rcov_cons (R : RelO) (x : Nat) (t : List Nat) (s : List (List Nat)) : rcovN R (x :: t) s = (bestM (covO' R x t s) (s.length + 1)).getD 0 := rfl
theorem rcov_pos {R : RelO} : ∀ (t : List Nat) (s : List (List Nat)), s ≠ [] → 0 < rcovN R t s
 | [], s, h => List.length_pos_iff.2 h
 | x :: t, s, h => by
  rw [rcov_cons]
  obtain ⟨b, hb, -⟩ := bestM_le (f := covO' R x t s) (k := s.length + 1) (i := s.length) (v := rcovN R t (s ++ [[x]])) (by omega) (by unfold covO'; rw [if_pos rfl])
  rw [hb]
  obtain ⟨i, hi, e⟩ := bestM_is hb
  show 0 < b
  unfold covO' at e
  by_cases h1 : i = s.length
  ·rw [if_pos h1] at e
   rw [← Option.some.inj e]
   exact rcov_pos t _ (by simp)
  ·rw [if_neg h1] at e
   cases hr : R (lastO (s.getD i [])) x with
   | false => rw [hr] at e; cases e
   | true =>
    rw [hr, if_pos rfl] at e
    rw [← Option.some.inj e]
    exact rcov_pos t _ (by intro e2; have := congrArg List.length e2; rw [List.length_set] at this; exact h (List.eq_nil_of_length_eq_zero this))
theorem copy_below {wr w3 : World} {o : Obj} (hE : Eff (fun k => some k = (Value.slice (some ⟨wr.heap.size, 0, none⟩) 0 0).ownBlock) (wr.alloc o) w3) : Below wr.heap.size wr w3 :=
 (bal wr o).trans (hE.below (by simp) (fun k e => by have e : k = wr.heap.size := Option.some.inj e; omega))
theorem bestM_succ {f : Nat → Option Nat} {i q : Nat} (h : f i = some q) : bestM f (i + 1) = some (match bestM f i with
  | none => q
  | some b => if q < b then q else b) := by
 show (match f i with
  | none => bestM f i
  | some v => match bestM f i with
   | none => some v
   | some b => some (if v < b then v else b)) = _
 rw [h]
 cases bestM f i <;> rfl
theorem bestM_skip {f : Nat → Option Nat} {i : Nat} (h : f i = none) : bestM f (i + 1) = bestM f i := by
 show (match f i with
  | none => bestM f i
  | some v => match bestM f i with
   | none => some v
   | some b => some (if v < b then v else b)) = _
 rw [h]
/-- what an append to one list of own lists leaves, until it is stored there -/
def PutV (B gn i cn oc n : Nat) (us : List Value) (L : List (List Int)) (l : List Int) (W : World) (x : Value) : Prop := ∃ ga gc, x = .slice (some ⟨ga, 0, none⟩) (cn + 1) gc ∧ (∃ old, W.cell? ⟨gn, i, none⟩ = some old) ∧ W.frozen? ⟨gn, i, none⟩ = false ∧ OwnL (W.setCell ⟨gn, i, none⟩ x) B (.slice (some ⟨gn, 0, none⟩) n oc) (us.set i x) (L.set i l)
theorem put_of {W W1 : World} {B gn i cn oc n : Nat} {us : List Value} {L : List (List Int)} {u' : Value} {l' : List Int} (h : OwnL W B (.slice (some ⟨gn, 0, none⟩) n oc) us L) (hi : i < L.length) (hu : OwnI W1 B u' l') (hl : l'.length = cn + 1)
  (hE : Eff (fun j => some j = (us.getD i nilS).ownBlock) W W1) (hs : u'.ownBlock = (us.getD i nilS).ownBlock ∨ ∀ g, u'.ownBlock = some g → W.heap.size ≤ g) : PutV B gn i cn oc n us L l' W1 u' := by
 have hiu : i < us.length := by rw [h.len]; exact hi
 have hrow : OwnR W1 B 26 1 (.slice (some ⟨gn, 0, none⟩) n oc) (us.map fun u => [u]) := OwnR.eff h.row hE fun g hg e => own_types h.row (h.each i hi) (by decide) hg e.symm
 have hn : n = (us.map fun u => [u]).length := by
  rcases hrow.form with ⟨e, -⟩ | ⟨g', c', cur, e1, -⟩
  ·cases e
  ·cases e1; rfl
 have hcell := hrow.cell i 0 (u := us.getD i nilS) (by rw [List.length_map]; exact hiu) (by decide) (by
  rw [List.getD_eq_getElem?_getD, List.getElem?_map, List.getElem?_eq_getElem hiu, List.getD_eq_getElem?_getD, List.getElem?_eq_getElem hiu]; rfl)
 rw [Nat.mul_one, Nat.add_zero] at hcell
 have hfr : W1.frozen? ⟨gn, i, none⟩ = false := by rw [hn] at hrow; exact hrow.frozen i
 have hput := OwnL.put h hi hu hE hs
 rcases hu.2 with ⟨-, h0⟩ | ⟨ga, gc, cur, e, -⟩
 ·omega
 ·exact ⟨ga, gc, by rw [e, hl], ⟨_, hcell⟩, hfr, hput⟩
set_option maxRecDepth 100000 in
set_option maxHeartbeats 4000000 in
theorem rcov_any (R : RelO) : ∀ (t : List Nat) (s : List (List Nat)) (tv sv : Value) (w : World), (∀ y ∈ t, y < 8) → (∀ c ∈ s, c ≠ [] ∧ (∀ y ∈ c, y < 8) ∧ c.length + t.length ≤ 100) → s.length + t.length ≤ 100 → IntsIn w.cell? tv (natsO t) → ListsIn w.cell? sv (natsL s) → Calls Tryd.prog 75 #[relV R, tv, sv] w (RcQ (rcovN R t s) w) := by
 intro t
 induction t with
 | nil =>
  intro s tv sv w ht hs hl hti hsi
  obtain ⟨ta, tc, rfl, -, -, -⟩ := id hti
  obtain ⟨sa, sc, rfl, -, -, h3⟩ := id hsi
  rw [natsL_len] at h3 ⊢
  have HR : Hid (rcovN R [] s = s.length) := hide rfl
  have HSA : Hid (0 < s.length → ∃ b o, sa = some ⟨b, o, none⟩) := hide (fun h0 => let ⟨b, o, u, e, _⟩ := h3 0 h0; ⟨b, o, e⟩)
  generalize s.length = m at *
  clear ht hs hl hti hsi h3
  go_enter Tryd.func75, Tryd.ntmps75
  go_wp2_with fail
  go_ret
  exact ⟨_, rfl, ⟨sa, sc, by rw [HR.out]; rfl, by rw [HR.out]; exact HSA.out⟩, bal w _⟩
 | cons x t ih =>
  intro s tv sv w ht hs hl hti hsi
  obtain ⟨ta, tc, rfl, ht1, ht2, -⟩ := id hti
  obtain ⟨sa, sc, rfl, hs1, hs2, -⟩ := id hsi
  rw [natsO_ln] at hti ht1 ⊢
  rw [natsL_len] at hsi hs1 ⊢
  have HTI := hide hti
  have HSI := hide hsi
  have HX8 := hide (ht x (by simp))
  have HCB : Hid (∀ k, k < s.length → (s.getD k []).length ≤ 100) := hide (fun k hk => by have := (hs _ (getD_mem s k (d := []) hk)).2.2; omega)
  have HLB := hide hl
  have HIH := hide ih
  have HT8 := hide ht
  have HSC := hide hs
  obtain ⟨f, hf⟩ : ∃ f, covO' R x t s = f := ⟨_, rfl⟩
  have HF := hide hf
  have HRV : Hid (rcovN R (x :: t) s = (bestM f (s.length + 1)).getD 0) := hide (by rw [rcov_cons, hf])
  have hslI : (s.length : Int) ≤ 9223372036854775807 := by omega
  have hsl : s.length ≤ 100 := by simp only [List.length_cons] at hl; omega
  obtain ⟨tl, htl⟩ : ∃ tl, (x :: t).length = tl := ⟨_, rfl⟩
  have htl1 : tl = t.length + 1 := by rw [← htl]; simp
  have HTL := hide htl1
  have HTC := hide (show tl ≤ tc by rw [← htl]; exact ht1)
  rw [htl] at hti HTI ht1 HLB ⊢
  have hz1 : ((tl : Int) == 0) = false := beq_eq_false_iff_ne.2 (by omega)
  have hz2 : (tl == 0) = false := beq_eq_false_iff_ne.2 (by omega)
  clear ih ht hs hl hti hsi hs2 ht2 htl htl1 hf
  go_enter Tryd.func75, Tryd.ntmps75
  go_wp2_with fail
  generalize hX1 : World.alloc w _ = X1
  have zX1 : X1.heap.size = w.heap.size + 1 := by rw [← hX1]; simp
  have bX1 : Below w.heap.size w X1 := by rw [← hX1]; exact bal w _
  have bM : Blk X1 (w.heap.size) (relL R) 62 := by rw [← hX1]; exact Blk.newA w _ (by first | rfl | simp)
  have Xb := bX1
  have Xz := zX1
  clear hX1 zX1 bX1
  have HS1 := hide (lists_low HSI.out Xb)
  have HT1 := hide (ints_low HTI.out Xb)
  have HBM := hide bM
  have HXB := hide Xb
  clear bM Xb Xz hz1 hz2 HSI HTI
  go_loopw [7, 8] (fun v i wr => ∃ k : Nat, k ≤ s.length + 1 ∧ i = .int .i64 k ∧ BestV (bestM f k) v ∧ Below X1.heap.size X1 wr) (fun _ i _ => s.length + 1 - (intOf i).toNat)
  case atStart => exact ⟨0, by omega, rfl, rfl, Below.refl _ _⟩
  case round =>
   obtain ⟨i, hi, rfl, hbest, hbr⟩ := hrel
   have HBE := hide hbest
   have HBA := hide hbr
   clear hbest hbr
   by_cases hli : i ≤ s.length
   ·have hliI : (i : Int) ≤ s.length := by omega
    have hlid : decide (i ≤ s.length) = true := decide_eq_true hli
    have HI := hide hli
    go_wp2_with fail
    generalize wr = wA at *
    go_loopw [9, 10] (fun v j wz => ∃ (k : Nat) (us : List Value), k ≤ s.length ∧ j = .int .i64 k ∧ OwnL wz wA.heap.size v us (natsL (s.take k)) ∧ Below wA.heap.size wA wz) (fun _ j _ => s.length - (intOf j).toNat)
    case atStart => exact ⟨0, [], by omega, rfl, by rw [show s.take 0 = [] from rfl]; exact OwnL.nil _ _, Below.refl _ _⟩
    case round =>
     obtain ⟨k, us, hk, rfl, hO, hbz⟩ := hrel
     have HO := hide hO
     have HBZ := hide hbz
     have hul : (us.map fun u => [u]).length = k := by rw [List.length_map, hO.len, natsL_len, List.length_take]; omega
     obtain ⟨oa, oc, rfl⟩ := OwnR.formE hO.row
     rw [hul] at HO ⊢
     have HUL := hide hul
     clear hO hbz hul
     by_cases hlk : k < s.length
     ·have hlkI : (k : Int) < s.length := by omega
      have HK := hide hlk
      have HLS := hide (lists_low (lists_low HS1.out HBA.out) HBZ.out)
      obtain ⟨sb, so, ua, uc, rfl, hck, huk⟩ := lists_at HLS.out hlk
      have HUK := hide huk
      have hcl := HCB.out k hlk
      have HTK : Hid (natsL (s.take (k + 1)) = natsL (s.take k) ++ [natsO (s.getD k [])]) := hide (by rw [take_succ' s k [] hlk, natsL_snoc])
      have hcn : (natsO (s.getD k [])).length = (s.getD k []).length := natsO_ln _
      have HCN := hide hcn
      generalize natsO (s.getD k []) = cl at *
      generalize (s.getD k []).length = cn at *
      have hsz := HBZ.out.size
      have hcl2 : cl.length < 1000 := by omega
      have hck2 : ∀ o, (wr.alloc o).cell? ⟨sb, so + k, none⟩ = some (.slice ua cn uc) := fun o => keep (bal wr o) hck
      have HCL2 := hide hcl2
      clear huk hcn hck hcl hcl2
      go_wp2_with (first | (at_builtin; refine app_recE infoSli rfl (by decide) Tryd.underlying50 rfl _ _ rfl wA.heap.size _ (us.map fun u => [u]) rfl HRW.out [.slice va3 n3 vc3] rfl (by intro u hu; rw [List.mem_singleton.1 hu]; rfl) _ rfl rfl (by rw [HUL.out]; omega) (by rw [HUL.out]; omega) HSZ3.out ?_; intro v4 w4 hO4 hE4 hob4; have HOL := hide (OwnL.push2 HO.out HB3.out HO3.out hsz hO4 hE4); have HB4 := hide ((HBZ.out.trans (HB3.out.mono hsz)).trans (hE4.below HSZ3.out (fun k e => (OwnR.ltB HRW.out e.symm).1))); clear hO4 hE4 hob4) | (at_builtin; refine app_intsS rfl _ _ rfl wr.heap.size _ [] rfl (lit_ints wr) (.slice ua cn uc) cl rfl (ints_low HUK.out (bal wr _)) (by rw [List.length_nil]; have := HCL2.out; omega) (by simp) ?_; intro v3 w3 hO3 hE3 _; have HB3 := hide (copy_below hE3); rw [List.nil_append] at hO3; obtain ⟨va3, vc3, hv3⟩ := hO3.form; obtain ⟨n3, hn3⟩ : ∃ n3, cl.length = n3 := ⟨_, rfl⟩; rw [hn3] at hv3; subst hv3; have HO3 := hide hO3; have HRW := hide (OwnR.later' HO.out.row HB3.out); have HSZ3 := hide (Nat.le_trans hsz HB3.out.size); clear hO3 hE3 hn3))
      go_roundw
      case rel => exact ⟨k + 1, _, by have := HK.out; omega, by go_num, by rw [HTK.out]; exact HOL.out, HB4.out⟩
      case measure => have := HK.out; simp [intOf]; omega
     ·obtain rfl : k = s.length := by omega
      rw [List.take_length] at HO
      have HSW := hide (lists_low (lists_low HS1.out HBA.out) HBZ.out)
      obtain ⟨lb, lo, rfl, hcx⟩ := intsR_at (ints_low (ints_low HT1.out HBA.out) HBZ.out) (i := 0) (by rw [natsO_ln, List.length_cons]; omega)
      rw [Nat.add_zero, show (natsO (x :: t)).getD 0 0 = ((x : Nat) : Int) from rfl] at hcx
      have HCX := hide hcx
      have htlI : (0 : Int) < tl := by have := HTL.out; omega
      have htlN : 0 < tl := by have := HTL.out; omega
      have hszA := HBZ.out.size
      clear hcx
      by_cases hie : i = s.length
      ·subst hie
       have HFI : Hid (f s.length = some (rcovN R t (s ++ [[x]]))) := hide (by rw [← HF.out]; unfold covO'; rw [if_pos rfl])
       have hcx2 : ∀ o, (wr.alloc o).cell? ⟨lb, lo, none⟩ = some (.int .i64 (x : Nat)) := fun o => keep (bal wr o) HCX.out
       have hcx := HCX.out
       have HUL2 : Hid ((us.map fun u => [u]).length = s.length) := HUL
       go_wp2_with (at_builtin; refine app_recE infoSli rfl (by decide) Tryd.underlying50 rfl _ _ rfl wA.heap.size _ (us.map fun u => [u]) rfl (OwnR.later' HO.out.row (bal wr _)) [.slice (some ⟨wr.heap.size, 0, none⟩) 1 1] rfl (by intro u hu; rw [List.mem_singleton.1 hu]; rfl) _ rfl (by simp) (by rw [HUL2.out]; omega) (by rw [HUL2.out]; omega) (by simp; omega) ?_; intro v4 w4 hO4 hE4 hob4)
       obtain ⟨na, nc, e4⟩ := OwnR.formE hO4
       have hl4 : ((us.map fun u => [u]) ++ [[Value.slice (some ⟨wr.heap.size, 0, none⟩) 1 1]]).length = s.length + 1 := by rw [List.length_append, HUL2.out]; rfl
       rw [hl4] at e4
       subst e4
       have hlit : OwnI (wr.alloc (.cells #[.int .i64 (x : Nat)] 3)) wr.heap.size (.slice (some ⟨wr.heap.size, 0, none⟩) 1 1) [(x : Int)] := World.ownsRow_lit wr #[.int .i64 (x : Nat)] 1 (Nat.le_refl _) (by unfold maxLen; omega) rfl
       have HOL := hide (OwnL.push2 HO.out (bal wr _) hlit hszA hO4 hE4)
       have HLN : Hid (ListsIn w4.cell? (.slice na (s.length + 1) nc) (natsL (s ++ [[x]]))) := hide (by
        have h := (HOL.out.inF (Nat.le_refl _))
        rw [natsL_snoc]
        obtain ⟨a9, n9, e9, g1, g2, g3⟩ := h
        exact ⟨a9, n9, e9, g1, g2, fun i hi => let ⟨b, o, u, q1, q2, q3⟩ := g3 i hi; ⟨b, o, u, q1, (frm_block q2).2, q3.at⟩⟩)
       have HB4 : Hid (Below X1.heap.size X1 w4) := hide (below2 HBA.out ((HBZ.out.trans ((bal wr _).mono hszA)).trans (hE4.below (by simp; omega) (fun k e => (HO.out.row.ltB e.symm).1))))
       clear hO4 hE4 hob4 hlit hl4 hcx hcx2
       obtain ⟨q, hq⟩ : ∃ q, rcovN R t (s ++ [[x]]) = q := ⟨_, rfl⟩
       have hqp : 0 < q := by rw [← hq]; exact rcov_pos t _ (by simp)
       rw [hq] at HFI
       have htc := HTC.out
       have hA2 : 1 < (natsO (x :: t)).length → (if tc = 1 then (some ⟨lb, lo, none⟩ : Option Addr) else some ⟨lb, lo + 1, none⟩) = some ⟨lb, lo + 1, none⟩ := fun h => by
        rw [natsO_ln, List.length_cons] at h
        rw [if_neg (by have := HTL.out; omega)]
       have HCC : Hid (∀ W, Below w4.heap.size w4 W → Calls Tryd.prog 75 #[relV R, .slice (if tc = 1 then some ⟨lb, lo, none⟩ else some ⟨lb, lo + 1, none⟩) (tl - 1) (tc - 1), (.slice na (s.length + 1) nc)] W (RcQ q W)) := hide (fun W hW => by
        have h1 := IntsIn.drop (ints_low (ints_low HT1.out HB4.out) hW) (k := 1) (by rw [natsO_ln, List.length_cons]; omega) hA2
        rw [← hq]
        exact HIH.out (s ++ [[x]]) _ _ W (fun y hy => HT8.out y (List.mem_cons_of_mem _ hy)) (fun c hc => by rcases List.mem_append.1 hc with h | h; exact ⟨(HSC.out c h).1, (HSC.out c h).2.1, by have := (HSC.out c h).2.2; simp only [List.length_cons] at this; omega⟩; rw [List.mem_singleton.1 h]; exact ⟨by simp, fun y hy => by rw [List.mem_singleton.1 hy]; exact HX8.out, by have := HLB.out; have := HTL.out; simp; omega⟩) (by have := HLB.out; have := HTL.out; simp; omega) h1 (lists_low HLN.out hW))
       have HBM4 := hide (HBM.out.later HB4.out)
       have htl1I : (1 : Int) ≤ tl := by omega
       have htc1I : (1 : Int) ≤ tc := by omega
       have htlc : (tl : Int) ≤ tc := by omega
       clear hq hA2
       go_upto_region 16 with (fail)
       refine wp_region_inv [some 79, some 80, some 81, some 82, some 83, some 11] (fun L vs W => match vs with | [x0, x1, x2, x3, x4, x5] => (Below w4.heap.size w4 W) ∧ (L 0 = true → x0 = relV R) ∧ (L 1 = true → x1 = .slice (some ⟨lb, lo, none⟩) tl tc) ∧ (L 2 = true → x2 = .slice (if tc = 1 then some ⟨lb, lo, none⟩ else some ⟨lb, lo + 1, none⟩) (tl - 1) (tc - 1)) ∧ (L 3 = true → x3 = (.slice na (s.length + 1) nc)) ∧ (L 4 = true → RcV q x4) ∧ (L 5 = true → RcV q x5) | _ => False) [_, _, _, _, _, _] (by kernel_rfl) (by kernel_rfl) rfl (by simp only [puts, Act.put, List.setIfInBounds_toArray, List.set_cons_zero, List.set_cons_succ] <;> rfl) ?_ ?_ ?_
       ·exact ⟨(Below.refl _ _).drew, (fun h => by cases h), (fun h => by cases h), (fun h => by cases h), (fun h => by cases h), (fun h => by cases h), (fun h => by cases h)⟩
       ·refine ⟨?_, ?_, ?_, ?_, ?_, ?_, trivial⟩
        ·intro L vs W hlen hL hD hI K hK
         obtain ⟨x0, x1, x2, x3, x4, x5, rfl⟩ := len6 hlen
         have hG := hI.1
         replace hI := hI.2
         have f0 := hide hI.1
         replace hI := hI.2
         have f1 := hide hI.1
         replace hI := hI.2
         have f2 := hide hI.1
         replace hI := hI.2
         have f3 := hide hI.1
         replace hI := hI.2
         have f4 := hide hI.1
         replace hI := hI.2
         have f5 := hide hI
         clear hI
         try simp only [puts, Act.put, List.setIfInBounds_toArray, List.set_cons_zero, List.set_cons_succ]
         refine step_load_rel rfl _ rfl w.heap.size rfl R (HBM4.out.later hG) ?_
         exact hK.out _ _ _ (by simp only [puts, Act.put, List.setIfInBounds_toArray, List.set_cons_zero, List.set_cons_succ] <;> rfl) ⟨hG, (fun _ => rfl), (fun h => f1.out h), (fun h => f2.out h), (fun h => f3.out h), (fun h => f4.out h), (fun h => f5.out h)⟩
        ·intro L vs W hlen hL hD hI K hK
         obtain ⟨x0, x1, x2, x3, x4, x5, rfl⟩ := len6 hlen
         have hG := hI.1
         replace hI := hI.2
         have f0 := hide hI.1
         replace hI := hI.2
         have f1 := hide hI.1
         replace hI := hI.2
         have f2 := hide hI.1
         replace hI := hI.2
         have f3 := hide hI.1
         replace hI := hI.2
         have f4 := hide hI.1
         replace hI := hI.2
         have f5 := hide hI
         clear hI
         try simp only [puts, Act.put, List.setIfInBounds_toArray, List.set_cons_zero, List.set_cons_succ]
         try go_simp
         exact hK.out _ _ _ (by simp only [puts, Act.put, List.setIfInBounds_toArray, List.set_cons_zero, List.set_cons_succ] <;> rfl) ⟨hG, (fun h => f0.out h), (fun _ => rfl), (fun h => f2.out h), (fun h => f3.out h), (fun h => f4.out h), (fun h => f5.out h)⟩
        ·intro L vs W hlen hL hD hI K hK
         obtain ⟨x0, x1, x2, x3, x4, x5, rfl⟩ := len6 hlen
         have hG := hI.1
         replace hI := hI.2
         have f0 := hide hI.1
         replace hI := hI.2
         have f1 := hide hI.1
         replace hI := hI.2
         have f2 := hide hI.1
         replace hI := hI.2
         have f3 := hide hI.1
         replace hI := hI.2
         have f4 := hide hI.1
         replace hI := hI.2
         have f5 := hide hI
         clear hI
         obtain rfl := f1.out (hD.on 1 (by kernel_rfl))
         try simp only [puts, Act.put, List.setIfInBounds_toArray, List.set_cons_zero, List.set_cons_succ]
         try go_simp
         exact hK.out _ _ _ (by simp only [puts, Act.put, List.setIfInBounds_toArray, List.set_cons_zero, List.set_cons_succ] <;> rfl) ⟨hG, (fun h => f0.out h), (fun h => f1.out h), (fun _ => rfl), (fun h => f3.out h), (fun h => f4.out h), (fun h => f5.out h)⟩
        ·intro L vs W hlen hL hD hI K hK
         obtain ⟨x0, x1, x2, x3, x4, x5, rfl⟩ := len6 hlen
         have hG := hI.1
         replace hI := hI.2
         have f0 := hide hI.1
         replace hI := hI.2
         have f1 := hide hI.1
         replace hI := hI.2
         have f2 := hide hI.1
         replace hI := hI.2
         have f3 := hide hI.1
         replace hI := hI.2
         have f4 := hide hI.1
         replace hI := hI.2
         have f5 := hide hI
         clear hI
         try simp only [puts, Act.put, List.setIfInBounds_toArray, List.set_cons_zero, List.set_cons_succ]
         try go_simp
         exact hK.out _ _ _ (by simp only [puts, Act.put, List.setIfInBounds_toArray, List.set_cons_zero, List.set_cons_succ] <;> rfl) ⟨hG, (fun h => f0.out h), (fun h => f1.out h), (fun h => f2.out h), (fun _ => rfl), (fun h => f4.out h), (fun h => f5.out h)⟩
        ·intro L vs W hlen hL hD hI K hK
         obtain ⟨x0, x1, x2, x3, x4, x5, rfl⟩ := len6 hlen
         have hG := hI.1
         replace hI := hI.2
         have f0 := hide hI.1
         replace hI := hI.2
         have f1 := hide hI.1
         replace hI := hI.2
         have f2 := hide hI.1
         replace hI := hI.2
         have f3 := hide hI.1
         replace hI := hI.2
         have f4 := hide hI.1
         replace hI := hI.2
         have f5 := hide hI
         clear hI
         obtain rfl := f0.out (hD.on 0 (by kernel_rfl))
         obtain rfl := f2.out (hD.on 2 (by kernel_rfl))
         obtain rfl := f3.out (hD.on 3 (by kernel_rfl))
         try simp only [puts, Act.put, List.setIfInBounds_toArray, List.set_cons_zero, List.set_cons_succ]
         have HC1 := hide (HCC.out W hG)
         go_simp
         refine HC1.out.mono ?_
         rintro e W' ⟨v, rfl, hv, hb⟩
         obtain ⟨ra, rc, rfl, hra⟩ := id hv
         try go_simp
         exact hK.out _ _ _ (by simp only [puts, Act.put, List.setIfInBounds_toArray, List.set_cons_zero, List.set_cons_succ] <;> rfl) ⟨below2 hG hb, (fun h => f0.out h), (fun h => f1.out h), (fun h => f2.out h), (fun h => f3.out h), (fun _ => hv), (fun h => f5.out h)⟩
        ·intro L vs W hlen hL hD hI K hK
         obtain ⟨x0, x1, x2, x3, x4, x5, rfl⟩ := len6 hlen
         have hG := hI.1
         replace hI := hI.2
         have f0 := hide hI.1
         replace hI := hI.2
         have f1 := hide hI.1
         replace hI := hI.2
         have f2 := hide hI.1
         replace hI := hI.2
         have f3 := hide hI.1
         replace hI := hI.2
         have f4 := hide hI.1
         replace hI := hI.2
         have f5 := hide hI
         clear hI
         have g4 := f4.out (hD.on 4 (by kernel_rfl))
         try simp only [puts, Act.put, List.setIfInBounds_toArray, List.set_cons_zero, List.set_cons_succ]
         obtain ⟨ra, rc, rfl, hra⟩ := g4
         go_simp
         exact hK.out _ _ _ (by simp only [puts, Act.put, List.setIfInBounds_toArray, List.set_cons_zero, List.set_cons_succ] <;> rfl) ⟨hG, (fun h => f0.out h), (fun h => f1.out h), (fun h => f2.out h), (fun h => f3.out h), (fun h => f4.out h), (fun _ => ⟨ra, rc, rfl, hra⟩)⟩
       intro L vs W hlen hall hI
       obtain ⟨x0, x1, x2, x3, x4, x5, rfl⟩ := len6 hlen
       have hG := hI.1
       replace hI := hI.2
       have f0 := hide hI.1
       replace hI := hI.2
       have f1 := hide hI.1
       replace hI := hI.2
       have f2 := hide hI.1
       replace hI := hI.2
       have f3 := hide hI.1
       replace hI := hI.2
       have f4 := hide hI.1
       replace hI := hI.2
       have f5 := hide hI
       clear hI
       obtain rfl := f0.out (hall 0 (by decide))
       obtain rfl := f1.out (hall 1 (by decide))
       obtain rfl := f2.out (hall 2 (by decide))
       obtain rfl := f3.out (hall 3 (by decide))
       have g4 := f4.out (hall 4 (by decide))
       have g5 := f5.out (hall 5 (by decide))
       have hal := hide hall
       clear hall f0 f1 f2 f3 f4 f5
       try simp only [puts, Act.put, List.setIfInBounds_toArray, List.set_cons_zero, List.set_cons_succ]
       generalize (if tc = 1 then (some ⟨lb, lo, none⟩ : Option Addr) else some ⟨lb, lo + 1, none⟩) = aX at *
       obtain ⟨ra', rc', rfl, -⟩ := g4
       obtain ⟨ra, rc, rfl, hra⟩ := g5
       obtain ⟨rb, ro, rfl⟩ := hra hqp
       have HBF := hide (below2 HB4.out hG)
       have HBS := hide (bestM_succ HFI.out)
       have HBV := HBE.out
       clear hG hal hra
       have hnl := fun (w : World) (a : Option Addr) (n c n' c' : Nat) => Lib.run_eql_slice_nil (P := Tryd.prog) w 50 26 a n c n' c' Tryd.underlying50
       generalize bestM f (s.length) = bi at HBS HBV
       cases bi with
       | none =>
        obtain rfl : _ = Value.slice none 0 0 := HBV
        go_wp2_with fail
        go_roundw
        case rel => exact ⟨s.length + 1, by have := HI.out; omega, by go_num, by rw [HBS.out]; exact ⟨_, _, _, rfl⟩, HBF.out⟩
        case measure => have := HI.out; simp [intOf] <;> omega
       | some b =>
        obtain ⟨vb, vo, vc, rfl⟩ := HBV
        by_cases hqb : q < b
        ·have hqd : decide (q < b) = true := decide_eq_true hqb
         have HQB := hide hqb
         clear hqb
         go_wp2_with fail
         clear hqd
         go_roundw
         case rel => exact ⟨s.length + 1, by have := HI.out; omega, by go_num, by rw [HBS.out]; dsimp only; rw [if_pos HQB.out]; exact ⟨_, _, _, rfl⟩, HBF.out⟩
         case measure => have := HI.out; simp [intOf] <;> omega
        ·have hqd : decide (q < b) = false := decide_eq_false hqb
         have HQB := hide hqb
         clear hqb
         go_wp2_with fail
         clear hqd
         go_roundw
         case rel => exact ⟨s.length + 1, by have := HI.out; omega, by go_num, by rw [HBS.out]; dsimp only; rw [if_neg HQB.out]; exact ⟨_, _, _, rfl⟩, HBF.out⟩
         case measure => have := HI.out; simp [intOf] <;> omega
      ·have hil : i < s.length := by have := HI.out; omega
       have hilI : (i : Int) < s.length := by omega
       have HIL := hide hil
       have hie1 : ((i : Int) == (s.length : Int)) = false := beq_eq_false_iff_ne.2 (by omega)
       have hie2 : (i == s.length) = false := beq_eq_false_iff_ne.2 hie
       have hmem : s.getD i [] ∈ s := getD_mem s i (d := []) hil
       have hcp : 0 < (s.getD i []).length := List.length_pos_iff.2 (HSC.out _ hmem).1
       have hz8 : lastO (s.getD i []) < 8 := (HSC.out _ hmem).2.1 _ (getD_mem _ _ (by omega))
       obtain ⟨sb, so, ua, uc, rfl, hci, hui⟩ := lists_at HSW.out hil
       obtain ⟨cb, co, rfl, hcl⟩ := intsR_at hui (i := (s.getD i []).length - 1) (by rw [natsO_ln]; omega)
       rw [natsO_getD, show (s.getD i []).getD ((s.getD i []).length - 1) 0 = lastO (s.getD i []) from rfl] at hcl
       have HFI0 : Hid (f i = if R (lastO (s.getD i [])) x then some (rcovN R t (s.set i (s.getD i [] ++ [x]))) else none) := hide (by rw [← HF.out]; unfold covO'; rw [if_neg hie])
       obtain ⟨z, hz⟩ : ∃ z, lastO (s.getD i []) = z := ⟨_, rfl⟩
       obtain ⟨cn, hcn⟩ : ∃ cn, (s.getD i []).length = cn := ⟨_, rfl⟩
       have HCNE := hide hcn
       have hc100 := HCB.out i hil
       rw [hz] at hcl hz8 HFI0
       rw [hcn] at hci hcl hcp hc100
       have hx8 : x < 8 := HX8.out
       have hz8I : (z : Int) < 8 := by omega
       have hx8I : (x : Int) < 8 := by omega
       have hcr := (HBM.out.later (below2 HBA.out HBZ.out)).cell _ (relL_get R hz8 hx8)
       have q1 : ∀ j : Bw wr.heap.size wr, j.W.cell? ⟨sb, so + i, none⟩ = some (.slice (some ⟨cb, co, none⟩) cn uc) := bwc hci
       have q2 : ∀ j : Bw wr.heap.size wr, j.W.cell? ⟨cb, co + (cn - 1), none⟩ = some (.int .i64 (z : Nat)) := bwc hcl
       have q3 : ∀ j : Bw wr.heap.size wr, j.W.cell? ⟨lb, lo, none⟩ = some (.int .i64 (x : Nat)) := bwc HCX.out
       have q4 : ∀ j : Bw wr.heap.size wr, j.W.cell? ⟨w.heap.size, z * 8 + x, none⟩ = some (.bool (R z x)) := bwc hcr
       have hwc : IntKind.i64.wrap ((cn : Int) - 1) = (cn : Int) - 1 := IntWalk.i64_in _ ⟨by omega, by omega⟩
       have hc0 : (0 : Int) ≤ (cn : Int) - 1 := by omega
       have hck : ((cn : Int) - 1).toNat = cn - 1 := by omega
       have hcl2 : (cn : Int) - 1 < cn := by omega
       clear hie hmem hui hcl hci hcr hz hcn
       cases hr : R z x
       ·rw [hr] at q4 HFI0
        have HFI : Hid (f i = none) := hide (by rw [HFI0.out]; rfl)
        have HSK := hide (bestM_skip HFI.out)
        clear hr HFI0
        go_upto_region 14 with (fail)
        refine wp_region_bw (by kernel_rfl) (by kernel_rfl) ?_
        repeat (go_big_quiet_step (fail))
        refine wpQuiet_nil ?_
        rintro _ ⟨j, rfl⟩
        have HBF := hide (below2 (below2 HBA.out HBZ.out) j.h)
        clear q1 q2 q3 q4 hwc hc0 hck hcl2
        go_wp2_with fail
        go_roundw
        case rel => exact ⟨i + 1, by have := HI.out; omega, by go_num, by rw [HSK.out]; exact HBE.out, HBF.out⟩
        case measure => have := HI.out; simp [intOf] <;> omega
       ·rw [hr] at q4 HFI0
        have HFI : Hid (f i = some (rcovN R t (s.set i (s.getD i [] ++ [x])))) := hide (by rw [HFI0.out]; rfl)
        clear hr HFI0
        go_upto_region 14 with (fail)
        refine wp_region_bw (by kernel_rfl) (by kernel_rfl) ?_
        repeat (go_big_quiet_step (fail))
        refine wpQuiet_nil ?_
        rintro _ ⟨j, rfl⟩
        have HBX := hide (HBZ.out.trans (j.h.mono hszA))
        have HO5 := hide (HO.out.below j.h)
        clear q1 q2 q3 q4 hwc hc0 hck hcl2
        generalize j.W = w5 at *
        obtain ⟨gn, rfl⟩ : ∃ gn, oa = some ⟨gn, 0, none⟩ := by
         rcases HO5.out.row.form with ⟨e, -⟩ | ⟨g, c, cur, e1, -⟩
         ·have := (Value.slice.inj e).2.1; omega
         ·exact ⟨g, (Value.slice.inj e1).1⟩
        have hiL : i < (natsL s).length := by rw [natsL_len]; exact HIL.out
        have hou := HO5.out.each i hiL
        rw [natsL_get] at hou
        obtain ⟨va, vc, hv⟩ := hou.form
        rw [natsO_ln, HCNE.out] at hv
        have HOI : Hid (∀ W, OwnL W wA.heap.size (.slice (some ⟨gn, 0, none⟩) s.length oc) us (natsL s) → OwnI W wA.heap.size (.slice va cn vc) (natsO (s.getD i []))) := hide (fun W h => by
         have h2 := h.each i hiL
         rw [natsL_get, hv] at h2; exact h2)
        have HCE : Hid (∀ W, OwnL W wA.heap.size (.slice (some ⟨gn, 0, none⟩) s.length oc) us (natsL s) → W.cell? ⟨gn, i, none⟩ = some (.slice va cn vc)) := hide (fun W h => by
         have hiu : i < us.length := by rw [h.len]; exact hiL
         have hcell := h.row.cell i 0 (u := us.getD i nilS) (by rw [List.length_map]; exact hiu) (by decide) (by
          rw [List.getD_eq_getElem?_getD, List.getElem?_map, List.getElem?_eq_getElem hiu, List.getD_eq_getElem?_getD, List.getElem?_eq_getElem hiu]; rfl)
         rw [Nat.mul_one, Nat.add_zero, hv] at hcell; exact hcell)
        have HPU : Hid (∀ W W1 u', OwnL W wA.heap.size (.slice (some ⟨gn, 0, none⟩) s.length oc) us (natsL s) → OwnI W1 wA.heap.size u' (natsO (s.getD i []) ++ [(x : Int)]) → Eff (fun k => some k = (Value.slice va cn vc).ownBlock) W W1 → (u'.ownBlock = (Value.slice va cn vc).ownBlock ∨ ∀ g, u'.ownBlock = some g → W.heap.size ≤ g) → PutV wA.heap.size gn i cn oc s.length us (natsL s) (natsO (s.getD i [] ++ [x])) W1 u') := hide (fun W W1 u' h1 h2 h3 h4 => by
         rw [natsO_snoc]
         exact put_of h1 hiL h2 (by rw [List.length_append, natsO_ln, HCNE.out]; rfl) (by rw [hv]; exact h3) (by rw [hv]; exact h4))
        have HLX : Hid (∀ W, Below wA.heap.size wA W → W.cell? ⟨lb, lo, none⟩ = some (.int .i64 (x : Nat))) := hide (fun W hW => by
         obtain ⟨lb', lo', e', hcA⟩ := intsR_at (ints_low HT1.out HBA.out) (i := 0) (by rw [natsO_ln, List.length_cons]; omega)
         cases e'
         rw [Nat.add_zero, show (natsO (x :: t)).getD 0 0 = ((x : Nat) : Int) from rfl] at hcA
         exact keep hW hcA)
        have hcl9 : (natsO (s.getD i [])).length + [(x : Int)].length < 1000000 := by rw [natsO_ln, HCNE.out]; simp; omega
        have hsz5 := HBX.out.size
        clear hou hv
        generalize natsO (s.getD i []) = cl at HOI HPU hcl9
        go_upto_region 15 with (fail)
        refine wp_region_inv [some 67, some 68, some 69, some 70, some 71, some 72, some 73, some 74, some 75, some 76, some 77, some 78, none] (fun L vs W => match vs with | [x0, x1, x2, x3, x4, x5, x6, x7, x8, x9, x10, x11, x12] => (Below wA.heap.size wA W ∧ (L 10 = false → OwnL W wA.heap.size (.slice (some ⟨gn, 0, none⟩) s.length oc) us (natsL s))) ∧ (L 0 = true → x0 = .slice (some ⟨gn, 0, none⟩) s.length oc) ∧ (L 1 = true → x1 = .int .i64 (i : Nat)) ∧ (L 2 = true → x2 = .slice (some ⟨gn, 0, none⟩) s.length oc) ∧ (L 3 = true → x3 = .int .i64 (i : Nat)) ∧ (L 4 = true → x4 = .pointer (some ⟨gn, i, none⟩)) ∧ (L 5 = true → x5 = .slice va cn vc) ∧ (L 6 = true → x6 = .slice (some ⟨lb, lo, none⟩) tl tc) ∧ (L 7 = true → x7 = .pointer (some ⟨lb, lo, none⟩)) ∧ (L 8 = true → x8 = .int .i64 (x : Nat)) ∧ (L 9 = true → L 10 = false → ∃ b0 : Nat, x9 = .slice (some ⟨b0, 0, none⟩) 1 1 ∧ IntsIn W.cell? (.slice (some ⟨b0, 0, none⟩) 1 1) [(x : Int)]) ∧ (L 10 = true → (L 5 = true ∧ L 9 = true) ∧ (L 12 = false → PutV wA.heap.size gn i cn oc s.length us (natsL s) (natsO (s.getD i [] ++ [x])) W x10)) ∧ (L 11 = true → x11 = .pointer (some ⟨gn, i, none⟩)) ∧ (L 12 = true → (L 9 = true ∧ L 10 = true) ∧ ∃ ga gc, x10 = .slice (some ⟨ga, 0, none⟩) (cn + 1) gc ∧ OwnL W wA.heap.size (.slice (some ⟨gn, 0, none⟩) s.length oc) (us.set i x10) ((natsL s).set i (natsO (s.getD i [] ++ [x])))) | _ => False) [_, _, _, _, _, _, _, _, _, _, _, _, undef] (by kernel_rfl) (by kernel_rfl) rfl (by simp only [puts, Act.put, List.setIfInBounds_toArray, List.set_cons_zero, List.set_cons_succ] <;> rfl) ?_ ?_ ?_
        ·exact ⟨⟨HBX.out.trans ((Below.refl _ _).drew.mono hsz5), fun _ => HO5.out.below (Below.refl _ _).drew⟩, (fun h => by cases h), (fun h => by cases h), (fun h => by cases h), (fun h => by cases h), (fun h => by cases h), (fun h => by cases h), (fun h => by cases h), (fun h => by cases h), (fun h => by cases h), (fun h => by cases h), (fun h => by cases h), (fun h => by cases h), (fun h => by cases h)⟩
        ·refine ⟨?_, ?_, ?_, ?_, ?_, ?_, ?_, ?_, ?_, ?_, ?_, ?_, ?_, trivial⟩
         ·intro L vs W hlen hL hD hI K hK
          obtain ⟨x0, x1, x2, x3, x4, x5, x6, x7, x8, x9, x10, x11, x12, rfl⟩ := len13 hlen
          have hG := hI.1
          replace hI := hI.2
          have f0 := hide hI.1
          replace hI := hI.2
          have f1 := hide hI.1
          replace hI := hI.2
          have f2 := hide hI.1
          replace hI := hI.2
          have f3 := hide hI.1
          replace hI := hI.2
          have f4 := hide hI.1
          replace hI := hI.2
          have f5 := hide hI.1
          replace hI := hI.2
          have f6 := hide hI.1
          replace hI := hI.2
          have f7 := hide hI.1
          replace hI := hI.2
          have f8 := hide hI.1
          replace hI := hI.2
          have f9 := hide hI.1
          replace hI := hI.2
          have f10 := hide hI.1
          replace hI := hI.2
          have f11 := hide hI.1
          replace hI := hI.2
          have f12 := hide hI
          clear hI
          have r00 := hG.1.size
          try simp only [puts, Act.put, List.setIfInBounds_toArray, List.set_cons_zero, List.set_cons_succ]
          try go_simp
          exact hK.out _ _ _ (by simp only [puts, Act.put, List.setIfInBounds_toArray, List.set_cons_zero, List.set_cons_succ] <;> rfl) ⟨hG, (fun _ => rfl), (fun h => f1.out h), (fun h => f2.out h), (fun h => f3.out h), (fun h => f4.out h), (fun h => f5.out h), (fun h => f6.out h), (fun h => f7.out h), (fun h => f8.out h), (fun h => f9.out h), (fun h => f10.out h), (fun h => f11.out h), (fun h => f12.out h)⟩
         ·intro L vs W hlen hL hD hI K hK
          obtain ⟨x0, x1, x2, x3, x4, x5, x6, x7, x8, x9, x10, x11, x12, rfl⟩ := len13 hlen
          have hG := hI.1
          replace hI := hI.2
          have f0 := hide hI.1
          replace hI := hI.2
          have f1 := hide hI.1
          replace hI := hI.2
          have f2 := hide hI.1
          replace hI := hI.2
          have f3 := hide hI.1
          replace hI := hI.2
          have f4 := hide hI.1
          replace hI := hI.2
          have f5 := hide hI.1
          replace hI := hI.2
          have f6 := hide hI.1
          replace hI := hI.2
          have f7 := hide hI.1
          replace hI := hI.2
          have f8 := hide hI.1
          replace hI := hI.2
          have f9 := hide hI.1
          replace hI := hI.2
          have f10 := hide hI.1
          replace hI := hI.2
          have f11 := hide hI.1
          replace hI := hI.2
          have f12 := hide hI
          clear hI
          have r00 := hG.1.size
          try simp only [puts, Act.put, List.setIfInBounds_toArray, List.set_cons_zero, List.set_cons_succ]
          try go_simp
          exact hK.out _ _ _ (by simp only [puts, Act.put, List.setIfInBounds_toArray, List.set_cons_zero, List.set_cons_succ] <;> rfl) ⟨hG, (fun h => f0.out h), (fun _ => rfl), (fun h => f2.out h), (fun h => f3.out h), (fun h => f4.out h), (fun h => f5.out h), (fun h => f6.out h), (fun h => f7.out h), (fun h => f8.out h), (fun h => f9.out h), (fun h => f10.out h), (fun h => f11.out h), (fun h => f12.out h)⟩
         ·intro L vs W hlen hL hD hI K hK
          obtain ⟨x0, x1, x2, x3, x4, x5, x6, x7, x8, x9, x10, x11, x12, rfl⟩ := len13 hlen
          have hG := hI.1
          replace hI := hI.2
          have f0 := hide hI.1
          replace hI := hI.2
          have f1 := hide hI.1
          replace hI := hI.2
          have f2 := hide hI.1
          replace hI := hI.2
          have f3 := hide hI.1
          replace hI := hI.2
          have f4 := hide hI.1
          replace hI := hI.2
          have f5 := hide hI.1
          replace hI := hI.2
          have f6 := hide hI.1
          replace hI := hI.2
          have f7 := hide hI.1
          replace hI := hI.2
          have f8 := hide hI.1
          replace hI := hI.2
          have f9 := hide hI.1
          replace hI := hI.2
          have f10 := hide hI.1
          replace hI := hI.2
          have f11 := hide hI.1
          replace hI := hI.2
          have f12 := hide hI
          clear hI
          have r00 := hG.1.size
          try simp only [puts, Act.put, List.setIfInBounds_toArray, List.set_cons_zero, List.set_cons_succ]
          try go_simp
          exact hK.out _ _ _ (by simp only [puts, Act.put, List.setIfInBounds_toArray, List.set_cons_zero, List.set_cons_succ] <;> rfl) ⟨hG, (fun h => f0.out h), (fun h => f1.out h), (fun _ => rfl), (fun h => f3.out h), (fun h => f4.out h), (fun h => f5.out h), (fun h => f6.out h), (fun h => f7.out h), (fun h => f8.out h), (fun h => f9.out h), (fun h => f10.out h), (fun h => f11.out h), (fun h => f12.out h)⟩
         ·intro L vs W hlen hL hD hI K hK
          obtain ⟨x0, x1, x2, x3, x4, x5, x6, x7, x8, x9, x10, x11, x12, rfl⟩ := len13 hlen
          have hG := hI.1
          replace hI := hI.2
          have f0 := hide hI.1
          replace hI := hI.2
          have f1 := hide hI.1
          replace hI := hI.2
          have f2 := hide hI.1
          replace hI := hI.2
          have f3 := hide hI.1
          replace hI := hI.2
          have f4 := hide hI.1
          replace hI := hI.2
          have f5 := hide hI.1
          replace hI := hI.2
          have f6 := hide hI.1
          replace hI := hI.2
          have f7 := hide hI.1
          replace hI := hI.2
          have f8 := hide hI.1
          replace hI := hI.2
          have f9 := hide hI.1
          replace hI := hI.2
          have f10 := hide hI.1
          replace hI := hI.2
          have f11 := hide hI.1
          replace hI := hI.2
          have f12 := hide hI
          clear hI
          have r00 := hG.1.size
          try simp only [puts, Act.put, List.setIfInBounds_toArray, List.set_cons_zero, List.set_cons_succ]
          try go_simp
          exact hK.out _ _ _ (by simp only [puts, Act.put, List.setIfInBounds_toArray, List.set_cons_zero, List.set_cons_succ] <;> rfl) ⟨hG, (fun h => f0.out h), (fun h => f1.out h), (fun h => f2.out h), (fun _ => rfl), (fun h => f4.out h), (fun h => f5.out h), (fun h => f6.out h), (fun h => f7.out h), (fun h => f8.out h), (fun h => f9.out h), (fun h => f10.out h), (fun h => f11.out h), (fun h => f12.out h)⟩
         ·intro L vs W hlen hL hD hI K hK
          obtain ⟨x0, x1, x2, x3, x4, x5, x6, x7, x8, x9, x10, x11, x12, rfl⟩ := len13 hlen
          have hG := hI.1
          replace hI := hI.2
          have f0 := hide hI.1
          replace hI := hI.2
          have f1 := hide hI.1
          replace hI := hI.2
          have f2 := hide hI.1
          replace hI := hI.2
          have f3 := hide hI.1
          replace hI := hI.2
          have f4 := hide hI.1
          replace hI := hI.2
          have f5 := hide hI.1
          replace hI := hI.2
          have f6 := hide hI.1
          replace hI := hI.2
          have f7 := hide hI.1
          replace hI := hI.2
          have f8 := hide hI.1
          replace hI := hI.2
          have f9 := hide hI.1
          replace hI := hI.2
          have f10 := hide hI.1
          replace hI := hI.2
          have f11 := hide hI.1
          replace hI := hI.2
          have f12 := hide hI
          clear hI
          have r00 := hG.1.size
          obtain rfl := f2.out (hD.on 2 (by kernel_rfl))
          obtain rfl := f3.out (hD.on 3 (by kernel_rfl))
          try simp only [puts, Act.put, List.setIfInBounds_toArray, List.set_cons_zero, List.set_cons_succ]
          try go_simp
          exact hK.out _ _ _ (by simp only [puts, Act.put, List.setIfInBounds_toArray, List.set_cons_zero, List.set_cons_succ] <;> rfl) ⟨hG, (fun h => f0.out h), (fun h => f1.out h), (fun h => f2.out h), (fun h => f3.out h), (fun _ => rfl), (fun h => f5.out h), (fun h => f6.out h), (fun h => f7.out h), (fun h => f8.out h), (fun h => f9.out h), (fun h => f10.out h), (fun h => f11.out h), (fun h => f12.out h)⟩
         ·intro L vs W hlen hL hD hI K hK
          obtain ⟨x0, x1, x2, x3, x4, x5, x6, x7, x8, x9, x10, x11, x12, rfl⟩ := len13 hlen
          have hG := hI.1
          replace hI := hI.2
          have f0 := hide hI.1
          replace hI := hI.2
          have f1 := hide hI.1
          replace hI := hI.2
          have f2 := hide hI.1
          replace hI := hI.2
          have f3 := hide hI.1
          replace hI := hI.2
          have f4 := hide hI.1
          replace hI := hI.2
          have f5 := hide hI.1
          replace hI := hI.2
          have f6 := hide hI.1
          replace hI := hI.2
          have f7 := hide hI.1
          replace hI := hI.2
          have f8 := hide hI.1
          replace hI := hI.2
          have f9 := hide hI.1
          replace hI := hI.2
          have f10 := hide hI.1
          replace hI := hI.2
          have f11 := hide hI.1
          replace hI := hI.2
          have f12 := hide hI
          clear hI
          have r00 := hG.1.size
          obtain rfl := f4.out (hD.on 4 (by kernel_rfl))
          try simp only [puts, Act.put, List.setIfInBounds_toArray, List.set_cons_zero, List.set_cons_succ]
          have h10 : L 10 = false := Bool.eq_false_iff.2 (fun h => absurd ((f10.out h).1.1.symm.trans hL) (by decide))
          have z9 := HCE.out W (hG.2 h10)
          go_simp
          exact hK.out _ _ _ (by simp only [puts, Act.put, List.setIfInBounds_toArray, List.set_cons_zero, List.set_cons_succ] <;> rfl) ⟨hG, (fun h => f0.out h), (fun h => f1.out h), (fun h => f2.out h), (fun h => f3.out h), (fun h => f4.out h), (fun _ => rfl), (fun h => f6.out h), (fun h => f7.out h), (fun h => f8.out h), (fun h => f9.out h), (fun h => (fun h => ⟨⟨rfl, h.1.2⟩, h.2⟩) (f10.out h)), (fun h => f11.out h), (fun h => f12.out h)⟩
         ·intro L vs W hlen hL hD hI K hK
          obtain ⟨x0, x1, x2, x3, x4, x5, x6, x7, x8, x9, x10, x11, x12, rfl⟩ := len13 hlen
          have hG := hI.1
          replace hI := hI.2
          have f0 := hide hI.1
          replace hI := hI.2
          have f1 := hide hI.1
          replace hI := hI.2
          have f2 := hide hI.1
          replace hI := hI.2
          have f3 := hide hI.1
          replace hI := hI.2
          have f4 := hide hI.1
          replace hI := hI.2
          have f5 := hide hI.1
          replace hI := hI.2
          have f6 := hide hI.1
          replace hI := hI.2
          have f7 := hide hI.1
          replace hI := hI.2
          have f8 := hide hI.1
          replace hI := hI.2
          have f9 := hide hI.1
          replace hI := hI.2
          have f10 := hide hI.1
          replace hI := hI.2
          have f11 := hide hI.1
          replace hI := hI.2
          have f12 := hide hI
          clear hI
          have r00 := hG.1.size
          try simp only [puts, Act.put, List.setIfInBounds_toArray, List.set_cons_zero, List.set_cons_succ]
          try go_simp
          exact hK.out _ _ _ (by simp only [puts, Act.put, List.setIfInBounds_toArray, List.set_cons_zero, List.set_cons_succ] <;> rfl) ⟨hG, (fun h => f0.out h), (fun h => f1.out h), (fun h => f2.out h), (fun h => f3.out h), (fun h => f4.out h), (fun h => f5.out h), (fun _ => rfl), (fun h => f7.out h), (fun h => f8.out h), (fun h => f9.out h), (fun h => f10.out h), (fun h => f11.out h), (fun h => f12.out h)⟩
         ·intro L vs W hlen hL hD hI K hK
          obtain ⟨x0, x1, x2, x3, x4, x5, x6, x7, x8, x9, x10, x11, x12, rfl⟩ := len13 hlen
          have hG := hI.1
          replace hI := hI.2
          have f0 := hide hI.1
          replace hI := hI.2
          have f1 := hide hI.1
          replace hI := hI.2
          have f2 := hide hI.1
          replace hI := hI.2
          have f3 := hide hI.1
          replace hI := hI.2
          have f4 := hide hI.1
          replace hI := hI.2
          have f5 := hide hI.1
          replace hI := hI.2
          have f6 := hide hI.1
          replace hI := hI.2
          have f7 := hide hI.1
          replace hI := hI.2
          have f8 := hide hI.1
          replace hI := hI.2
          have f9 := hide hI.1
          replace hI := hI.2
          have f10 := hide hI.1
          replace hI := hI.2
          have f11 := hide hI.1
          replace hI := hI.2
          have f12 := hide hI
          clear hI
          have r00 := hG.1.size
          obtain rfl := f6.out (hD.on 6 (by kernel_rfl))
          try simp only [puts, Act.put, List.setIfInBounds_toArray, List.set_cons_zero, List.set_cons_succ]
          try go_simp
          exact hK.out _ _ _ (by simp only [puts, Act.put, List.setIfInBounds_toArray, List.set_cons_zero, List.set_cons_succ] <;> rfl) ⟨hG, (fun h => f0.out h), (fun h => f1.out h), (fun h => f2.out h), (fun h => f3.out h), (fun h => f4.out h), (fun h => f5.out h), (fun h => f6.out h), (fun _ => rfl), (fun h => f8.out h), (fun h => f9.out h), (fun h => f10.out h), (fun h => f11.out h), (fun h => f12.out h)⟩
         ·intro L vs W hlen hL hD hI K hK
          obtain ⟨x0, x1, x2, x3, x4, x5, x6, x7, x8, x9, x10, x11, x12, rfl⟩ := len13 hlen
          have hG := hI.1
          replace hI := hI.2
          have f0 := hide hI.1
          replace hI := hI.2
          have f1 := hide hI.1
          replace hI := hI.2
          have f2 := hide hI.1
          replace hI := hI.2
          have f3 := hide hI.1
          replace hI := hI.2
          have f4 := hide hI.1
          replace hI := hI.2
          have f5 := hide hI.1
          replace hI := hI.2
          have f6 := hide hI.1
          replace hI := hI.2
          have f7 := hide hI.1
          replace hI := hI.2
          have f8 := hide hI.1
          replace hI := hI.2
          have f9 := hide hI.1
          replace hI := hI.2
          have f10 := hide hI.1
          replace hI := hI.2
          have f11 := hide hI.1
          replace hI := hI.2
          have f12 := hide hI
          clear hI
          have r00 := hG.1.size
          obtain rfl := f7.out (hD.on 7 (by kernel_rfl))
          try simp only [puts, Act.put, List.setIfInBounds_toArray, List.set_cons_zero, List.set_cons_succ]
          have z9 := HLX.out W hG.1
          go_simp
          exact hK.out _ _ _ (by simp only [puts, Act.put, List.setIfInBounds_toArray, List.set_cons_zero, List.set_cons_succ] <;> rfl) ⟨hG, (fun h => f0.out h), (fun h => f1.out h), (fun h => f2.out h), (fun h => f3.out h), (fun h => f4.out h), (fun h => f5.out h), (fun h => f6.out h), (fun h => f7.out h), (fun _ => rfl), (fun h => f9.out h), (fun h => f10.out h), (fun h => f11.out h), (fun h => f12.out h)⟩
         ·intro L vs W hlen hL hD hI K hK
          obtain ⟨x0, x1, x2, x3, x4, x5, x6, x7, x8, x9, x10, x11, x12, rfl⟩ := len13 hlen
          have hG := hI.1
          replace hI := hI.2
          have f0 := hide hI.1
          replace hI := hI.2
          have f1 := hide hI.1
          replace hI := hI.2
          have f2 := hide hI.1
          replace hI := hI.2
          have f3 := hide hI.1
          replace hI := hI.2
          have f4 := hide hI.1
          replace hI := hI.2
          have f5 := hide hI.1
          replace hI := hI.2
          have f6 := hide hI.1
          replace hI := hI.2
          have f7 := hide hI.1
          replace hI := hI.2
          have f8 := hide hI.1
          replace hI := hI.2
          have f9 := hide hI.1
          replace hI := hI.2
          have f10 := hide hI.1
          replace hI := hI.2
          have f11 := hide hI.1
          replace hI := hI.2
          have f12 := hide hI
          clear hI
          have r00 := hG.1.size
          obtain rfl := f8.out (hD.on 8 (by kernel_rfl))
          try simp only [puts, Act.put, List.setIfInBounds_toArray, List.set_cons_zero, List.set_cons_succ]
          go_simp
          generalize hW' : World.alloc W _ = W'
          have hb : Below W.heap.size W W' := by rw [← hW']; exact bal W _
          exact hK.out _ _ _ (by simp only [puts, Act.put, List.setIfInBounds_toArray, List.set_cons_zero, List.set_cons_succ] <;> rfl) ⟨⟨hG.1.trans (hb.mono r00), fun h => (hG.2 h).below hb⟩, (fun h => f0.out h), (fun h => f1.out h), (fun h => f2.out h), (fun h => f3.out h), (fun h => f4.out h), (fun h => f5.out h), (fun h => f6.out h), (fun h => f7.out h), (fun h => f8.out h), (fun _ => fun _ => ⟨W.heap.size, rfl, by rw [← hW']; exact (show OwnI (W.alloc (.cells #[.int .i64 (x : Nat)] 3)) W.heap.size (.slice (some ⟨W.heap.size, 0, none⟩) 1 1) [(x : Int)] from World.ownsRow_lit W #[.int .i64 (x : Nat)] 1 (Nat.le_refl _) (by unfold maxLen; omega) rfl).ints⟩), (fun h => (fun h => absurd (h.1.2.symm.trans hL) (by decide)) (f10.out h)), (fun h => f11.out h), (fun h => (fun h => absurd (h.1.1.symm.trans hL) (by decide)) (f12.out h))⟩
         ·intro L vs W hlen hL hD hI K hK
          obtain ⟨x0, x1, x2, x3, x4, x5, x6, x7, x8, x9, x10, x11, x12, rfl⟩ := len13 hlen
          have hG := hI.1
          replace hI := hI.2
          have f0 := hide hI.1
          replace hI := hI.2
          have f1 := hide hI.1
          replace hI := hI.2
          have f2 := hide hI.1
          replace hI := hI.2
          have f3 := hide hI.1
          replace hI := hI.2
          have f4 := hide hI.1
          replace hI := hI.2
          have f5 := hide hI.1
          replace hI := hI.2
          have f6 := hide hI.1
          replace hI := hI.2
          have f7 := hide hI.1
          replace hI := hI.2
          have f8 := hide hI.1
          replace hI := hI.2
          have f9 := hide hI.1
          replace hI := hI.2
          have f10 := hide hI.1
          replace hI := hI.2
          have f11 := hide hI.1
          replace hI := hI.2
          have f12 := hide hI
          clear hI
          have r00 := hG.1.size
          obtain rfl := f5.out (hD.on 5 (by kernel_rfl))
          have g9 := f9.out (hD.on 9 (by kernel_rfl))
          try simp only [puts, Act.put, List.setIfInBounds_toArray, List.set_cons_zero, List.set_cons_succ]
          obtain ⟨b0, rfl, hI⟩ := g9 hL
          have hO := hG.2 hL
          refine step_intsT rfl _ _ rfl wA.heap.size (.slice va cn vc) cl rfl (HOI.out W hO) (.slice (some ⟨b0, 0, none⟩) 1 1) [(x : Int)] rfl hI hcl9 r00 ?_
          intro v5 W' hO5 hE5 hob5
          have hPV := HPU.out W W' v5 hO hO5 hE5 hob5
          have hBW := hG.1.trans (hE5.below r00 (fun k e => ((HOI.out W hO).ltB e.symm).1))
          have hb : True := trivial
          exact hK.out _ _ _ (by simp only [puts, Act.put, List.setIfInBounds_toArray, List.set_cons_zero, List.set_cons_succ] <;> rfl) ⟨⟨hBW, (fun h => by cases h)⟩, (fun h => f0.out h), (fun h => f1.out h), (fun h => f2.out h), (fun h => f3.out h), (fun h => f4.out h), (fun h => f5.out h), (fun h => f6.out h), (fun h => f7.out h), (fun h => f8.out h), (fun h => (fun h => (fun h10 => by cases h10)) (f9.out h)), (fun _ => ⟨⟨hD.on 5 (by kernel_rfl), hD.on 9 (by kernel_rfl)⟩, fun _ => hPV⟩), (fun h => f11.out h), (fun h => (fun h => absurd (h.1.2.symm.trans hL) (by decide)) (f12.out h))⟩
         ·intro L vs W hlen hL hD hI K hK
          obtain ⟨x0, x1, x2, x3, x4, x5, x6, x7, x8, x9, x10, x11, x12, rfl⟩ := len13 hlen
          have hG := hI.1
          replace hI := hI.2
          have f0 := hide hI.1
          replace hI := hI.2
          have f1 := hide hI.1
          replace hI := hI.2
          have f2 := hide hI.1
          replace hI := hI.2
          have f3 := hide hI.1
          replace hI := hI.2
          have f4 := hide hI.1
          replace hI := hI.2
          have f5 := hide hI.1
          replace hI := hI.2
          have f6 := hide hI.1
          replace hI := hI.2
          have f7 := hide hI.1
          replace hI := hI.2
          have f8 := hide hI.1
          replace hI := hI.2
          have f9 := hide hI.1
          replace hI := hI.2
          have f10 := hide hI.1
          replace hI := hI.2
          have f11 := hide hI.1
          replace hI := hI.2
          have f12 := hide hI
          clear hI
          have r00 := hG.1.size
          obtain rfl := f0.out (hD.on 0 (by kernel_rfl))
          obtain rfl := f1.out (hD.on 1 (by kernel_rfl))
          try simp only [puts, Act.put, List.setIfInBounds_toArray, List.set_cons_zero, List.set_cons_succ]
          try go_simp
          exact hK.out _ _ _ (by simp only [puts, Act.put, List.setIfInBounds_toArray, List.set_cons_zero, List.set_cons_succ] <;> rfl) ⟨hG, (fun h => f0.out h), (fun h => f1.out h), (fun h => f2.out h), (fun h => f3.out h), (fun h => f4.out h), (fun h => f5.out h), (fun h => f6.out h), (fun h => f7.out h), (fun h => f8.out h), (fun h => f9.out h), (fun h => f10.out h), (fun _ => rfl), (fun h => f12.out h)⟩
         ·intro L vs W hlen hL hD hI K hK
          obtain ⟨x0, x1, x2, x3, x4, x5, x6, x7, x8, x9, x10, x11, x12, rfl⟩ := len13 hlen
          have hG := hI.1
          replace hI := hI.2
          have f0 := hide hI.1
          replace hI := hI.2
          have f1 := hide hI.1
          replace hI := hI.2
          have f2 := hide hI.1
          replace hI := hI.2
          have f3 := hide hI.1
          replace hI := hI.2
          have f4 := hide hI.1
          replace hI := hI.2
          have f5 := hide hI.1
          replace hI := hI.2
          have f6 := hide hI.1
          replace hI := hI.2
          have f7 := hide hI.1
          replace hI := hI.2
          have f8 := hide hI.1
          replace hI := hI.2
          have f9 := hide hI.1
          replace hI := hI.2
          have f10 := hide hI.1
          replace hI := hI.2
          have f11 := hide hI.1
          replace hI := hI.2
          have f12 := hide hI
          clear hI
          have r00 := hG.1.size
          have g10 := f10.out (hD.on 10 (by kernel_rfl))
          obtain rfl := f11.out (hD.on 11 (by kernel_rfl))
          try simp only [puts, Act.put, List.setIfInBounds_toArray, List.set_cons_zero, List.set_cons_succ]
          obtain ⟨ga, gc, rfl, ⟨old, hcell⟩, hfr, hOL⟩ := g10.2 hL
          go_simp
          have hb : True := trivial
          exact hK.out _ undef _ (by simp only [puts, Act.put, List.setIfInBounds_toArray, List.set_cons_zero, List.set_cons_succ] <;> rfl) ⟨⟨hG.1.setCell (p := ⟨gn, i, none⟩) (HO5.out.row.ltB rfl).1 _, fun h => absurd (h.symm.trans (hD.on 10 (by kernel_rfl))) (by decide)⟩, (fun h => f0.out h), (fun h => f1.out h), (fun h => f2.out h), (fun h => f3.out h), (fun h => f4.out h), (fun h => f5.out h), (fun h => f6.out h), (fun h => f7.out h), (fun h => f8.out h), (fun h => (fun h => (fun h10 => absurd (h10.symm.trans (hD.on 10 (by kernel_rfl))) (by decide))) (f9.out h)), (fun h => (fun h => ⟨h.1, fun h12 => by cases h12⟩) (f10.out h)), (fun h => f11.out h), (fun _ => ⟨⟨g10.1.2, hD.on 10 (by kernel_rfl)⟩, ga, gc, rfl, hOL⟩)⟩
        intro L vs W hlen hall hI
        obtain ⟨x0, x1, x2, x3, x4, x5, x6, x7, x8, x9, x10, x11, x12, rfl⟩ := len13 hlen
        have hG := hI.1
        replace hI := hI.2
        have f0 := hide hI.1
        replace hI := hI.2
        have f1 := hide hI.1
        replace hI := hI.2
        have f2 := hide hI.1
        replace hI := hI.2
        have f3 := hide hI.1
        replace hI := hI.2
        have f4 := hide hI.1
        replace hI := hI.2
        have f5 := hide hI.1
        replace hI := hI.2
        have f6 := hide hI.1
        replace hI := hI.2
        have f7 := hide hI.1
        replace hI := hI.2
        have f8 := hide hI.1
        replace hI := hI.2
        have f9 := hide hI.1
        replace hI := hI.2
        have f10 := hide hI.1
        replace hI := hI.2
        have f11 := hide hI.1
        replace hI := hI.2
        have f12 := hide hI
        clear hI
        obtain rfl := f0.out (hall 0 (by decide))
        obtain rfl := f1.out (hall 1 (by decide))
        obtain rfl := f2.out (hall 2 (by decide))
        obtain rfl := f3.out (hall 3 (by decide))
        obtain rfl := f4.out (hall 4 (by decide))
        obtain rfl := f5.out (hall 5 (by decide))
        obtain rfl := f6.out (hall 6 (by decide))
        obtain rfl := f7.out (hall 7 (by decide))
        obtain rfl := f8.out (hall 8 (by decide))
        have g9 := f9.out (hall 9 (by decide))
        have g10 := f10.out (hall 10 (by decide))
        obtain rfl := f11.out (hall 11 (by decide))
        have g12 := f12.out (hall 12 (by decide))
        have hal := hide hall
        clear hall f0 f1 f2 f3 f4 f5 f6 f7 f8 f9 f10 f11 f12
        try simp only [puts, Act.put, List.setIfInBounds_toArray, List.set_cons_zero, List.set_cons_succ]
        obtain ⟨-, ga, gc, rfl, hOL⟩ := g12
        have HLN : Hid (ListsIn W.cell? (.slice (some ⟨gn, 0, none⟩) s.length oc) (natsL (s.set i (s.getD i [] ++ [x])))) := hide (by
         have h := hOL.inF (Nat.le_refl _)
         rw [← natsL_set] at h
         obtain ⟨a9, n9, e9, g1, g2, g3⟩ := h
         exact ⟨a9, n9, e9, g1, g2, fun i hi => let ⟨b, o, u, q1, q2, q3⟩ := g3 i hi; ⟨b, o, u, q1, (frm_block q2).2, q3.at⟩⟩)
        have HB4 : Hid (Below X1.heap.size X1 W) := hide (below2 HBA.out hG.1)
        clear hOL hG hal g9 g10 HO HO5 HOI HPU HCE HLX HBX
        obtain ⟨w7, rfl⟩ : ∃ w7, w7 = W := ⟨_, rfl⟩
        obtain ⟨q, hq⟩ : ∃ q, rcovN R t (s.set i (s.getD i [] ++ [x])) = q := ⟨_, rfl⟩
        have hqp : 0 < q := by rw [← hq]; exact rcov_pos t _ (by intro e; have h9 := congrArg List.length e; rw [List.length_set, List.length_nil] at h9; have := HIL.out; omega)
        rw [hq] at HFI
        have htc := HTC.out
        have hA2 : 1 < (natsO (x :: t)).length → (if tc = 1 then (some ⟨lb, lo, none⟩ : Option Addr) else some ⟨lb, lo + 1, none⟩) = some ⟨lb, lo + 1, none⟩ := fun h => by
         rw [natsO_ln, List.length_cons] at h
         rw [if_neg (by have := HTL.out; omega)]
        have HCC : Hid (∀ W, Below w7.heap.size w7 W → Calls Tryd.prog 75 #[relV R, .slice (if tc = 1 then some ⟨lb, lo, none⟩ else some ⟨lb, lo + 1, none⟩) (tl - 1) (tc - 1), (.slice (some ⟨gn, 0, none⟩) s.length oc)] W (RcQ q W)) := hide (fun W hW => by
         have h1 := IntsIn.drop (ints_low (ints_low HT1.out HB4.out) hW) (k := 1) (by rw [natsO_ln, List.length_cons]; omega) hA2
         rw [← hq]
         exact HIH.out (s.set i (s.getD i [] ++ [x])) _ _ W (fun y hy => HT8.out y (List.mem_cons_of_mem _ hy)) (fun c hc => by rcases List.mem_or_eq_of_mem_set hc with h | h; exact ⟨(HSC.out c h).1, (HSC.out c h).2.1, by have := (HSC.out c h).2.2; simp only [List.length_cons] at this; omega⟩; rw [h]; exact ⟨by simp, fun y hy => by rcases List.mem_append.1 hy with h2 | h2; exact (HSC.out _ (getD_mem s i (d := []) HIL.out)).2.1 y h2; rw [List.mem_singleton.1 h2]; exact HX8.out, by have := (HSC.out _ (getD_mem s i (d := []) HIL.out)).2.2; simp only [List.length_cons, List.length_append, List.length_nil] at this ⊢; omega⟩) (by have := HLB.out; have := HTL.out; rw [List.length_set]; omega) h1 (lists_low HLN.out hW))
        have HBM4 := hide (HBM.out.later HB4.out)
        have htl1I : (1 : Int) ≤ tl := by omega
        have htc1I : (1 : Int) ≤ tc := by omega
        have htlc : (tl : Int) ≤ tc := by omega
        clear hq hA2
        go_upto_region 16 with (fail)
        refine wp_region_inv [some 79, some 80, some 81, some 82, some 83, some 11] (fun L vs W => match vs with | [x0, x1, x2, x3, x4, x5] => (Below w7.heap.size w7 W) ∧ (L 0 = true → x0 = relV R) ∧ (L 1 = true → x1 = .slice (some ⟨lb, lo, none⟩) tl tc) ∧ (L 2 = true → x2 = .slice (if tc = 1 then some ⟨lb, lo, none⟩ else some ⟨lb, lo + 1, none⟩) (tl - 1) (tc - 1)) ∧ (L 3 = true → x3 = (.slice (some ⟨gn, 0, none⟩) s.length oc)) ∧ (L 4 = true → RcV q x4) ∧ (L 5 = true → RcV q x5) | _ => False) [_, _, _, _, _, _] (by kernel_rfl) (by kernel_rfl) rfl (by simp only [puts, Act.put, List.setIfInBounds_toArray, List.set_cons_zero, List.set_cons_succ] <;> rfl) ?_ ?_ ?_
        ·exact ⟨(Below.refl _ _).drew, (fun h => by cases h), (fun h => by cases h), (fun h => by cases h), (fun h => by cases h), (fun h => by cases h), (fun h => by cases h)⟩
        ·refine ⟨?_, ?_, ?_, ?_, ?_, ?_, trivial⟩
         ·intro L vs W hlen hL hD hI K hK
          obtain ⟨x0, x1, x2, x3, x4, x5, rfl⟩ := len6 hlen
          have hG := hI.1
          replace hI := hI.2
          have f0 := hide hI.1
          replace hI := hI.2
          have f1 := hide hI.1
          replace hI := hI.2
          have f2 := hide hI.1
          replace hI := hI.2
          have f3 := hide hI.1
          replace hI := hI.2
          have f4 := hide hI.1
          replace hI := hI.2
          have f5 := hide hI
          clear hI
          try simp only [puts, Act.put, List.setIfInBounds_toArray, List.set_cons_zero, List.set_cons_succ]
          refine step_load_rel rfl _ rfl w.heap.size rfl R (HBM4.out.later hG) ?_
          exact hK.out _ _ _ (by simp only [puts, Act.put, List.setIfInBounds_toArray, List.set_cons_zero, List.set_cons_succ] <;> rfl) ⟨hG, (fun _ => rfl), (fun h => f1.out h), (fun h => f2.out h), (fun h => f3.out h), (fun h => f4.out h), (fun h => f5.out h)⟩
         ·intro L vs W hlen hL hD hI K hK
          obtain ⟨x0, x1, x2, x3, x4, x5, rfl⟩ := len6 hlen
          have hG := hI.1
          replace hI := hI.2
          have f0 := hide hI.1
          replace hI := hI.2
          have f1 := hide hI.1
          replace hI := hI.2
          have f2 := hide hI.1
          replace hI := hI.2
          have f3 := hide hI.1
          replace hI := hI.2
          have f4 := hide hI.1
          replace hI := hI.2
          have f5 := hide hI
          clear hI
          try simp only [puts, Act.put, List.setIfInBounds_toArray, List.set_cons_zero, List.set_cons_succ]
          try go_simp
          exact hK.out _ _ _ (by simp only [puts, Act.put, List.setIfInBounds_toArray, List.set_cons_zero, List.set_cons_succ] <;> rfl) ⟨hG, (fun h => f0.out h), (fun _ => rfl), (fun h => f2.out h), (fun h => f3.out h), (fun h => f4.out h), (fun h => f5.out h)⟩
         ·intro L vs W hlen hL hD hI K hK
          obtain ⟨x0, x1, x2, x3, x4, x5, rfl⟩ := len6 hlen
          have hG := hI.1
          replace hI := hI.2
          have f0 := hide hI.1
          replace hI := hI.2
          have f1 := hide hI.1
          replace hI := hI.2
          have f2 := hide hI.1
          replace hI := hI.2
          have f3 := hide hI.1
          replace hI := hI.2
          have f4 := hide hI.1
          replace hI := hI.2
          have f5 := hide hI
          clear hI
          obtain rfl := f1.out (hD.on 1 (by kernel_rfl))
          try simp only [puts, Act.put, List.setIfInBounds_toArray, List.set_cons_zero, List.set_cons_succ]
          try go_simp
          exact hK.out _ _ _ (by simp only [puts, Act.put, List.setIfInBounds_toArray, List.set_cons_zero, List.set_cons_succ] <;> rfl) ⟨hG, (fun h => f0.out h), (fun h => f1.out h), (fun _ => rfl), (fun h => f3.out h), (fun h => f4.out h), (fun h => f5.out h)⟩
         ·intro L vs W hlen hL hD hI K hK
          obtain ⟨x0, x1, x2, x3, x4, x5, rfl⟩ := len6 hlen
          have hG := hI.1
          replace hI := hI.2
          have f0 := hide hI.1
          replace hI := hI.2
          have f1 := hide hI.1
          replace hI := hI.2
          have f2 := hide hI.1
          replace hI := hI.2
          have f3 := hide hI.1
          replace hI := hI.2
          have f4 := hide hI.1
          replace hI := hI.2
          have f5 := hide hI
          clear hI
          try simp only [puts, Act.put, List.setIfInBounds_toArray, List.set_cons_zero, List.set_cons_succ]
          try go_simp
          exact hK.out _ _ _ (by simp only [puts, Act.put, List.setIfInBounds_toArray, List.set_cons_zero, List.set_cons_succ] <;> rfl) ⟨hG, (fun h => f0.out h), (fun h => f1.out h), (fun h => f2.out h), (fun _ => rfl), (fun h => f4.out h), (fun h => f5.out h)⟩
         ·intro L vs W hlen hL hD hI K hK
          obtain ⟨x0, x1, x2, x3, x4, x5, rfl⟩ := len6 hlen
          have hG := hI.1
          replace hI := hI.2
          have f0 := hide hI.1
          replace hI := hI.2
          have f1 := hide hI.1
          replace hI := hI.2
          have f2 := hide hI.1
          replace hI := hI.2
          have f3 := hide hI.1
          replace hI := hI.2
          have f4 := hide hI.1
          replace hI := hI.2
          have f5 := hide hI
          clear hI
          obtain rfl := f0.out (hD.on 0 (by kernel_rfl))
          obtain rfl := f2.out (hD.on 2 (by kernel_rfl))
          obtain rfl := f3.out (hD.on 3 (by kernel_rfl))
          try simp only [puts, Act.put, List.setIfInBounds_toArray, List.set_cons_zero, List.set_cons_succ]
          have HC1 := hide (HCC.out W hG)
          go_simp
          refine HC1.out.mono ?_
          rintro e W' ⟨v, rfl, hv, hb⟩
          obtain ⟨ra, rc, rfl, hra⟩ := id hv
          try go_simp
          exact hK.out _ _ _ (by simp only [puts, Act.put, List.setIfInBounds_toArray, List.set_cons_zero, List.set_cons_succ] <;> rfl) ⟨below2 hG hb, (fun h => f0.out h), (fun h => f1.out h), (fun h => f2.out h), (fun h => f3.out h), (fun _ => hv), (fun h => f5.out h)⟩
         ·intro L vs W hlen hL hD hI K hK
          obtain ⟨x0, x1, x2, x3, x4, x5, rfl⟩ := len6 hlen
          have hG := hI.1
          replace hI := hI.2
          have f0 := hide hI.1
          replace hI := hI.2
          have f1 := hide hI.1
          replace hI := hI.2
          have f2 := hide hI.1
          replace hI := hI.2
          have f3 := hide hI.1
          replace hI := hI.2
          have f4 := hide hI.1
          replace hI := hI.2
          have f5 := hide hI
          clear hI
          have g4 := f4.out (hD.on 4 (by kernel_rfl))
          try simp only [puts, Act.put, List.setIfInBounds_toArray, List.set_cons_zero, List.set_cons_succ]
          obtain ⟨ra, rc, rfl, hra⟩ := g4
          go_simp
          exact hK.out _ _ _ (by simp only [puts, Act.put, List.setIfInBounds_toArray, List.set_cons_zero, List.set_cons_succ] <;> rfl) ⟨hG, (fun h => f0.out h), (fun h => f1.out h), (fun h => f2.out h), (fun h => f3.out h), (fun h => f4.out h), (fun _ => ⟨ra, rc, rfl, hra⟩)⟩
        intro L vs W hlen hall hI
        obtain ⟨x0, x1, x2, x3, x4, x5, rfl⟩ := len6 hlen
        have hG := hI.1
        replace hI := hI.2
        have f0 := hide hI.1
        replace hI := hI.2
        have f1 := hide hI.1
        replace hI := hI.2
        have f2 := hide hI.1
        replace hI := hI.2
        have f3 := hide hI.1
        replace hI := hI.2
        have f4 := hide hI.1
        replace hI := hI.2
        have f5 := hide hI
        clear hI
        obtain rfl := f0.out (hall 0 (by decide))
        obtain rfl := f1.out (hall 1 (by decide))
        obtain rfl := f2.out (hall 2 (by decide))
        obtain rfl := f3.out (hall 3 (by decide))
        have g4 := f4.out (hall 4 (by decide))
        have g5 := f5.out (hall 5 (by decide))
        have hal := hide hall
        clear hall f0 f1 f2 f3 f4 f5
        try simp only [puts, Act.put, List.setIfInBounds_toArray, List.set_cons_zero, List.set_cons_succ]
        generalize (if tc = 1 then (some ⟨lb, lo, none⟩ : Option Addr) else some ⟨lb, lo + 1, none⟩) = aX at *
        obtain ⟨ra', rc', rfl, -⟩ := g4
        obtain ⟨ra, rc, rfl, hra⟩ := g5
        obtain ⟨rb, ro, rfl⟩ := hra hqp
        have HBF := hide (below2 HB4.out hG)
        have HBS := hide (bestM_succ HFI.out)
        have HBV := HBE.out
        clear hG hal hra
        have hnl := fun (w : World) (a : Option Addr) (n c n' c' : Nat) => Lib.run_eql_slice_nil (P := Tryd.prog) w 50 26 a n c n' c' Tryd.underlying50
        generalize bestM f (i) = bi at HBS HBV
        cases bi with
        | none =>
         obtain rfl : _ = Value.slice none 0 0 := HBV
         go_wp2_with fail
         go_roundw
         case rel => exact ⟨i + 1, by have := HI.out; omega, by go_num, by rw [HBS.out]; exact ⟨_, _, _, rfl⟩, HBF.out⟩
         case measure => have := HI.out; simp [intOf] <;> omega
        | some b =>
         obtain ⟨vb, vo, vc, rfl⟩ := HBV
         by_cases hqb : q < b
         ·have hqd : decide (q < b) = true := decide_eq_true hqb
          have HQB := hide hqb
          clear hqb
          go_wp2_with fail
          clear hqd
          go_roundw
          case rel => exact ⟨i + 1, by have := HI.out; omega, by go_num, by rw [HBS.out]; dsimp only; rw [if_pos HQB.out]; exact ⟨_, _, _, rfl⟩, HBF.out⟩
          case measure => have := HI.out; simp [intOf] <;> omega
         ·have hqd : decide (q < b) = false := decide_eq_false hqb
          have HQB := hide hqb
          clear hqb
          go_wp2_with fail
          clear hqd
          go_roundw
          case rel => exact ⟨i + 1, by have := HI.out; omega, by go_num, by rw [HBS.out]; dsimp only; rw [if_neg HQB.out]; exact ⟨_, _, _, rfl⟩, HBF.out⟩
          case measure => have := HI.out; simp [intOf] <;> omega
   ·obtain rfl : i = s.length + 1 := by omega
    obtain ⟨b, hb, -⟩ := bestM_le (f := f) (k := s.length + 1) (i := s.length) (v := rcovN R t (s ++ [[x]])) (by omega) (by rw [← HF.out]; unfold covO'; rw [if_pos rfl])
    have HBV := HBE.out
    rw [hb] at HBV
    have HN : Hid (rcovN R (x :: t) s = b) := hide (by rw [HRV.out, hb]; rfl)
    obtain ⟨vb, vo, vc, rfl⟩ := HBV
    have hd1 : ¬ ((s.length : Int) + 1 ≤ s.length) := by omega
    have hd2 : decide ((s.length : Int) + 1 ≤ s.length) = false := decide_eq_false hd1
    have hd3 : decide (s.length + 1 ≤ s.length) = false := decide_eq_false (by omega)
    clear hb
    go_wp2_with fail
    go_ret
    exact ⟨_, rfl, ⟨_, _, by rw [HN.out]; rfl, fun _ => ⟨_, _, rfl⟩⟩, below2 HXB.out HBA.out⟩
end Go.Proofs.YtnidcoinfmcffaaDoor
namespace Go.Proofs.YtnidcoinfmcffaaDoor
open Go.RowKit
attribute [local go_sem] Oper.semAt_some
theorem rcover_no (o : OrderD) (pv : Value) (w : World) (hp : PairsIn w.cell? pv o.pairs) (hv : validO o = false) : Calls Tryd.prog 48 #[orderV o.n pv] w (Ret (.tuple #[.slice none 0 0, .int .i64 150]) w) := by
 have HLI := hide (fun W (hb : Below w.heap.size w W) => rline_no o pv W (RecIn.below hb hp) hv)
 obtain ⟨on, ps⟩ := o
 obtain ⟨pa, pm, rfl, -, -, -⟩ := id hp
 clear hp hv
 go_enter Tryd.func48, Tryd.ntmps48
 go_wp2_with fail
 generalize hX1 : World.alloc w _ = X1
 have zX1 : X1.heap.size = w.heap.size + 1 := by rw [← hX1]; simp
 have bX1 : Below w.heap.size w X1 := by rw [← hX1]; exact bal w _
 have bO : Blk X1 (w.heap.size) [.int .i64 on, .slice pa ps.length pm] 25 := by rw [← hX1]; exact Blk.newA w _ (by first | rfl | simp)
 have Xb := bX1
 have Xz := zX1
 clear hX1 zX1 bX1
 have c0 := bO.cell 0 rfl
 have c1 := bO.cell 1 rfl
 go_wp2_with fail
 refine (HLI.out _ Xb).mono ?_
 rintro e w1 ⟨rfl, hb⟩
 have hw := below2 Xb hb
 clear c0 c1 bO hb Xb Xz
 go_wp2_with fail
 go_ret2
 exact ⟨rfl, hw⟩
set_option maxRecDepth 100000 in
set_option maxHeartbeats 2000000 in
theorem rcover_yes (n : Nat) (ps : List (Int × Int)) (pv : Value) (w : World) (hp : PairsIn w.cell? pv ps) (hv : validO ⟨n, ps⟩ = true) : Calls Tryd.prog 48 #[orderV n pv] w (fun e w' => ∃ v, e = .returned (.tuple #[v, .int .i64 0]) ∧ RcV (coverO n (beforeO ⟨n, ps⟩)).length v ∧ Below w.heap.size w w') := by
 have HLI := hide (fun W (hb : Below w.heap.size w W) => rline_yes n ps pv W (RecIn.below hb hp) hv)
 obtain ⟨pa, pm, rfl, -, -, -⟩ := id hp
 have hf : formedO ⟨(n : Int), ps⟩ = true := by unfold validO at hv; rw [Bool.and_eq_true] at hv; exact hv.1
 have hn8 : n ≤ 8 := by
  have := (formed_n hf).1.2
  simp only at this
  omega
 have HPO := hide (show PoO n (beforeO ⟨n, ps⟩) from before_po hv)
 have HVA := hide (fun W (hb : Below w.heap.size w W) => by
  have h := rvalid_any ⟨(n : Int), ps⟩ (.slice pa ps.length pm) W (RecIn.below hb hp)
  rw [hv] at h
  exact h)
 have HBE := hide (fun W (hb : Below w.heap.size w W) => rbefore_any n ps (.slice pa ps.length pm) W (RecIn.below hb hp) hf)
 generalize beforeO ⟨(n : Int), ps⟩ = R at *
 clear hp hv hf
 have HLS := hide (line_is HPO.out)
 have HRE := hide (rcov_eq HPO.out)
 have HCV := hide (fun tv W (h : IntsIn W.cell? tv (natsO (lineO n R))) => rcov_any R (lineO n R) [] tv (.slice none 0 0) W (fun y hy => by have := (HLS.out.mem y).1 hy; omega) (fun c hc => by cases hc) (by rw [HLS.out.len]; simp; omega) h ⟨none, 0, rfl, Nat.le_refl _, by omega, fun i hi => absurd hi (Nat.not_lt_zero _)⟩)
 rw [HRE.out] at HCV
 have hln : (natsO (lineO n R)).length = n := by rw [natsO_ln, HLS.out.len]
 have HLN := hide hln
 obtain ⟨LO, hLO⟩ : ∃ LO, natsO (lineO n R) = LO := ⟨_, rfl⟩
 rw [hLO] at HLI HCV HLN
 generalize (coverO n R).length = cl at *
 clear hln hLO HRE HLS
 go_enter Tryd.func48, Tryd.ntmps48
 go_wp2_with fail
 generalize hX1 : World.alloc w _ = X1
 have zX1 : X1.heap.size = w.heap.size + 1 := by rw [← hX1]; simp
 have bX1 : Below w.heap.size w X1 := by rw [← hX1]; exact bal w _
 have bO : Blk X1 (w.heap.size) [.int .i64 n, .slice pa ps.length pm] 25 := by rw [← hX1]; exact Blk.newA w _ (by first | rfl | simp)
 have Xb := bX1
 have Xz := zX1
 clear hX1 zX1 bX1
 have c0 := bO.cell 0 rfl
 have c1 := bO.cell 1 rfl
 go_wp2_with fail
 refine (HLI.out _ Xb).mono ?_
 rintro e w1 ⟨lv, rfl, hv, hb⟩
 have HW := hide (below2 Xb hb)
 replace bO := bO.later hb
 have hi1 := hv.at
 obtain ⟨la, lc, rfl, -, -, -⟩ := id hi1
 rw [HLN.out] at hi1 ⊢
 have HI1 := hide hi1
 clear c0 c1 hb Xb Xz hv hi1
 have c0 := bO.cell 0 rfl
 have c1 := bO.cell 1 rfl
 go_wp2_with fail
 refine (HBE.out _ HW.out).mono ?_
 rintro e w2 ⟨rfl, hb2⟩
 have HW2 := hide (below2 HW.out hb2)
 have HC1 := hide (HCV.out _ _ (ints_low HI1.out hb2))
 clear c0 c1 hb2 bO HW HVA HBE HLI HI1
 go_wp2_with fail
 refine HC1.out.mono ?_
 rintro e w3 ⟨v, rfl, hv, hb3⟩
 obtain ⟨ra, rc, rfl, hra⟩ := id hv
 have HV := hide hv
 have HF := hide (below2 HW2.out hb3)
 clear hv hb3 hra
 go_wp2_with fail
 go_ret2
 exact ⟨_, rfl, HV.out, HF.out⟩
end Go.Proofs.YtnidcoinfmcffaaDoor
