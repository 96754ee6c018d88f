/- Walks of listed, Close (chapter 15). Conditions: how the order lies in memory. -/
import Derived.Test.YtnidcoinfmcffaaDoorOsC
import Derived.Test.YtnidcoinfmcffaaDoorEffY
namespace Go.Proofs.YtnidcoinfmcffaaDoor
open Go.RowKit
theorem infoPair : (Tryd.prog.info? 46).map (fun i => (i.zero, i.size, i.bytes)) = some (some (.agg #[.int .i64 0, .int .i64 0]), 2, 16) := by kernel_rfl
theorem pairC_one {p : Int × Int} : ∀ u ∈ pairC p, u.oneCell' = true := by
 intro u hu; simp only [pairC, List.mem_cons, List.not_mem_nil, or_false] at hu; rcases hu with rfl | rfl <;> rfl
/-- own pairs -/
abbrev OwnP (w : World) (B : Nat) (v : Value) (l : List (Int × Int)) : Prop := OwnR w B 46 2 v (l.map pairC)
theorem OwnP.inF {w : World} {B B' : Nat} {v : Value} {l : List (Int × Int)} (h : OwnP w B v l) (hB : B' ≤ B) : PairsIn (frm B' w) v l := RecIn.of_own h (fun _ => rfl) hB
/-- the pairs of the first a things, and those of the thing a with the first b things -/
def listK (n : Nat) (R : RelO) (a b : Nat) : List (Int × Int) := ((List.range a).flatMap fun a => ((List.range n).filter (R a)).map fun (b : Nat) => ((a : Int), (b : Int))) ++ ((List.range b).filter (R a)).map fun (b : Nat) => ((a : Int), (b : Int))
theorem listK_all (n : Nat) (R : RelO) : listK n R n 0 = listO n R := by simp [listK, listO]
theorem listK_next (n : Nat) (R : RelO) (a : Nat) : listK n R a n = listK n R (a + 1) 0 := by
 unfold listK
 rw [List.range_succ, List.flatMap_append]; simp
theorem listK_yes {n : Nat} {R : RelO} {a b : Nat} (h : R a b = true) : listK n R a (b + 1) = listK n R a b ++ [((a : Int), (b : Int))] := by
 unfold listK
 rw [List.range_succ, List.filter_append]; simp [h]
theorem listK_no {n : Nat} {R : RelO} {a b : Nat} (h : R a b = false) : listK n R a (b + 1) = listK n R a b := by
 unfold listK
 rw [List.range_succ, List.filter_append]; simp [h]
theorem flat_le {α β : Type} {f : α → List β} {m : Nat} : ∀ {l : List α}, (∀ x ∈ l, (f x).length ≤ m) → (l.flatMap f).length ≤ l.length * m
 | [], _ => by simp
 | x :: l, h => by
  have ih := flat_le (l := l) fun y hy => h y (by simp [hy])
  have hx := h x (by simp)
  rw [List.flatMap_cons, List.length_append, List.length_cons, Nat.succ_mul]; omega
theorem listK_len {n : Nat} (hn : n ≤ 8) (R : RelO) {a b : Nat} (ha : a ≤ 8) (hb : b ≤ 8) : (listK n R a b).length ≤ 72 := by
 have h1 : ((List.range a).flatMap fun a => ((List.range n).filter (R a)).map fun (b : Nat) => ((a : Int), (b : Int))).length ≤ (List.range a).length * 8 := flat_le fun x _ => by
  rw [List.length_map]
  exact Nat.le_trans (List.length_filter_le _ _) (by simpa using hn)
 have h2 : (((List.range b).filter (R a)).map fun (b : Nat) => ((a : Int), (b : Int))).length ≤ 8 := by
  rw [List.length_map]
  exact Nat.le_trans (List.length_filter_le _ _) (by simpa using hb)
 unfold listK
 rw [List.length_append]
 simp only [List.length_range] at h1
 omega
/-- an order of its own -/
def OrdQ (n : Int) (ps : List (Int × Int)) (w : World) (e : Ending) (w' : World) : Prop := ∃ pv, e = .returned (orderV n pv) ∧ PairsIn (frm w.heap.size w') pv ps ∧ Below w.heap.size w w'
set_option maxRecDepth 100000 in
set_option maxHeartbeats 2000000 in
theorem listed_any (n : Nat) (R : RelO) (w : World) (hn : n ≤ 8) : Calls Tryd.prog 58 #[.int .i64 n, tabV R] w (OrdQ n (listO n R) w) := by
 have HL0 := hide (listK_all n R)
 have HLN := hide (fun a => listK_next n R a)
 have HLY := hide (fun a b => listK_yes (n := n) (R := R) (a := a) (b := b))
 have HLE := hide (fun a b => listK_len hn R (a := a) (b := b))
 have HLO := hide (fun a b => listK_no (n := n) (R := R) (a := a) (b := b))
 have H00 : Hid (listK n R 0 0 = []) := hide rfl
 generalize listK n R = LK at *
 generalize listO n R = LO at *
 go_enter Tryd.func58, Tryd.ntmps58
 go_wp2_with fail
 generalize hX1 : World.alloc w _ = X1
 have zX1 : X1.heap.size = w.heap.size + 1 := by rw [← hX1]; simp
 have bX1 : Below w.heap.size w X1 := by rw [← hX1]; exact bal w _
 have bT_1 : Blk X1 (w.heap.size) (tabC R) 65 := by rw [← hX1]; exact Blk.newA w _ (by first | rfl | simp)
 generalize hX2 : World.alloc X1 _ = X2
 have zX2 : X2.heap.size = w.heap.size + 1 + 1 := by rw [← hX2]; simp [zX1]
 have bX2 : Below X1.heap.size X1 X2 := by rw [← hX2]; exact bal X1 _
 have bR_2 : Blk X2 (w.heap.size + 1) [.int .i64 0, .slice none 0 0] 25 := by rw [← hX2, ← zX1]; exact Blk.newA X1 _ (by first | rfl | simp)
 have bT_2 := bT_1.later bX2
 generalize hX3 : World.alloc X2 _ = X3
 have zX3 : X3.heap.size = w.heap.size + 1 + 1 + 1 := by rw [← hX3]; simp [zX2]
 have bX3 : Below X2.heap.size X2 X3 := by rw [← hX3]; exact bal X2 _
 have bO : Blk X3 (w.heap.size + 1 + 1) [.int .i64 n, .slice none 0 0] 25 := by rw [← hX3, ← zX2]; exact Blk.newA X2 _ (by first | rfl | simp)
 have bT := bT_2.later bX3
 have bR := bR_2.later bX3
 have Xb := below2 (below2 (bX1) bX2) bX3
 have Xz := zX3
 clear hX1 zX1 bX1 hX2 zX2 bX2 hX3 zX3 bX3 bT_1 bT_2 bR_2
 have hsX : w.heap.size + 1 + 1 + 1 ≤ X3.heap.size := by omega
 clear Xz
 go_wp2_with fail
 go_loopw [11] (fun i wr => ∃ (a : Nat) (ov : Value), a ≤ n ∧ i = .int .i64 a ∧ OwnP wr (w.heap.size + 1 + 1 + 1) ov (LK a 0) ∧ Blk wr (w.heap.size + 1 + 1) [.int .i64 n, ov] 25 ∧ Blk wr (w.heap.size + 1) [.int .i64 0, .slice none 0 0] 25 ∧ Blk wr w.heap.size (tabC R) 65 ∧ Below w.heap.size w wr ∧ w.heap.size + 1 + 1 + 1 ≤ wr.heap.size) (fun i _ => n - (intOf i).toNat)
 case atStart => exact ⟨0, _, by omega, rfl, by rw [H00.out]; exact OwnR.nil _ _ _ _, bO, bR, bT, Xb, hsX⟩
 case round =>
  obtain ⟨a, ov, ha, rfl, hown, hbO, hbR, hbT, hbr, hsz⟩ := hrel
  by_cases hla : a < n
  ·have hlaI : (a : Int) < n := by omega
   have HA := hide hla
   have ha8 : a < 8 := by omega
   clear bO bR bT Xb
   go_wp2_with fail
   go_loopw [15] (fun j wz => ∃ (b : Nat) (ov : Value), b ≤ n ∧ j = .int .i64 b ∧ OwnP wz (w.heap.size + 1 + 1 + 1) ov (LK a b) ∧ Blk wz (w.heap.size + 1 + 1) [.int .i64 n, ov] 25 ∧ Blk wz (w.heap.size + 1) [.int .i64 0, .slice none 0 0] 25 ∧ Blk wz w.heap.size (tabC R) 65 ∧ Below w.heap.size w wz ∧ w.heap.size + 1 + 1 + 1 ≤ wz.heap.size) (fun j _ => n - (intOf j).toNat)
   case atStart => exact ⟨0, _, by omega, rfl, hown, hbO, hbR, hbT, hbr, hsz⟩
   case round =>
    clear hown hbO hbR hbT hbr hsz
    obtain ⟨b, ov, hb, rfl, hown, hbO, hbR, hbT, hbr, hsz⟩ := hrel
    by_cases hlb : b < n
    ·have hlbI : (b : Int) < n := by omega
     have HB := hide hlb
     have hb8 : b < 8 := by omega
     have hb8I : (b : Int) < 8 := by omega
     have t0 := hbT.cell b (tabC_get _ b hb8)
     obtain ⟨S, hS⟩ : ∃ S : Nat, bitsO (fun x => R x b) = S := ⟨_, rfl⟩
     have hS8 : S < 256 := by rw [← hS]; exact bits_lt _
     have hbt := bit_test (k := a) hS8
     rw [← hS, bits_test, decide_eq_true ha8, Bool.true_and, hS] at hbt
     rw [show setI R b = (S : Int) by show ((bitsO _ : Nat) : Int) = _; rw [hS]] at t0
     have hln := HLE.out a b (by omega) (by omega)
     cases hr : R a b
     ·rw [hr] at hbt
      have HN := hide (HLO.out a b hr)
      have HOW := hide hown
      have HBB := hide (And.intro hbO (And.intro hbR (And.intro hbT (And.intro hbr hsz))))
      clear hr hS hown hbO hbR hbT hbr hsz hln
      go_wp2_with fail
      go_roundw
      case rel => exact ⟨b + 1, ov, by have := HB.out; omega, by go_num, by rw [HN.out]; exact HOW.out, HBB.out⟩
      case measure => have := HB.out; simp [intOf]; omega
     ·rw [hr] at hbt
      have HN := hide (HLY.out a b hr)
      replace hown : OwnR wr (w.heap.size + 1 + 1 + 1) 46 2 ov ((LK a b).map pairC) := hown
      obtain ⟨oa, oc, rfl⟩ := OwnR.formE hown
      have hln' : ((LK a b).map pairC).length ≤ 72 := by rw [List.length_map]; exact hln
      have HM : Hid (((LK a b).map pairC) ++ [pairC ((a : Int), (b : Int))] = (LK a (b + 1)).map pairC) := hide (by rw [HN.out, List.map_append]; rfl)
      generalize hLL : (LK a b).map pairC = LL at *
      have HBR := hide hbR
      have HBT := hide hbT
      have HBW := hide hbr
      have o1 := hbO.cell 1 rfl
      clear hr hS hbR hbT hbr hLL HN
      go_wp2_with (at_builtin; refine app_recE infoPair rfl (by decide) Tryd.underlying22 rfl _ _ rfl (w.heap.size + 1 + 1 + 1) _ LL rfl hown (pairC ((a : Int), (b : Int))) rfl pairC_one _ rfl rfl (by omega) (by omega) hsz ?_; intro v3 w3 hO3 hE3 hob3; obtain ⟨g3', c3', rfl⟩ := own_some hO3; have hbO3 : Blk w3 (w.heap.size + 1 + 1) [.int .i64 n, .slice oa LL.length oc] 25 := hbO.eff hE3 (fun e => hown.neT hbO (by decide) e.symm); have r0 := hbO3.cell 1 rfl; have rf := hbO3.frozen 1)
      have hEE : EffE (w.heap.size + 1 + 1 + 1) 46 wr w3 := effE_of_grown hown ⟨hE3.os, hE3.tape, hE3.output, hE3.size, fun b hb hn => hE3.block b hb hn⟩
      have hEY : EffY (w.heap.size + 1 + 1 + 1) 46 (w.heap.size + 1 + 1) wr (w3.setCell ⟨w.heap.size + 1 + 1, 1, none⟩ (.slice (some ⟨g3', 0, none⟩) (LL.length + 1) c3')) := ((EffY.of_below (Below.refl _ _)).app hEE).set 1 _
      have HOW : Hid (OwnP (w3.setCell ⟨w.heap.size + 1 + 1, 1, none⟩ (.slice (some ⟨g3', 0, none⟩) (LL.length + 1) c3')) (w.heap.size + 1 + 1 + 1) (.slice (some ⟨g3', 0, none⟩) (LL.length + 1) c3') (LK a (b + 1))) := hide (by
       have h := OwnR.setO hO3 hbO3 (by decide) (j := 1) (.slice (some ⟨g3', 0, none⟩) (LL.length + 1) c3')
       rw [HM.out] at h
       exact h)
      have HO3 := hide (hbO3.set 1 (.slice (some ⟨g3', 0, none⟩) (LL.length + 1) c3'))
      have HR3 := hide (hEY.blk HBR.out (show w.heap.size + 1 ≠ w.heap.size + 1 + 1 by omega) (by decide))
      have HT3 := hide (hEY.blk HBT.out (show w.heap.size ≠ w.heap.size + 1 + 1 by omega) (by decide))
      have HB3 := hide (keeps_low_effY hEY (show w.heap.size ≤ w.heap.size + 1 + 1 + 1 by omega) (show w.heap.size ≤ w.heap.size + 1 + 1 by omega) HBW.out)
      have HS3 : Hid (w.heap.size + 1 + 1 + 1 ≤ _) := hide (Nat.le_trans hsz hEY.size)
      clear hEY hEE
      go_roundw
      case rel => exact ⟨b + 1, _, by have := HB.out; omega, by go_num, HOW.out, HO3.out, HR3.out, HT3.out, HB3.out, HS3.out⟩
      case measure => have := HB.out; simp [intOf]; omega
    ·obtain rfl : b = n := by omega
     have HOW : Hid (OwnP wr (w.heap.size + 1 + 1 + 1) ov (LK (a + 1) 0)) := hide (by rw [← HLN.out]; exact hown)
     have HBB := hide (And.intro hbO (And.intro hbR (And.intro hbT (And.intro hbr hsz))))
     clear hown hbO hbR hbT hbr hsz
     go_wp2_with fail
     go_roundw
     case rel => exact ⟨a + 1, ov, by have := HA.out; omega, by go_num, HOW.out, HBB.out⟩
     case measure => have := HA.out; simp [intOf]; omega
  ·obtain rfl : a = n := by omega
   obtain ⟨oa, oc, rfl⟩ := OwnR.formE hown
   generalize ((LK a 0).map pairC).length = m at *
   rw [HL0.out] at hown
   have HOW := hide hown
   have o0 := hbO.cell 0 rfl
   have o1 := hbO.cell 1 rfl
   have r0 := hbR.cell 0 rfl
   have r1 := hbR.cell 1 rfl
   have rf0 := hbR.frozen 0
   have rf1 := hbR.frozen 1
   clear hown
   go_wp2_with fail
   have q := (hbR.set 0 (.int .i64 (a : Int))).set 1 (.slice oa m oc)
   have x0 := q.cell 0 rfl
   have x1 := q.cell 1 rfl
   refine bodyPost_ret (v := orderV (a : Int) (.slice oa m oc)) (by simp [results, Tryd.results58, go_sem, x0, x1]) rfl ?_
   exact ⟨_, rfl, OwnP.inF ((HOW.out.setO hbR (by decide) (j := 0) (.int .i64 (a : Int))).setO (hbR.set 0 (.int .i64 (a : Int))) (by decide) (j := 1) (.slice oa m oc)) (show w.heap.size ≤ w.heap.size + 1 + 1 + 1 by omega), (hbr.setCell (p := ⟨w.heap.size + 1, 0, none⟩) (by show w.heap.size ≤ w.heap.size + 1; omega) _).setCell (p := ⟨w.heap.size + 1, 1, none⟩) (by show w.heap.size ≤ w.heap.size + 1; omega) _⟩
end Go.Proofs.YtnidcoinfmcffaaDoor
