/- Walks of Close and Reduce (chapter 15). Conditions: how the order lies in memory. -/
import Derived.Test.YtnidcoinfmcffaaDoorOsD
namespace Go.Proofs.YtnidcoinfmcffaaDoor
open Go.RowKit
theorem frm_set {B : Nat} {w : World} {b j : Nat} (hp : b < B) (u : Value) : Keeps (frm B w) (frm B (w.setCell ⟨b, j, none⟩ u)) := keeps_frm_later fun k hk _ => Below.heap_setCell w ⟨b, j, none⟩ u k (by show k ≠ b; omega)
/-- an order of its own, without an error -/
def OrdEQ (n : Int) (ps : List (Int × Int)) (w : World) (e : Ending) (w' : World) : Prop := ∃ pv, e = .returned (.tuple #[orderV n pv, .int .i64 0]) ∧ PairsIn (frm w.heap.size w') pv ps ∧ Below w.heap.size w w'
set_option maxRecDepth 100000 in
theorem close_no (o : OrderD) (pv : Value) (w : World) (hp : PairsIn w.cell? pv o.pairs) (hv : validO o = false) : Calls Tryd.prog 24 #[orderV o.n pv] w (Ret (.tuple #[orderV 0 (.slice none 0 0), .int .i64 150]) w) := by
 obtain ⟨on, ps⟩ := o
 obtain ⟨pa, pm, rfl, -, -, -⟩ := id hp
 have HR := hide (fun W (hb : Below w.heap.size w W) => by
  have h := read_any ⟨on, ps⟩ (.slice pa ps.length pm) W (RecIn.below hb hp)
  rw [hv] at h
  exact h)
 generalize readO ⟨on, ps⟩ = R at *
 clear hp hv
 go_enter Tryd.func24, Tryd.ntmps24
 go_wp2_with fail
 generalize hX1 : World.alloc w _ = X1
 have zX1 : X1.heap.size = w.heap.size + 1 := by rw [← hX1]; simp
 have bX1 : Below w.heap.size w X1 := by rw [← hX1]; exact bal w _
 have bO_1 : Blk X1 (w.heap.size) [.int .i64 on, .slice pa ps.length pm] 25 := by rw [← hX1]; exact Blk.newA w _ (by first | rfl | simp)
 generalize hX2 : World.alloc X1 _ = X2
 have zX2 : X2.heap.size = w.heap.size + 1 + 1 := by rw [← hX2]; simp [zX1]
 have bX2 : Below X1.heap.size X1 X2 := by rw [← hX2]; exact bal X1 _
 have bR : Blk X2 (w.heap.size + 1) [.int .i64 0, .slice none 0 0] 25 := by rw [← hX2, ← zX1]; exact Blk.newA X1 _ (by first | rfl | simp)
 have bO := bO_1.later bX2
 have Xb := below2 (bX1) bX2
 have Xz := zX2
 clear hX1 zX1 bX1 hX2 zX2 bX2 bO_1
 have c0 := bO.cell 0 rfl
 have c1 := bO.cell 1 rfl
 refine (HR.out _ Xb).mono ?_
 rintro e w1 ⟨rfl, hb⟩
 have hw := below2 Xb hb
 replace bR := bR.later hb
 clear c0 c1 bO hb Xb Xz
 go_upto_region 2 with (fail)
 generalize hY1 : World.alloc w1 _ = Y1
 have zY1 : Y1.heap.size = w1.heap.size + 1 := by rw [← hY1]; simp
 have bY1 : Below w1.heap.size w1 Y1 := by rw [← hY1]; exact bal w1 _
 have bT : Blk Y1 (w1.heap.size) (tabC R) 65 := by rw [← hY1]; exact Blk.newA w1 _ (by first | rfl | simp)
 have Yb := bY1
 have Yz := zY1
 clear hY1 zY1 bY1
 replace bR := bR.later Yb
 have hw2 := below2 hw Yb
 have r0 := bR.cell 0 rfl
 have r1 := bR.cell 1 rfl
 have rf0 := bR.frozen 0
 have rf1 := bR.frozen 1
 clear Yb Yz hw bT
 go_wp2_with fail
 have q := (bR.set 0 (.int .i64 0)).set 1 (.slice none 0 0)
 have x0 := q.cell 0 rfl
 have x1 := q.cell 1 rfl
 refine bodyPost_ret (v := .tuple #[orderV 0 (.slice none 0 0), .int .i64 150]) (by simp [results, Tryd.results24, go_sem, x0, x1]) rfl ?_
 exact ⟨rfl, (hw2.setCell (p := ⟨w.heap.size + 1, 0, none⟩) (by show w.heap.size ≤ w.heap.size + 1; omega) _).setCell (p := ⟨w.heap.size + 1, 1, none⟩) (by show w.heap.size ≤ w.heap.size + 1; omega) _⟩
set_option maxRecDepth 100000 in
theorem close_yes (n : Nat) (ps : List (Int × Int)) (pv : Value) (w : World) (hp : PairsIn w.cell? pv ps) (hv : validO ⟨n, ps⟩ = true) : Calls Tryd.prog 24 #[orderV n pv] w (OrdEQ n (listO n (beforeO ⟨n, ps⟩)) w) := by
 obtain ⟨pa, pm, rfl, -, -, -⟩ := id hp
 have hn8 : n ≤ 8 := by
  have hf : formedO ⟨(n : Int), ps⟩ = true := by unfold validO at hv; rw [Bool.and_eq_true] at hv; exact hv.1
  have := (formed_n hf).1.2
  simp only at this
  omega
 have HPO := hide (show PoO n (beforeO ⟨(n : Int), ps⟩) from before_po hv)
 have HR := hide (fun W (hb : Below w.heap.size w W) => by
  have h := read_any ⟨(n : Int), ps⟩ (.slice pa ps.length pm) W (RecIn.below hb hp)
  rw [hv, show readO ⟨(n : Int), ps⟩ = beforeO ⟨(n : Int), ps⟩ by
   have hf : formedO ⟨(n : Int), ps⟩ = true := by unfold validO at hv; rw [Bool.and_eq_true] at hv; exact hv.1
   unfold readO; rw [if_pos hf]] at h
  exact h)
 generalize beforeO ⟨(n : Int), ps⟩ = R at *
 clear hp hv
 have HLI := hide (fun W => listed_any n R W hn8)
 go_enter Tryd.func24, Tryd.ntmps24
 go_wp2_with fail
 generalize hX1 : World.alloc w _ = X1
 have zX1 : X1.heap.size = w.heap.size + 1 := by rw [← hX1]; simp
 have bX1 : Below w.heap.size w X1 := by rw [← hX1]; exact bal w _
 have bO_1 : Blk X1 (w.heap.size) [.int .i64 n, .slice pa ps.length pm] 25 := by rw [← hX1]; exact Blk.newA w _ (by first | rfl | simp)
 generalize hX2 : World.alloc X1 _ = X2
 have zX2 : X2.heap.size = w.heap.size + 1 + 1 := by rw [← hX2]; simp [zX1]
 have bX2 : Below X1.heap.size X1 X2 := by rw [← hX2]; exact bal X1 _
 have bR : Blk X2 (w.heap.size + 1) [.int .i64 0, .slice none 0 0] 25 := by rw [← hX2, ← zX1]; exact Blk.newA X1 _ (by first | rfl | simp)
 have bO := bO_1.later bX2
 have Xb := below2 (bX1) bX2
 have Xz := zX2
 clear hX1 zX1 bX1 hX2 zX2 bX2 bO_1
 have c0 := bO.cell 0 rfl
 have c1 := bO.cell 1 rfl
 refine (HR.out _ Xb).mono ?_
 rintro e w1 ⟨rfl, hb⟩
 have hw := below2 Xb hb
 replace bR := bR.later hb
 replace bO := bO.later hb
 clear c0 c1 hb Xb Xz
 go_upto_region 2 with (fail)
 generalize hY1 : World.alloc w1 _ = Y1
 have zY1 : Y1.heap.size = w1.heap.size + 1 := by rw [← hY1]; simp
 have bY1 : Below w1.heap.size w1 Y1 := by rw [← hY1]; exact bal w1 _
 have bT : Blk Y1 (w1.heap.size) (tabC R) 65 := by rw [← hY1]; exact Blk.newA w1 _ (by first | rfl | simp)
 have Yb := bY1
 have Yz := zY1
 clear hY1 zY1 bY1
 replace bR := bR.later Yb
 have o0 := (bO.later Yb).cell 0 rfl
 have hw2 := below2 hw Yb
 have t0 := bT.cell 0 rfl
 have t1 := bT.cell 1 rfl
 have t2 := bT.cell 2 rfl
 have t3 := bT.cell 3 rfl
 have t4 := bT.cell 4 rfl
 have t5 := bT.cell 5 rfl
 have t6 := bT.cell 6 rfl
 have t7 := bT.cell 7 rfl
 have hRY : w.heap.size + 1 < Y1.heap.size := by have := hw.size; have := bR.lt; omega
 clear Yb Yz hw
 go_wp2_with fail
 refine (HLI.out _).mono ?_
 rintro e w2 ⟨pv, rfl, hP, hb⟩
 have hw3 := below2 hw2 hb
 replace bR := bR.later hb
 obtain ⟨qa, qc, rfl, -⟩ := id hP
 have r0 := bR.cell 0 rfl
 have r1 := bR.cell 1 rfl
 have rf0 := bR.frozen 0
 have rf1 := bR.frozen 1
 have HP := hide ((hP.keeps (frm_set (b := w.heap.size + 1) (j := 0) hRY (.int .i64 (n : Int)))).keeps (frm_set (b := w.heap.size + 1) (j := 1) hRY (.slice qa (listO n R).length qc)))
 clear t0 t1 t2 t3 t4 t5 t6 t7 o0 bT hP hb
 generalize listO n R = LO at *
 generalize LO.length = m at *
 go_wp2_with fail
 have q := (bR.set 0 (.int .i64 (n : Int))).set 1 (.slice qa m qc)
 have x0 := q.cell 0 rfl
 have x1 := q.cell 1 rfl
 refine bodyPost_ret (v := .tuple #[orderV n (.slice qa m qc), .int .i64 0]) (by simp [results, Tryd.results24, go_sem, x0, x1]) rfl ?_
 exact ⟨_, rfl, HP.out.keeps (keeps_frm_le _ hw2.size), (hw3.setCell (p := ⟨w.heap.size + 1, 0, none⟩) (by show w.heap.size ≤ w.heap.size + 1; omega) _).setCell (p := ⟨w.heap.size + 1, 1, none⟩) (by show w.heap.size ≤ w.heap.size + 1; omega) _⟩
/-- the table while it is reduced: the first b things are done, and for the thing b the first k things between -/
def redM (n : Nat) (R : RelO) (b k : Nat) : RelO := fun x y => if y < b then redO n R x y else if y = b then R x b && !(List.range k).any (fun c => R x c && R c b) else R x y
theorem redM_zero (n : Nat) (R : RelO) : tabC R = tabC (redM n R 0 0) := tabC_congr fun x y _ _ => by
 unfold redM
 rw [if_neg (by omega)]
 split
 ·rename_i h; subst h; simp
 ·rfl
theorem redM_next (n : Nat) (R : RelO) (b : Nat) : tabC (redM n R b n) = tabC (redM n R (b + 1) 0) := tabC_congr fun x y _ _ => by
 unfold redM
 by_cases h1 : y < b
 ·rw [if_pos h1, if_pos (by omega)]
 ·rw [if_neg h1]
  by_cases h2 : y = b
  ·subst h2; rw [if_pos rfl, if_pos (by omega)]; rfl
  ·rw [if_neg h2, if_neg (by omega)]
   split
   ·rename_i h3; subst h3; simp
   ·rfl
theorem redM_row (n : Nat) (R : RelO) (b k : Nat) : (fun a => redM n R b k a b) = fun a => R a b && !(List.range k).any (fun c => R a c && R c b) := by
 funext a; unfold redM; rw [if_neg (Nat.lt_irrefl b), if_pos rfl]
theorem redM_yes {n : Nat} {R : RelO} {b k : Nat} (h : R k b = true) : tabC (rowO (redM n R b k) b fun a => (R a b && !(List.range k).any (fun c => R a c && R c b)) && !R a k) = tabC (redM n R b (k + 1)) := tabC_congr fun x y _ _ => by
 unfold rowO redM
 by_cases e : y = b
 ·subst e
  rw [if_pos rfl, if_neg (Nat.lt_irrefl _), if_pos rfl, List.range_succ, List.any_append]
  simp [h, Bool.and_assoc]
 ·rw [if_neg e]
  simp [e]
theorem redM_no {n : Nat} {R : RelO} {b k : Nat} (h : R k b = false) : tabC (redM n R b k) = tabC (redM n R b (k + 1)) := tabC_congr fun x y _ _ => by
 unfold redM
 rw [List.range_succ, List.any_append]
 simp [h]
theorem redM_full {n : Nat} {R : RelO} (hd : ∀ a b, R a b = true → a < n ∧ b < n) : tabV (redM n R n 0) = tabV (redO n R) := tabV_congr fun x y _ _ => by
 unfold redM
 split
 ·rfl
 ·rename_i h
  have e : R x y = false := by
   cases e : R x y with
   | false => rfl
   | true => exact absurd (hd _ _ e).2 h
  have e2 : redO n R x y = false := by unfold redO; rw [e]; rfl
  rw [e2]
  split
  ·rename_i h2; subst h2; rw [e]; rfl
  ·exact e
theorem less_bits (p q : Nat → Bool) : lessO (bitsO p) (bitsO q) = bitsO fun a => p a && !q a := bits_eq fun a => by
 rw [less_bit (Nat.lt_of_lt_of_le (bits_lt p) (by decide)) (Nat.lt_of_lt_of_le (bits_lt q) (by decide)), bits_test, bits_test]
 by_cases h : a < 8 <;> simp [h]
set_option maxRecDepth 100000 in
theorem reduce_no (o : OrderD) (pv : Value) (w : World) (hp : PairsIn w.cell? pv o.pairs) (hv : validO o = false) : Calls Tryd.prog 25 #[orderV o.n pv] w (Ret (.tuple #[orderV 0 (.slice none 0 0), .int .i64 150]) w) := by
 obtain ⟨on, ps⟩ := o
 obtain ⟨pa, pm, rfl, -, -, -⟩ := id hp
 have HR := hide (fun W (hb : Below w.heap.size w W) => by
  have h := read_any ⟨on, ps⟩ (.slice pa ps.length pm) W (RecIn.below hb hp)
  rw [hv] at h
  exact h)
 generalize readO ⟨on, ps⟩ = R at *
 clear hp hv
 go_enter Tryd.func25, Tryd.ntmps25
 go_wp2_with fail
 generalize hX1 : World.alloc w _ = X1
 have zX1 : X1.heap.size = w.heap.size + 1 := by rw [← hX1]; simp
 have bX1 : Below w.heap.size w X1 := by rw [← hX1]; exact bal w _
 have bO_1 : Blk X1 (w.heap.size) [.int .i64 on, .slice pa ps.length pm] 25 := by rw [← hX1]; exact Blk.newA w _ (by first | rfl | simp)
 generalize hX2 : World.alloc X1 _ = X2
 have zX2 : X2.heap.size = w.heap.size + 1 + 1 := by rw [← hX2]; simp [zX1]
 have bX2 : Below X1.heap.size X1 X2 := by rw [← hX2]; exact bal X1 _
 have bR : Blk X2 (w.heap.size + 1) [.int .i64 0, .slice none 0 0] 25 := by rw [← hX2, ← zX1]; exact Blk.newA X1 _ (by first | rfl | simp)
 have bO := bO_1.later bX2
 have Xb := below2 (bX1) bX2
 have Xz := zX2
 clear hX1 zX1 bX1 hX2 zX2 bX2 bO_1
 have c0 := bO.cell 0 rfl
 have c1 := bO.cell 1 rfl
 refine (HR.out _ Xb).mono ?_
 rintro e w1 ⟨rfl, hb⟩
 have hw := below2 Xb hb
 replace bR := bR.later hb
 clear c0 c1 bO hb Xb Xz
 go_upto_region 2 with (fail)
 generalize hY1 : World.alloc w1 _ = Y1
 have zY1 : Y1.heap.size = w1.heap.size + 1 := by rw [← hY1]; simp
 have bY1 : Below w1.heap.size w1 Y1 := by rw [← hY1]; exact bal w1 _
 have bT : Blk Y1 (w1.heap.size) (tabC R) 65 := by rw [← hY1]; exact Blk.newA w1 _ (by first | rfl | simp)
 have Yb := bY1
 have Yz := zY1
 clear hY1 zY1 bY1
 replace bR := bR.later Yb
 have hw2 := below2 hw Yb
 have r0 := bR.cell 0 rfl
 have r1 := bR.cell 1 rfl
 have rf0 := bR.frozen 0
 have rf1 := bR.frozen 1
 clear Yb Yz hw bT
 go_wp2_with fail
 have q := (bR.set 0 (.int .i64 0)).set 1 (.slice none 0 0)
 have x0 := q.cell 0 rfl
 have x1 := q.cell 1 rfl
 refine bodyPost_ret (v := .tuple #[orderV 0 (.slice none 0 0), .int .i64 150]) (by simp [results, Tryd.results25, go_sem, x0, x1]) rfl ?_
 exact ⟨rfl, (hw2.setCell (p := ⟨w.heap.size + 1, 0, none⟩) (by show w.heap.size ≤ w.heap.size + 1; omega) _).setCell (p := ⟨w.heap.size + 1, 1, none⟩) (by show w.heap.size ≤ w.heap.size + 1; omega) _⟩
set_option maxRecDepth 100000 in
set_option maxHeartbeats 2000000 in
theorem reduce_yes (n : Nat) (ps : List (Int × Int)) (pv : Value) (w : World) (hp : PairsIn w.cell? pv ps) (hv : validO ⟨n, ps⟩ = true) : Calls Tryd.prog 25 #[orderV n pv] w (OrdEQ n (redL n (beforeO ⟨n, ps⟩)) w) := by
 obtain ⟨pa, pm, rfl, -, -, -⟩ := id hp
 have hn8 : n ≤ 8 := by
  have hf : formedO ⟨(n : Int), ps⟩ = true := by unfold validO at hv; rw [Bool.and_eq_true] at hv; exact hv.1
  have := (formed_n hf).1.2
  simp only at this
  omega
 have HPO := hide (show PoO n (beforeO ⟨(n : Int), ps⟩) from before_po hv)
 have HR := hide (fun W (hb : Below w.heap.size w W) => by
  have h := read_any ⟨(n : Int), ps⟩ (.slice pa ps.length pm) W (RecIn.below hb hp)
  rw [hv, show readO ⟨(n : Int), ps⟩ = beforeO ⟨(n : Int), ps⟩ by
   have hf : formedO ⟨(n : Int), ps⟩ = true := by unfold validO at hv; rw [Bool.and_eq_true] at hv; exact hv.1
   unfold readO; rw [if_pos hf]] at h
  exact h)
 generalize beforeO ⟨(n : Int), ps⟩ = R at *
 clear hp hv
 have HLI := hide (fun W => listed_any n (redO n R) W hn8)
 rw [show redL n R = listO n (redO n R) from rfl]
 have HTF := hide (redM_full (n := n) (R := R) fun a b h => HPO.out.dom a b h)
 go_enter Tryd.func25, Tryd.ntmps25
 go_wp2_with fail
 generalize hX1 : World.alloc w _ = X1
 have zX1 : X1.heap.size = w.heap.size + 1 := by rw [← hX1]; simp
 have bX1 : Below w.heap.size w X1 := by rw [← hX1]; exact bal w _
 have bO_1 : Blk X1 (w.heap.size) [.int .i64 n, .slice pa ps.length pm] 25 := by rw [← hX1]; exact Blk.newA w _ (by first | rfl | simp)
 generalize hX2 : World.alloc X1 _ = X2
 have zX2 : X2.heap.size = w.heap.size + 1 + 1 := by rw [← hX2]; simp [zX1]
 have bX2 : Below X1.heap.size X1 X2 := by rw [← hX2]; exact bal X1 _
 have bR : Blk X2 (w.heap.size + 1) [.int .i64 0, .slice none 0 0] 25 := by rw [← hX2, ← zX1]; exact Blk.newA X1 _ (by first | rfl | simp)
 have bO := bO_1.later bX2
 have Xb := below2 (bX1) bX2
 have Xz := zX2
 clear hX1 zX1 bX1 hX2 zX2 bX2 bO_1
 have c0 := bO.cell 0 rfl
 have c1 := bO.cell 1 rfl
 refine (HR.out _ Xb).mono ?_
 rintro e w1 ⟨rfl, hb⟩
 have hw := below2 Xb hb
 replace bR := bR.later hb
 replace bO := bO.later hb
 clear c0 c1 hb Xb Xz
 go_upto_region 2 with (fail)
 generalize hY1 : World.alloc w1 _ = Y1
 have zY1 : Y1.heap.size = w1.heap.size + 1 := by rw [← hY1]; simp
 have bY1 : Below w1.heap.size w1 Y1 := by rw [← hY1]; exact bal w1 _
 have bT : Blk Y1 (w1.heap.size) (tabC R) 65 := by rw [← hY1]; exact Blk.newA w1 _ (by first | rfl | simp)
 have Yb := bY1
 have Yz := zY1
 clear hY1 zY1 bY1
 replace bR := bR.later Yb
 replace bO := bO.later Yb
 have hw2 := below2 hw Yb
 have t0 := bT.cell 0 rfl
 have t1 := bT.cell 1 rfl
 have t2 := bT.cell 2 rfl
 have t3 := bT.cell 3 rfl
 have t4 := bT.cell 4 rfl
 have t5 := bT.cell 5 rfl
 have t6 := bT.cell 6 rfl
 have t7 := bT.cell 7 rfl
 have hRY : w.heap.size + 1 < Y1.heap.size := by have := hw.size; have := bR.lt; omega
 have hsY : w.heap.size ≤ Y1.heap.size := hw2.size
 have hTY : w1.heap.size < Y1.heap.size := bT.lt
 clear Yb Yz hw
 go_upto_region 5 with (fail)
 generalize hZ1 : World.alloc Y1 _ = Z1
 have zZ1 : Z1.heap.size = Y1.heap.size + 1 := by rw [← hZ1]; simp
 have bZ1 : Below Y1.heap.size Y1 Z1 := by rw [← hZ1]; exact bal Y1 _
 have bL : Blk Z1 (Y1.heap.size) (tabC R) 65 := by rw [← hZ1]; exact Blk.newA Y1 _ (by first | rfl | simp)
 have Zb := bZ1
 have Zz := zZ1
 clear hZ1 zZ1 bZ1
 replace bR := bR.later Zb
 replace bO := bO.later Zb
 replace bT := bT.later Zb
 have hG0 : TabG w Z1 Y1.heap.size (redM n R 0 0) Z1 := ⟨below2 hw2 Zb, Eff.of_below (Below.refl _ _) _, by rw [← redM_zero]; exact bL⟩
 have o0 := bO.cell 0 rfl
 have HBO := hide bO
 have HBT := hide bT
 have HBR := hide bR
 have hOY : w.heap.size ≠ Y1.heap.size := by omega
 have hTY' : w1.heap.size ≠ Y1.heap.size := by omega
 clear t0 t1 t2 t3 t4 t5 t6 t7 bL bO bT bR Zb hw2
 go_wp2_with fail
 go_loopw [20] (fun i wr => ∃ b : Nat, b ≤ n ∧ i = .int .i64 b ∧ TabG w Z1 Y1.heap.size (redM n R b 0) wr) (fun i _ => n - (intOf i).toNat)
 case atStart => exact ⟨0, by omega, rfl, hG0⟩
 case round =>
  obtain ⟨b, hb, rfl, hG⟩ := hrel
  by_cases hlb : b < n
  ·have hlbI : (b : Int) < n := by omega
   have HB := hide hlb
   have hb8 : b < 8 := by omega
   have hb8I : (b : Int) < 8 := by omega
   have o0 := (hG.blk HBO.out hOY).cell 0 rfl
   clear hG0
   go_wp2_with fail
   go_loopw [25] (fun j wz => ∃ k : Nat, k ≤ n ∧ j = .int .i64 k ∧ TabG w Z1 Y1.heap.size (redM n R b k) wz) (fun j _ => n - (intOf j).toNat)
   case atStart => exact ⟨0, by omega, rfl, hG⟩
   case round =>
    clear hG o0
    obtain ⟨k, hk, rfl, hG⟩ := hrel
    by_cases hlk : k < n
    ·have hlkI : (k : Int) < n := by omega
     have HK := hide hlk
     have hk8 : k < 8 := by omega
     have hk8I : (k : Int) < 8 := by omega
     have bTk := hG.blk HBT.out hTY'
     have tb := bTk.cell b (tabC_get _ b hb8)
     have tk := bTk.cell k (tabC_get _ k hk8)
     have l0 := hG.done.cell b (tabC_get _ b hb8)
     obtain ⟨S, hS⟩ : ∃ S : Nat, bitsO (fun a => R a b) = S := ⟨_, rfl⟩
     have hS8 : S < 256 := by rw [← hS]; exact bits_lt _
     obtain ⟨T, hT⟩ : ∃ T : Nat, bitsO (fun a => R a k) = T := ⟨_, rfl⟩
     obtain ⟨U, hU⟩ : ∃ U : Nat, bitsO (fun a => redM n R b k a b) = U := ⟨_, rfl⟩
     have hU8 : U < 256 := by rw [← hU]; exact bits_lt _
     rw [show setI R b = (S : Int) by show ((bitsO _ : Nat) : Int) = _; rw [hS]] at tb
     rw [show setI R k = (T : Int) by show ((bitsO _ : Nat) : Int) = _; rw [hT]] at tk
     rw [show setI (redM n R b k) b = (U : Int) by show ((bitsO _ : Nat) : Int) = _; rw [hU]] at l0
     have hbt := bit_test (k := k) hS8
     rw [← hS, bits_test, decide_eq_true hk8, Bool.true_and, hS] at hbt
     cases hr : R k b
     ·rw [hr] at hbt
      have HG1 := hide (TabG.eq hG (redM_no hr))
      clear hG hr hS hT hU l0 tk bTk
      go_wp2_with fail
      go_roundw
      case rel => exact ⟨k + 1, by have := HK.out; omega, by go_num, HG1.out⟩
      case measure => have := HK.out; simp [intOf]; omega
     ·rw [hr] at hbt
      have hor := bless_nat (a := U) (b := T) (by omega)
      have HMY := hide (redM_yes (n := n) hr)
      have HUT := hide (And.intro hU hT)
      have HRW := hide (redM_row n R b k)
      clear hr hS hT hU bTk
      go_wp2_with fail
      refine wp_region_still_tail 8 (by kernel_rfl) (by kernel_rfl) ?_
      simp only [List.take_succ_cons, List.take_zero, List.drop_succ_cons, List.drop_zero]
      repeat (with_reducible refine wpStill_step (fun K hK => ?_) ; go_simp ; with_reducible refine hK _ ?_ ; clear hK K)
      refine wpStill_nil ?_
      change wpList _ _ _ _ _ wr.drew
      have hbd : Below wr.heap.size wr wr.drew := (Below.refl _ _).drew
      generalize World.drew wr = V2 at hbd ⊢
      have hG2 := hG.later hbd
      have z0 := hG2.done.cell b (tabC_get _ b hb8)
      have zf := hG2.done.frozen b
      have HG3 : Hid (TabG w Z1 Y1.heap.size (redM n R b (k + 1)) (V2.setCell ⟨Y1.heap.size, b, none⟩ (.int .i64 ((lessO U T : Nat) : Int)))) := hide (by
       have h := (TabG.put hG2 hsY hb8 fun a => (R a b && !(List.range k).any (fun c => R a c && R c b)) && !R a k).eq HMY.out
       rw [← less_bits, ← HRW.out, HUT.out.1, HUT.out.2] at h
       exact h)
      clear hG2 hbd tb tk l0 hG
      go_wp2_with fail
      go_roundw
      case rel => exact ⟨k + 1, by have := HK.out; omega, by go_num, HG3.out⟩
      case measure => have := HK.out; simp [intOf]; omega
    ·obtain rfl : k = n := by omega
     have HG1 := hide (TabG.eq hG (redM_next k R b))
     clear hG
     go_wp2_with fail
     go_roundw
     case rel => exact ⟨b + 1, by have := HB.out; omega, by go_num, HG1.out⟩
     case measure => have := HB.out; simp [intOf]; omega
  ·obtain rfl : b = n := by omega
   have bO := hG.blk HBO.out hOY
   have bR := hG.blk HBR.out (show w.heap.size + 1 ≠ Y1.heap.size by omega)
   have bL := hG.done
   have hw := hG.hb
   have o0 := bO.cell 0 rfl
   have t0 := bL.cell 0 rfl
   have t1 := bL.cell 1 rfl
   have t2 := bL.cell 2 rfl
   have t3 := bL.cell 3 rfl
   have t4 := bL.cell 4 rfl
   have t5 := bL.cell 5 rfl
   have t6 := bL.cell 6 rfl
   have t7 := bL.cell 7 rfl
   have HLI' := hide (fun W => by have h := HLI.out W; rw [← HTF.out] at h; exact h)
   generalize redM b R b 0 = RM at *
   have hRw : w.heap.size + 1 < wr.heap.size := bR.lt
   have hsw : w.heap.size ≤ wr.heap.size := hw.size
   clear hG hG0 HLI
   go_wp2_with fail
   refine (HLI'.out _).mono ?_
   rintro e w2 ⟨pv, rfl, hP, hb'⟩
   have hw3 := below2 hw hb'
   replace bR := bR.later hb'
   obtain ⟨qa, qc, rfl, -⟩ := id hP
   have r0 := bR.cell 0 rfl
   have r1 := bR.cell 1 rfl
   have rf0 := bR.frozen 0
   have rf1 := bR.frozen 1
   have HP := hide ((hP.keeps (frm_set (b := w.heap.size + 1) (j := 0) hRw (.int .i64 (b : Int)))).keeps (frm_set (b := w.heap.size + 1) (j := 1) hRw (.slice qa (listO b (redO b R)).length qc)))
   clear t0 t1 t2 t3 t4 t5 t6 t7 o0 bL bO hP hb' HLI'
   generalize listO b (redO b R) = LO at *
   generalize LO.length = m at *
   go_wp2_with fail
   have q := (bR.set 0 (.int .i64 (b : Int))).set 1 (.slice qa m qc)
   have x0 := q.cell 0 rfl
   have x1 := q.cell 1 rfl
   refine bodyPost_ret (v := .tuple #[orderV b (.slice qa m qc), .int .i64 0]) (by simp [results, Tryd.results25, go_sem, x0, x1]) rfl ?_
   exact ⟨_, rfl, HP.out.keeps (keeps_frm_le _ hsw), (hw3.setCell (p := ⟨w.heap.size + 1, 0, none⟩) (by show w.heap.size ≤ w.heap.size + 1; omega) _).setCell (p := ⟨w.heap.size + 1, 1, none⟩) (by show w.heap.size ≤ w.heap.size + 1; omega) _⟩
end Go.Proofs.YtnidcoinfmcffaaDoor
