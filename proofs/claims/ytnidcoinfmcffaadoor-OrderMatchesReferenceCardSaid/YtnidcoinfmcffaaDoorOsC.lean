/- Walks of read, Valid and Before (chapter 15). Conditions: how the order lies in memory. -/
import Derived.Test.YtnidcoinfmcffaaDoorOsB
import Derived.Deep.DeepCutAuto
namespace Go.Proofs.YtnidcoinfmcffaaDoor
open Go.RowKit
/-- what read returns: the closure of a formed order -/
def readO (o : OrderD) : RelO := if formedO o = true then beforeO o else zeroO
set_option maxRecDepth 100000 in
set_option maxHeartbeats 2000000 in
theorem read_any (o : OrderD) (pv : Value) (w : World) (hp : PairsIn w.cell? pv o.pairs) : Calls Tryd.prog 54 #[orderV o.n pv] w (Ret (.tuple #[tabV (readO o), .bool (validO o)]) w) := by
 obtain ⟨on, ps⟩ := o
 obtain ⟨pa, pm, rfl, -, -, -⟩ := id hp
 have HPI := hide hp
 have HFO := hide (fun W (hb : Below w.heap.size w W) => formed_any ⟨on, ps⟩ (.slice pa ps.length pm) W (RecIn.below hb hp))
 have HN : Hid (formedO ⟨on, ps⟩ = false → readO ⟨on, ps⟩ = zeroO ∧ validO ⟨on, ps⟩ = false) := hide (fun h => ⟨by unfold readO; rw [h]; rfl, by unfold validO; rw [h]; rfl⟩)
 have HY : Hid (formedO ⟨on, ps⟩ = true → readO ⟨on, ps⟩ = beforeO ⟨on, ps⟩ ∧ validO ⟨on, ps⟩ = acycO on.toNat (beforeO ⟨on, ps⟩)) := hide (fun h => ⟨by unfold readO; rw [if_pos h], by unfold validO; rw [h]; rfl⟩)
 have HCL := hide (fun W (hb : Below w.heap.size w W) (h : formedO ⟨on, ps⟩ = true) (n : Nat) (e : on = n) => (closed_any n ps (.slice pa ps.length pm) W (RecIn.below hb hp) (by rw [← e]; exact h)))
 have HFN := hide (fun h : formedO ⟨on, ps⟩ = true => (formed_n h).1)
 generalize hf : formedO ⟨on, ps⟩ = F at *
 generalize readO ⟨on, ps⟩ = RD at *
 generalize validO ⟨on, ps⟩ = VD at *
 clear hp hf
 go_enter Tryd.func54, Tryd.ntmps54
 go_wp2_with fail
 generalize hX1 : World.alloc w _ = X1
 have zX1 : X1.heap.size = w.heap.size + 1 := by rw [← hX1]; simp
 have bX1 : Below w.heap.size w X1 := by rw [← hX1]; exact bal w _
 have bO_1 : Blk X1 (w.heap.size) [.int .i64 on, .slice pa ps.length pm] 25 := by rw [← hX1]; exact Blk.newA w _ (by first | rfl | simp)
 generalize hX2 : World.alloc X1 _ = X2
 have zX2 : X2.heap.size = w.heap.size + 1 + 1 := by rw [← hX2]; simp [zX1]
 have bX2 : Below X1.heap.size X1 X2 := by rw [← hX2]; exact bal X1 _
 have bR : Blk X2 (w.heap.size + 1) (tabC zeroO) 65 := by rw [← hX2, ← zX1]; exact Blk.newA X1 _ (by first | rfl | simp)
 have bO := bO_1.later bX2
 have Xb := below2 (bX1) bX2
 have Xz := zX2
 clear hX1 zX1 bX1 hX2 zX2 bX2 bO_1
 have c0 := bO.cell 0 rfl
 have c1 := bO.cell 1 rfl
 refine (HFO.out _ Xb).mono ?_
 rintro e w1 ⟨rfl, hb⟩
 have hbR := below2 Xb hb
 replace bR := bR.later hb
 replace bO := bO.later hb
 clear c0 c1 hb Xb Xz
 cases F
 ·obtain ⟨e1, e2⟩ := HN.out rfl
  subst e1 e2
  have r0 := bR.cell 0 rfl
  have r1 := bR.cell 1 rfl
  have r2 := bR.cell 2 rfl
  have r3 := bR.cell 3 rfl
  have r4 := bR.cell 4 rfl
  have r5 := bR.cell 5 rfl
  have r6 := bR.cell 6 rfl
  have r7 := bR.cell 7 rfl
  have rf0 := bR.frozen 0
  have rf1 := bR.frozen 1
  have rf2 := bR.frozen 2
  have rf3 := bR.frozen 3
  have rf4 := bR.frozen 4
  have rf5 := bR.frozen 5
  have rf6 := bR.frozen 6
  have rf7 := bR.frozen 7
  go_wp2_with fail
  have q := blk8 bR ((fun _ => Value.int .i64 0) 0) ((fun _ => Value.int .i64 0) 1) ((fun _ => Value.int .i64 0) 2) ((fun _ => Value.int .i64 0) 3) ((fun _ => Value.int .i64 0) 4) ((fun _ => Value.int .i64 0) 5) ((fun _ => Value.int .i64 0) 6) ((fun _ => Value.int .i64 0) 7)
  have HQ := hide (below8 hbR (show w.heap.size ≤ w.heap.size + 1 by omega) ((fun _ => Value.int .i64 0) 0) ((fun _ => Value.int .i64 0) 1) ((fun _ => Value.int .i64 0) 2) ((fun _ => Value.int .i64 0) 3) ((fun _ => Value.int .i64 0) 4) ((fun _ => Value.int .i64 0) 5) ((fun _ => Value.int .i64 0) 6) ((fun _ => Value.int .i64 0) 7))
  clear r0 r1 r2 r3 r4 r5 r6 r7 rf0 rf1 rf2 rf3 rf4 rf5 rf6 rf7
  have x0 := q.cell 0 rfl
  have x1 := q.cell 1 rfl
  have x2 := q.cell 2 rfl
  have x3 := q.cell 3 rfl
  have x4 := q.cell 4 rfl
  have x5 := q.cell 5 rfl
  have x6 := q.cell 6 rfl
  have x7 := q.cell 7 rfl
  refine bodyPost_ret (v := .tuple #[.agg #[.int .i64 0, .int .i64 0, .int .i64 0, .int .i64 0, .int .i64 0, .int .i64 0, .int .i64 0, .int .i64 0], .bool false]) (by simp [results, Tryd.results54, go_sem, x0, x1, x2, x3, x4, x5, x6, x7]) rfl ?_
  exact ⟨rfl, HQ.out⟩
 ·obtain ⟨hn0, hn8⟩ := HFN.out rfl
  obtain ⟨n, rfl⟩ : ∃ n : Nat, on = n := ⟨on.toNat, by omega⟩
  obtain ⟨e1, e2⟩ := HY.out rfl
  have HC := hide (HCL.out w1 hbR rfl n rfl)
  have e3 : beforeO ⟨(n : Int), ps⟩ = relK (relP ps) n := rfl
  rw [e3] at e1 e2
  rw [show ((n : Int)).toNat = n from Int.toNat_natCast n] at e2
  have HE := hide (And.intro e1 e2)
  generalize relK (relP ps) n = R at *
  generalize acycO n R = AC at *
  have c0 := bO.cell 0 rfl
  have c1 := bO.cell 1 rfl
  clear e1 e2 e3 hn0 hn8 HY HN HCL HFO HFN
  go_wp2_with fail
  refine HC.out.mono ?_
  rintro e w2 ⟨rfl, hb⟩
  replace hbR := below2 hbR hb
  replace bR := bR.later hb
  clear c0 c1 bO hb
  have r0 := bR.cell 0 rfl
  have r1 := bR.cell 1 rfl
  have r2 := bR.cell 2 rfl
  have r3 := bR.cell 3 rfl
  have r4 := bR.cell 4 rfl
  have r5 := bR.cell 5 rfl
  have r6 := bR.cell 6 rfl
  have r7 := bR.cell 7 rfl
  have rf0 := bR.frozen 0
  have rf1 := bR.frozen 1
  have rf2 := bR.frozen 2
  have rf3 := bR.frozen 3
  have rf4 := bR.frozen 4
  have rf5 := bR.frozen 5
  have rf6 := bR.frozen 6
  have rf7 := bR.frozen 7
  go_wp2_with fail
  have q := blk8 bR ((fun i => Value.int .i64 (setI R i)) 0) ((fun i => Value.int .i64 (setI R i)) 1) ((fun i => Value.int .i64 (setI R i)) 2) ((fun i => Value.int .i64 (setI R i)) 3) ((fun i => Value.int .i64 (setI R i)) 4) ((fun i => Value.int .i64 (setI R i)) 5) ((fun i => Value.int .i64 (setI R i)) 6) ((fun i => Value.int .i64 (setI R i)) 7)
  have HQ := hide (below8 hbR (show w.heap.size ≤ w.heap.size + 1 by omega) ((fun i => Value.int .i64 (setI R i)) 0) ((fun i => Value.int .i64 (setI R i)) 1) ((fun i => Value.int .i64 (setI R i)) 2) ((fun i => Value.int .i64 (setI R i)) 3) ((fun i => Value.int .i64 (setI R i)) 4) ((fun i => Value.int .i64 (setI R i)) 5) ((fun i => Value.int .i64 (setI R i)) 6) ((fun i => Value.int .i64 (setI R i)) 7))
  clear r0 r1 r2 r3 r4 r5 r6 r7 rf0 rf1 rf2 rf3 rf4 rf5 rf6 rf7
  have x0 := q.cell 0 rfl
  have x1 := q.cell 1 rfl
  have x2 := q.cell 2 rfl
  have x3 := q.cell 3 rfl
  have x4 := q.cell 4 rfl
  have x5 := q.cell 5 rfl
  have x6 := q.cell 6 rfl
  have x7 := q.cell 7 rfl
  refine bodyPost_ret (v := .tuple #[tabV R, .bool AC]) (by simp [results, Tryd.results54, go_sem, x0, x1, x2, x3, x4, x5, x6, x7]) rfl ?_
  exact ⟨by rw [HE.out.1, HE.out.2], HQ.out⟩
theorem valid_any (o : OrderD) (pv : Value) (w : World) (hp : PairsIn w.cell? pv o.pairs) : Calls Tryd.prog 34 #[orderV o.n pv] w (Ret (.bool (validO o)) w) := by
 obtain ⟨on, ps⟩ := o
 obtain ⟨pa, pm, rfl, -, -, -⟩ := id hp
 have HR := hide (fun W (hb : Below w.heap.size w W) => read_any ⟨on, ps⟩ (.slice pa ps.length pm) W (RecIn.below hb hp))
 generalize readO ⟨on, ps⟩ = R at *
 generalize validO ⟨on, ps⟩ = V at *
 clear hp
 go_enter Tryd.func34, Tryd.ntmps34
 go_wp2_with fail
 generalize hX1 : World.alloc w _ = X1
 have zX1 : X1.heap.size = w.heap.size + 1 := by rw [← hX1]; simp
 have bX1 : Below w.heap.size w X1 := by rw [← hX1]; exact bal w _
 have bO : Blk X1 (w.heap.size) [.int .i64 on, .slice pa ps.length pm] 25 := by rw [← hX1]; exact Blk.newA w _ (by first | rfl | simp)
 have Xb := bX1
 have Xz := zX1
 clear hX1 zX1 bX1
 have c0 := bO.cell 0 rfl
 have c1 := bO.cell 1 rfl
 refine (HR.out _ Xb).mono ?_
 rintro e w1 ⟨rfl, hb⟩
 have hw := below2 Xb hb
 clear c0 c1 bO hb Xb Xz
 go_wp2_with fail
 go_ret
 exact ⟨rfl, below2 hw (bal _ _)⟩
/-- what Before says -/
def befB (o : OrderD) (a b : Int) : Bool := validO o && decide (0 ≤ a ∧ a < o.n ∧ 0 ≤ b ∧ b < o.n) && beforeO o a.toNat b.toNat
set_option maxRecDepth 100000 in
set_option maxHeartbeats 2000000 in
theorem before_any (o : OrderD) (pv : Value) (a b : Int) (w : World) (hp : PairsIn w.cell? pv o.pairs) : Calls Tryd.prog 27 #[orderV o.n pv, .int .i64 a, .int .i64 b] w (Ret (.bool (befB o a b)) w) := by
 obtain ⟨on, ps⟩ := o
 obtain ⟨pa, pm, rfl, -, -, -⟩ := id hp
 have HR := hide (fun W (hb : Below w.heap.size w W) => read_any ⟨on, ps⟩ (.slice pa ps.length pm) W (RecIn.below hb hp))
 have HN : Hid (validO ⟨on, ps⟩ = false → befB ⟨on, ps⟩ a b = false) := hide (fun h => by unfold befB; rw [h]; rfl)
 have HO : Hid (¬ (0 ≤ a ∧ a < on ∧ 0 ≤ b ∧ b < on) → befB ⟨on, ps⟩ a b = false) := hide (fun h => by unfold befB; rw [decide_eq_false h]; simp)
 have HY : Hid (validO ⟨on, ps⟩ = true → (0 ≤ a ∧ a < on ∧ 0 ≤ b ∧ b < on) → befB ⟨on, ps⟩ a b = readO ⟨on, ps⟩ a.toNat b.toNat) := hide (fun h h2 => by
  have hf : formedO ⟨on, ps⟩ = true := by unfold validO at h; rw [Bool.and_eq_true] at h; exact h.1
  unfold befB readO; rw [h, decide_eq_true h2, if_pos hf]; rfl)
 have HFN := hide (fun h : validO ⟨on, ps⟩ = true => (show (0 ≤ on ∧ on ≤ 8) by
  have hf : formedO ⟨on, ps⟩ = true := by unfold validO at h; rw [Bool.and_eq_true] at h; exact h.1
  exact (formed_n hf).1))
 generalize readO ⟨on, ps⟩ = R at *
 generalize validO ⟨on, ps⟩ = V at *
 generalize befB ⟨on, ps⟩ a b = P at *
 clear hp
 go_enter Tryd.func27, Tryd.ntmps27
 go_wp2_with fail
 generalize hX1 : World.alloc w _ = X1
 have zX1 : X1.heap.size = w.heap.size + 1 := by rw [← hX1]; simp
 have bX1 : Below w.heap.size w X1 := by rw [← hX1]; exact bal w _
 have bO : Blk X1 (w.heap.size) [.int .i64 on, .slice pa ps.length pm] 25 := by rw [← hX1]; exact Blk.newA w _ (by first | rfl | simp)
 have Xb := bX1
 have Xz := zX1
 clear hX1 zX1 bX1
 have c0 := bO.cell 0 rfl
 have c1 := bO.cell 1 rfl
 refine (HR.out _ Xb).mono ?_
 rintro e w1 ⟨rfl, hb⟩
 have hw := below2 Xb hb
 replace bO := bO.later hb
 clear c0 c1 hb Xb Xz
 cases V
 ·have HP := hide (HN.out rfl)
  go_wp2_with fail
  go_ret
  exact ⟨by rw [HP.out]; rfl, below2 hw (bal _ _)⟩
 ·obtain ⟨hn0, hn8⟩ := HFN.out rfl
  obtain ⟨mn, hmn⟩ : ∃ m, m = min a b := ⟨_, rfl⟩
  obtain ⟨mx, hmx⟩ : ∃ m, m = max a b := ⟨_, rfl⟩
  have e1 : (if b < a then b else a) = mn := by rw [hmn]; split <;> omega
  have e2 : (if a < b then b else a) = mx := by rw [hmx]; split <;> omega
  clear HN HFN HR
  go_upto_region 2 with (fail)
  generalize hY1 : World.alloc w1 _ = Y1
  have zY1 : Y1.heap.size = w1.heap.size + 1 := by rw [← hY1]; simp
  have bY1 : Below w1.heap.size w1 Y1 := by rw [← hY1]; exact bal w1 _
  have bT : Blk Y1 (w1.heap.size) (tabC R) 65 := by rw [← hY1]; exact Blk.newA w1 _ (by first | rfl | simp)
  have Yb := bY1
  have Yz := zY1
  clear hY1 zY1 bY1
  have hwY := below2 hw Yb
  have o0 := keep Yb (bO.cell 0 rfl)
  clear hw Yb Yz bO
  by_cases h1 : 0 ≤ mn
  ·by_cases h2 : mx < on
   ·have HP := hide (HY.out (by first | trivial | rfl) ⟨by omega, by omega, by omega, by omega⟩)
    obtain ⟨x, rfl⟩ : ∃ x : Nat, a = x := ⟨a.toNat, by omega⟩
    obtain ⟨y, rfl⟩ : ∃ y : Nat, b = y := ⟨b.toNat, by omega⟩
    have hx8 : x < 8 := by omega
    have hy8 : y < 8 := by omega
    have hy8I : (y : Int) < 8 := by omega
    have e3 : (if y < x then (y : Int) else x) = mn := by rw [hmn]; split <;> omega
    have e4 : (if x < y then (y : Int) else x) = mx := by rw [hmx]; split <;> omega
    obtain ⟨S, hS⟩ : ∃ S : Nat, bitsO (fun x => R x y) = S := ⟨_, rfl⟩
    have hS8 : S < 256 := by rw [← hS]; exact bits_lt _
    have hbt := bit_test (k := x) hS8
    rw [← hS, bits_test, decide_eq_true hx8, Bool.true_and, hS] at hbt
    have t0 := bT.cell y (tabC_get _ y hy8)
    rw [show setI R y = (S : Int) by show ((bitsO _ : Nat) : Int) = _; rw [hS]] at t0
    clear hmn hmx hS HY HO e1 e2 bT
    go_wp2_with fail
    go_ret
    exact ⟨by rw [HP.out]; rfl, hwY⟩
   ·have HP := hide (HO.out (by omega))
    have h2d : decide (mx < on) = false := decide_eq_false h2
    clear hmn hmx HY HO bT
    go_wp2_with fail
    go_ret
    exact ⟨by rw [HP.out]; rfl, hwY⟩
  ·have HP := hide (HO.out (by omega))
   have h1d : decide (0 ≤ mn) = false := decide_eq_false h1
   clear hmn hmx HY HO bT
   go_wp2_with fail
   go_ret
   exact ⟨by rw [HP.out]; rfl, hwY⟩
end Go.Proofs.YtnidcoinfmcffaaDoor
