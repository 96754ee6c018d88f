/- Walks of Refutes of the reference. Conditions: how the arguments lie in memory; sizes; that the rows' numbers are bounded. -/
import Derived.Test.YtcaklldmcbpbfaaPr2
import Derived.BigRegion
namespace Go.Proofs.Ytcaklldmcbpbfaa
open Go.RowKit

/-- rows that a proof may speak of -/
def RowsOk (rows : List RowD) (n : Nat) : Prop := ∀ r ∈ rows, r.coef.length = n ∧ coefsB r.coef = true ∧ -1000000000000 ≤ r.most ∧ r.most ≤ 1000000000000
theorem mul_bd {a b M : Int} (ha : 1 ≤ a ∧ a ≤ 1000) (hb : -M ≤ b ∧ b ≤ M) (hM : 0 ≤ M) : -(1000 * M) ≤ a * b ∧ a * b ≤ 1000 * M := by
  have h1 : a * (-M) ≤ a * b := Int.mul_le_mul_of_nonneg_left hb.1 (by omega)
  have h2 : a * b ≤ a * M := Int.mul_le_mul_of_nonneg_left hb.2 (by omega)
  have h3 : a * M ≤ 1000 * M := Int.mul_le_mul_of_nonneg_right ha.2 hM
  have h4 : a * (-M) = -(a * M) := by rw [Int.mul_neg]
  omega
theorem okWts_le {m : Nat} {ws : List (Int × Int)} {i k : Nat} (h : okWts m ws k = true) (hi : i ≤ k) : okWts m ws i = true :=
  List.all_eq_true.2 fun x hx => List.all_eq_true.1 h x (List.mem_range.2 (by have := List.mem_range.1 hx; omega))
theorem okWts_succ (m : Nat) (ws : List (Int × Int)) (k : Nat) : okWts m ws (k + 1) = (okWts m ws k && okWt m ws k) := by
  simp [okWts, List.range_succ]
theorem okWts_no {m : Nat} {ws : List (Int × Int)} {i k : Nat} (h : okWt m ws i = false) (hi : i < k) : okWts m ws k = false := by
  rw [← Bool.not_eq_true]; intro hm
  have := List.all_eq_true.1 hm i (List.mem_range.2 hi)
  rw [h] at this; cases this
theorem okWt_parts {m : Nat} {ws : List (Int × Int)} {i : Nat} (h : okWt m ws i = true) : 0 ≤ (ws.getD i wt0).1 ∧ (ws.getD i wt0).1 < m ∧ 1 ≤ (ws.getD i wt0).2 ∧ (ws.getD i wt0).2 ≤ 1000 := by
  simp only [okWt, Bool.and_eq_true, decide_eq_true_eq] at h
  exact ⟨h.1.1.1.1, h.1.1.1.2, h.1.1.2, h.1.2⟩
theorem mostW_bd {rows : List RowD} {n : Nat} (hr : RowsOk rows n) {ws : List (Int × Int)} : ∀ i, okWts rows.length ws i = true → -(1000000000000000 * i : Int) ≤ mostW rows ws i ∧ mostW rows ws i ≤ 1000000000000000 * i
  | 0, _ => by simp [mostW]
  | i + 1, h => by
    rw [okWts_succ, Bool.and_eq_true] at h
    have ih := mostW_bd hr i h.1
    obtain ⟨h1, h2, h3, h4⟩ := okWt_parts h.2
    have h5 := hr _ (getD_mem rows (ws.getD i wt0).1.toNat (d := row0) (by omega))
    have h6 := mul_bd ⟨h3, h4⟩ (M := 1000000000000) ⟨h5.2.2.1, h5.2.2.2⟩ (by omega)
    simp only [mostW]; omega
theorem coefs_getD {l : List Int} (h : coefsB l = true) (k : Nat) : -1000000000 ≤ l.getD k 0 ∧ l.getD k 0 ≤ 1000000000 := by
  rcases Nat.lt_or_ge k l.length with h1 | h1
  · have := all_at (d := 0) h h1
    simpa [bndB] using this
  · rw [List.getD_eq_getElem?_getD, List.getElem?_eq_none h1]; simp
theorem sumW_bd {rows : List RowD} {n : Nat} (hr : RowsOk rows n) {ws : List (Int × Int)} (k : Nat) : ∀ i, okWts rows.length ws i = true → -(1000000000000 * i : Int) ≤ sumW rows ws k i ∧ sumW rows ws k i ≤ 1000000000000 * i
  | 0, _ => by simp [sumW]
  | i + 1, h => by
    rw [okWts_succ, Bool.and_eq_true] at h
    have ih := sumW_bd hr k i h.1
    obtain ⟨h1, h2, h3, h4⟩ := okWt_parts h.2
    have h5 := hr _ (getD_mem rows (ws.getD i wt0).1.toNat (d := row0) (by omega))
    have h6 := mul_bd ⟨h3, h4⟩ (M := 1000000000) (coefs_getD h5.2.1 k) (by omega)
    simp only [sumW]; omega
/-- the sums behind i weights, of which the first k have the next one, too -/
def sumsUp (rows : List RowD) (ws : List (Int × Int)) (n i k : Nat) : List Int := (List.range n).map fun j => sumW rows ws j (if j < k then i + 1 else i)
theorem sumsUp_len (rows : List RowD) (ws : List (Int × Int)) (n i k : Nat) : (sumsUp rows ws n i k).length = n := by simp [sumsUp]
theorem sumsUp_zero (rows : List RowD) (ws : List (Int × Int)) (n : Nat) : sumsUp rows ws n 0 0 = List.replicate n 0 := by
  refine List.ext_getElem (by simp [sumsUp]) fun k h1 h2 => ?_
  simp [sumsUp, sumW]
theorem sumsUp_full (rows : List RowD) (ws : List (Int × Int)) (n i : Nat) : sumsUp rows ws n i n = sumsUp rows ws n (i + 1) 0 := by
  refine List.ext_getElem (by simp [sumsUp]) fun k h1 h2 => ?_
  simp [sumsUp] at h1 ⊢
  rw [if_pos h1]
theorem sumsUp_get {rows : List RowD} {ws : List (Int × Int)} {n i k j : Nat} (h : j < n) : (sumsUp rows ws n i k)[j]? = some (sumW rows ws j (if j < k then i + 1 else i)) := by
  simp [sumsUp, List.getElem?_map, List.getElem?_range h]
theorem sumsUp_set {rows : List RowD} {ws : List (Int × Int)} {n i k : Nat} : (sumsUp rows ws n i k).set k (sumW rows ws k (i + 1)) = sumsUp rows ws n i (k + 1) := by
  refine List.ext_getElem? fun j => ?_
  by_cases hj : j < n
  · by_cases e : k = j
    · subst e; rw [List.getElem?_set_self (by rw [sumsUp_len]; exact hj), sumsUp_get hj, if_pos (by omega)]
    · rw [List.getElem?_set_ne e, sumsUp_get hj, sumsUp_get hj]
      by_cases h1 : j < k
      · rw [if_pos h1, if_pos (by omega)]
      · rw [if_neg h1, if_neg (by omega)]
  · rw [List.getElem?_eq_none (by simp [sumsUp_len]; omega), List.getElem?_eq_none (by simp [sumsUp_len]; omega)]
theorem minK_bd {rows : List RowD} {n : Nat} (hr : RowsOk rows n) {ws : List (Int × Int)} {dec : List Int} (ho : okWts rows.length ws ws.length = true) : ∀ k : Nat, -(1000000000000 * ws.length * k : Int) ≤ minK rows ws dec k ∧ minK rows ws dec k ≤ 1000000000000 * ws.length * k
  | 0 => by simp [minK]
  | k + 1 => by
    have ih := minK_bd (dec := dec) hr ho k
    have h1 := sumW_bd hr k ws.length ho
    have e : (1000000000000 * ws.length * ((k + 1 : Nat) : Int) : Int) = 1000000000000 * ws.length * k + 1000000000000 * ws.length := by rw [Int.natCast_add, Int.mul_add]; simp
    rw [e]
    simp only [minK]
    generalize (1000000000000 * (ws.length : Int) * (k : Int)) = A at ih
    split <;> omega
theorem small_bd {a b : Nat} {x : Int} (h : -(1000000000000 * a * b : Int) ≤ x ∧ x ≤ 1000000000000 * a * b) (ha : a ≤ 8) (hb : b ≤ 12) : -100000000000000 ≤ x ∧ x ≤ 100000000000000 := by
  have h1 : a * b ≤ 8 * 12 := Nat.mul_le_mul ha hb
  have h2 : (1000000000000 * (a : Int) * b : Int) = 1000000000000 * ((a * b : Nat) : Int) := by rw [Int.natCast_mul, Int.mul_assoc]
  omega
abbrev stepV (s : StepD) (wv : Value) : List Value := [.int .i64 s.var, .int .i64 s.no, .int .i64 s.yes, wv]
set_option maxRecDepth 100000 in
set_option maxHeartbeats 1000000 in
theorem refutes_out (rv lv dv : Value) (l : List StepD) (a : Int) (w : World) (hl : StepsIn w.cell? lv l) (h : ¬ (0 ≤ a ∧ a < l.length)) :
    Calls Try.prog 34 #[rv, lv, .int .i64 a, dv] w (Ret (.bool false) w) := by
  obtain ⟨la, lc, rfl, hl1, hl2, -⟩ := id hl
  by_cases h0 : a < 0
  · go_enter Try.func34, Try.ntmps34
    go_wp2_with fail
    go_ret
    exact ⟨rfl, Below.refl _ _⟩
  · have h1 : (l.length : Int) ≤ a := by omega
    have h2 : 0 ≤ a := by omega
    clear h
    go_enter Try.func34, Try.ntmps34
    go_wp2_with fail
    go_ret
    exact ⟨rfl, Below.refl _ _⟩
set_option maxRecDepth 100000 in
set_option maxHeartbeats 4000000 in
theorem refutes_leaf0 (rv lv dv : Value) (l : List StepD) (k : Nat) (hk : k < l.length) (w : World) (hl : StepsIn w.cell? lv l) (hv : (l.getD k st0).var = -1)
    (h : ¬ ((l.getD k st0).no = 0 ∧ (l.getD k st0).yes = 0 ∧ 1 ≤ (l.getD k st0).wts.length ∧ (l.getD k st0).wts.length ≤ 8)) :
    Calls Try.prog 34 #[rv, lv, .int .i64 k, dv] w (Ret (.bool false) w) := by
  obtain ⟨la, lc, rfl, hl1, hl2, hls⟩ := id hl
  obtain ⟨lb, lo, wv, e, c0, c1, c2, c3, hw⟩ := hls k hk
  cases e
  have HW := hide hw
  clear hl hls
  generalize l.getD k st0 = st at *
  obtain ⟨stv, stno, styes, ws⟩ := st
  obtain ⟨wa, wc, rfl, hw1, hw2, hws⟩ := HW.out
  obtain rfl : stv = -1 := hv
  have hkl : (k : Int) ≤ 9223372036854775807 := by omega
  have hwl : (ws.length : Int) ≤ 9223372036854775807 := by have h1 : ws.length ≤ wc := hw1; omega
  have H := hide h
  clear h hws HW
  go_enter Try.func34, Try.ntmps34
  go_wp2_with fail
  all_goals first | (go_ret; exact ⟨rfl, bal w _⟩) | skip
  all_goals (exfalso; have := H.out; simp at *; omega)
set_option maxRecDepth 100000 in
set_option maxHeartbeats 4000000 in
theorem refutes_leaf (rows : List RowD) (dec : List Int) (hn : dec.length ≤ 12) (hr : RowsOk rows dec.length) (hrl : rows.length ≤ 1000000) (rv lv dv : Value) (l : List StepD) (k : Nat) (hk : k < l.length) (w : World)
    (hR : RowsAt w rv rows) (hl : StepsIn w.cell? lv l) (hd : IntsAt w dv dec) (hv : (l.getD k st0).var = -1)
    (h : (l.getD k st0).no = 0 ∧ (l.getD k st0).yes = 0 ∧ 1 ≤ (l.getD k st0).wts.length ∧ (l.getD k st0).wts.length ≤ 8) :
    Calls Try.prog 34 #[rv, lv, .int .i64 k, dv] w (Ret (.bool (leafB rows (l.getD k st0) dec)) w) := by
  obtain ⟨la, lc, rfl, hl1, hl2, hls⟩ := id hl
  obtain ⟨lb, lo, wv, e, c0, c1, c2, c3, hw⟩ := hls k hk
  cases e
  have HW := hide hw
  clear hl hls
  generalize l.getD k st0 = st at *
  obtain ⟨stv, stno, styes, ws⟩ := st
  obtain ⟨wa, wc, rfl, hw1, hw2, hws⟩ := HW.out
  obtain ⟨da, dc, rfl, hd1, hd2, hds⟩ := id hd
  obtain ⟨ra, rc, rfl, hr1, hr2, hrs⟩ := id hR
  obtain rfl : stv = -1 := hv
  obtain ⟨h3, h4, h5, h6⟩ := h
  obtain rfl : stno = 0 := h3
  obtain rfl : styes = 0 := h4
  have h5' : 1 ≤ ws.length := h5
  have h6' : ws.length ≤ 8 := h6
  have HF : Hid (leafB rows ⟨-1, 0, 0, ws⟩ dec = (okWts rows.length ws ws.length && decide (mostW rows ws ws.length < minK rows ws dec dec.length))) := hide (by show (decide ((0:Int) = 0) && decide ((0:Int) = 0) && decide (1 ≤ ws.length) && decide (ws.length ≤ 8) && _ && _) = _; rw [decide_eq_true h5', decide_eq_true h6']; simp)
  have hws' : ∀ k, k < ws.length → ∃ b o, wa = some ⟨b, o, none⟩ ∧ w.cell? ⟨b, o + k * 2, none⟩ = some (.int .i64 (ws.getD k wt0).1) ∧ w.cell? ⟨b, o + k * 2 + 1, none⟩ = some (.int .i64 (ws.getD k wt0).2) := hws
  have HWS := hide hws'
  have HRS := hide hrs
  have HDS := hide hds
  have HRO := hide hr
  have hkl : (k : Int) ≤ 9223372036854775807 := by omega
  have hmk := @mkInts dec.length (by omega)
  have q1 : decide (ws.length < 1) = false := decide_eq_false (by omega)
  have q2 : decide (8 < ws.length) = false := decide_eq_false (by omega)
  clear hws hws' hw1 hw2 h5 h6 HW hr hrs hds
  go_enter Try.func34, Try.ntmps34
  go_wp2_with fail
  generalize hX1 : World.alloc w _ = X1
  have zX1 : X1.heap.size = w.heap.size + 1 := by rw [← hX1]; simp
  have bX1 : Below w.heap.size w X1 := by rw [← hX1]; exact bal w _
  have kS_1 : Blk X1 (w.heap.size) (stepV ⟨-1, 0, 0, ws⟩ (.slice wa ws.length wc)) 70 := by rw [← hX1]; exact Blk.newA w _ (by first | rfl | simp [sumsUp_zero])
  generalize hX2 : World.alloc X1 _ = X2
  have zX2 : X2.heap.size = w.heap.size + 1 + 1 := by rw [← hX2]; simp [zX1]
  have bX2 : Below X1.heap.size X1 X2 := by rw [← hX2]; exact bal X1 _
  have kM : Blk X2 (w.heap.size + 1) ((sumsUp rows ws dec.length 0 0).map (Value.int .i64)) 3 := by rw [← hX2, ← zX1]; exact Blk.newA X1 _ (by first | rfl | simp [sumsUp_zero])
  have kS := kS_1.later bX2
  have Xb := below2 (bX1) bX2
  have Xz := zX2
  clear hX1 zX1 bX1 hX2 zX2 bX2 kS_1
  have hzz : w.heap.size + 1 < X2.heap.size := by omega
  clear Xz hmk
  go_loopw [10, 12] (fun m i wr => ∃ j : Nat, j ≤ ws.length ∧ i = .int .i64 j ∧ m = .int .i64 (mostW rows ws j) ∧ Hid (okWts rows.length ws j = true) ∧ Blk wr (w.heap.size + 1) ((sumsUp rows ws dec.length j 0).map (Value.int .i64)) 3 ∧ Below (w.heap.size + 1) X2 wr ∧ w.heap.size + 1 + 1 ≤ wr.heap.size) (fun _ i _ => ws.length - (intOf i).toNat)
  case atStart => exact ⟨0, by omega, rfl, rfl, hide (by simp [okWts]), kM, Below.refl _ _, hzz⟩
  case round =>
    obtain ⟨j, hj, rfl, rfl, HOK, hM, hbr, hzr⟩ := hrel
    have hS := kS.below hbr (by omega)
    have hbw := Xb.trans (hbr.mono (by omega))
    have s3 := hS.cell 3 rfl
    obtain ⟨m, hm⟩ : ∃ m, mostW rows ws j = m := ⟨_, rfl⟩
    have hmb := mostW_bd HRO.out j HOK.out
    rw [hm] at hmb ⊢
    have HMS : Hid (mostW rows ws (j + 1) = m + (ws.getD j wt0).2 * (rows.getD (ws.getD j wt0).1.toNat row0).most) := hide (by rw [← hm]; rfl)
    have HM := hide hm
    clear hm
    by_cases hlt : j < ws.length
    · obtain ⟨b, o, rfl, hw0, hw1⟩ := HWS.out j hlt
      have cw0 := keep hbw hw0
      have cw1 := keep hbw hw1
      obtain ⟨r, t, hrt⟩ : ∃ r t : Int, ws.getD j wt0 = (r, t) := ⟨_, _, rfl⟩
      rw [hrt] at cw0 cw1 HMS
      have HRT := hide hrt
      have HWT : Hid (okWt rows.length ws j = (decide (0 ≤ r) && decide (r < rows.length) && decide (1 ≤ t) && decide (t ≤ 1000) && (decide (j = 0) || decide ((ws.getD (j - 1) wt0).1 < r)))) := hide (by unfold okWt; rw [hrt])
      clear hrt hw0 hw1
      by_cases f1 : r < 0
      · have HNO : Hid (okWt rows.length ws j = false) := hide (by rw [HWT.out]; simp; omega)
        go_wp2_with fail
        generalize hA1 : World.alloc wr _ = A1
        have bA : Blk A1 wr.heap.size [.int .i64 r, .int .i64 t] 79 := by rw [← hA1]; exact Blk.newA wr _ rfl
        have hb1 : Below wr.heap.size wr A1 := by rw [← hA1]; exact bal wr _
        have a0 := bwc (bA.cell 0 rfl)
        have a1 := bwc (bA.cell 1 rfl)
        have a3 := bwc (keep hb1 s3)
        skip
        clear hA1
        refine wp_region_bw (by kernel_rfl) (by kernel_rfl) ?_
        repeat (go_big_quiet_step (fail))
        refine wpQuiet_nil ?_
        rintro _ ⟨i, rfl⟩
        go_wp2_with fail
        go_ret
        exact ⟨ret_bool (by rw [HF.out, okWts_no HNO.out hlt]; rfl), below2 hbw (below2 hb1 i.h)⟩
      obtain ⟨R, hRr⟩ : ∃ R : Nat, r = R := ⟨r.toNat, by omega⟩
      obtain rfl := hRr
      have e1 : decide ((R : Int) < 0) = false := by simp
      by_cases f2 : rows.length ≤ R
      · have HNO : Hid (okWt rows.length ws j = false) := hide (by rw [HWT.out]; simp; omega)
        go_wp2_with fail
        generalize hA1 : World.alloc wr _ = A1
        have bA : Blk A1 wr.heap.size [.int .i64 R, .int .i64 t] 79 := by rw [← hA1]; exact Blk.newA wr _ rfl
        have hb1 : Below wr.heap.size wr A1 := by rw [← hA1]; exact bal wr _
        have a0 := bwc (bA.cell 0 rfl)
        have a1 := bwc (bA.cell 1 rfl)
        have a3 := bwc (keep hb1 s3)
        skip
        clear hA1
        refine wp_region_bw (by kernel_rfl) (by kernel_rfl) ?_
        repeat (go_big_quiet_step (fail))
        refine wpQuiet_nil ?_
        rintro _ ⟨i, rfl⟩
        go_wp2_with fail
        go_ret
        exact ⟨ret_bool (by rw [HF.out, okWts_no HNO.out hlt]; rfl), below2 hbw (below2 hb1 i.h)⟩
      have hR2 : R < rows.length := by omega
      have e2 : decide (rows.length ≤ R) = false := decide_eq_false f2
      by_cases f3 : t < 1
      · have HNO : Hid (okWt rows.length ws j = false) := hide (by rw [HWT.out]; simp; omega)
        go_wp2_with fail
        generalize hA1 : World.alloc wr _ = A1
        have bA : Blk A1 wr.heap.size [.int .i64 R, .int .i64 t] 79 := by rw [← hA1]; exact Blk.newA wr _ rfl
        have hb1 : Below wr.heap.size wr A1 := by rw [← hA1]; exact bal wr _
        have a0 := bwc (bA.cell 0 rfl)
        have a1 := bwc (bA.cell 1 rfl)
        have a3 := bwc (keep hb1 s3)
        skip
        clear hA1
        refine wp_region_bw (by kernel_rfl) (by kernel_rfl) ?_
        repeat (go_big_quiet_step (fail))
        refine wpQuiet_nil ?_
        rintro _ ⟨i, rfl⟩
        go_wp2_with fail
        go_ret
        exact ⟨ret_bool (by rw [HF.out, okWts_no HNO.out hlt]; rfl), below2 hbw (below2 hb1 i.h)⟩
      have e3 : decide (t < 1) = false := decide_eq_false f3
      by_cases f4 : 1000 < t
      · have HNO : Hid (okWt rows.length ws j = false) := hide (by rw [HWT.out]; simp; omega)
        go_wp2_with fail
        generalize hA1 : World.alloc wr _ = A1
        have bA : Blk A1 wr.heap.size [.int .i64 R, .int .i64 t] 79 := by rw [← hA1]; exact Blk.newA wr _ rfl
        have hb1 : Below wr.heap.size wr A1 := by rw [← hA1]; exact bal wr _
        have a0 := bwc (bA.cell 0 rfl)
        have a1 := bwc (bA.cell 1 rfl)
        have a3 := bwc (keep hb1 s3)
        skip
        clear hA1
        refine wp_region_bw (by kernel_rfl) (by kernel_rfl) ?_
        repeat (go_big_quiet_step (fail))
        refine wpQuiet_nil ?_
        rintro _ ⟨i, rfl⟩
        go_wp2_with fail
        go_ret
        exact ⟨ret_bool (by rw [HF.out, okWts_no HNO.out hlt]; rfl), below2 hbw (below2 hb1 i.h)⟩
      have e4 : decide (1000 < t) = false := decide_eq_false f4
      have g3 : 1 ≤ t := by omega
      have g4 : t ≤ 1000 := by omega
      clear f1 f2 f3 f4
      by_cases hj0 : j = 0
      · have e5 : decide (0 < j) = false := decide_eq_false (by omega)
        have HOK2 : Hid (okWts rows.length ws (j + 1) = true) := hide (by rw [okWts_succ, HOK.out, HWT.out]; simp; omega)
        clear hj0
        go_wp2_with fail
        generalize hA1 : World.alloc wr _ = A1
        have bA : Blk A1 wr.heap.size [.int .i64 R, .int .i64 t] 79 := by rw [← hA1]; exact Blk.newA wr _ rfl
        have hb1 : Below wr.heap.size wr A1 := by rw [← hA1]; exact bal wr _
        have a0 := bwc (bA.cell 0 rfl)
        have a1 := bwc (bA.cell 1 rfl)
        have a3 := bwc (keep hb1 s3)
        skip
        clear hA1
        refine wp_region_bw (by kernel_rfl) (by kernel_rfl) ?_
        repeat (go_big_quiet_step (fail))
        refine wpQuiet_nil ?_
        rintro _ ⟨i, rfl⟩
        go_wp2_with fail
        have hM2 := hM.later (below2 hb1 i.h)
        have bA2 := bA.later i.h
        have hbr2 := hbr.trans ((below2 hb1 i.h).mono (by omega))
        have hzr2 : w.heap.size + 1 + 1 ≤ i.W.heap.size := Nat.le_trans hzr (below2 hb1 i.h).size
        have hbw2 := below2 hbw (below2 hb1 i.h)
        have hwr2 : wr.heap.size < i.W.heap.size := bA2.lt
        have HAM : Hid (wr.heap.size ≠ w.heap.size + 1) := hide (by omega)
        clear a0 a1 a3 s3 hM bA hb1 hS hbr hbw e5
        generalize i.W = W2 at hM2 bA2 hbr2 hzr2 hbw2 hwr2 ⊢
        obtain ⟨b6, o6, cv, rfl, hrow⟩ := HRS.out R hR2
        have HMEM := hide (HRO.out _ (getD_mem rows R (d := row0) hR2))
        obtain ⟨row, hrow0⟩ : ∃ row, rows.getD R row0 = row := ⟨_, rfl⟩
        rw [hrow0] at hrow HMEM
        have HROW := hide hrow0
        clear hrow0
        obtain ⟨-, -, -, -, y4, y5, y6⟩ := hrow
        have hco : IntsAt w cv row.coef := y6
        obtain ⟨ca, cc, rfl, -, -, hcs⟩ := id hco
        have HCS := hide hcs
        have z5 := bwc (keep hbw2 y5)
        have a0 := bwc (bA2.cell 0 rfl)
        have a1 := bwc (bA2.cell 1 rfl)
        have hmb2 := HMEM.out.2.2
        have hpb := mul_bd ⟨g3, g4⟩ (M := 1000000000000) hmb2 (by omega)
        have p1 : IntKind.i64.wrap (t * row.most) = t * row.most := IntWalk.i64_in _ ⟨by omega, by omega⟩
        have p2 : IntKind.i64.wrap (m + t * row.most) = m + t * row.most := IntWalk.i64_in _ ⟨by omega, by omega⟩
        clear y5 hcs hmb2 hpb
        refine wp_region_bw (by kernel_rfl) (by kernel_rfl) ?_
        repeat (go_big_quiet_step (fail))
        refine wpQuiet_nil ?_
        rintro _ ⟨i, rfl⟩
        have hM3 := hM2.later i.h
        have bA3 := bA2.later i.h
        have hbr3 := hbr2.trans (i.h.mono (by omega))
        have hzr3 : w.heap.size + 1 + 1 ≤ i.W.heap.size := Nat.le_trans hzr2 i.h.size
        have hwr3 : wr.heap.size < i.W.heap.size := bA3.lt
        clear a0 a1 z5 p1 p2 hM2 bA2 hbr2 hbw2 hwr2 hzr2
        generalize i.W = W3 at hM3 bA3 hbr3 hzr3 hwr3 ⊢
        generalize wr.heap.size = BA at bA3 hwr3 HAM ⊢
        clear hzr
        go_wp2_with fail
        go_loopw [14] (fun kk wk => ∃ q : Nat, q ≤ dec.length ∧ kk = .int .i64 q ∧ Blk wk (w.heap.size + 1) ((sumsUp rows ws dec.length j q).map (Value.int .i64)) 3 ∧ Blk wk BA [.int .i64 R, .int .i64 t] 79 ∧ Below (w.heap.size + 1) W3 wk ∧ w.heap.size + 1 + 1 ≤ wk.heap.size) (fun kk _ => dec.length - (intOf kk).toNat)
        case atStart => exact ⟨0, by omega, rfl, hM3, bA3, Below.refl _ _, hzr3⟩
        case round =>
          obtain ⟨q, hq, rfl, hMq, bAq, hbq, hzq⟩ := hrel
          by_cases hqn : q < dec.length
          · have hbwq := Xb.trans ((hbr3.trans hbq).mono (by omega))
            have z4 := keep hbwq y4
            obtain ⟨b7, o7, rfl, hcq⟩ := HCS.out q (by rw [HMEM.out.1]; exact hqn)
            have zc := keep hbwq hcq
            have hcb := coefs_getD HMEM.out.2.1 q
            have HCL : Hid (row.coef.length = dec.length) := hide HMEM.out.1
            have hqc : q < row.coef.length := by rw [HCL.out]; exact hqn
            have hsb := sumW_bd HRO.out q j HOK.out
            have HSS : Hid (sumW rows ws q (j + 1) = sumW rows ws q j + t * (rows.getD R row0).coef.getD q 0) := hide (by show sumW rows ws q j + (ws.getD j wt0).2 * (rows.getD (ws.getD j wt0).1.toNat row0).coef.getD q 0 = _; rw [HRT.out]; rfl)
            rw [HROW.out] at HSS
            have hset := hMq.set q (.int .i64 (sumW rows ws q (j + 1)))
            rw [← List.map_set, sumsUp_set, HSS.out] at hset
            have mq : wr.cell? ⟨w.heap.size + 1, q, none⟩ = some (.int .i64 (sumW rows ws q j)) := hMq.cell q (by rw [List.getElem?_map, sumsUp_get hqn, if_neg (by omega)]; rfl)
            have fq := hMq.frozen q
            have a0 := bAq.cell 0 rfl
            have a1 := bAq.cell 1 rfl
            have hpb := mul_bd ⟨g3, g4⟩ (M := 1000000000) hcb (by omega)
            clear HSS hcq
            generalize row.coef.getD q 0 = c at zc hcb hset hpb
            generalize sumW rows ws q j = S0 at mq hset hsb
            have p1 : IntKind.i64.wrap (t * c) = t * c := IntWalk.i64_in _ ⟨by omega, by omega⟩
            have p2 : IntKind.i64.wrap (S0 + t * c) = S0 + t * c := IntWalk.i64_in _ ⟨by omega, by omega⟩
            have p3 : wrap64 (t * c) = t * c := wrap_id (by omega) (by omega)
            have p4 : wrap64 (S0 + t * c) = S0 + t * c := wrap_id (by omega) (by omega)
            clear hpb hsb
            go_wp2_with fail
            go_region
            all_goals
              go_wp2_with fail
              go_roundw
              case rel =>
                refine ⟨q + 1, by omega, by go_num, hset.later (Below.refl _ _).drew, ?_, ?_, ?_⟩
                · exact (bAq.other HAM.out _ _).later (Below.refl _ _).drew
                · exact (hbq.setCell (p := ⟨w.heap.size + 1, q, none⟩) (Nat.le_refl _) _).drew
                · simp [World.setCell]; omega
              case measure => simp [intOf]; omega
          · obtain rfl : q = dec.length := by omega
            rw [sumsUp_full] at hMq
            go_wp2_with fail
            go_roundw
            case rel =>
              refine ⟨j + 1, by omega, by go_num, by rw [HMS.out, Int.toNat_natCast, HROW.out], HOK2, hMq, hbr3.trans hbq, hzq⟩
            case measure => simp [intOf]; omega
      · obtain ⟨b', o', e', hq, -⟩ := HWS.out (j - 1) (by omega)
        cases e'
        obtain ⟨p, hp⟩ : ∃ p, (ws.getD (j - 1) wt0).1 = p := ⟨_, rfl⟩
        have cq := keep hbw hq
        rw [hp] at cq
        have f0 : 0 < j := by omega
        obtain ⟨q, hq2, hq3⟩ : ∃ q : Nat, q = j - 1 ∧ IntKind.i64.wrap ((j : Int) - 1) = (q : Int) := ⟨j - 1, rfl, by rw [show (j : Int) - 1 = ((j - 1 : Nat) : Int) by omega]; exact IntWalk.i64_in _ ⟨by omega, by omega⟩⟩
        rw [← hq2] at cq
        have hql : q < ws.length := by omega
        have HQ := hide hq2
        have HPP := hide hp
        clear hq hq2 hp hj0
        by_cases f5 : (R : Int) ≤ p
        · have HNO : Hid (okWt rows.length ws j = false) := hide (by rw [HWT.out, HPP.out]; simp; omega)
          go_wp2_with fail
          generalize hA1 : World.alloc wr _ = A1
          have bA : Blk A1 wr.heap.size [.int .i64 R, .int .i64 t] 79 := by rw [← hA1]; exact Blk.newA wr _ rfl
          have hb1 : Below wr.heap.size wr A1 := by rw [← hA1]; exact bal wr _
          have a0 := bwc (bA.cell 0 rfl)
          have a1 := bwc (bA.cell 1 rfl)
          have a3 := bwc (keep hb1 s3)
          have ap := bwc (keep hb1 cq)
          clear hA1
          refine wp_region_bw (by kernel_rfl) (by kernel_rfl) ?_
          repeat (go_big_quiet_step (fail))
          refine wpQuiet_nil ?_
          rintro _ ⟨i, rfl⟩
          go_wp2_with fail
          go_ret
          exact ⟨ret_bool (by rw [HF.out, okWts_no HNO.out hlt]; rfl), below2 hbw (below2 hb1 i.h)⟩
        have e6 : decide ((R : Int) ≤ p) = false := decide_eq_false f5
        have HOK2 : Hid (okWts rows.length ws (j + 1) = true) := hide (by rw [okWts_succ, HOK.out, HWT.out, HPP.out]; simp; omega)
        clear f5
        go_wp2_with fail
        generalize hA1 : World.alloc wr _ = A1
        have bA : Blk A1 wr.heap.size [.int .i64 R, .int .i64 t] 79 := by rw [← hA1]; exact Blk.newA wr _ rfl
        have hb1 : Below wr.heap.size wr A1 := by rw [← hA1]; exact bal wr _
        have a0 := bwc (bA.cell 0 rfl)
        have a1 := bwc (bA.cell 1 rfl)
        have a3 := bwc (keep hb1 s3)
        have ap := bwc (keep hb1 cq)
        clear hA1
        refine wp_region_bw (by kernel_rfl) (by kernel_rfl) ?_
        repeat (go_big_quiet_step (fail))
        refine wpQuiet_nil ?_
        rintro _ ⟨i, rfl⟩
        go_wp2_with fail
        have hM2 := hM.later (below2 hb1 i.h)
        have bA2 := bA.later i.h
        have hbr2 := hbr.trans ((below2 hb1 i.h).mono (by omega))
        have hzr2 : w.heap.size + 1 + 1 ≤ i.W.heap.size := Nat.le_trans hzr (below2 hb1 i.h).size
        have hbw2 := below2 hbw (below2 hb1 i.h)
        have hwr2 : wr.heap.size < i.W.heap.size := bA2.lt
        have HAM : Hid (wr.heap.size ≠ w.heap.size + 1) := hide (by omega)
        clear a0 a1 a3 s3 hM bA hb1 hS hbr hbw ap cq hq3 e6 f0
        generalize i.W = W2 at hM2 bA2 hbr2 hzr2 hbw2 hwr2 ⊢
        obtain ⟨b6, o6, cv, rfl, hrow⟩ := HRS.out R hR2
        have HMEM := hide (HRO.out _ (getD_mem rows R (d := row0) hR2))
        obtain ⟨row, hrow0⟩ : ∃ row, rows.getD R row0 = row := ⟨_, rfl⟩
        rw [hrow0] at hrow HMEM
        have HROW := hide hrow0
        clear hrow0
        obtain ⟨-, -, -, -, y4, y5, y6⟩ := hrow
        have hco : IntsAt w cv row.coef := y6
        obtain ⟨ca, cc, rfl, -, -, hcs⟩ := id hco
        have HCS := hide hcs
        have z5 := bwc (keep hbw2 y5)
        have a0 := bwc (bA2.cell 0 rfl)
        have a1 := bwc (bA2.cell 1 rfl)
        have hmb2 := HMEM.out.2.2
        have hpb := mul_bd ⟨g3, g4⟩ (M := 1000000000000) hmb2 (by omega)
        have p1 : IntKind.i64.wrap (t * row.most) = t * row.most := IntWalk.i64_in _ ⟨by omega, by omega⟩
        have p2 : IntKind.i64.wrap (m + t * row.most) = m + t * row.most := IntWalk.i64_in _ ⟨by omega, by omega⟩
        clear y5 hcs hmb2 hpb
        refine wp_region_bw (by kernel_rfl) (by kernel_rfl) ?_
        repeat (go_big_quiet_step (fail))
        refine wpQuiet_nil ?_
        rintro _ ⟨i, rfl⟩
        have hM3 := hM2.later i.h
        have bA3 := bA2.later i.h
        have hbr3 := hbr2.trans (i.h.mono (by omega))
        have hzr3 : w.heap.size + 1 + 1 ≤ i.W.heap.size := Nat.le_trans hzr2 i.h.size
        have hwr3 : wr.heap.size < i.W.heap.size := bA3.lt
        clear a0 a1 z5 p1 p2 hM2 bA2 hbr2 hbw2 hwr2 hzr2
        generalize i.W = W3 at hM3 bA3 hbr3 hzr3 hwr3 ⊢
        generalize wr.heap.size = BA at bA3 hwr3 HAM ⊢
        clear hzr
        go_wp2_with fail
        go_loopw [14] (fun kk wk => ∃ q : Nat, q ≤ dec.length ∧ kk = .int .i64 q ∧ Blk wk (w.heap.size + 1) ((sumsUp rows ws dec.length j q).map (Value.int .i64)) 3 ∧ Blk wk BA [.int .i64 R, .int .i64 t] 79 ∧ Below (w.heap.size + 1) W3 wk ∧ w.heap.size + 1 + 1 ≤ wk.heap.size) (fun kk _ => dec.length - (intOf kk).toNat)
        case atStart => exact ⟨0, by omega, rfl, hM3, bA3, Below.refl _ _, hzr3⟩
        case round =>
          obtain ⟨q, hq, rfl, hMq, bAq, hbq, hzq⟩ := hrel
          by_cases hqn : q < dec.length
          · have hbwq := Xb.trans ((hbr3.trans hbq).mono (by omega))
            have z4 := keep hbwq y4
            obtain ⟨b7, o7, rfl, hcq⟩ := HCS.out q (by rw [HMEM.out.1]; exact hqn)
            have zc := keep hbwq hcq
            have hcb := coefs_getD HMEM.out.2.1 q
            have HCL : Hid (row.coef.length = dec.length) := hide HMEM.out.1
            have hqc : q < row.coef.length := by rw [HCL.out]; exact hqn
            have hsb := sumW_bd HRO.out q j HOK.out
            have HSS : Hid (sumW rows ws q (j + 1) = sumW rows ws q j + t * (rows.getD R row0).coef.getD q 0) := hide (by show sumW rows ws q j + (ws.getD j wt0).2 * (rows.getD (ws.getD j wt0).1.toNat row0).coef.getD q 0 = _; rw [HRT.out]; rfl)
            rw [HROW.out] at HSS
            have hset := hMq.set q (.int .i64 (sumW rows ws q (j + 1)))
            rw [← List.map_set, sumsUp_set, HSS.out] at hset
            have mq : wr.cell? ⟨w.heap.size + 1, q, none⟩ = some (.int .i64 (sumW rows ws q j)) := hMq.cell q (by rw [List.getElem?_map, sumsUp_get hqn, if_neg (by omega)]; rfl)
            have fq := hMq.frozen q
            have a0 := bAq.cell 0 rfl
            have a1 := bAq.cell 1 rfl
            have hpb := mul_bd ⟨g3, g4⟩ (M := 1000000000) hcb (by omega)
            clear HSS hcq
            generalize row.coef.getD q 0 = c at zc hcb hset hpb
            generalize sumW rows ws q j = S0 at mq hset hsb
            have p1 : IntKind.i64.wrap (t * c) = t * c := IntWalk.i64_in _ ⟨by omega, by omega⟩
            have p2 : IntKind.i64.wrap (S0 + t * c) = S0 + t * c := IntWalk.i64_in _ ⟨by omega, by omega⟩
            have p3 : wrap64 (t * c) = t * c := wrap_id (by omega) (by omega)
            have p4 : wrap64 (S0 + t * c) = S0 + t * c := wrap_id (by omega) (by omega)
            clear hpb hsb
            go_wp2_with fail
            go_region
            all_goals
              go_wp2_with fail
              go_roundw
              case rel =>
                refine ⟨q + 1, by omega, by go_num, hset.later (Below.refl _ _).drew, ?_, ?_, ?_⟩
                · exact (bAq.other HAM.out _ _).later (Below.refl _ _).drew
                · exact (hbq.setCell (p := ⟨w.heap.size + 1, q, none⟩) (Nat.le_refl _) _).drew
                · simp [World.setCell]; omega
              case measure => simp [intOf]; omega
          · obtain rfl : q = dec.length := by omega
            rw [sumsUp_full] at hMq
            go_wp2_with fail
            go_roundw
            case rel =>
              refine ⟨j + 1, by omega, by go_num, by rw [HMS.out, Int.toNat_natCast, HROW.out], HOK2, hMq, hbr3.trans hbq, hzq⟩
            case measure => simp [intOf]; omega
    · obtain rfl : j = ws.length := by omega
      have HDB := hide (minK_bd (dec := dec) HRO.out HOK.out)
      go_wp2_with fail
      go_loop [15, 16] (fun s kk => ∃ q : Nat, q ≤ dec.length ∧ kk = .int .i64 q ∧ s = .int .i64 (minK rows ws dec q)) (fun _ kk => dec.length - (intOf kk).toNat)
      case atStart => exact ⟨0, by omega, rfl, rfl⟩
      case round =>
        obtain ⟨q, hq, rfl, rfl⟩ := hrel
        by_cases hqn : q < dec.length
        · obtain ⟨b7, o7, rfl, hcq⟩ := HDS.out q hqn
          have zc := keep hbw hcq
          have mq : wr.cell? ⟨w.heap.size + 1, q, none⟩ = some (.int .i64 (sumW rows ws q ws.length)) := hM.cell q (by rw [List.getElem?_map, sumsUp_get hqn, if_neg (by omega)]; rfl)
          have HMK : Hid (minK rows ws dec (q + 1) = minK rows ws dec q + (if takes (dec.getD q 0) (sumW rows ws q ws.length) then sumW rows ws q ws.length else 0)) := hide rfl
          have hsb := sumW_bd HRO.out q ws.length HOK.out
          have hkb : -100000000000000 ≤ minK rows ws dec q ∧ minK rows ws dec q ≤ 100000000000000 := small_bd (HDB.out q) h6' (by omega)
          generalize dec.getD q 0 = d at zc HMK hcq
          generalize sumW rows ws q ws.length = S0 at mq HMK hsb
          generalize minK rows ws dec q = K0 at HMK hkb
          clear hcq
          by_cases h1 : d = 1
          · have q3 : (d == 1) = true := by simpa using h1
            have HT : Hid (takes d S0 = true) := hide (by simp [takes, h1])
            clear h1
            go_wp2_with fail
            go_round
            case rel => exact ⟨q + 1, by omega, by go_num, by rw [HMK.out, HT.out]; rfl⟩
            case measure => simp [intOf]; omega
          · have q3 : (d == 1) = false := by simpa using h1
            by_cases h2 : d < 0
            · by_cases h3 : S0 < 0
              · have HT : Hid (takes d S0 = true) := hide (by simp [takes, h2, h3])
                clear h1
                go_wp2_with fail
                go_round
                case rel => exact ⟨q + 1, by omega, by go_num, by rw [HMK.out, HT.out]; rfl⟩
                case measure => simp [intOf]; omega
              · have HT : Hid (takes d S0 = false) := hide (by simp [takes, h1, h2, h3])
                clear h1
                go_wp2_with fail
                go_round
                case rel => exact ⟨q + 1, by omega, by go_num, by rw [HMK.out, HT.out]; simp⟩
                case measure => simp [intOf]; omega
            · have HT : Hid (takes d S0 = false) := hide (by simp [takes, h1, h2])
              clear h1
              go_wp2_with fail
              go_round
              case rel => exact ⟨q + 1, by omega, by go_num, by rw [HMK.out, HT.out]; simp⟩
              case measure => simp [intOf]; omega
        · obtain rfl : q = dec.length := by omega
          go_wp2_with fail
          go_ret
          exact ⟨ret_bool (by rw [HF.out, HOK.out, HM.out]; simp), hbw⟩
end Go.Proofs.Ytcaklldmcbpbfaa
