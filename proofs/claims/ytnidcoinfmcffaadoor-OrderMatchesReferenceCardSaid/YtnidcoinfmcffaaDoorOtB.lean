/- Walks of the small functions of the laws of chapter 15 and of its reference. Conditions: how the arguments lie in memory; that integers are of 64 bits. -/
import Derived.Test.YtnidcoinfmcffaaDoorOtA
import Derived.Test.YtnidcoinfmcffaaDoorOpA
namespace Go.Proofs.YtnidcoinfmcffaaDoor
open Go.RowKit
def i64B (x : Int) : Prop := -9223372036854775808 ≤ x ∧ x ≤ 9223372036854775807
set_option maxHeartbeats 400000 in
theorem pickr_any (c : Int) (n : Nat) (w : World) (hc : i64B c) (hn : 0 < n) (hn2 : n ≤ 1000000) :
  Calls Tryd.prog 37 #[.int .i64 c, .int .i64 (n : Int)] w (fun e w' => e = .returned (.int .i64 (pkO c n : Nat)) ∧ w' = w) := by
 obtain ⟨h1, h2⟩ := hc
 have hne : (n : Int) ≠ 0 := by omega
 have HP := hide (pk_int c hn)
 have hpl := pk_lt c hn
 generalize pkO c n = q at *
 by_cases hc : c < 0
 ·have HT : Hid ((-(c + 1)).tmod n = q) := hide (by rw [Int.tmod_eq_emod_of_nonneg (by omega)]; have h := HP.out; rw [if_pos hc] at h; exact h)
  clear hpl
  go_enter Tryd.func37, Tryd.ntmps37
  go_wp2
  go_ret
  refine ⟨ret_int ?_, rfl⟩
  rw [← Int.neg_tmod]; exact HT.out
 ·have HT : Hid (c % n = q) := hide (by have h := HP.out; rw [if_neg hc] at h; exact h)
  clear hpl
  go_enter Tryd.func37, Tryd.ntmps37
  go_wp2
  go_ret
  exact ⟨ret_int HT.out, rfl⟩
set_option maxHeartbeats 400000 in
theorem pickl_any (c : Int) (n : Nat) (w : World) (hc : i64B c) (hn : 0 < n) (hn2 : n ≤ 1000000) :
  Calls Tryd.prog 13 #[.int .i64 c, .int .i64 (n : Int)] w (fun e w' => e = .returned (.int .i64 (pkO c n : Nat)) ∧ w' = w) := by
 obtain ⟨h1, h2⟩ := hc
 have hne : (n : Int) ≠ 0 := by omega
 have HP := hide (pk_int c hn)
 have hpl := pk_lt c hn
 generalize pkO c n = q at *
 by_cases hc : c < 0
 ·have HT : Hid ((-(c + 1)).tmod n = q) := hide (by rw [Int.tmod_eq_emod_of_nonneg (by omega)]; have h := HP.out; rw [if_pos hc] at h; exact h)
  clear hpl
  go_enter Tryd.func13, Tryd.ntmps13
  go_wp2
  go_ret
  refine ⟨ret_int ?_, rfl⟩
  rw [← Int.neg_tmod]; exact HT.out
 ·have HT : Hid (c % n = q) := hide (by have h := HP.out; rw [if_neg hc] at h; exact h)
  clear hpl
  go_enter Tryd.func13, Tryd.ntmps13
  go_wp2
  go_ret
  exact ⟨ret_int HT.out, rfl⟩
def intsB (a b : List Int) : Bool := decide (a = b)
theorem intsB_no {a b : List Int} {k : Nat} (h : a.getD k 0 ≠ b.getD k 0) : intsB a b = false := by
 unfold intsB; simp; rintro rfl; exact h rfl
theorem intsB_len {a b : List Int} (h : a.length ≠ b.length) : intsB a b = false := by
 unfold intsB; simp; rintro rfl; exact h rfl
theorem intsB_yes {a b : List Int} (hl : a.length = b.length) (h : ∀ k, k < a.length → a.getD k 0 = b.getD k 0) : intsB a b = true := by
 unfold intsB; simp
 refine List.ext_getElem hl fun i h1 h2 => ?_
 have := h i h1
 rwa [List.getD_eq_getElem?_getD, List.getD_eq_getElem?_getD, List.getElem?_eq_getElem h1, List.getElem?_eq_getElem h2] at this
set_option maxHeartbeats 400000 in
theorem ints_any (x y : List Int) (xv yv : Value) (w : World) (hx : IntsAt w xv x) (hy : IntsAt w yv y) :
  Calls Tryd.prog 36 #[xv, yv] w (Ret (.bool (intsB x y)) w) := by
 obtain ⟨xa, xc, rfl, hx1, hx2, hxc⟩ := hx
 obtain ⟨ya, yc, rfl, hy1, hy2, hyc⟩ := hy
 by_cases hl : x.length = y.length
 ·have hl1 : (x.length : Int) = (y.length : Int) := by omega
  have HL := hide hl
  have HY := hide (intsB_yes hl)
  rw [← hl]
  clear hl hl1
  go_enter Tryd.func36, Tryd.ntmps36
  go_wp2
  go_loopw [5] (fun i wr => ∃ (k : Nat), k ≤ x.length ∧ i = .int .i64 k ∧ Hid (∀ j, j < k → x.getD j 0 = y.getD j 0) ∧ Below w.heap.size w wr) (fun i _ => x.length - (intOf i).toNat)
  case atStart => exact ⟨0, by omega, rfl, fun j hj => by omega, Below.refl _ _⟩
  case round =>
   obtain ⟨k, hk, rfl, HA, hbr⟩ := hrel
   by_cases hlt : k < x.length
   ·obtain ⟨b, o, rfl, hck⟩ := hxc k hlt
    obtain ⟨b', o', rfl, hck'⟩ := hyc k (by have := HL.out; omega)
    have HN := hide (intsB_no (a := x) (b := y) (k := k))
    have HS : Hid (x.getD k 0 = y.getD k 0 → ∀ j, j < k + 1 → x.getD j 0 = y.getD j 0) := hide fun h j hj => by
     rcases Nat.lt_or_ge j k with h1 | h1
     ·exact HA.out j h1
     ·obtain rfl : j = k := by omega
      exact h
    generalize x.getD k 0 = s at hck HN HS
    generalize y.getD k 0 = t at hck' HN HS
    have c1 := bwc (keep hbr hck)
    have c2 := bwc (keep hbr hck')
    clear hxc hyc hck hck'
    go_wp2
    refine wp_region_bw (by kernel_rfl) (by kernel_rfl) ?_
    repeat (go_big_quiet_step (fail))
    refine wpQuiet_nil ?_
    rintro _ ⟨i, rfl⟩
    by_cases hst : s = t
    ·have HST := hide hst
     subst hst
     go_wp2
     go_roundw
     case rel => exact ⟨k + 1, by omega, by go_num, HS.out rfl, bwb i hbr hbr.size⟩
     case measure => simp [intOf]; omega
    ·have HST := hide (HN.out hst)
     go_wp2
     go_ret
     exact ⟨ret_bool HST.out.symm, bwb i hbr hbr.size⟩
   ·obtain rfl : k = x.length := by omega
    go_wp2
    go_ret
    exact ⟨ret_bool (HY.out HA.out).symm, hbr⟩
 ·have HN := hide (intsB_len hl)
  have hl1 : ¬ (x.length : Int) = (y.length : Int) := by omega
  go_enter Tryd.func36, Tryd.ntmps36
  go_wp2
  go_ret
  exact ⟨ret_bool HN.out.symm, Below.refl _ _⟩
theorem eq_pair (a b c d : Int) (w : World) : (Op.equalIn 10000 46 (.agg #[.int .i64 a, .int .i64 b]) (.agg #[.int .i64 c, .int .i64 d])).run Tryd.prog w = .ok (a == c && b == d) w := by
 have u3 := Tryd.underlying3
 have a3 := Tryd.isAgg3
 have z3 := Tryd.sizeOf3
 rw [show (10000 : Nat) = 9999 + 1 from rfl, Op.equalIn]
 simp only [Sem.run_bind, run_underlying Tryd.underlying46, Result.andThen_ok]
 simp only [Std.Legacy.Range.forIn_eq_forIn_range', Std.Legacy.Range.size, Nat.sub_zero, Nat.add_sub_cancel, Nat.div_one, List.range'_succ, List.range'_zero, List.forIn_cons, List.forIn_nil]
 go_simp
 by_cases h1 : a = c <;> by_cases h2 : b = d <;> simp [h1, h2]
theorem eq_yes (p : Int × Int) (w : World) : (Op.equalIn 10000 46 (.agg #[.int .i64 p.1, .int .i64 p.2]) (.agg #[.int .i64 p.1, .int .i64 p.2])).run Tryd.prog w = .ok true w := by
 rw [eq_pair]; simp
theorem eq_no {p q : Int × Int} (h : p ≠ q) (w : World) : (Op.equalIn 10000 46 (.agg #[.int .i64 p.1, .int .i64 p.2]) (.agg #[.int .i64 q.1, .int .i64 q.2])).run Tryd.prog w = .ok false w := by
 rw [eq_pair]
 have : (p.1 == q.1 && p.2 == q.2) = false := by
  rw [Bool.and_eq_false_iff]
  by_cases h1 : p.1 = q.1
  ·right; simpa using fun h2 => h (Prod.ext h1 h2)
  ·left; simpa using h1
 rw [this]
/-- whether two orders are equal -/
def sameB (o p : OrderD) : Bool := decide (o.n = p.n) && decide (o.pairs = p.pairs)
theorem pairs_eq {a b : List (Int × Int)} (hl : a.length = b.length) (h : ∀ k, k < a.length → a.getD k (0, 0) = b.getD k (0, 0)) : a = b := by
 refine List.ext_getElem hl fun i h1 h2 => ?_
 have := h i h1
 rwa [List.getD_eq_getElem?_getD, List.getD_eq_getElem?_getD, List.getElem?_eq_getElem h1, List.getElem?_eq_getElem h2] at this
set_option maxRecDepth 20000 in
set_option maxHeartbeats 1000000 in
theorem same_any (o p : OrderD) (v u : Value) (w : World) (hv : PairsIn w.cell? v o.pairs) (hu : PairsIn w.cell? u p.pairs) : Calls Tryd.prog 26 #[orderV o.n v, orderV p.n u] w (Ret (.bool (sameB o p)) w) := by
 obtain ⟨on, ps⟩ := o
 obtain ⟨pn, qs⟩ := p
 have HS : Hid (sameB ⟨on, ps⟩ ⟨pn, qs⟩ = (decide (on = pn) && decide (ps = qs))) := hide rfl
 generalize sameB ⟨on, ps⟩ ⟨pn, qs⟩ = SB at *
 dsimp only at *
 obtain ⟨a, c, rfl, hl1, hl2, hc⟩ := hv
 obtain ⟨a', c', rfl, hl3, hl4, hc'⟩ := hu
 have hm : (ps.length : Int) ≤ 9223372036854775807 := by omega
 by_cases hn : on = pn
 ·subst hn
  by_cases hl : ps.length = qs.length
  ·have HL := hide hl
   have HQ := hide (pairs_eq hl)
   rw [← hl]
   have HC := hide hc
   have HC' := hide hc'
   clear hc hc' hl hl1 hl2 hl3 hl4
   go_enter Tryd.func26, Tryd.ntmps26
   go_wp2_with fail
   generalize hX1 : World.alloc w _ = X1
   have zX1 : X1.heap.size = w.heap.size + 1 := by rw [← hX1]; simp
   have bX1 : Below w.heap.size w X1 := by rw [← hX1]; exact bal w _
   have bO_1 : Blk X1 (w.heap.size) [.int .i64 on, .slice a ps.length c] 25 := by rw [← hX1]; exact Blk.newA w _ (by first | rfl | simp)
   generalize hX2 : World.alloc X1 _ = X2
   have zX2 : X2.heap.size = w.heap.size + 1 + 1 := by rw [← hX2]; simp [zX1]
   have bX2 : Below X1.heap.size X1 X2 := by rw [← hX2]; exact bal X1 _
   have bP : Blk X2 (w.heap.size + 1) [.int .i64 on, .slice a' ps.length c'] 25 := by rw [← hX2, ← zX1]; exact Blk.newA X1 _ (by first | rfl | simp)
   have bO := bO_1.later bX2
   have Xb := below2 (bX1) bX2
   have Xz := zX2
   clear hX1 zX1 bX1 hX2 zX2 bX2 bO_1
   have c0 := bO.cell 0 rfl
   have c1 := bO.cell 1 rfl
   have c2 := bP.cell 0 rfl
   have c3 := bP.cell 1 rfl
   go_wp2_with fail
   go_loopw [5] (fun i wr => ∃ k : Nat, k ≤ ps.length ∧ i = .int .i64 k ∧ Hid (∀ j, j < k → ps.getD j (0, 0) = qs.getD j (0, 0)) ∧ Below X2.heap.size X2 wr) (fun i _ => ps.length - (intOf i).toNat)
   case atStart => exact ⟨0, by omega, rfl, hide (fun j hj => by omega), Below.refl _ _⟩
   case round =>
    obtain ⟨k, hk, rfl, HA, hbr⟩ := hrel
    have z1 := keep hbr c1
    have z3 := keep hbr c3
    by_cases hlt : k < ps.length
    ·have HK := hide hlt
     obtain ⟨b1, o1, e1, h1⟩ := HC.out k hlt
     obtain ⟨b2, o2, e2, h2⟩ := HC'.out k (by rw [← HL.out]; exact hlt)
     subst e1 e2
     have HEQ : Hid (ps.getD k (0, 0) = qs.getD k (0, 0) → ∀ j, j < k + 1 → ps.getD j (0, 0) = qs.getD j (0, 0)) := hide fun h j hj => by
      rcases Nat.lt_or_ge j k with h1 | h1
      ·exact HA.out j h1
      ·obtain rfl : j = k := by omega
       exact h
     have HNE : Hid (ps.getD k (0, 0) ≠ qs.getD k (0, 0) → ps ≠ qs) := hide fun h e => by subst e; exact h rfl
     generalize ps.getD k (0, 0) = x at h1 HEQ HNE
     generalize qs.getD k (0, 0) = y at h2 HEQ HNE
     have hkl : decide (k < ps.length) = true := by simpa using hlt
     have hbw := below2 Xb hbr
     have p0 : ∀ i : Bw wr.heap.size wr, i.W.cell? ⟨b1, o1 + k * 2, none⟩ = some (.int .i64 x.1) := bwc (keep hbw (h1 0 _ rfl))
     have p1 : ∀ i : Bw wr.heap.size wr, i.W.cell? ⟨b1, o1 + k * 2 + 1, none⟩ = some (.int .i64 x.2) := bwc (keep hbw (h1 1 _ rfl))
     have q0 : ∀ i : Bw wr.heap.size wr, i.W.cell? ⟨b2, o2 + k * 2, none⟩ = some (.int .i64 y.1) := bwc (keep hbw (h2 0 _ rfl))
     have q1 : ∀ i : Bw wr.heap.size wr, i.W.cell? ⟨b2, o2 + k * 2 + 1, none⟩ = some (.int .i64 y.2) := bwc (keep hbw (h2 1 _ rfl))
     have w1 : ∀ i : Bw wr.heap.size wr, i.W.cell? ⟨w.heap.size, 1, none⟩ = some (.slice (some ⟨b1, o1, none⟩) ps.length c) := bwc z1
     have w3 : ∀ i : Bw wr.heap.size wr, i.W.cell? ⟨w.heap.size + 1, 1, none⟩ = some (.slice (some ⟨b2, o2, none⟩) ps.length c') := bwc z3
     clear h1 h2
     by_cases hxy : x = y
     ·subst hxy
      have hq := eq_yes x
      have HE1 := hide (HEQ.out rfl)
      go_wp2_with fail
      refine wp_region_bw (by kernel_rfl) (by kernel_rfl) ?_
      repeat (go_big_quiet_step (fail))
      refine wpQuiet_nil ?_
      rintro _ ⟨i, rfl⟩
      have hbi := below2 hbr i.h
      go_wp2_with fail
      go_roundw
      case rel => exact ⟨k + 1, by have := HK.out; omega, by go_num, HE1, hbi⟩
      case measure => have := HK.out; simp [intOf]; omega
     ·have hq := eq_no hxy
      have HNQ := hide (HNE.out hxy)
      clear hxy
      go_wp2_with fail
      refine wp_region_bw (by kernel_rfl) (by kernel_rfl) ?_
      repeat (go_big_quiet_step (fail))
      refine wpQuiet_nil ?_
      rintro _ ⟨i, rfl⟩
      have hbi := below2 hbr i.h
      go_wp2_with fail
      go_ret
      exact ⟨by rw [HS.out, decide_eq_false HNQ.out, Bool.and_false]; rfl, below2 Xb hbi⟩
    ·obtain rfl : k = ps.length := by omega
     have HPQ := hide (HQ.out HA.out)
     go_wp2_with fail
     go_ret
     exact ⟨by rw [HS.out, decide_eq_true HPQ.out]; simp, below2 Xb hbr⟩
  ·have hl1 : ((ps.length : Int) == (qs.length : Int)) = false := by simpa using (fun h : (ps.length : Int) = qs.length => hl (by omega))
   have HNQ : Hid (ps ≠ qs) := hide (fun e => hl (by rw [e]))
   clear hc hc' hl
   go_enter Tryd.func26, Tryd.ntmps26
   go_wp2_with fail
   generalize hX1 : World.alloc w _ = X1
   have zX1 : X1.heap.size = w.heap.size + 1 := by rw [← hX1]; simp
   have bX1 : Below w.heap.size w X1 := by rw [← hX1]; exact bal w _
   have bO_1 : Blk X1 (w.heap.size) [.int .i64 on, .slice a ps.length c] 25 := by rw [← hX1]; exact Blk.newA w _ (by first | rfl | simp)
   generalize hX2 : World.alloc X1 _ = X2
   have zX2 : X2.heap.size = w.heap.size + 1 + 1 := by rw [← hX2]; simp [zX1]
   have bX2 : Below X1.heap.size X1 X2 := by rw [← hX2]; exact bal X1 _
   have bP : Blk X2 (w.heap.size + 1) [.int .i64 on, .slice a' qs.length c'] 25 := by rw [← hX2, ← zX1]; exact Blk.newA X1 _ (by first | rfl | simp)
   have bO := bO_1.later bX2
   have Xb := below2 (bX1) bX2
   have Xz := zX2
   clear hX1 zX1 bX1 hX2 zX2 bX2 bO_1
   have c0 := bO.cell 0 rfl
   have c1 := bO.cell 1 rfl
   have c2 := bP.cell 0 rfl
   have c3 := bP.cell 1 rfl
   go_wp2_with fail
   go_ret
   exact ⟨by rw [HS.out, decide_eq_false HNQ.out, Bool.and_false]; rfl, Xb⟩
 ·have hn1 : (on == pn) = false := by simpa using hn
  have HNQ := hide hn
  clear hc hc' hn
  go_enter Tryd.func26, Tryd.ntmps26
  go_wp2_with fail
  generalize hX1 : World.alloc w _ = X1
  have zX1 : X1.heap.size = w.heap.size + 1 := by rw [← hX1]; simp
  have bX1 : Below w.heap.size w X1 := by rw [← hX1]; exact bal w _
  have bO_1 : Blk X1 (w.heap.size) [.int .i64 on, .slice a ps.length c] 25 := by rw [← hX1]; exact Blk.newA w _ (by first | rfl | simp)
  generalize hX2 : World.alloc X1 _ = X2
  have zX2 : X2.heap.size = w.heap.size + 1 + 1 := by rw [← hX2]; simp [zX1]
  have bX2 : Below X1.heap.size X1 X2 := by rw [← hX2]; exact bal X1 _
  have bP : Blk X2 (w.heap.size + 1) [.int .i64 pn, .slice a' qs.length c'] 25 := by rw [← hX2, ← zX1]; exact Blk.newA X1 _ (by first | rfl | simp)
  have bO := bO_1.later bX2
  have Xb := below2 (bX1) bX2
  have Xz := zX2
  clear hX1 zX1 bX1 hX2 zX2 bX2 bO_1
  have c0 := bO.cell 0 rfl
  have c1 := bO.cell 1 rfl
  have c2 := bP.cell 0 rfl
  have c3 := bP.cell 1 rfl
  go_wp2_with fail
  go_ret
  exact ⟨by rw [HS.out, decide_eq_false HNQ.out, Bool.false_and]; rfl, Xb⟩
end Go.Proofs.YtnidcoinfmcffaaDoor
