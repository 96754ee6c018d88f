/- Walks of prefixes (an iterator) and Prefixes (chapter 15). Conditions: how the order lies in memory. -/
import Derived.Test.YtnidcoinfmcffaaDoorOsH
import Derived.Test.YtnidcoinfmcffaaDoorColl
namespace Go.Proofs.YtnidcoinfmcffaaDoor
open Go.RowKit Go.Shelf
attribute [local go_sem] Oper.semAt_some
/-- what the first x things of a set need -/
def needO (R : RelO) (S x : Nat) : Nat := bitsO fun a => (List.range x).any fun y => S.testBit y && R a y
theorem need_zero (R : RelO) (S : Nat) : needO R S 0 = 0 := by
 unfold needO
 exact Nat.eq_of_testBit_eq fun a => by rw [bits_test, Nat.zero_testBit]; simp
theorem need_yes {R : RelO} {S x : Nat} (h : S.testBit x = true) : needO R S (x + 1) = needO R S x ||| bitsO fun a => R a x := by
 unfold needO
 rw [bits_or]
 refine bits_congr fun a _ => ?_
 rw [List.range_succ, List.any_append]; simp [h]
theorem need_no {R : RelO} {S x : Nat} (h : S.testBit x = false) : needO R S (x + 1) = needO R S x := by
 unfold needO
 refine bits_congr fun a _ => ?_
 rw [List.range_succ, List.any_append]; simp [h]
theorem need_lt (R : RelO) (S x : Nat) : needO R S x < 256 := bits_lt _
theorem need_pref {n : Nat} {R : RelO} (hd : ∀ a b, R a b = true → a < n ∧ b < n) (hn : n ≤ 8) {S : Nat} (hS : S < 256) : decide (lessO (needO R S n) S = 0) = prefO n R S.testBit := by
 apply Bool.eq_iff_iff.2
 rw [decide_eq_true_eq]
 unfold prefO
 rw [List.all_eq_true]
 have hb : ∀ a, (lessO (needO R S n) S).testBit a = (decide (a < 8) && ((List.range n).any fun y => S.testBit y && R a y) && !S.testBit a) := fun a => by
  rw [less_bit (Nat.lt_of_lt_of_le (need_lt R S n) (by decide)) (Nat.lt_of_lt_of_le hS (by decide)), needO, bits_test]
 constructor
 ·intro h x hx
  cases hsx : S.testBit x with
  | false => rfl
  | true =>
   simp only [Bool.not_true, Bool.false_or, List.all_eq_true]
   intro a ha
   cases hr : R a x with
   | false => rfl
   | true =>
    have h1 := hb a
    rw [h, Nat.zero_testBit] at h1
    have ha8 : a < 8 := by have := List.mem_range.1 ha; omega
    have h2 : ((List.range n).any fun y => S.testBit y && R a y) = true := List.any_eq_true.2 ⟨x, hx, by rw [hsx, hr]; rfl⟩
    rw [decide_eq_true ha8, h2] at h1
    simpa using h1.symm
 ·intro h
  refine Nat.eq_of_testBit_eq fun a => ?_
  rw [hb, Nat.zero_testBit]
  cases h2 : ((List.range n).any fun y => S.testBit y && R a y) with
  | false => simp
  | true =>
   obtain ⟨x, hx, h3⟩ := List.any_eq_true.1 h2
   rw [Bool.and_eq_true] at h3
   have h4 := h x hx
   rw [h3.1] at h4
   simp only [Bool.not_true, Bool.false_or, List.all_eq_true] at h4
   have h5 := h4 a (List.mem_range.2 (hd _ _ h3.2).1)
   rw [h3.2] at h5
   have h6 : S.testBit a = true := by simpa using h5
   rw [h6]; simp
/-- the prefixes among the first k sets -/
def prefK (n : Nat) (R : RelO) (k : Nat) : List Nat := (List.range k).filter fun S => prefO n R S.testBit
theorem prefK_yes {n : Nat} {R : RelO} {k : Nat} (h : prefO n R k.testBit = true) : prefK n R (k + 1) = prefK n R k ++ [k] := by
 unfold prefK; rw [List.range_succ, List.filter_append]; simp [h]
theorem prefK_no {n : Nat} {R : RelO} {k : Nat} (h : prefO n R k.testBit = false) : prefK n R (k + 1) = prefK n R k := by
 unfold prefK; rw [List.range_succ, List.filter_append]; simp [h]
theorem prefK_le (n : Nat) (R : RelO) (k : Nat) : (prefK n R k).length ≤ k := Nat.le_trans (List.length_filter_le _ _) (by simp)
theorem prefK_pre (n : Nat) (R : RelO) {k m : Nat} (h : k ≤ m) : prefK n R k <+: prefK n R m := by
 obtain ⟨d, rfl⟩ : ∃ d, m = k + d := ⟨m - k, by omega⟩
 unfold prefK
 rw [List.range_add, List.filter_append]
 exact List.prefix_append _ _
set_option maxRecDepth 100000 in
set_option maxHeartbeats 2000000 in
theorem prefixes1_in (n : Nat) (R : RelO) (m l Bn Bt s : Nat) (w W : World) (J Jx : List Nat → World → Prop) (hW : Below w.heap.size w W) (_hJ : AbidesFrom W.heap.size J) (hn : n ≤ 8) (hd : ∀ a b, R a b = true → a < n ∧ b < n)
  (hs1 : s ≠ Bn) (hs2 : s ≠ Bt) (c0 : w.cell? ⟨Bn, 0, none⟩ = some (.int .i64 n)) (bT : Blk w Bt (tabC R) 65)
  (hY : ∀ pre x W1, J pre W1 → pre.length < 2 ^ n → YieldAt Fence.wide (m - 1) Tryd.prog l #[.int .i64 (x : Nat)] W1 fun e W' =>
   (e = .returned (.bool true) ∧ J (pre ++ [x]) W' ∧ KeptBut w.heap.size s W1 W') ∨ (e = .returned (.bool false) ∧ Jx (pre ++ [x]) W')) (hJ0 : J [] W) :
  CallsIn Fence.wide m Tryd.prog 81 #[.func (.yield l) #[] #[], .pointer (some ⟨Bn, 0, none⟩), .pointer (some ⟨Bt, 0, none⟩)] W fun e W' => (∃ v, e = .returned v) ∧
   ((∃ ys, ys = prefixesO n R ∧ J ys W') ∨ (∃ pre, pre <+: prefixesO n R ∧ Jx pre W')) := by
 obtain ⟨T, hT⟩ : ∃ T : Nat, T = 2 ^ n := ⟨_, rfl⟩
 have hTw : wrap64 (2 ^ n) = (T : Int) := by rw [hT]; exact wrapw hn
 have hT2 : T ≤ 256 := by rw [hT]; exact pow_nat8 hn
 have HG : Hid (prefixesO n R = prefK n R (2 ^ n)) := hide rfl
 rw [← hT] at hY
 have HT := hide hT
 clear hT
 have d0 : W.cell? ⟨Bn, 0, none⟩ = some (.int .i64 n) := keep hW c0
 have HD := hide hd
 have HPY := hide (fun k => prefK_yes (n := n) (R := R) (k := k))
 have HPN := hide (fun k => prefK_no (n := n) (R := R) (k := k))
 have HPL := hide (prefK_le n R)
 have HPP := hide (fun k (h : k ≤ T) => prefK_pre n R h)
 have HP0 : Hid (prefK n R 0 = []) := hide rfl
 have HNP := hide (fun S (h : S < 256) => need_pref hd hn h)
 clear hd
 refine callsIn_of_wp Tryd.func81 rfl trivial ?_ rfl
 simp only [Tryd.ntmps81, List.size_toArray, List.length_cons, List.length_nil, Nat.reduceAdd, Nat.reduceSub, Array.replicate_succ, Array.replicate_zero, List.push_toArray, List.append_toArray, List.nil_append, List.cons_append]
 have hwf : ∀ f, Fence.wide.fn f = True := fun _ => rfl
 have hwd : Fence.wide.depth.isSome = false := rfl
 gi_wp2
 rw [hTw]
 clear hTw
 gi_loopw [9] (fun i wr => ∃ k : Nat, k ≤ T ∧ i = .int .i64 k ∧ J (prefK n R k) wr ∧ KeptBut w.heap.size s w wr) (fun i _ => T - (intOf i).toNat)
 case atStart => exact ⟨0, by omega, rfl, by rw [HP0.out]; exact hJ0, KeptBut.of_below hW⟩
 case round =>
  obtain ⟨k, hk, rfl, hJk, hK⟩ := hrel
  by_cases hlt : k < T
  ·have hltI : (k : Int) < T := by omega
   have HK := hide hlt
   have hk8 : k < 256 := by omega
   have hBn : Bn < w.heap.size := lt_of_cell c0
   have e0 : wr.cell? ⟨Bn, 0, none⟩ = some (.int .i64 n) := (hK.cell hBn (Ne.symm hs1)).trans c0
   have bT' : Blk wr Bt (tabC R) 65 := (hK.block Bt bT.lt (Ne.symm hs2)).trans bT
   have HY := hide hY
   have HN0 := hide (need_zero R k)
   have HNP' := hide (HNP.out k hk8)
   clear hY
   gi_wp2
   gi_loopw [5, 13] (fun sv i wz => ∃ x : Nat, x ≤ n ∧ i = .int .i64 x ∧ sv = .int .i64 ((needO R k x : Nat) : Int) ∧ wz = wr) (fun _ i _ => n - (intOf i).toNat)
   case atStart => exact ⟨0, by omega, rfl, by rw [HN0.out]; rfl, rfl⟩
   case round =>
    obtain ⟨x, hx, rfl, rfl, rfl⟩ := hrel
    by_cases hlx : x < n
    ·have hlxI : (x : Int) < n := by omega
     have HX := hide hlx
     have hx8 : x < 8 := by omega
     have hx8I : (x : Int) < 8 := by omega
     have t0 := bT'.cell x (tabC_get _ x hx8)
     obtain ⟨S, hS⟩ : ∃ S : Nat, bitsO (fun a => R a x) = S := ⟨_, rfl⟩
     have hS8 : S < 256 := by rw [← hS]; exact bits_lt _
     rw [show setI R x = (S : Int) by show ((bitsO _ : Nat) : Int) = _; rw [hS]] at t0
     have hbt := bit_test (k := x) hk8
     obtain ⟨N, hN⟩ : ∃ N : Nat, needO R k x = N := ⟨_, rfl⟩
     have hN8 : N < 256 := by rw [← hN]; exact need_lt _ _ _
     rw [hN]
     cases hr : k.testBit x
     ·rw [hr] at hbt
      have HNX := hide (need_no (R := R) hr)
      rw [hN] at HNX
      clear hr hS hN
      gi_wp2
      go_roundw
      case rel => exact ⟨x + 1, by have := HX.out; omega, by go_num, by rw [HNX.out], by first | trivial | rfl⟩
      case measure => have := HX.out; simp [intOf]; omega
     ·rw [hr] at hbt
      have HNX := hide (need_yes (R := R) hr)
      rw [hN, hS] at HNX
      have hor := or_nat8 hN8 hS8
      clear hr hS hN
      gi_wp2
      go_roundw
      case rel => exact ⟨x + 1, by have := HX.out; omega, by go_num, by rw [HNX.out], by first | trivial | rfl⟩
      case measure => have := HX.out; simp [intOf]; omega
    ·obtain rfl : x = n := by omega
     obtain ⟨N, hN⟩ : ∃ N : Nat, needO R k x = N := ⟨_, rfl⟩
     have hN8 : N < 256 := by rw [← hN]; exact need_lt _ _ _
     have hle := HPL.out k
     rw [hN] at HNP'
     rw [hN]
     have hbz := less_zero (T := N) (S := k) hN8
     rw [HNP'.out] at hbz
     cases hp : prefO x R k.testBit
     ·rw [hp] at hbz
      have HN1 := hide (HPN.out k hp)
      clear hp hN hle
      gi_wp2
      go_roundw
      case rel => exact ⟨k + 1, by have := HK.out; omega, by go_num, by rw [HN1.out]; exact hJk, hK⟩
      case measure => have := HK.out; simp [intOf]; omega
     ·rw [hp] at hbz
      have HN1 := hide (HPY.out k hp)
      obtain ⟨fn, tmps, assign, body, hy, hR⟩ := HY.out _ k _ hJk (by omega)
      clear hp hN
      gi_wp2
      refine hR.mono ?_
      rintro e W3 (⟨rfl, hJ3, hk3⟩ | ⟨rfl, hJx3⟩)
      ·gi_wp2
       go_roundw
       case rel => exact ⟨k + 1, by have := HK.out; omega, by go_num, by rw [HN1.out]; exact hJ3, hK.trans hk3⟩
       case measure => have := HK.out; simp [intOf]; omega
      ·gi_wp2
       refine bodyPost_ret (results_none rfl _ _ _) rfl ?_
       exact ⟨⟨_, rfl⟩, .inr ⟨_, by rw [HG.out, ← HT.out, ← HN1.out]; exact HPP.out _ (by have := HK.out; omega), hJx3⟩⟩
  ·gi_wp2
   go_end0
   obtain rfl : k = T := by omega
   exact ⟨⟨_, rfl⟩, .inl ⟨_, by rw [HG.out, HT.out], hJk⟩⟩
theorem prefixes_stops (n : Nat) (R : RelO) (m Bn Bt s : Nat) (w : World) (hn : n ≤ 8) (hd : ∀ a b, R a b = true → a < n ∧ b < n)
  (hs1 : s ≠ Bn) (hs2 : s ≠ Bt) (c0 : w.cell? ⟨Bn, 0, none⟩ = some (.int .i64 n)) (bT : Blk w Bt (tabC R) 65) :
  SeqStopsK Fence.wide m Tryd.prog 81 #[.pointer (some ⟨Bn, 0, none⟩), .pointer (some ⟨Bt, 0, none⟩)] (fun x : Nat => #[.int .i64 x]) (KeptBut w.heap.size s) (fun ys => ys = prefixesO n R) (fun pre => pre <+: prefixesO n R) (2 ^ n) w :=
 fun l J Jx W hW hJ _ hY hJ0 => prefixes1_in n R m l Bn Bt s w W J Jx hW hJ hn hd hs1 hs2 c0 bT hY hJ0
theorem prefixesf_any (n : Nat) (R : RelO) (w : World) :
  Calls Tryd.prog 56 #[.int .i64 n, tabV R] w fun e w' => e = .returned (.func (.func 81) #[] #[.pointer (some ⟨w.heap.size, 0, none⟩), .pointer (some ⟨w.heap.size + 1, 0, none⟩)]) ∧ (w.alloc (.cells #[.int .i64 n] 3)).alloc (.cells (tabC R).toArray 65) = w' := by
 go_enter Tryd.func56, Tryd.ntmps56
 go_wp2_with fail
 go_ret
 exact ⟨rfl, rfl⟩
theorem prefixes_no (o : OrderD) (pv : Value) (w : World) (hp : PairsIn w.cell? pv o.pairs) (hv : validO o = false) : Calls Tryd.prog 18 #[orderV o.n pv] w (Ret (.tuple #[.slice none 0 0, .int .i64 150]) w) := by
 obtain ⟨on, ps⟩ := o
 obtain ⟨pa, pm, rfl, -, -, -⟩ := id hp
 have HR := hide (fun W (hb : Below w.heap.size w W) => by
  have h := read_any ⟨on, ps⟩ (.slice pa ps.length pm) W (RecIn.below hb hp)
  rw [hv] at h
  exact h)
 generalize readO ⟨on, ps⟩ = R at *
 clear hp hv
 go_enter Tryd.func18, Tryd.ntmps18
 go_wp2_with fail
 generalize hX1 : World.alloc w _ = X1
 have zX1 : X1.heap.size = w.heap.size + 1 := by rw [← hX1]; simp
 have bX1 : Below w.heap.size w X1 := by rw [← hX1]; exact bal w _
 have bO : Blk X1 (w.heap.size) [.int .i64 on, .slice pa ps.length pm] 25 := by rw [← hX1]; exact Blk.newA w _ (by first | rfl | simp)
 have Xb := bX1
 have Xz := zX1
 clear hX1 zX1 bX1
 have c0 := bO.cell 0 rfl
 have c1 := bO.cell 1 rfl
 refine (HR.out _ Xb).mono ?_
 rintro e w1 ⟨rfl, hb⟩
 have hw := below2 Xb hb
 clear c0 c1 bO hb Xb Xz
 go_wp2_with fail
 go_ret2
 exact ⟨rfl, below2 hw (bal _ _)⟩
set_option maxRecDepth 100000 in
set_option maxHeartbeats 1000000 in
theorem prefixes_yes (n : Nat) (ps : List (Int × Int)) (pv : Value) (w : World) (hp : PairsIn w.cell? pv ps) (hv : validO ⟨n, ps⟩ = true) : Calls Tryd.prog 18 #[orderV n pv] w (IntsEQ (natsO (prefixesO n (beforeO ⟨n, ps⟩))) w) := by
 obtain ⟨pa, pm, rfl, -, -, -⟩ := id hp
 have hn8 : n ≤ 8 := by
  have hf : formedO ⟨(n : Int), ps⟩ = true := by unfold validO at hv; rw [Bool.and_eq_true] at hv; exact hv.1
  have := (formed_n hf).1.2
  simp only at this
  omega
 have HPO := hide (show PoO n (beforeO ⟨(n : Int), ps⟩) from before_po hv)
 have HR := hide (fun W (hb : Below w.heap.size w W) => by
  have h := read_any ⟨(n : Int), ps⟩ (.slice pa ps.length pm) W (RecIn.below hb hp)
  rw [hv, show readO ⟨(n : Int), ps⟩ = beforeO ⟨(n : Int), ps⟩ by
   have hf : formedO ⟨(n : Int), ps⟩ = true := by unfold validO at hv; rw [Bool.and_eq_true] at hv; exact hv.1
   unfold readO; rw [if_pos hf]] at h
  exact h)
 generalize beforeO ⟨(n : Int), ps⟩ = R at *
 clear hp hv
 go_enter Tryd.func18, Tryd.ntmps18
 go_wp2_with fail
 generalize hX1 : World.alloc w _ = X1
 have zX1 : X1.heap.size = w.heap.size + 1 := by rw [← hX1]; simp
 have bX1 : Below w.heap.size w X1 := by rw [← hX1]; exact bal w _
 have bO : Blk X1 (w.heap.size) [.int .i64 n, .slice pa ps.length pm] 25 := by rw [← hX1]; exact Blk.newA w _ (by first | rfl | simp)
 have Xb := bX1
 have Xz := zX1
 clear hX1 zX1 bX1
 have c0 := bO.cell 0 rfl
 have c1 := bO.cell 1 rfl
 refine (HR.out _ Xb).mono ?_
 rintro e w1 ⟨rfl, hb⟩
 have hw := below2 Xb hb
 replace bO := bO.later hb
 clear c0 c1 hb Xb Xz
 go_upto_region 2 with (fail)
 generalize hY1 : World.alloc w1 _ = Y1
 have zY1 : Y1.heap.size = w1.heap.size + 1 := by rw [← hY1]; simp
 have bY1 : Below w1.heap.size w1 Y1 := by rw [← hY1]; exact bal w1 _
 have bT : Blk Y1 (w1.heap.size) (tabC R) 65 := by rw [← hY1]; exact Blk.newA w1 _ (by first | rfl | simp)
 have Yb := bY1
 have Yz := zY1
 clear hY1 zY1 bY1
 have o0 := (bO.later Yb).cell 0 rfl
 have hw2 := below2 hw Yb
 have t0 := bT.cell 0 rfl
 have t1 := bT.cell 1 rfl
 have t2 := bT.cell 2 rfl
 have t3 := bT.cell 3 rfl
 have t4 := bT.cell 4 rfl
 have t5 := bT.cell 5 rfl
 have t6 := bT.cell 6 rfl
 have t7 := bT.cell 7 rfl
 clear Yb Yz hw
 go_wp2_with fail
 refine (prefixesf_any n R _).mono ?_
 rintro e w2 ⟨rfl, hw2'⟩
 have hb2 : Below Y1.heap.size Y1 w2 := by rw [← hw2']; exact below2 (bal Y1 _) (bal _ _)
 have hz2 : w2.heap.size = Y1.heap.size + 1 + 1 := by rw [← hw2']; simp
 have bN2 : Blk w2 Y1.heap.size [.int .i64 n] 3 := by rw [← hw2']; exact (Blk.newA Y1 _ rfl).later (bal _ _)
 have bT2 : Blk w2 (Y1.heap.size + 1) (tabC R) 65 := by
  have h := Blk.newA (Y1.alloc (.cells #[.int .i64 n] 3)) (tabC R).toArray (t := 65) rfl
  rw [← hw2']
  have e : (Y1.alloc (.cells #[.int .i64 n] 3)).heap.size = Y1.heap.size + 1 := by simp
  rwa [e] at h
 have hb3 := bal w2 (.cells #[.slice none 0 0] 26)
 have hseq : SeqStopsK Fence.wide 9 Tryd.prog 81 #[.pointer (some ⟨Y1.heap.size, 0, none⟩), .pointer (some ⟨Y1.heap.size + 1, 0, none⟩)] (fun x : Nat => #[.int .i64 x]) (Below w2.heap.size) (fun ys => ys = prefixesO n R) (fun pre => pre <+: prefixesO n R) (2 ^ n) (w2.alloc (.cells #[.slice none 0 0] 26)) :=
  SeqStopsK.kp (prefixes_stops n R 9 Y1.heap.size (Y1.heap.size + 1) w2.heap.size _ hn8 (fun a b h => HPO.out.dom a b h) (by omega) (by omega) ((bN2.later hb3).cell 0 rfl) (bT2.later hb3))
   (fun A B h => by have := KeptBut.of_below' h; simpa using this)
 have HS := hide hseq
 have hN : 2 ^ n ≤ 1000000 := by have := pow_nat8 hn8; omega
 have HW := hide (below2 hw2 hb2)
 clear hw2' hz2 hseq t0 t1 t2 t3 t4 t5 t6 t7 o0 bT bN2 bT2 hw2 hb2 hb3
 go_wp2_with fail
 refine (collect_any (fun x : Nat => (x : Int)) _ _ (Go.Proofs.enters_of Tryd.func81 (by kernel_rfl) rfl) (prefixesO n R) _ _ hN HS.out).mono ?_
 rintro e w3 ⟨v, rfl, hv, hb4⟩
 have HV := hide ((hv.intsF (Nat.le_refl _)).keeps (keeps_frm_le w3 HW.out.size))
 clear hv
 obtain ⟨qa, qc, rfl, -⟩ := id HV.out
 have HW4 := hide (below2 HW.out hb4)
 generalize hL : List.map (fun x : Nat => (x : Int)) (prefixesO n R) = PL at *
 have HL : Hid (PL = natsO (prefixesO n R)) := hide hL.symm
 clear hb4 hL
 go_wp2_with fail
 go_ret2
 exact ⟨_, rfl, by rw [← HL.out]; exact HV.out, HW4.out⟩
end Go.Proofs.YtnidcoinfmcffaaDoor
