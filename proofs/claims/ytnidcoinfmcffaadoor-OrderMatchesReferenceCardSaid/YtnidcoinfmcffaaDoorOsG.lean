/- The walk of IsLine (chapter 15). Conditions: how the order and the list lie in memory. -/
import Derived.Test.YtnidcoinfmcffaaDoorOsF
namespace Go.Proofs.YtnidcoinfmcffaaDoor
open Go.RowKit
theorem wrapw {x : Nat} (hx : x ≤ 8) : wrap64 (2 ^ x) = ((2 ^ x : Nat) : Int) := by
 have h := pow_nat8 hx
 have e : (2 : Int) ^ x = ((2 ^ x : Nat) : Int) := by simp
 rw [e]
 generalize 2 ^ x = T at *
 exact wrap_id (by omega) (by omega)
theorem or_pow8w {S x : Nat} (hS : S < 256) (hx : x < 8) : bits BinOp.or IntKind.i64 (S : Int) (wrap64 (2 ^ x)) = ((S ||| 2 ^ x : Nat) : Int) := by
 rw [wrapw (by omega), bor_nat (by omega) (by have := pow_nat8 (x := x) (by omega); omega)]
theorem isline_no (o : OrderD) (pv lv : Value) (l : List Int) (w : World) (hp : PairsIn w.cell? pv o.pairs) (hl : IntsAt w lv l) (hv : validO o = false) : Calls Tryd.prog 22 #[orderV o.n pv, lv] w (Ret (.bool false) w) := by
 obtain ⟨la, lc, rfl, -, -, -⟩ := id hl
 obtain ⟨on, ps⟩ := o
 obtain ⟨pa, pm, rfl, -, -, -⟩ := id hp
 have HR := hide (fun W (hb : Below w.heap.size w W) => by
  have h := read_any ⟨on, ps⟩ (.slice pa ps.length pm) W (RecIn.below hb hp)
  rw [hv] at h
  exact h)
 generalize readO ⟨on, ps⟩ = R at *
 clear hp hv
 go_enter Tryd.func22, Tryd.ntmps22
 go_wp2_with fail
 generalize hX1 : World.alloc w _ = X1
 have zX1 : X1.heap.size = w.heap.size + 1 := by rw [← hX1]; simp
 have bX1 : Below w.heap.size w X1 := by rw [← hX1]; exact bal w _
 have bO : Blk X1 (w.heap.size) [.int .i64 on, .slice pa ps.length pm] 25 := by rw [← hX1]; exact Blk.newA w _ (by first | rfl | simp)
 have Xb := bX1
 have Xz := zX1
 clear hX1 zX1 bX1
 have c0 := bO.cell 0 rfl
 have c1 := bO.cell 1 rfl
 refine (HR.out _ Xb).mono ?_
 rintro e w1 ⟨rfl, hb⟩
 have hw := below2 Xb hb
 clear c0 c1 bO hb Xb Xz
 go_wp2_with fail
 go_ret
 exact ⟨rfl, below2 hw (bal _ _)⟩
def natL (l : List Int) : List Nat := l.map Int.toNat
set_option maxRecDepth 100000 in
set_option maxHeartbeats 2000000 in
theorem isline_yes (n : Nat) (ps : List (Int × Int)) (pv lv : Value) (l : List Int) (w : World) (hp : PairsIn w.cell? pv ps) (hl : IntsAt w lv l) (hv : validO ⟨n, ps⟩ = true) : Calls Tryd.prog 22 #[orderV n pv, lv] w (Ret (.bool (isLineB n (beforeO ⟨n, ps⟩) l)) w) := by
 have HL := hide hl
 obtain ⟨la, lc, rfl, hl1, hl2, -⟩ := id hl
 have hlI : (l.length : Int) ≤ 9223372036854775807 := by omega
 clear hl hl1 hl2
 obtain ⟨pa, pm, rfl, -, -, -⟩ := id hp
 have hn8 : n ≤ 8 := by
  have hf : formedO ⟨(n : Int), ps⟩ = true := by unfold validO at hv; rw [Bool.and_eq_true] at hv; exact hv.1
  have := (formed_n hf).1.2
  simp only at this
  omega
 have HPO := hide (show PoO n (beforeO ⟨(n : Int), ps⟩) from before_po hv)
 have HR := hide (fun W (hb : Below w.heap.size w W) => by
  have h := read_any ⟨(n : Int), ps⟩ (.slice pa ps.length pm) W (RecIn.below hb hp)
  rw [hv, show readO ⟨(n : Int), ps⟩ = beforeO ⟨(n : Int), ps⟩ by
   have hf : formedO ⟨(n : Int), ps⟩ = true := by unfold validO at hv; rw [Bool.and_eq_true] at hv; exact hv.1
   unfold readO; rw [if_pos hf]] at h
  exact h)
 generalize beforeO ⟨(n : Int), ps⟩ = R at *
 clear hp hv
 have HIB : Hid (isLineB n R l = (decide (l.length = n) && scanO n R [] l)) := hide rfl
 have HFB := hide (fun (l : List Nat) x (hx : x < 8) => free_bits (n := n) (R := R) (fun a b h => HPO.out.dom a b h) hn8 l hx)
 have HSC : Hid (∀ (out : List Nat) (x : Int) (t : List Int), scanO n R out (x :: t) = (decide (0 ≤ x ∧ x < n) && freeO n R out x.toNat && scanO n R (out ++ [x.toNat]) t)) := hide (fun _ _ _ => rfl)
 have HS0 : Hid (∀ (out : List Nat), scanO n R out [] = true) := hide (fun _ => rfl)
 generalize isLineB n R l = IB at *
 go_enter Tryd.func22, Tryd.ntmps22
 go_wp2_with fail
 generalize hX1 : World.alloc w _ = X1
 have zX1 : X1.heap.size = w.heap.size + 1 := by rw [← hX1]; simp
 have bX1 : Below w.heap.size w X1 := by rw [← hX1]; exact bal w _
 have bO : Blk X1 (w.heap.size) [.int .i64 n, .slice pa ps.length pm] 25 := by rw [← hX1]; exact Blk.newA w _ (by first | rfl | simp)
 have Xb := bX1
 have Xz := zX1
 clear hX1 zX1 bX1
 have c0 := bO.cell 0 rfl
 have c1 := bO.cell 1 rfl
 refine (HR.out _ Xb).mono ?_
 rintro e w1 ⟨rfl, hb⟩
 have hw := below2 Xb hb
 replace bO := bO.later hb
 clear c0 c1 hb Xb Xz
 go_upto_region 2 with (fail)
 generalize hY1 : World.alloc w1 _ = Y1
 have zY1 : Y1.heap.size = w1.heap.size + 1 := by rw [← hY1]; simp
 have bY1 : Below w1.heap.size w1 Y1 := by rw [← hY1]; exact bal w1 _
 have bT : Blk Y1 (w1.heap.size) (tabC R) 65 := by rw [← hY1]; exact Blk.newA w1 _ (by first | rfl | simp)
 have Yb := bY1
 have Yz := zY1
 clear hY1 zY1 bY1
 have o0 := (bO.later Yb).cell 0 rfl
 have hw2 := below2 hw Yb
 have HLY := hide (IntsAt.below hw2 HL.out)
 clear Yb Yz hw bO
 by_cases hln : l.length = n
 ·have hlnI : ((l.length : Int) == n) = true := by simp [hln]
  have HIB' : Hid (IB = scanO n R [] l) := hide (by rw [HIB.out, decide_eq_true hln, Bool.true_and])
  have HB0 : Hid ((bitsO fun a => (natL (l.take 0)).contains a) = 0) := hide rfl
  have HSC0 : Hid (IB = scanO n R (natL (l.take 0)) (l.drop 0)) := hide HIB'.out
  have HLN := hide hln
  clear hln
  have hbne : ((l.length : Int) != n) = false := by rw [bne, hlnI]; rfl
  go_wp2_with fail
  go_loopw [7, 26] (fun sv i wz => ∃ k : Nat, k ≤ l.length ∧ i = .int .i64 k ∧ sv = .int .i64 ((bitsO (fun a => (natL (l.take k)).contains a) : Nat) : Int) ∧ Hid (IB = scanO n R (natL (l.take k)) (l.drop k)) ∧ wz = Y1) (fun _ i _ => l.length - (intOf i).toNat)
  case atStart => exact ⟨0, by omega, rfl, by rw [HB0.out]; rfl, HSC0, rfl⟩
  case round =>
   obtain ⟨k, hk, rfl, rfl, HI, rfl⟩ := hrel
   obtain ⟨S, hS⟩ : ∃ S : Nat, bitsO (fun a => (natL (l.take k)).contains a) = S := ⟨_, rfl⟩
   have hS8 : S < 256 := by rw [← hS]; exact bits_lt _
   rw [hS]
   by_cases hlt : k < l.length
   ·have hltI : (k : Int) < l.length := by omega
    have HK := hide hlt
    obtain ⟨a', m', e', -, -, hc⟩ := HLY.out
    cases e'
    obtain ⟨b, o, rfl, hck⟩ := hc k hlt
    have hdr : l.drop k = l.getD k 0 :: l.drop (k + 1) := by
     rw [List.getD_eq_getElem?_getD, List.getElem?_eq_getElem hlt]
     exact List.drop_eq_getElem_cons hlt
    have HTK : Hid (natL (l.take (k + 1)) = natL (l.take k) ++ [(l.getD k 0).toNat]) := hide (by
     unfold natL
     rw [take_succ' l k 0 hlt, List.map_append]; rfl)
    rw [hdr] at HI
    generalize l.getD k 0 = x at hck HTK HI
    have HI2 := hide (HI.out.trans (HSC.out _ _ _))
    have HS := hide hS
    clear hc hdr hS HI
    by_cases hx0 : x < 0
    ·have HF : Hid (IB = false) := hide (by rw [HI2.out, decide_eq_false (by omega)]; rfl)
     clear HI2
     go_wp2_with fail
     go_ret
     exact ⟨by rw [HF.out]; rfl, hw2⟩
    ·have hx0d : decide (x < 0) = false := decide_eq_false hx0
     by_cases hxn : x < n
     ·have hxnd : decide ((n : Int) ≤ x) = false := decide_eq_false (by omega)
      have HD : Hid (decide (0 ≤ x ∧ x < (n : Int)) = true) := hide (decide_eq_true (by omega))
      obtain ⟨y, rfl⟩ : ∃ y : Nat, x = y := ⟨x.toNat, by omega⟩
      have hy8 : y < 8 := by omega
      have hy8I : (y : Int) < 8 := by omega
      have t0 := bT.cell y (tabC_get _ y hy8)
      obtain ⟨T, hT⟩ : ∃ T : Nat, bitsO (fun a => R a y) = T := ⟨_, rfl⟩
      have hT8 : T < 256 := by rw [← hT]; exact bits_lt _
      rw [show setI R y = (T : Int) by show ((bitsO _ : Nat) : Int) = _; rw [hT]] at t0
      have hfx := HFB.out (natL (l.take k)) y hy8
      rw [hT, HS.out] at hfx
      have hb1 := bit_test (k := y) hS8
      have hb2 := less_zero (T := T) (S := S) hT8
      cases h1 : S.testBit y
      ·rw [h1] at hb1 hfx
       by_cases h2 : lessO T S = 0
       ·rw [decide_eq_true h2] at hb2 hfx
        have hb3 : (bits BinOp.andNot IntKind.i64 (T : Int) (S : Int) != 0) = false := by rw [bne, hb2]; rfl
        have hor := or_pow8w hS8 hy8
        have HB1 := hide (show bitsO (fun a => (natL (l.take (k + 1))).contains a) = S ||| 2 ^ y by
         rw [← HS.out, bits_one _ hy8, HTK.out]
         refine bits_congr fun a _ => ?_
         rw [List.contains_eq_mem, List.contains_eq_mem, ← Bool.decide_or, decide_eq_decide]
         simp)
        have HI3 : Hid (IB = scanO n R (natL (l.take (k + 1))) (l.drop (k + 1))) := hide (by
         rw [HI2.out, HD.out, show ((y : Int)).toNat = y from Int.toNat_natCast y, hfx, HTK.out]; rfl)
        clear h1 h2 hfx hT HI2 hb2
        go_wp2_with fail
        go_roundw
        case rel => exact ⟨k + 1, by have := HK.out; omega, by go_num, by rw [HB1.out], HI3, by first | trivial | rfl⟩
        case measure => have := HK.out; simp [intOf]; omega
       ·rw [decide_eq_false h2] at hb2 hfx
        have hb3 : (bits BinOp.andNot IntKind.i64 (T : Int) (S : Int) != 0) = true := by rw [bne, hb2]; rfl
        have HF : Hid (IB = false) := hide (by rw [HI2.out, HD.out, show ((y : Int)).toNat = y from Int.toNat_natCast y, hfx]; rfl)
        clear h1 h2 hfx hT HI2 hb2
        go_wp2_with fail
        go_ret
        exact ⟨by rw [HF.out]; rfl, hw2⟩
      ·rw [h1] at hb1 hfx
       have HF : Hid (IB = false) := hide (by rw [HI2.out, HD.out, show ((y : Int)).toNat = y from Int.toNat_natCast y, hfx]; rfl)
       clear h1 hfx hT HI2 hb2
       go_wp2_with fail
       go_ret
       exact ⟨by rw [HF.out]; rfl, hw2⟩
     ·have HF : Hid (IB = false) := hide (by rw [HI2.out, decide_eq_false (by omega)]; rfl)
      have hxn' : (n : Int) ≤ x := by omega
      clear HI2
      go_wp2_with fail
      go_ret
      exact ⟨by rw [HF.out]; rfl, hw2⟩
   ·obtain rfl : k = l.length := by omega
    have HF : Hid (IB = true) := hide (by rw [HI.out, List.drop_length, HS0.out])
    clear HI hS
    go_wp2_with fail
    go_ret
    exact ⟨by rw [HF.out]; rfl, hw2⟩
 ·have hlnI : ((l.length : Int) == n) = false := by simp; omega
  have hbne : ((l.length : Int) != n) = true := by rw [bne, hlnI]; rfl
  have HF : Hid (IB = false) := hide (by rw [HIB.out, decide_eq_false hln, Bool.false_and])
  clear hln
  go_wp2_with fail
  go_ret
  exact ⟨by rw [HF.out]; rfl, hw2⟩
end Go.Proofs.YtnidcoinfmcffaaDoor
