/- The walk of closed (chapter 15). Conditions: how the order lies in memory. -/
import Derived.Test.YtnidcoinfmcffaaDoorOqA
namespace Go.Proofs.YtnidcoinfmcffaaDoor
open Go.RowKit
theorem bor_nat {a b : Nat} (ha : a < 2 ^ 62) (hb : b < 2 ^ 62) : bits BinOp.or IntKind.i64 (a : Int) (b : Int) = ((a ||| b : Nat) : Int) := by
 have h := Nat.or_lt_two_pow ha hb
 show IntKind.i64.wrap ((BitVec.ofInt 64 (a : Int) ||| BitVec.ofInt 64 (b : Int)).toNat : Int) = _
 rw [BitVec.toNat_or, BitVec.ofInt_natCast, BitVec.ofInt_natCast, BitVec.toNat_ofNat, BitVec.toNat_ofNat, Nat.mod_eq_of_lt (by omega), Nat.mod_eq_of_lt (by omega), IntKind.wrap_i64]
 omega
theorem band_nat {a b : Nat} (ha : a < 2 ^ 62) (_hb : b < 2 ^ 62) : bits BinOp.and IntKind.i64 (a : Int) (b : Int) = ((a &&& b : Nat) : Int) := by
 have h : a &&& b ≤ a := Nat.and_le_left
 show IntKind.i64.wrap ((BitVec.ofInt 64 (a : Int) &&& BitVec.ofInt 64 (b : Int)).toNat : Int) = _
 rw [BitVec.toNat_and, BitVec.ofInt_natCast, BitVec.ofInt_natCast, BitVec.toNat_ofNat, BitVec.toNat_ofNat, Nat.mod_eq_of_lt (by omega), Nat.mod_eq_of_lt (by omega), IntKind.wrap_i64]
 omega
/-- a without the bits of b -/
def lessO (a b : Nat) : Nat := (BitVec.ofNat 64 a &&& ~~~(BitVec.ofNat 64 b)).toNat
theorem less_le (a b : Nat) (ha : a < 2 ^ 62) : lessO a b ≤ a := by
 unfold lessO
 rw [BitVec.toNat_and, BitVec.toNat_ofNat, Nat.mod_eq_of_lt (by omega)]
 exact Nat.and_le_left
theorem less_bit {a b : Nat} (ha : a < 2 ^ 62) (_hb : b < 2 ^ 62) (k : Nat) : (lessO a b).testBit k = (a.testBit k && !b.testBit k) := by
 unfold lessO
 rw [BitVec.testBit_toNat, BitVec.getLsbD_and, BitVec.getLsbD_not, BitVec.getLsbD_ofNat, BitVec.getLsbD_ofNat]
 by_cases h : k < 64
 ·simp [h]
 ·have e : a.testBit k = false := Nat.testBit_lt_two_pow (Nat.lt_of_lt_of_le ha (Nat.pow_le_pow_right (by decide) (by omega)))
  simp [h, e]
theorem bless_nat {a b : Nat} (ha : a < 2 ^ 62) : bits BinOp.andNot IntKind.i64 (a : Int) (b : Int) = ((lessO a b : Nat) : Int) := by
 have h := less_le a b ha
 show IntKind.i64.wrap ((BitVec.ofInt 64 (a : Int) &&& ~~~(BitVec.ofInt 64 (b : Int))).toNat : Int) = _
 rw [BitVec.ofInt_natCast, BitVec.ofInt_natCast]
 show IntKind.i64.wrap ((lessO a b : Nat) : Int) = _
 rw [IntKind.wrap_i64]
 omega
theorem pow_nat8 {x : Nat} (hx : x ≤ 8) : 2 ^ x ≤ 256 := Nat.pow_le_pow_right (by decide) hx
theorem wrap_pow {x : Nat} (hx : x ≤ 8) : IntKind.i64.wrap (2 ^ x) = ((2 ^ x : Nat) : Int) := by
 have h := pow_nat8 hx
 have e : (2 : Int) ^ x = ((2 ^ x : Nat) : Int) := by simp
 rw [e, IntKind.wrap_i64]
 generalize 2 ^ x = T at *
 omega
theorem or_pow8 {S x : Nat} (hS : S < 256) (hx : x < 8) : bits BinOp.or IntKind.i64 (S : Int) (IntKind.i64.wrap (2 ^ x)) = ((S ||| 2 ^ x : Nat) : Int) := by
 rw [wrap_pow (by omega), bor_nat (by omega) (by have := pow_nat8 (x := x) (by omega); omega)]
theorem bit_test {S k : Nat} (hS : S < 256) : (bits BinOp.and IntKind.i64 ((S : Int) / 2 ^ k) 1 == 1) = S.testBit k := by
 have e : (S : Int) / 2 ^ k = ((S / 2 ^ k : Nat) : Int) := by simp
 have hle : S / 2 ^ k ≤ S := Nat.div_le_self _ _
 rw [e, show (1 : Int) = ((1 : Nat) : Int) from rfl, band_nat (by omega) (by decide), Nat.and_one_is_mod, Nat.testBit_eq_decide_div_mod_eq]
 generalize S / 2 ^ k % 2 = q
 show decide ((q : Int) = ((1 : Nat) : Int)) = _
 rw [decide_eq_decide]; omega
theorem or_nat8 {S T : Nat} (hS : S < 256) (hT : T < 256) : bits BinOp.or IntKind.i64 (S : Int) (T : Int) = ((S ||| T : Nat) : Int) := bor_nat (by omega) (by omega)
def zeroO : RelO := fun _ _ => false
abbrev TabG (w X : World) (O : Nat) (R : RelO) (W : World) : Prop := BoxG w X O 65 (tabC R) (tabC R) true W
theorem rel_next {l : List (Int × Int)} {x y : Nat} (k : Nat) (hk : k < l.length) (_hx : x < 8) (hy : y < 8) (he : l.getD k (0, 0) = ((x : Int), (y : Int))) :
  tabC (rowO (relP (l.take k)) y fun a => relP (l.take k) a y || decide (a = x)) = tabC (relP (l.take (k + 1))) := tabC_congr fun a b _ _ => by
 have e : relP (l.take (k + 1)) a b = (relP (l.take k) a b || decide (((x : Int), (y : Int)) = ((a : Int), (b : Int)))) := by
  unfold relP
  rw [take_succ' l k (0, 0) hk, List.any_append, he]; simp
 rw [e]
 unfold rowO
 split
 ·rename_i h; subst h
  show (relP (l.take k) a b || decide (a = x)) = _
  congr 1
  rw [decide_eq_decide]
  simp; omega
 ·rename_i h
  have : decide (((x : Int), (y : Int)) = ((a : Int), (b : Int))) = false := decide_eq_false fun e => h (by have := (Prod.mk.inj e).2; omega)
  rw [this, Bool.or_false]
theorem TabG.put {w X W : World} {O : Nat} {R : RelO} (h : TabG w X O R W) (hO : w.heap.size ≤ O) {y : Nat} (hy : y < 8) (p : Nat → Bool) : TabG w X O (rowO R y p) (W.setCell ⟨O, y, none⟩ (.int .i64 ((bitsO p : Nat) : Int))) :=
 ⟨h.hb.setCell (p := ⟨O, y, none⟩) hO _, h.hE.trans (Eff.setCell _ _ _ _), by
  have := h.done.set y (.int .i64 ((bitsO p : Nat) : Int))
  rw [tabC_set R p y hy] at this
  exact this⟩
theorem TabG.eq {w X W : World} {O : Nat} {R S : RelO} (h : TabG w X O R W) (e : tabC R = tabC S) : TabG w X O S W :=
 ⟨h.hb, h.hE, by have := h.done; rw [e] at this; exact this⟩
/-- the table while the things that may come between are gone through: the first b things have been done -/
def midO (r : RelO) (k b : Nat) : RelO := fun x y => if y < b then relK r (k + 1) x y else relK r k x y
theorem mid_zero (r : RelO) (k : Nat) : tabC (relK r k) = tabC (midO r k 0) := tabC_congr fun a b _ _ => by unfold midO; rw [if_neg (by omega)]
theorem mid_full {r : RelO} {n : Nat} (hd : ∀ a b, r a b = true → a < n ∧ b < n) (k : Nat) : tabC (midO r k n) = tabC (relK r (k + 1)) := tabC_congr fun a b _ _ => by
 unfold midO
 split
 ·rfl
 ·rename_i h
  have : ∀ j, relK r j a b = false := fun j => by
   cases e : relK r j a b with
   | false => rfl
   | true => exact absurd (relK_dom hd j e).2 h
  rw [this, this]
theorem mid_b (r : RelO) (k b : Nat) : (fun a => midO r k b a b) = fun a => relK r k a b := by
 funext a; unfold midO; rw [if_neg (Nat.lt_irrefl b)]
theorem mid_k (r : RelO) (k b : Nat) : (fun a => midO r k b a k) = fun a => relK r k a k := by
 funext a; unfold midO
 split
 ·show (relK r k a k || (relK r k a k && relK r k k k)) = _
  cases relK r k a k <;> rfl
 ·rfl
theorem mid_yes {r : RelO} {k b : Nat} (h : relK r k k b = true) : tabC (rowO (midO r k b) b fun a => relK r k a b || relK r k a k) = tabC (midO r k (b + 1)) := tabC_congr fun x y _ _ => by
 unfold rowO midO
 by_cases e : y = b
 ·subst e
  rw [if_pos rfl, if_pos (Nat.lt_succ_self _)]
  show _ = (relK r k x y || (relK r k x k && relK r k k y))
  rw [h, Bool.and_true]
 ·rw [if_neg e]
  by_cases h2 : y < b
  ·rw [if_pos h2, if_pos (by omega)]
  ·rw [if_neg h2, if_neg (by omega)]
theorem mid_no {r : RelO} {k b : Nat} (h : relK r k k b = false) : tabC (midO r k b) = tabC (midO r k (b + 1)) := tabC_congr fun x y _ _ => by
 unfold midO
 by_cases e : y = b
 ·subst e
  rw [if_neg (Nat.lt_irrefl _), if_pos (Nat.lt_succ_self _)]
  show _ = (relK r k x y || (relK r k x k && relK r k k y))
  rw [h, Bool.and_false, Bool.or_false]
 ·by_cases h2 : y < b
  ·rw [if_pos h2, if_pos (by omega)]
  ·rw [if_neg h2, if_neg (by omega)]
theorem blk8 {W : World} {b : Nat} {t : TypeId} {v0 v1 v2 v3 v4 v5 v6 v7 : Value} (h : Blk W b [v0, v1, v2, v3, v4, v5, v6, v7] t) (u0 u1 u2 u3 u4 u5 u6 u7 : Value) :
  Blk ((((((((W.setCell ⟨b, 0, none⟩ u0).setCell ⟨b, 1, none⟩ u1).setCell ⟨b, 2, none⟩ u2).setCell ⟨b, 3, none⟩ u3).setCell ⟨b, 4, none⟩ u4).setCell ⟨b, 5, none⟩ u5).setCell ⟨b, 6, none⟩ u6).setCell ⟨b, 7, none⟩ u7) b [u0, u1, u2, u3, u4, u5, u6, u7] t :=
 (((((((h.set 0 u0).set 1 u1).set 2 u2).set 3 u3).set 4 u4).set 5 u5).set 6 u6).set 7 u7
theorem below8 {w W : World} {b : Nat} (h : Below w.heap.size w W) (hb : w.heap.size ≤ b) (u0 u1 u2 u3 u4 u5 u6 u7 : Value) :
  Below w.heap.size w ((((((((W.setCell ⟨b, 0, none⟩ u0).setCell ⟨b, 1, none⟩ u1).setCell ⟨b, 2, none⟩ u2).setCell ⟨b, 3, none⟩ u3).setCell ⟨b, 4, none⟩ u4).setCell ⟨b, 5, none⟩ u5).setCell ⟨b, 6, none⟩ u6).setCell ⟨b, 7, none⟩ u7) :=
 (((((((h.setCell (p := ⟨b, 0, none⟩) hb _).setCell (p := ⟨b, 1, none⟩) hb _).setCell (p := ⟨b, 2, none⟩) hb _).setCell (p := ⟨b, 3, none⟩) hb _).setCell (p := ⟨b, 4, none⟩) hb _).setCell (p := ⟨b, 5, none⟩) hb _).setCell (p := ⟨b, 6, none⟩) hb _).setCell (p := ⟨b, 7, none⟩) hb _
set_option maxRecDepth 100000 in
set_option maxHeartbeats 2000000 in
theorem closed_any (n : Nat) (ps : List (Int × Int)) (pv : Value) (w : World) (hp : PairsIn w.cell? pv ps) (hF : formedO ⟨n, ps⟩ = true) : Calls Tryd.prog 79 #[orderV n pv] w (Ret (.tuple #[tabV (relK (relP ps) n), .bool (acycO n (relK (relP ps) n))]) w) := by
 obtain ⟨pa, pm, rfl, hp1, hp2, -⟩ := id hp
 have hpl : (ps.length : Int) ≤ 9223372036854775807 := by omega
 have HPI := hide hp
 obtain ⟨⟨-, hn8⟩, hp28, hpk⟩ := formed_n hF
 have hd := relP_dom hF
 simp only [Int.toNat_natCast] at hn8 hp28 hpk hd
 have HD := hide hd
 have HPK := hide hpk
 clear hp hp1 hp2 hpk hd hF
 go_enter Tryd.func79, Tryd.ntmps79
 go_wp2_with fail
 generalize hX1 : World.alloc w _ = X1
 have zX1 : X1.heap.size = w.heap.size + 1 := by rw [← hX1]; simp
 have bX1 : Below w.heap.size w X1 := by rw [← hX1]; exact bal w _
 have bO_1 : Blk X1 (w.heap.size) [.int .i64 (n : Int), .slice pa ps.length pm] 25 := by rw [← hX1]; exact Blk.newA w _ (by first | rfl | simp)
 generalize hX2 : World.alloc X1 _ = X2
 have zX2 : X2.heap.size = w.heap.size + 1 + 1 := by rw [← hX2]; simp [zX1]
 have bX2 : Below X1.heap.size X1 X2 := by rw [← hX2]; exact bal X1 _
 have bR_2 : Blk X2 (w.heap.size + 1) (tabC zeroO) 65 := by rw [← hX2, ← zX1]; exact Blk.newA X1 _ (by first | rfl | simp)
 have bO_2 := bO_1.later bX2
 generalize hX3 : World.alloc X2 _ = X3
 have zX3 : X3.heap.size = w.heap.size + 1 + 1 + 1 := by rw [← hX3]; simp [zX2]
 have bX3 : Below X2.heap.size X2 X3 := by rw [← hX3]; exact bal X2 _
 have bT : Blk X3 (w.heap.size + 1 + 1) (tabC zeroO) 65 := by rw [← hX3, ← zX2]; exact Blk.newA X2 _ (by first | rfl | simp)
 have bO := bO_2.later bX3
 have bR := bR_2.later bX3
 have Xb := below2 (below2 (bX1) bX2) bX3
 have Xz := zX3
 clear hX1 zX1 bX1 hX2 zX2 bX2 hX3 zX3 bX3 bO_1 bO_2 bR_2
 have c0 := bO.cell 0 rfl
 have c1 := bO.cell 1 rfl
 have hG0 : TabG w X3 (w.heap.size + 1 + 1) (relP (ps.take 0)) X3 := ⟨Xb, Eff.of_below (Below.refl _ _) _, bT⟩
 go_wp2_with fail
 go_loopw [13] (fun i wr => ∃ k : Nat, k ≤ ps.length ∧ i = .int .i64 k ∧ TabG w X3 (w.heap.size + 1 + 1) (relP (ps.take k)) wr) (fun i _ => ps.length - (intOf i).toNat)
 case atStart => exact ⟨0, by omega, rfl, hG0⟩
 case round =>
  obtain ⟨k, hk, rfl, hG⟩ := hrel
  by_cases hlt : k < ps.length
  ·have hltI : (k : Int) < ps.length := by omega
   have HK := hide hlt
   obtain ⟨a', n', e', -, -, hc⟩ := HPI.out.below hG.hb
   cases e'
   obtain ⟨b, o', rfl, hck⟩ := hc k hlt
   have hpk := HPK.out _ (getD_mem ps k (d := (0, 0)) hlt)
   obtain ⟨p, hpe⟩ : ∃ p, ps.getD k (0, 0) = p := ⟨_, rfl⟩
   rw [hpe] at hck hpk
   obtain ⟨p0, p1⟩ := p
   obtain ⟨g0, g1, g2, g3, -⟩ := hpk
   obtain ⟨x, rfl⟩ : ∃ x : Nat, p0 = x := ⟨p0.toNat, by omega⟩
   obtain ⟨y, rfl⟩ : ∃ y : Nat, p1 = y := ⟨p1.toNat, by omega⟩
   have HPE := hide hpe
   clear hpe
   have d0 := hck 0 _ rfl
   rw [Nat.add_zero] at d0
   have d1 := hck 1 _ rfl
   go_wp2_with fail
   generalize hV1 : World.alloc wr _ = V1
   have zV1 : V1.heap.size = wr.heap.size + 1 := by rw [← hV1]; simp
   have bV1 : Below wr.heap.size wr V1 := by rw [← hV1]; exact bal wr _
   have bP : Blk V1 (wr.heap.size) [.int .i64 x, .int .i64 y] 46 := by rw [← hV1]; exact Blk.newA wr _ (by first | rfl | simp)
   have Vb := bV1
   have Vz := zV1
   clear hV1 zV1 bV1
   have bTV := hG.done.later Vb
   have hx8 : x < 8 := by omega
   have hy8 : y < 8 := by omega
   have hx8I : (x : Int) < 8 := by omega
   have hy8I : (y : Int) < 8 := by omega
   have t0 := bTV.cell y (tabC_get _ y hy8)
   have tf := bTV.frozen y
   have q0 := bP.cell 0 rfl
   have q1 := bP.cell 1 rfl
   clear hc hck d0 d1
   have hS8 := set_lt (relP (ps.take k)) y
   have HNX := hide (rel_next k hlt hx8 hy8 HPE.out)
   generalize hRK : relP (ps.take k) = RK at *
   have hRKc := hRK
   obtain ⟨S, hS⟩ : ∃ S : Nat, bitsO (fun a => RK a y) = S := ⟨_, rfl⟩
   rw [show setI RK y = (S : Int) by show ((bitsO _ : Nat) : Int) = _; rw [hS]] at t0
   rw [hS] at hS8
   have hor := or_pow8 hS8 hx8
   have HS := hide hS
   clear hS hRK hRKc
   refine wp_region_still_tail 9 (by kernel_rfl) (by kernel_rfl) ?_
   simp only [List.take_succ_cons, List.take_zero, List.drop_succ_cons, List.drop_zero]
   repeat (with_reducible refine wpStill_step (fun K hK => ?_) ; go_simp ; with_reducible refine hK _ ?_ ; clear hK K)
   refine wpStill_nil ?_
   change wpList _ _ _ _ _ V1.drew
   have hbd : Below V1.heap.size V1 V1.drew := (Below.refl _ _).drew
   generalize V1.drew = V2 at hbd ⊢
   have hG2 := hG.later (below2 Vb hbd)
   have z0 := hG2.done.cell y (tabC_get _ y hy8)
   have zf := hG2.done.frozen y
   have HG3 : Hid (TabG w X3 (w.heap.size + 1 + 1) (relP (ps.take (k + 1))) (V2.setCell ⟨w.heap.size + 1 + 1, y, none⟩ (.int .i64 ((S ||| 2 ^ x : Nat) : Int)))) := hide (by
    have h := (TabG.put hG2 (by omega) hy8 fun a => RK a y || decide (a = x)).eq HNX.out
    rw [← bits_one _ hx8, HS.out] at h
    exact h)
   clear hG2 hbd bTV t0 tf q0 q1 hG bP Vb
   go_wp2_with fail
   go_roundw
   case rel => exact ⟨k + 1, by have := HK.out; omega, by go_num, HG3.out⟩
   case measure => have := HK.out; simp [intOf]; omega
  ·obtain rfl : k = ps.length := by omega
   rw [List.take_length] at hG
   have HDD := hide HD.out
   generalize relP ps = r at *
   have hn8' : n ≤ 8 := by omega
   have HN8 := hide hn8'
   have hG' : TabG w X3 (w.heap.size + 1 + 1) (relK r 0) wr := hG
   have o0 := (hG.blk bO (show w.heap.size ≠ w.heap.size + 1 + 1 by omega)).cell 0 rfl
   clear hG c0 c1 hG0 hlt hk bT
   go_wp2_with fail
   go_loopw [29] (fun i wr => ∃ k : Nat, k ≤ n ∧ i = .int .i64 k ∧ TabG w X3 (w.heap.size + 1 + 1) (relK r k) wr) (fun i _ => n - (intOf i).toNat)
   case atStart => exact ⟨0, by omega, rfl, hG'⟩
   case round =>
    obtain ⟨k, hk, rfl, hG⟩ := hrel
    by_cases hlt : k < n
    ·have hltI : (k : Int) < n := by omega
     have HK := hide hlt
     have hk8 : k < 8 := by omega
     have hk8I : (k : Int) < 8 := by omega
     have o0 := (hG.blk bO (show w.heap.size ≠ w.heap.size + 1 + 1 by omega)).cell 0 rfl
     have hG'' := TabG.eq hG (mid_zero r k)
     clear hG
     go_wp2_with fail
     go_loopw [34] (fun j wz => ∃ b : Nat, b ≤ n ∧ j = .int .i64 b ∧ TabG w X3 (w.heap.size + 1 + 1) (midO r k b) wz) (fun j _ => n - (intOf j).toNat)
     case atStart => exact ⟨0, by omega, rfl, hG''⟩
     case round =>
      obtain ⟨b, hb, rfl, hG⟩ := hrel
      by_cases hlb : b < n
      ·have hlbI : (b : Int) < n := by omega
       have HB := hide hlb
       have hb8 : b < 8 := by omega
       have hb8I : (b : Int) < 8 := by omega
       have t0 := hG.done.cell b (tabC_get _ b hb8)
       obtain ⟨S, hS⟩ : ∃ S : Nat, bitsO (fun a => relK r k a b) = S := ⟨_, rfl⟩
       have hS8 : S < 256 := by rw [← hS]; exact bits_lt _
       rw [show setI (midO r k b) b = (S : Int) by show ((bitsO _ : Nat) : Int) = _; rw [mid_b, hS]] at t0
       have hbt := bit_test (k := k) hS8
       rw [← hS, bits_test, decide_eq_true hk8, Bool.true_and, hS] at hbt
       cases hr : relK r k k b
       ·rw [hr] at hbt
        have HG1 := hide (TabG.eq hG (mid_no hr))
        clear hG hr hS
        go_wp2_with fail
        go_roundw
        case rel => exact ⟨b + 1, by have := HB.out; omega, by go_num, HG1.out⟩
        case measure => have := HB.out; simp [intOf]; omega
       ·rw [hr] at hbt
        obtain ⟨T, hT⟩ : ∃ T : Nat, bitsO (fun a => relK r k a k) = T := ⟨_, rfl⟩
        have hT8 : T < 256 := by rw [← hT]; exact bits_lt _
        have tk := hG.done.cell k (tabC_get _ k hk8)
        rw [show setI (midO r k b) k = (T : Int) by show ((bitsO _ : Nat) : Int) = _; rw [mid_k, hT]] at tk
        have hor := or_nat8 hS8 hT8
        have HMY := hide (mid_yes hr)
        have HST := hide (And.intro hS hT)
        clear hr hS hT
        go_wp2_with fail
        refine wp_region_still_tail 8 (by kernel_rfl) (by kernel_rfl) ?_
        simp only [List.take_succ_cons, List.take_zero, List.drop_succ_cons, List.drop_zero]
        repeat (with_reducible refine wpStill_step (fun K hK => ?_) ; go_simp ; with_reducible refine hK _ ?_ ; clear hK K)
        refine wpStill_nil ?_
        change wpList _ _ _ _ _ wr.drew
        have hbd : Below wr.heap.size wr wr.drew := (Below.refl _ _).drew
        generalize World.drew wr = V2 at hbd ⊢
        have hG2 := hG.later hbd
        have z0 := hG2.done.cell b (tabC_get _ b hb8)
        have zf := hG2.done.frozen b
        have HG3 : Hid (TabG w X3 (w.heap.size + 1 + 1) (midO r k (b + 1)) (V2.setCell ⟨w.heap.size + 1 + 1, b, none⟩ (.int .i64 ((S ||| T : Nat) : Int)))) := hide (by
         have h := (TabG.put hG2 (by omega) hb8 fun a => relK r k a b || relK r k a k).eq HMY.out
         rw [← bits_or, HST.out.1, HST.out.2] at h
         exact h)
        clear hG2 hbd t0 tk hG
        go_wp2_with fail
        go_roundw
        case rel => exact ⟨b + 1, by have := HB.out; omega, by go_num, HG3.out⟩
        case measure => have := HB.out; simp [intOf]; omega
      ·obtain rfl : b = n := by omega
       have HGF := hide (TabG.eq hG (mid_full HDD.out k))
       clear hG
       go_wp2_with fail
       go_roundw
       case rel => exact ⟨k + 1, by have := HK.out; omega, by go_num, HGF.out⟩
       case measure => have := HK.out; simp [intOf]; omega
    ·obtain rfl : k = n := by omega
     have o0 := (hG.blk bO (show w.heap.size ≠ w.heap.size + 1 + 1 by omega)).cell 0 rfl
     have hA0 : Hid ((List.range 0).any (fun a => relK r k a a) = false) := hide rfl
     generalize relK r k = R at *
     have HG := hide hG
     have bTk := hG.done
     have bRk := hG.blk bR (show w.heap.size + 1 ≠ w.heap.size + 1 + 1 by omega)
     clear hG hlt hk hG'
     go_wp2_with fail
     go_loopw [56] (fun i wz => ∃ a : Nat, a ≤ k ∧ i = .int .i64 a ∧ Hid ((List.range a).any (fun a => R a a) = false) ∧ wz = wr) (fun i _ => k - (intOf i).toNat)
     case atStart => exact ⟨0, by omega, rfl, hA0, rfl⟩
     case round =>
      obtain ⟨a, ha, rfl, HA, rfl⟩ := hrel
      by_cases hla : a < k
      ·have hlaI : (a : Int) < k := by omega
       have HB := hide hla
       have ha8 : a < 8 := by omega
       have ha8I : (a : Int) < 8 := by omega
       have t0 := bTk.cell a (tabC_get _ a ha8)
       obtain ⟨S, hS⟩ : ∃ S : Nat, bitsO (fun x => R x a) = S := ⟨_, rfl⟩
       have hS8 : S < 256 := by rw [← hS]; exact bits_lt _
       rw [show setI R a = (S : Int) by show ((bitsO _ : Nat) : Int) = _; rw [hS]] at t0
       have hbt := bit_test (k := a) hS8
       rw [← hS, bits_test, decide_eq_true ha8, Bool.true_and, hS] at hbt
       cases hr : R a a
       ·rw [hr] at hbt
        have HA1 : Hid ((List.range (a + 1)).any (fun a => R a a) = false) := hide (by rw [List.range_succ, List.any_append, HA.out]; simp [hr])
        clear hr hS
        go_wp2_with fail
        go_roundw
        case rel => exact ⟨a + 1, by have := HB.out; omega, by go_num, HA1, by first | trivial | rfl⟩
        case measure => have := HB.out; simp [intOf]; omega
       ·rw [hr] at hbt
        have HAC : Hid (acycO k R = false) := hide (by
         unfold acycO
         rw [List.all_eq_false]
         exact ⟨a, List.mem_range.2 hla, by rw [hr]; simp⟩)
        clear hr hS
        have m0 := bTk.cell 0 rfl
        have m1 := bTk.cell 1 rfl
        have m2 := bTk.cell 2 rfl
        have m3 := bTk.cell 3 rfl
        have m4 := bTk.cell 4 rfl
        have m5 := bTk.cell 5 rfl
        have m6 := bTk.cell 6 rfl
        have m7 := bTk.cell 7 rfl
        have r0 := bRk.cell 0 rfl
        have r1 := bRk.cell 1 rfl
        have r2 := bRk.cell 2 rfl
        have r3 := bRk.cell 3 rfl
        have r4 := bRk.cell 4 rfl
        have r5 := bRk.cell 5 rfl
        have r6 := bRk.cell 6 rfl
        have r7 := bRk.cell 7 rfl
        have rf0 := bRk.frozen 0
        have rf1 := bRk.frozen 1
        have rf2 := bRk.frozen 2
        have rf3 := bRk.frozen 3
        have rf4 := bRk.frozen 4
        have rf5 := bRk.frozen 5
        have rf6 := bRk.frozen 6
        have rf7 := bRk.frozen 7
        go_wp2_with fail
        have q := blk8 bRk (.int .i64 (setI R 0)) (.int .i64 (setI R 1)) (.int .i64 (setI R 2)) (.int .i64 (setI R 3)) (.int .i64 (setI R 4)) (.int .i64 (setI R 5)) (.int .i64 (setI R 6)) (.int .i64 (setI R 7))
        have HQ := hide (below8 HG.out.hb (show w.heap.size ≤ w.heap.size + 1 by omega) (.int .i64 (setI R 0)) (.int .i64 (setI R 1)) (.int .i64 (setI R 2)) (.int .i64 (setI R 3)) (.int .i64 (setI R 4)) (.int .i64 (setI R 5)) (.int .i64 (setI R 6)) (.int .i64 (setI R 7)))
        clear m0 m1 m2 m3 m4 m5 m6 m7 r0 r1 r2 r3 r4 r5 r6 r7 rf0 rf1 rf2 rf3 rf4 rf5 rf6 rf7
        have x0 := q.cell 0 rfl
        have x1 := q.cell 1 rfl
        have x2 := q.cell 2 rfl
        have x3 := q.cell 3 rfl
        have x4 := q.cell 4 rfl
        have x5 := q.cell 5 rfl
        have x6 := q.cell 6 rfl
        have x7 := q.cell 7 rfl
        refine bodyPost_ret (v := .tuple #[tabV R, .bool false]) (by simp [results, Tryd.results79, go_sem, x0, x1, x2, x3, x4, x5, x6, x7]) rfl ?_
        exact ⟨by rw [HAC.out], HQ.out⟩
      ·obtain rfl : a = k := by omega
       have HAC : Hid (acycO a R = true) := hide (by
        unfold acycO
        have := HA.out
        rw [List.any_eq_false] at this
        rw [List.all_eq_true]
        intro x hx
        have := this x hx
        simpa using this)
       have m0 := bTk.cell 0 rfl
       have m1 := bTk.cell 1 rfl
       have m2 := bTk.cell 2 rfl
       have m3 := bTk.cell 3 rfl
       have m4 := bTk.cell 4 rfl
       have m5 := bTk.cell 5 rfl
       have m6 := bTk.cell 6 rfl
       have m7 := bTk.cell 7 rfl
       have r0 := bRk.cell 0 rfl
       have r1 := bRk.cell 1 rfl
       have r2 := bRk.cell 2 rfl
       have r3 := bRk.cell 3 rfl
       have r4 := bRk.cell 4 rfl
       have r5 := bRk.cell 5 rfl
       have r6 := bRk.cell 6 rfl
       have r7 := bRk.cell 7 rfl
       have rf0 := bRk.frozen 0
       have rf1 := bRk.frozen 1
       have rf2 := bRk.frozen 2
       have rf3 := bRk.frozen 3
       have rf4 := bRk.frozen 4
       have rf5 := bRk.frozen 5
       have rf6 := bRk.frozen 6
       have rf7 := bRk.frozen 7
       go_wp2_with fail
       have q := blk8 bRk (.int .i64 (setI R 0)) (.int .i64 (setI R 1)) (.int .i64 (setI R 2)) (.int .i64 (setI R 3)) (.int .i64 (setI R 4)) (.int .i64 (setI R 5)) (.int .i64 (setI R 6)) (.int .i64 (setI R 7))
       have HQ := hide (below8 HG.out.hb (show w.heap.size ≤ w.heap.size + 1 by omega) (.int .i64 (setI R 0)) (.int .i64 (setI R 1)) (.int .i64 (setI R 2)) (.int .i64 (setI R 3)) (.int .i64 (setI R 4)) (.int .i64 (setI R 5)) (.int .i64 (setI R 6)) (.int .i64 (setI R 7)))
       clear m0 m1 m2 m3 m4 m5 m6 m7 r0 r1 r2 r3 r4 r5 r6 r7 rf0 rf1 rf2 rf3 rf4 rf5 rf6 rf7
       have x0 := q.cell 0 rfl
       have x1 := q.cell 1 rfl
       have x2 := q.cell 2 rfl
       have x3 := q.cell 3 rfl
       have x4 := q.cell 4 rfl
       have x5 := q.cell 5 rfl
       have x6 := q.cell 6 rfl
       have x7 := q.cell 7 rfl
       refine bodyPost_ret (v := .tuple #[tabV R, .bool true]) (by simp [results, Tryd.results79, go_sem, x0, x1, x2, x3, x4, x5, x6, x7]) rfl ?_
       exact ⟨by rw [HAC.out], HQ.out⟩
end Go.Proofs.YtnidcoinfmcffaaDoor
