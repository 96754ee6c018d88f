/- Walks of package justify: isIn, isThing, Valid, isSet, meets (chapter 23). Conditions: how a valid theory lies in memory. -/
import Derived.Test.YtdjldidfnddpmaaGreatDoorJuC
import Derived.Test.YtdjldidfnddpmaaGreatDoorJuB
namespace Go.Proofs.YtdjldidfnddpmaaGreatDoor
open Go.RowKit
theorem bor62 {a b : Nat} (ha : a < 2 ^ 62) (hb : b < 2 ^ 62) : bits BinOp.or IntKind.i64 (a : Int) (b : Int) = ((a ||| b : Nat) : Int) := by
  have h := Nat.or_lt_two_pow ha hb
  show IntKind.i64.wrap ((BitVec.ofInt 64 (a : Int) ||| BitVec.ofInt 64 (b : Int)).toNat : Int) = _
  rw [BitVec.toNat_or, BitVec.ofInt_natCast, BitVec.ofInt_natCast, BitVec.toNat_ofNat, BitVec.toNat_ofNat, Nat.mod_eq_of_lt (by omega), Nat.mod_eq_of_lt (by omega), IntKind.wrap_i64]
  omega
theorem band62 {a b : Nat} (ha : a < 2 ^ 62) (_hb : b < 2 ^ 62) : bits BinOp.and IntKind.i64 (a : Int) (b : Int) = ((a &&& b : Nat) : Int) := by
  have h : a &&& b ≤ a := Nat.and_le_left
  show IntKind.i64.wrap ((BitVec.ofInt 64 (a : Int) &&& BitVec.ofInt 64 (b : Int)).toNat : Int) = _
  rw [BitVec.toNat_and, BitVec.ofInt_natCast, BitVec.ofInt_natCast, BitVec.toNat_ofNat, BitVec.toNat_ofNat, Nat.mod_eq_of_lt (by omega), Nat.mod_eq_of_lt (by omega), IntKind.wrap_i64]
  omega
theorem bit32 {S k : Nat} (hS : S < 2 ^ 32) : (bits BinOp.and IntKind.i64 ((S : Int) / 2 ^ k) 1 == 0) = !S.testBit k := by
  have e : (S : Int) / 2 ^ k = ((S / 2 ^ k : Nat) : Int) := by simp
  have hle : S / 2 ^ k ≤ S := Nat.div_le_self _ _
  rw [e, show (1 : Int) = ((1 : Nat) : Int) from rfl, band62 (by omega) (by decide), Nat.and_one_is_mod, Nat.testBit_eq_decide_div_mod_eq]
  have h2 : S / 2 ^ k % 2 < 2 := Nat.mod_lt _ (by decide)
  generalize S / 2 ^ k % 2 = q at *
  show decide ((q : Int) = 0) = !decide (q = 1)
  rw [← decide_not, decide_eq_decide]; omega
set_option maxHeartbeats 400000 in
theorem jisIn_eq (n lo hi : Int) (w : World) :
    Calls Tryz.prog 56 #[.int .i64 n, .int .i64 lo, .int .i64 hi] w fun e w' => e = .returned (.bool (inB n lo hi)) ∧ w' = w := by
  by_cases h1 : lo ≤ n
  · by_cases h2 : n ≤ hi
    all_goals
      have h3 := h1
      have h4 := h2
      go_enter Tryz.func56, Tryz.ntmps56
      go_wp2
      go_ret
      exact ⟨ret_bool (by rw [inB_eq]; simp; omega), rfl⟩
  · have h3 := h1
    go_enter Tryz.func56, Tryz.ntmps56
    go_wp2
    go_ret
    exact ⟨ret_bool (by rw [inB_eq]; simp; omega), rfl⟩
theorem isThing_any (s d : Nat) (a : Option Addr) (m c : Nat) (n : Int) (w : World) (hs : s ≤ 12) (hd : d ≤ 20) : Calls Tryz.prog 33 #[.agg #[.int .i64 s, .int .i64 d, .slice a m c], .int .i64 n] w (Ret (.bool (inB n 0 (((s + d : Nat) : Int) - 1))) w) := by
  have HC := hide (fun W => jisIn_eq n 0 (((s + d : Nat) : Int) - 1) W)
  generalize inB n 0 (((s + d : Nat) : Int) - 1) = b at HC
  have e1 : IntKind.i64.wrap ((s : Int) + d) = ((s + d : Nat) : Int) := by rw [IntWalk.i64_in _ ⟨by omega, by omega⟩]; omega
  have e2 : IntKind.i64.wrap (((s + d : Nat) : Int) - 1) = ((s + d : Nat) : Int) - 1 := IntWalk.i64_in _ ⟨by omega, by omega⟩
  generalize ((s + d : Nat) : Int) = z at e1 e2 HC
  clear hs hd
  go_enter Tryz.func33, Tryz.ntmps33
  go_wp2_with fail
  generalize hX1 : World.alloc w _ = X1
  have zX1 : X1.heap.size = w.heap.size + 1 := by rw [← hX1]; simp
  have bX1 : Below w.heap.size w X1 := by rw [← hX1]; exact bal w _
  have bT : Blk X1 (w.heap.size) [.int .i64 s, .int .i64 d, .slice a m c] 47 := by rw [← hX1]; exact Blk.newA w _ (by first | rfl | simp)
  have Xb := bX1
  have Xz := zX1
  clear hX1 zX1 bX1
  have t0 := bT.cell 0 rfl
  have t1 := bT.cell 1 rfl
  go_wp2_with fail
  refine (HC.out _).mono ?_
  rintro e w' ⟨rfl, hw⟩; obtain rfl := hw.symm
  go_wp2_with fail
  go_ret
  exact ⟨rfl, Xb⟩
/-- what the function value of Valid remembers -/
structure BadJ (w0 : World) (T L s d : Nat) (a : Option Addr) (m c : Nat) (l : List Int) (k : Nat) (W : World) : Prop where
  pt : Below L w0 W
  bt : Blk W T [.int .i64 s, .int .i64 d, .slice a m c] 47
  la : Blk W L [.int .i64 (prevF (-1) l k)] 3
set_option maxHeartbeats 1000000 in
theorem badc_any (w0 : World) (T L s d : Nat) (a : Option Addr) (m c : Nat) (l : List Int) (hs : s ≤ 12) (hd : d ≤ 20) (hTL : T < L) (k : Nat) (W : World) (hJ : BadJ w0 T L s d a m c l k W) :
    Calls Tryz.prog 80 #[.int .i64 (l.getD k 0), .pointer (some ⟨L, 0, none⟩), .pointer (some ⟨T, 0, none⟩)] W (fun e w' => e = .returned (.bool (decide (l.getD k 0 ≤ prevF (-1) l k) || !inB (l.getD k 0) 0 (((s + d : Nat) : Int) - 1))) ∧ Below L w0 w' ∧ ((decide (l.getD k 0 ≤ prevF (-1) l k) || !inB (l.getD k 0) 0 (((s + d : Nat) : Int) - 1)) = false → BadJ w0 T L s d a m c l (k + 1) w')) := by
  obtain ⟨pt, bt, la⟩ := hJ
  have hpn : prevF (-1) l (k + 1) = l.getD k 0 := rfl
  have HT := hide (fun W' => isThing_any s d a m c (l.getD k 0) W' hs hd)
  have HJ : Hid (∀ W', Below L w0 W' → Blk W' T [.int .i64 s, .int .i64 d, .slice a m c] 47 → Blk W' L [.int .i64 (l.getD k 0)] 3 → BadJ w0 T L s d a m c l (k + 1) W') := hide fun W' x y z => ⟨x, y, by rw [hpn]; exact z⟩
  clear hpn
  have hlL := la.lt
  have htT := bt.lt
  generalize inB (l.getD k 0) 0 (((s + d : Nat) : Int) - 1) = b at HT
  generalize prevF (-1) l k = p at la
  generalize l.getD k 0 = x at HT HJ
  have cl := la.cell 0 rfl
  have fl := la.frozen 0
  have la' := la.set 0 (.int .i64 x)
  have bt' := bt.other (show T ≠ L by omega) 0 (.int .i64 x)
  have pt' := Below.setCell pt (p := ⟨L, 0, none⟩) (Nat.le_refl _) (.int .i64 x)
  have c0 := bt'.cell 0 rfl
  have c1 := bt'.cell 1 rfl
  have c2 := bt'.cell 2 rfl
  clear hlL htT hTL hs hd
  by_cases hx : x ≤ p
  · have HX := hide (decide_eq_true hx)
    go_enter Tryz.func80, Tryz.ntmps80
    go_wp2_with fail
    go_ret
    exact ⟨ret_bool (by rw [HX.out]; rfl), pt', fun h => by rw [HX.out] at h; cases h⟩
  · have HX := hide (decide_eq_false hx)
    go_enter Tryz.func80, Tryz.ntmps80
    go_wp2_with fail
    generalize W.setCell ⟨L, 0, none⟩ (.int .i64 x) = X at la' bt' pt' c0 c1 c2
    refine (HT.out _).mono ?_
    rintro e w' ⟨rfl, hw⟩
    have r1 := la'.later hw
    have r2 := bt'.later hw
    have r3 := pt'.trans (hw.mono (Nat.le_of_lt la'.lt))
    go_wp2_with fail
    go_ret
    exact ⟨ret_bool (by rw [HX.out]; rfl), r3, fun _ => HJ.out _ r3 r2 r1⟩
end Go.Proofs.YtdjldidfnddpmaaGreatDoor
