/- The walks of listed and Holds (chapter 23), with math/bits.TrailingZeros for sets below 2^32. Conditions: how a valid theory and the tables of math/bits lie in memory. -/
import Derived.Test.YtdjldidfnddpmaaGreatDoorJuF
import Derived.Deep.DeepCutAuto
import Derived.Laws.Bits64
namespace Go.Proofs.YtdjldidfnddpmaaGreatDoor
open Go.RowKit
/-- block g holds the cells vs -/
def GBlk (w : World) (g : Nat) (vs : List Value) : Prop := ∃ t m, w.heap[g]? = some (.cells vs.toArray t m)
theorem GBlk.lt {w : World} {g : Nat} {vs : List Value} (h : GBlk w g vs) : g < w.heap.size := by
  obtain ⟨t, m, h⟩ := h; exact (Array.getElem?_eq_some_iff.1 h).1
theorem GBlk.cell {w : World} {g : Nat} {vs : List Value} (h : GBlk w g vs) (j : Nat) {v : Value} (hv : vs[j]? = some v) : w.cell? ⟨g, j, none⟩ = some v := by
  obtain ⟨t, m, h⟩ := h; simp [World.cell?, h, hv]
theorem GBlk.later {w w' : World} {g : Nat} {vs : List Value} (h : GBlk w g vs) (hb : Below w.heap.size w w') : GBlk w' g vs := by
  have hl := h.lt
  obtain ⟨t, m, h⟩ := h; exact ⟨t, m, (hb.block g hl).trans h⟩
def tab64 : List Int := [0, 1, 56, 2, 57, 49, 28, 3, 61, 58, 42, 50, 38, 29, 17, 4, 62, 47, 59, 36, 45, 43, 51, 22, 53, 39, 33, 30, 24, 18, 12, 5, 63, 55, 48, 27, 60, 41, 37, 16, 46, 35, 44, 21, 52, 32, 23, 11, 54, 26, 40, 15, 34, 20, 31, 10, 25, 14, 19, 9, 13, 8, 7, 6]
def tab32 : List Int := [0, 1, 28, 2, 29, 14, 24, 3, 30, 22, 20, 15, 25, 17, 4, 8, 31, 27, 13, 23, 21, 19, 16, 7, 26, 12, 18, 6, 11, 5, 10, 9]
/-- the tables of math/bits, in memory -/
structure Glob (w : World) : Prop where
  t32 : GBlk w 0 (tab32.map (Value.int .u8))
  t64 : GBlk w 1 (tab64.map (Value.int .u8))
theorem Glob.later {w w' : World} (h : Glob w) (hb : Below w.heap.size w w') : Glob w' := ⟨h.t32.later hb, h.t64.later hb⟩
theorem GBlk.keep {w w' : World} {g : Nat} {vs : List Value} (h : GBlk w g vs) {B : Nat} (hB : w.heap.size ≤ B) (hb : Below B w w') : GBlk w' g vs := by
  have hl := h.lt
  obtain ⟨t, m, h⟩ := h; exact ⟨t, m, (hb.block g (by omega)).trans h⟩
theorem bandu {a b : Nat} (ha : a < 2 ^ 32) (hb : b < 18446744073709551616) : bits BinOp.and IntKind.u64 (a : Int) (b : Int) = ((a &&& b : Nat) : Int) := by
  have h : a &&& b ≤ a := Nat.and_le_left
  show IntKind.u64.wrap ((BitVec.ofInt 64 (a : Int) &&& BitVec.ofInt 64 (b : Int)).toNat : Int) = _
  rw [BitVec.ofInt_natCast, BitVec.ofInt_natCast, BitVec.toNat_and, BitVec.toNat_ofNat, BitVec.toNat_ofNat, Nat.mod_eq_of_lt (by omega), Nat.mod_eq_of_lt (by omega), IntKind.wrap_u64]
  omega
theorem dbJ_tab : ∀ k : Fin 32, dbJ k.val < 64 ∧ tab64[dbJ k.val]? = some ((k.val : Nat) : Int) ∧ (2 ^ k.val * 285870213051353865) % 18446744073709551616 / 288230376151711744 = dbJ k.val := by decide +kernel
theorem dbJ_ok {S : Nat} (h : S < 2 ^ 32) (h0 : S ≠ 0) : ∃ (N B M : Int) (i : Nat), IntKind.u64.wrap (-(S : Int)) = N ∧ bits BinOp.and IntKind.u64 (S : Int) N = B ∧ IntKind.u64.wrap (B * 285870213051353865) = M ∧ M / 288230376151711744 = (i : Int) ∧ i < 64 ∧ tab64[i]? = some (lowB S : Int) := by
  obtain ⟨hk, -, hand, -⟩ := low_spec h h0
  obtain ⟨h2, h3, h1⟩ := dbJ_tab ⟨lowB S, hk⟩
  have e : IntKind.u64.wrap (-(S : Int)) = ((18446744073709551616 - S : Nat) : Int) := by rw [IntKind.wrap_u64]; omega
  refine ⟨_, _, _, dbJ (lowB S), e, bandu h (by omega), rfl, ?_, h2, h3⟩
  rw [show (18446744073709551616 : Nat) = 2 ^ 64 from rfl, hand, IntKind.wrap_u64, ← h1]
  show _ = (((2 ^ lowB S * 285870213051353865) % 18446744073709551616 / 288230376151711744 : Nat) : Int)
  generalize 2 ^ lowB S = Z
  omega
theorem tz64_any (S : Nat) (h : S < 2 ^ 32) (h0 : S ≠ 0) (w : World) (hG : Glob w) : Calls Tryz.prog 83 #[.int .u64 S] w fun e w' => e = .returned (.int .i64 (lowB S)) ∧ w' = w := by
  have hS0 : ((S : Int) == 0) = false := by simpa using h0
  obtain ⟨N, B, M, i, e1, e2, e3, e4, d2, d3⟩ := dbJ_ok h h0
  have d2I : (i : Int) < 64 := by omega
  have c := hG.t64.cell i (v := .int .u8 (lowB S)) (by rw [List.getElem?_map, d3]; rfl)
  have hk : lowB S < 32 := (low_spec h h0).1
  generalize lowB S = k at *
  clear d3 h0 h
  go_enter Tryz.func83, Tryz.ntmps83
  go_wp2_with fail
  go_ret
  exact ⟨rfl, rfl⟩
theorem tz_any (S : Nat) (h : S < 2 ^ 32) (h0 : S ≠ 0) (w : World) (hG : Glob w) : Calls Tryz.prog 58 #[.int .u64 S] w fun e w' => e = .returned (.int .i64 (lowB S)) ∧ w' = w := by
  have hz := tz64_any S h h0 w hG
  go_enter Tryz.func58, Tryz.ntmps58
  go_wp2_with (first | exact fail | (refine hz.mono ?_; rintro e w1 ⟨rfl, rfl⟩))
  go_ret
  exact ⟨rfl, rfl⟩
/-- an own list, as the call returns it -/
def OwnJQ (l : List Int) (w : World) (e : Ending) (w' : World) : Prop := ∃ v, e = .returned v ∧ OwnI w' w.heap.size v l ∧ Below w.heap.size w w'
theorem list_pre {s : Nat} (hs : s < 2 ^ 32) (h0 : s ≠ 0) : ∃ z : Nat, s &&& (s - 1) = z ∧ ((s : Int) == 0) = false ∧ IntKind.u64.wrap (s : Int) = s ∧ wrap64 ((s : Int) - 1) = (s : Int) - 1 ∧ bits BinOp.and IntKind.i64 (s : Int) ((s : Int) - 1) = (z : Int) ∧ bitsOf s = lowB s :: bitsOf z ∧ z < s ∧ z < 2 ^ 32 := by
  obtain ⟨-, -, -, h1, h2⟩ := low_spec hs h0
  refine ⟨_, rfl, by simpa using h0, by rw [IntKind.wrap_u64]; omega, wrap_id (by omega) (by omega), ?_, h1, h2, by omega⟩
  have e : (s : Int) - 1 = ((s - 1 : Nat) : Int) := by omega
  rw [e]; exact band62 (by omega) (by omega)
set_option maxRecDepth 100000 in
set_option maxHeartbeats 1000000 in
theorem jlisted_any (S : Nat) (h : S < 2 ^ 32) (w : World) (hGl : Glob w) : Calls Tryz.prog 32 #[.int .i64 S] w (OwnJQ (natsJ (bitsOf S)) w) := by
  have HT := hide (fun s (h : s < 2 ^ 32) (h0 : s ≠ 0) => list_pre h h0)
  have HT0 : Hid (bitsOf 0 = []) := hide (by unfold bitsOf; simp)
  have HL := hide (bits_len S)
  have HGL : Hid (∀ wr, Below w.heap.size w wr → Glob wr) := hide (fun wr hb => hGl.later hb)
  have HZ := hide (fun s (h : s < 2 ^ 32) (h0 : s ≠ 0) W (hg : Glob W) => tz_any s h h0 W hg)
  generalize bitsOf = TH at *
  generalize lowB = LO at *
  have HB := hide h
  clear hGl h
  go_enter Tryz.func32, Tryz.ntmps32
  go_wp2_with fail
  go_loopw [0, 3] (fun sv ov wr => ∃ (s : Nat) (l : List Nat), Hid (s < 2 ^ 32) ∧ sv = .int .i64 s ∧ OwnI wr w.heap.size ov (natsJ l) ∧ l ++ TH s = TH S ∧ Below w.heap.size w wr) (fun sv _ _ => (intOf sv).toNat)
  case atStart => exact ⟨S, [], HB, rfl, OwnI.nil _ _, rfl, Below.refl _ _⟩
  case round =>
    obtain ⟨s, l, hs, rfl, hown, hl, hE⟩ := hrel
    obtain ⟨oa, oc, rfl⟩ := hown.form
    have hll := natsJ_len l
    by_cases h0 : s = 0
    · subst h0
      rw [HT0.out, List.append_nil] at hl
      have HOF := hide hown
      have HW := hide hE
      clear hE
      go_wp2_with fail
      refine bodyPost_ret (results_tmp rfl _ _ _) rfl ?_
      exact ⟨_, rfl, by rw [← hl]; exact HOF.out, HW.out⟩
    · obtain ⟨z, -, hs0, hwu, hws, hba, t1, t2, t3⟩ := HT.out s hs.out h0
      have hlen : l.length + 1 ≤ 32 := by
        have e := congrArg List.length hl
        rw [t1] at e
        have := HL.out
        simp at e; omega
      rw [hll] at hown ⊢
      have HS := hide t1
      have HZS := hide t2
      have HZ3 := hide t3
      have HLL := hide hl
      have HE := hide hE
      have hcz := HZ.out s hs.out h0 _ (HGL.out _ hE)
      have hsz := hE.size
      clear t1 t2 t3 hl hE
      go_wp2_with fail
      refine hcz.mono ?_
      rintro e w1 ⟨rfl, rfl⟩
      clear hcz
      go_wp2_with (at_builtin; refine app_int rfl _ _ rfl w.heap.size _ (natsJ l) rfl hown (LO s : Int) rfl (by rw [hll]; omega) hsz ?_; intro v' w3 hown3 hb3 hz3)
      have HO3 := hide hown3
      go_roundw
      case rel => exact ⟨z, l ++ [LO s], HZ3, rfl, by rw [natsJ_app]; exact HO3.out, by rw [List.append_assoc, List.singleton_append, ← HS.out]; exact HLL.out, HE.out.trans hb3⟩
      case measure => have := HZS.out; simp [intOf]; omega
theorem jholds_any (s d S0 : Nat) (v : Value) (rs : List RuleD) (w : World) (ht : OkT s d rs) (hv : RulesIn w.cell? v rs) (hS0 : S0 < 2 ^ s) (hGl : Glob w) : Calls Tryz.prog 9 #[.agg #[.int .i64 s, .int .i64 d, v], .int .i64 S0] w
    (fun e w' => ∃ S l u, e = .returned (.tuple #[u, .int .i64 0]) ∧ HeldP rs (s + d) S0 S l ∧ OwnI w' w.heap.size u (natsJ (bitsOf S)) ∧ Below w.heap.size w w') := by
  have HS := hide (fun X (hX : Below w.heap.size w X) => jisSet_any s d S0 v rs X ht (hv.below hX) hS0)
  have HH := hide (fun X (hX : Below w.heap.size w X) => held_any s d S0 v rs X ht (hv.below hX) (Nat.lt_of_lt_of_le hS0 (Nat.pow_le_pow_right (by omega) (by omega))))
  have HN : Hid (2 ^ (s + d) ≤ 2 ^ 32) := hide (Nat.pow_le_pow_right (by omega) (by have := ht.s; have := ht.d; omega))
  have HG := hide hGl
  obtain ⟨a, c, rfl, -⟩ := id hv
  clear ht hv hS0 hGl
  generalize hln : rs.length = ln at *
  clear hln
  go_enter Tryz.func9, Tryz.ntmps9
  go_wp2_with fail
  generalize hX1 : World.alloc w _ = X1
  have zX1 : X1.heap.size = w.heap.size + 1 := by rw [← hX1]; simp
  have bX1 : Below w.heap.size w X1 := by rw [← hX1]; exact bal w _
  have bT : Blk X1 (w.heap.size) [.int .i64 s, .int .i64 d, .slice a ln c] 47 := by rw [← hX1]; exact Blk.newA w _ (by first | rfl | simp)
  have Xb := bX1
  have Xz := zX1
  clear hX1 zX1 bX1
  have t0 := bT.cell 0 rfl
  have t1 := bT.cell 1 rfl
  have t2 := bT.cell 2 rfl
  go_wp2_with fail
  refine (HS.out _ Xb).mono ?_
  rintro e w1 ⟨rfl, hw1⟩
  have hb1 := below2 Xb hw1
  have t0 := (bT.later hw1).cell 0 rfl
  have t1 := (bT.later hw1).cell 1 rfl
  have t2 := (bT.later hw1).cell 2 rfl
  go_wp2_with fail
  refine (HH.out _ hb1).mono ?_
  rintro e w2 ⟨S, l, u, rfl, hH, -, hw2⟩
  have hb2 := below2 hb1 hw2
  have HHP := hide hH
  have hc := jlisted_any S (Nat.lt_of_lt_of_le hH.i.bd HN.out) w2 (HG.out.later hb2)
  clear hH
  go_wp2_with fail
  refine hc.mono ?_
  rintro e w3 ⟨u3, rfl, hown, hw3⟩
  have HO := hide hown
  go_wp2_with fail
  go_ret2
  exact ⟨S, l, _, rfl, HHP.out, own_weakJ HO.out hb2.size, below2 hb2 hw3⟩
end Go.Proofs.YtdjldidfnddpmaaGreatDoor
