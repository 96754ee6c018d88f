/- Order: the things of a set (math/bits.TrailingZeros). Conditions: how the table of math/bits lies in memory. -/
import Derived.Test.YtnidcoinfmcffaaDoorOsF
import Derived.Deep.DeepCutAuto
import Derived.Laws.Bits64
namespace Go.Proofs.YtnidcoinfmcffaaDoor
open Go.RowKit
/-- block g holds the cells vs -/
def GBlk (w : World) (g : Nat) (vs : List Value) : Prop := ∃ t m, w.heap[g]? = some (.cells vs.toArray t m)
theorem GBlk.lt {w : World} {g : Nat} {vs : List Value} (h : GBlk w g vs) : g < w.heap.size := by
 obtain ⟨t, m, h⟩ := h; exact (Array.getElem?_eq_some_iff.1 h).1
theorem GBlk.cell {w : World} {g : Nat} {vs : List Value} (h : GBlk w g vs) (j : Nat) {v : Value} (hv : vs[j]? = some v) : w.cell? ⟨g, j, none⟩ = some v := by
 obtain ⟨t, m, h⟩ := h; simp [World.cell?, h, hv]
theorem GBlk.later {w w' : World} {g : Nat} {vs : List Value} (h : GBlk w g vs) (hb : Below w.heap.size w w') : GBlk w' g vs := by
 have hl := h.lt
 obtain ⟨t, m, h⟩ := h; exact ⟨t, m, (hb.block g hl).trans h⟩
def tab64 : List Int := [0, 1, 56, 2, 57, 49, 28, 3, 61, 58, 42, 50, 38, 29, 17, 4, 62, 47, 59, 36, 45, 43, 51, 22, 53, 39, 33, 30, 24, 18, 12, 5, 63, 55, 48, 27, 60, 41, 37, 16, 46, 35, 44, 21, 52, 32, 23, 11, 54, 26, 40, 15, 34, 20, 31, 10, 25, 14, 19, 9, 13, 8, 7, 6]
def tab32 : List Int := [0, 1, 28, 2, 29, 14, 24, 3, 30, 22, 20, 15, 25, 17, 4, 8, 31, 27, 13, 23, 21, 19, 16, 7, 26, 12, 18, 6, 11, 5, 10, 9]
/-- the tables of math/bits, in memory -/
structure Glob (w : World) : Prop where
 t32 : GBlk w 0 (tab32.map (Value.int .u8))
 t64 : GBlk w 1 (tab64.map (Value.int .u8))
theorem Glob.later {w w' : World} (h : Glob w) (hb : Below w.heap.size w w') : Glob w' := ⟨h.t32.later hb, h.t64.later hb⟩
/-- the lowest thing of a set -/
def lowO (S : Nat) : Nat := ((List.range 8).find? S.testBit).getD 0
def dbI (S : Nat) : Nat := (2 ^ lowO S * 285870213051353865) % 2 ^ 64 / 288230376151711744
theorem db_fin : ∀ S : Fin 256, S.val ≠ 0 → (S.val &&& (18446744073709551616 - S.val)) * 285870213051353865 % 18446744073709551616 / 288230376151711744 = dbI S.val ∧ dbI S.val < 64 ∧ tab64[dbI S.val]? = some ((lowO S.val : Nat) : Int) ∧ lowO S.val < 8 ∧ S.val.testBit (lowO S.val) = true := by decide +kernel
theorem band_u64 {a b : Nat} (ha : a < 256) (hb : b < 18446744073709551616) : bits BinOp.and IntKind.u64 (a : Int) (b : Int) = ((a &&& b : Nat) : Int) := by
 have h : a &&& b ≤ a := Nat.and_le_left
 show IntKind.u64.wrap ((BitVec.ofInt 64 (a : Int) &&& BitVec.ofInt 64 (b : Int)).toNat : Int) = _
 rw [BitVec.ofInt_natCast, BitVec.ofInt_natCast, BitVec.toNat_and, BitVec.toNat_ofNat, BitVec.toNat_ofNat, Nat.mod_eq_of_lt (by omega), Nat.mod_eq_of_lt (by omega), IntKind.wrap_u64]
 omega
theorem db_ok {S : Nat} (h : S < 256) (h0 : S ≠ 0) : ∃ (N B M : Int) (i : Nat), IntKind.u64.wrap (-(S : Int)) = N ∧ bits BinOp.and IntKind.u64 (S : Int) N = B ∧ IntKind.u64.wrap (B * 285870213051353865) = M ∧ M / 288230376151711744 = (i : Int) ∧ i < 64 ∧ tab64[i]? = some (lowO S : Int) := by
 obtain ⟨h1, h2, h3, -, -⟩ := db_fin ⟨S, h⟩ h0
 have e : IntKind.u64.wrap (-(S : Int)) = ((18446744073709551616 - S : Nat) : Int) := by rw [IntKind.wrap_u64]; omega
 refine ⟨_, _, _, dbI S, e, band_u64 h (by omega), rfl, ?_, h2, h3⟩
 rw [IntKind.wrap_u64, ← h1]
 generalize S &&& (18446744073709551616 - S) = Z
 omega
theorem tz64_any (S : Nat) (h : S < 256) (h0 : S ≠ 0) (w : World) (hG : Glob w) : Calls Tryd.prog 87 #[.int .u64 S] w fun e w' => e = .returned (.int .i64 (lowO S)) ∧ w' = w := by
 have hS0 : ((S : Int) == 0) = false := by simpa using h0
 obtain ⟨N, B, M, i, e1, e2, e3, e4, d2, d3⟩ := db_ok h h0
 have d2I : (i : Int) < 64 := by omega
 have c := hG.t64.cell i (v := .int .u8 (lowO S)) (by rw [List.getElem?_map, d3]; rfl)
 have hk : lowO S < 8 := (db_fin ⟨S, h⟩ h0).2.2.2.1
 generalize lowO S = k at *
 clear d3 h0 h
 go_enter Tryd.func87, Tryd.ntmps87
 go_wp2_with fail
 go_ret
 exact ⟨rfl, rfl⟩
theorem tz_any (S : Nat) (h : S < 256) (h0 : S ≠ 0) (w : World) (hG : Glob w) : Calls Tryd.prog 82 #[.int .u64 S] w fun e w' => e = .returned (.int .i64 (lowO S)) ∧ w' = w := by
 have hz := tz64_any S h h0 w hG
 go_enter Tryd.func82, Tryd.ntmps82
 go_wp2_with (first | exact fail | (refine hz.mono ?_; rintro e w1 ⟨rfl, rfl⟩))
 go_ret
 exact ⟨rfl, rfl⟩
def thingsO (S : Nat) : List Nat := (List.range 8).filter S.testBit
theorem things_fin : ∀ S : Fin 256, S.val ≠ 0 → thingsO S.val = lowO S.val :: thingsO (S.val &&& (S.val - 1)) ∧ S.val &&& (S.val - 1) < S.val := by decide +kernel
theorem things_next {S : Nat} (h : S < 256) (h0 : S ≠ 0) : thingsO S = lowO S :: thingsO (S &&& (S - 1)) ∧ S &&& (S - 1) < S := things_fin ⟨S, h⟩ h0
theorem things_len (S : Nat) : (thingsO S).length ≤ 8 := Nat.le_trans (List.length_filter_le _ _) (by simp)
theorem GBlk.keep {w w' : World} {g : Nat} {vs : List Value} (h : GBlk w g vs) {B : Nat} (hB : w.heap.size ≤ B) (hb : Below B w w') : GBlk w' g vs := by
 have hl := h.lt
 obtain ⟨t, m, h⟩ := h; exact ⟨t, m, (hb.block g (by omega)).trans h⟩
/-- an append of one integer, in a plain list of operations -/
theorem app_intY {W : World} {ops : Array Oper} {rest : List Oper} {o : Oper} {T : Array Value} {D : List Deferred} {Q : Exit → Act → World → Prop} (hgd : o.guard = none) (s x : Operand)
  (ho : o.op = .call { callee := .builtin .append, args := #[s, x], argTypes := #[26, 26] }) (B : Nat) (v : Value) (l : List Int) (hs : Act.eval ⟨T, D⟩ s = v) (hown : OwnI W B v l)
  (nb : Nat) (y : Int) (hx : Act.eval ⟨T, D⟩ x = .slice (some ⟨nb, 0, none⟩) 1 1) (hr : Blk W nb [.int .i64 y] 3)
  (hlen2 : l.length + 1 < 1000000) (hB : B ≤ W.heap.size)
  (h : ∀ g c w', OwnI w' B (.slice (some ⟨g, 0, none⟩) (l.length + 1) c) (l ++ [y]) → EffE B 3 W w' → wpList Tryd.prog ops Q rest (Act.put ⟨T, D⟩ o.dst (.slice (some ⟨g, 0, none⟩) (l.length + 1) c)) w') :
  wpList Tryd.prog ops Q (o :: rest) ⟨T, D⟩ W :=
 wpList_plain hgd fun K hK => by
  have := step_intY (T := T) (D := D) (W := W) (ops := ops) (o := o) (K := K) (Q := Q) (E := True) hgd s x ho B v l hs hown nb y hx hr hlen2 hB (fun g c w' h1 h2 => hK _ _ (h g c w' h1 h2))
  rwa [if_pos (by simp [Region.wanted, hgd])] at this
set_option maxRecDepth 100000 in
set_option maxHeartbeats 1000000 in
theorem things_any (S : Nat) (h : S < 256) (w : World) (hGl : Glob w) : Calls Tryd.prog 61 #[.int .i64 S] w (OwnIQ (natsO (thingsO S)) w) := by
 have HT := hide (fun s (h : s < 256) (h0 : s ≠ 0) => things_next h h0)
 have HT0 : Hid (thingsO 0 = []) := hide rfl
 have HL := hide (things_len S)
 have HGL : Hid (∀ wr W, EffE w.heap.size 3 w wr → Below wr.heap.size wr W → Glob W) := hide (fun wr W hE hb => (⟨hGl.t32.keep (Nat.le_refl _) (hE.below (Nat.le_refl _)), hGl.t64.keep (Nat.le_refl _) (hE.below (Nat.le_refl _))⟩ : Glob wr).later hb)
 have HZ := hide (fun s (h : s < 256) (h0 : s ≠ 0) W (hg : Glob W) => tz_any s h h0 W hg)
 generalize thingsO = TH at *
 generalize lowO = LO at *
 have HB := hide h
 clear hGl h
 go_enter Tryd.func61, Tryd.ntmps61
 go_wp2_with fail
 go_loopw [0, 2] (fun sv ov wr => ∃ (s : Nat) (l : List Nat), s < 256 ∧ sv = .int .i64 s ∧ OwnI wr w.heap.size ov (natsO l) ∧ l ++ TH s = TH S ∧ EffE w.heap.size 3 w wr) (fun sv _ _ => (intOf sv).toNat)
 case atStart => exact ⟨S, [], HB.out, rfl, OwnI.nil _ _, rfl, EffE.of_below (Below.refl _ _)⟩
 case round =>
  obtain ⟨s, l, hs, rfl, hown, hl, hE⟩ := hrel
  obtain ⟨oa, oc, rfl⟩ := hown.form
  have hll : (natsO l).length = l.length := by unfold natsO; rw [List.length_map]
  by_cases h0 : s = 0
  ·subst h0
   rw [HT0.out, List.append_nil] at hl
   have HOF := hide hown
   have HW := hide (hE.below (Nat.le_refl _))
   clear hE
   go_wp2_with fail
   refine bodyPost_ret (results_tmp rfl _ _ _) rfl ?_
   exact ⟨_, rfl, by rw [← hl]; exact HOF.out, HW.out⟩
  ·obtain ⟨t1, t2⟩ := HT.out s hs h0
   have hs0 : ((s : Int) == 0) = false := by simpa using h0
   have hlen : l.length + 1 ≤ 8 := by
    have e := congrArg List.length hl
    rw [t1] at e
    have := HL.out
    simp at e; omega
   have hsz := hE.size
   have hwu : IntKind.u64.wrap (s : Int) = s := by rw [IntKind.wrap_u64]; omega
   have hws : IntKind.i64.wrap ((s : Int) - 1) = (s : Int) - 1 := by rw [IntKind.wrap_i64]; omega
   have hba : bits BinOp.and IntKind.i64 (s : Int) ((s : Int) - 1) = ((s &&& (s - 1) : Nat) : Int) := by
    have e : (s : Int) - 1 = ((s - 1 : Nat) : Int) := by omega
    rw [e]; exact band_nat (by omega) (by omega)
   generalize hz : s &&& (s - 1) = z at hba t1 t2
   have HS := hide (And.intro t1 t2)
   rw [hll] at hown ⊢
   have HLL := hide hl
   have HE := hide hE
   have HOW := hide hown
   have hcz := HZ.out s hs h0 _ (HGL.out _ _ hE (Below.refl _ _))
   clear t1 t2 hl hE hown
   go_wp2_with fail
   refine hcz.mono ?_
   rintro e w1 ⟨rfl, rfl⟩
   clear hcz
   have hwz : w.heap.size ≤ w1.heap.size := hsz
   go_wp2_with (at_builtin; refine Hid.out ?_)
   refine hide ?_
   generalize hW : World.alloc w1 _ = W2
   have hb2 : Below w1.heap.size w1 W2 := by rw [← hW]; exact bal w1 _
   have hB2 : Blk W2 w1.heap.size [.int .i64 (LO s : Nat)] 3 := by rw [← hW]; exact Blk.newA w1 _ rfl
   clear hW
   refine app_intY rfl _ _ rfl w.heap.size (.slice oa l.length oc) (natsO l) rfl (own_later HOW.out hb2) w1.heap.size (LO s : Int) rfl hB2 (by rw [hll]; omega) (Nat.le_trans hwz hb2.size) ?_
   rw [hll]
   intro g c w2 hO2 hE2
   have HO2 : Hid (OwnI w2 w.heap.size (.slice (some ⟨g, 0, none⟩) (l.length + 1) c) (natsO (l ++ [LO s]))) := hide (by
    have e : natsO (l ++ [LO s]) = natsO l ++ [(LO s : Int)] := by simp [natsO]
    rw [e]; exact hO2)
   have HE2 := hide ((HE.out.trans (EffE.of_below hb2)).trans hE2)
   clear hO2 hE2 hB2 hb2 hwz hsz hlen hll
   go_wp2_with fail
   go_roundw
   case rel => exact ⟨z, l ++ [LO s], by have := HS.out.2; omega, rfl, HO2.out, by rw [List.append_assoc, List.singleton_append, ← HS.out.1]; exact HLL.out, HE2.out⟩
   case measure => have := HS.out.2; simp [intOf]; omega
end Go.Proofs.YtnidcoinfmcffaaDoor
