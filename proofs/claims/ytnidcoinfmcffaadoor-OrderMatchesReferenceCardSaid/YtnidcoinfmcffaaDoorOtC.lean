/- The walk of Loose (chapter 15's reference). Conditions: how the pairs lie in memory; that integers are of 64 bits. -/
import Derived.Test.YtnidcoinfmcffaaDoorOtB
namespace Go.Proofs.YtnidcoinfmcffaaDoor
open Go.RowKit
attribute [local go_sem] Oper.semAt_some
/-- an order of own pairs -/
def OrdOQ (n : Int) (ps : List (Int × Int)) (w : World) (e : Ending) (w' : World) : Prop := ∃ pv, e = .returned (orderV n pv) ∧ OwnR w' w.heap.size 46 2 pv (ps.map pairC) ∧ Below w.heap.size w w'
theorem loose_step {N k : Nat} {x : List (Int × Int)} (hk : k < x.length) : (x.take (k + 1)).map (looseP N) = (x.take k).map (looseP N) ++ [looseP N (x.getD k (0, 0))] := by
 rw [take_succ' x k (0, 0) hk, List.map_append]; rfl
theorem loose_end {N k : Nat} {x : List (Int × Int)} (h1 : k ≤ x.length) (h2 : k ≤ 20) (h3 : k = 0 ∨ 1 < N) (h : ¬ (k < x.length ∧ k < 20 ∧ 1 < N)) : (x.take k).map (looseP N) = looseL N x := by
 unfold looseL
 by_cases hN : 1 < N
 ·rw [if_pos hN]
  by_cases hk : k = 20
  ·rw [hk]
  ·obtain rfl : k = x.length := by omega
   rw [List.take_length, List.take_of_length_le (by omega)]
 ·rw [if_neg hN]
  obtain rfl : k = 0 := by omega
  rfl
set_option maxRecDepth 100000 in
set_option maxHeartbeats 2000000 in
theorem loose_any (n : Int) (xs : List (Int × Int)) (xv : Value) (w : World) (hn : i64B n) (hx : PairsIn w.cell? xv xs) (h64 : ∀ p ∈ xs, i64B p.1 ∧ i64B p.2) : Calls Tryd.prog 17 #[.int .i64 n, xv] w (OrdOQ (looseN n : Nat) (looseL (looseN n) xs) w) := by
 have HPN := hide (fun W => pickr_any n 9 W hn (by decide) (by decide))
 have hN8 := looseN_le n
 rw [show pkO n 9 = looseN n from rfl] at HPN
 generalize looseN n = N at *
 obtain ⟨xa, xc, rfl, hx1, hx2, -⟩ := id hx
 have hxI : (xs.length : Int) ≤ 9223372036854775807 := by omega
 have HX := hide hx
 have H64 := hide h64
 have HST := hide (fun k (hk : k < xs.length) => loose_step (N := N) hk)
 have HEN := hide (fun k h1 h2 h3 h => loose_end (N := N) (k := k) (x := xs) h1 h2 h3 h)
 have HPK0 := hide (fun c m W (hc : i64B c) (h1 : 0 < m) (h2 : m ≤ 1000000) => pickr_any c m W hc h1 h2)
 clear hx h64 hx1 hx2 hn
 go_enter Tryd.func17, Tryd.ntmps17
 go_wp2_with fail
 generalize hX1 : World.alloc w _ = X1
 have zX1 : X1.heap.size = w.heap.size + 1 := by rw [← hX1]; simp
 have bX1 : Below w.heap.size w X1 := by rw [← hX1]; exact bal w _
 have bR : Blk X1 (w.heap.size) [.int .i64 0, .slice none 0 0] 25 := by rw [← hX1]; exact Blk.newA w _ (by first | rfl | simp)
 have Xb := bX1
 have Xz := zX1
 clear hX1 zX1 bX1
 refine (HPN.out _).mono ?_
 rintro e w1 ⟨rfl, hw1⟩
 obtain rfl := hw1
 go_upto_region 2 with (fail)
 generalize hY1 : World.alloc w1 _ = Y1
 have zY1 : Y1.heap.size = w1.heap.size + 1 := by rw [← hY1]; simp
 have bY1 : Below w1.heap.size w1 Y1 := by rw [← hY1]; exact bal w1 _
 have bP : Blk Y1 (w1.heap.size) [.int .i64 (N : Nat), .slice none 0 0] 25 := by rw [← hY1]; exact Blk.newA w1 _ (by first | rfl | simp)
 have Yb := bY1
 have Yz := zY1
 clear hY1 zY1 bY1
 have bR1 := bR.later Yb
 have hwY := below2 Xb Yb
 rw [Xz] at bP Yz
 obtain ⟨P, hP⟩ : ∃ P, w.heap.size + 1 = P := ⟨_, rfl⟩
 have hPw : w.heap.size < P := by omega
 rw [hP] at bP Yz ⊢
 obtain ⟨B, hB⟩ : ∃ B, Y1.heap.size = B := ⟨_, rfl⟩
 have hPB : P < B := by omega
 have hBB : B ≤ Y1.heap.size := by omega
 clear bR Xb Yb Xz Yz hB hP HPN
 go_wp2_with fail
 go_loopw [6] (fun i wr => ∃ (k : Nat) (pv : Value), k ≤ xs.length ∧ k ≤ 20 ∧ (k = 0 ∨ 1 < N) ∧ i = .int .i64 k ∧ OwnR wr B 46 2 pv (((xs.take k).map (looseP N)).map pairC) ∧ Blk wr P [.int .i64 (N : Nat), pv] 25 ∧ Blk wr w.heap.size [.int .i64 0, .slice none 0 0] 25 ∧ Below w.heap.size w wr ∧ B ≤ wr.heap.size) (fun i _ => xs.length - (intOf i).toNat)
 case atStart => exact ⟨0, _, by omega, by omega, .inl rfl, rfl, OwnR.nil _ _ _ _, bP, bR1, hwY, hBB⟩
 case round =>
  clear bP bR1 hwY hBB
  obtain ⟨k, pv, hk, hk20, hk0, rfl, hO, bP, bR, hw, hBB⟩ := hrel
  have r0 := bP.cell 0 rfl
  by_cases hgo : k < xs.length ∧ k < 20 ∧ 1 < N
  ·obtain ⟨h1, h2, h3⟩ := hgo
   have h1I : (k : Int) < xs.length := by omega
   have h2I : (k : Int) < 20 := by omega
   have h3I : (1 : Int) < (N : Int) := by omega
   have HK := hide h1
   obtain ⟨a', m', e', -, -, hc⟩ := HX.out
   cases e'
   obtain ⟨xb, xo, rfl, hck⟩ := hc k h1
   have h64p := H64.out _ (getD_mem xs k (d := (0, 0)) h1)
   have HST1 := hide (HST.out k h1)
   generalize xs.getD k (0, 0) = p at *
   obtain ⟨p1, p2⟩ := p
   have c0 := hck 0 _ rfl
   have c1 := hck 1 _ rfl
   rw [Nat.add_zero] at c0
   have x0 := keep hw c0
   have HP2 := hide c1
   have HPA := hide (fun W => HPK0.out p1 N W h64p.1 (by omega) (by omega))
   have HPB := hide (fun W => HPK0.out p2 (N - 1) W h64p.2 (by omega) (by omega))
   have hal := pk_lt p1 (n := N) (by omega)
   have hql := pk_lt p2 (n := N - 1) (by omega)
   have HLP : Hid (looseP N (p1, p2) = (((pkO p1 N : Nat) : Int), (((pkO p1 N + 1 + pkO p2 (N - 1)) % N : Nat) : Int))) := hide rfl
   generalize pkO p1 N = a at *
   generalize pkO p2 (N - 1) = q at *
   have hrl := Nat.mod_lt (a + 1 + q) (show 0 < N by omega)
   clear hck hc c0 c1
   go_wp2_with fail
   refine wp_region_still_tail 7 (by kernel_rfl) (by kernel_rfl) ?_
   simp only [List.take_succ_cons, List.take_zero, List.drop_succ_cons, List.drop_zero]
   repeat (with_reducible refine wpStill_step (fun K hK => ?_) ; go_simp ; with_reducible refine hK _ ?_ ; clear hK K)
   refine wpStill_nil ?_
   change wpList _ _ _ _ _ wr.drew
   go_wp2_with fail
   refine (HPA.out _).mono ?_
   rintro e V ⟨rfl, hV⟩
   obtain rfl := hV
   have hOR0 := OwnR.later' hO (Below.refl wr.heap.size wr).drew
   have bC1 := bP.later (Below.refl wr.heap.size wr).drew
   have bR1 := bR.later (Below.refl wr.heap.size wr).drew
   have hwV := hw.drew
   have hBV : B ≤ wr.drew.heap.size := hBB
   generalize World.drew wr = V at *
   clear hO bP bR hw hBB r0 x0
   have hln : (((xs.take k).map (looseP N)).map pairC).length ≤ 20 := by simp; omega
   have HM : Hid ((((xs.take k).map (looseP N)).map pairC) ++ [[.int .i64 (a : Nat), .int .i64 (((a + 1 + q) % N : Nat) : Int)]] = ((xs.take (k + 1)).map (looseP N)).map pairC) := hide (by rw [HST1.out, HLP.out, List.map_append]; rfl)
   generalize ((xs.take k).map (looseP N)).map pairC = Lr at *
   obtain ⟨va, vc, rfl⟩ := OwnR.formE hOR0
   have hOR := hOR0
   have hr2 : ((a : Int) + 1 + q) % N = (((a + 1 + q) % N : Nat) : Int) := by simp
   have hr1 : ((a : Int) + 1 + q).tmod N = (((a + 1 + q) % N : Nat) : Int) := by
    rw [Int.tmod_eq_emod_of_nonneg (by omega)]; exact hr2
   generalize (a + 1 + q) % N = r at *
   have HPK : Hid (∀ W, Calls Tryd.prog 37 #[.int .i64 p2, .int .i64 ((N : Int) - 1)] W (fun e w' => e = .returned (.int .i64 (q : Nat)) ∧ w' = W)) := hide (fun W => by have h := HPB.out W; rw [show ((N - 1 : Nat) : Int) = (N : Int) - 1 by omega] at h; exact h)
   have HLO := hide (fun W (h : EffY B 46 P V W) => keeps_low_effY h (show w.heap.size ≤ B by omega) (show w.heap.size ≤ P by omega) hwV)
   have HRB := hide bR1
   have hN0 : ¬ N = 0 := by omega
   have hu1 : IntKind.i64.wrap ((N : Int) - 1) = (N : Int) - 1 := IntWalk.i64_in _ ⟨by omega, by omega⟩
   have hu2 : IntKind.i64.wrap ((a : Int) + 1) = (a : Int) + 1 := IntWalk.i64_in _ ⟨by omega, by omega⟩
   have hu3 : IntKind.i64.wrap ((a : Int) + 1 + q) = (a : Int) + 1 + q := IntWalk.i64_in _ ⟨by omega, by omega⟩
   have hu4 : IntKind.i64.wrap (r : Int) = r := IntWalk.i64_in _ ⟨by omega, by omega⟩
   clear hOR0 h64p HPA HPB
   go_wp2_with fail
   refine wp_region_inv [some 34, some 35, some 36, some 37, some 38, some 39, some 40, some 41, some 42, some 43, some 44, some 45, some 46, some 47, some 48, some 49, some 50, some 51, some 52, some 53, some 54, some 55, none] (fun L vs W => match vs with | [x0, x1, x2, x3, x4, x5, x6, x7, x8, x9, x10, x11, x12, x13, x14, x15, x16, x17, x18, x19, x20, x21, x22] => (EffY (B) 46 (P) V W ∧ (L 22 = false → Blk W (P) [.int .i64 (N : Nat), .slice va Lr.length vc] 25) ∧ (L 20 = false → OwnR W (B) 46 2 (.slice va Lr.length vc) Lr)) ∧ (L 0 = true → x0 = .pointer (some ⟨P, 1, none⟩)) ∧ (L 1 = true → x1 = .slice va Lr.length vc) ∧ (L 2 = true → x2 = .int .i64 (a : Nat)) ∧ (L 3 = true → x3 = .int .i64 (a : Nat)) ∧ (L 4 = true → x4 = .int .i64 ((a : Int) + 1)) ∧ (L 5 = true → x5 = .slice (some ⟨xb, xo, none⟩) xs.length xc) ∧ (L 6 = true → x6 = .int .i64 (k : Nat)) ∧ (L 7 = true → x7 = .pointer (some ⟨xb, xo + k * 2, none⟩)) ∧ (L 8 = true → x8 = .pointer (some ⟨xb, xo + k * 2 + 1, none⟩)) ∧ (L 9 = true → x9 = .int .i64 p2) ∧ (L 10 = true → x10 = .pointer (some ⟨P, 0, none⟩)) ∧ (L 11 = true → x11 = .int .i64 (N : Nat)) ∧ (L 12 = true → x12 = .int .i64 ((N : Int) - 1)) ∧ (L 13 = true → x13 = .int .i64 (q : Nat)) ∧ (L 14 = true → x14 = .int .i64 ((a : Int) + 1 + q)) ∧ (L 15 = true → x15 = .pointer (some ⟨P, 0, none⟩)) ∧ (L 16 = true → x16 = .int .i64 (N : Nat)) ∧ (L 17 = true → x17 = .int .i64 (r : Nat)) ∧ (L 18 = true → x18 = .agg #[.int .i64 (a : Nat), .int .i64 (r : Nat)]) ∧ (L 19 = true → (L 20 = false → ∃ b0 : Nat, x19 = .slice (some ⟨b0, 0, none⟩) 1 1 ∧ Blk W b0 [.int .i64 (a : Nat), .int .i64 (r : Nat)] 46)) ∧ (L 20 = true → ∃ g1 c1, x20 = .slice (some ⟨g1, 0, none⟩) (Lr.length + 1) c1 ∧ OwnR W (B) 46 2 x20 (Lr ++ [[.int .i64 (a : Nat), .int .i64 (r : Nat)]])) ∧ (L 21 = true → x21 = .pointer (some ⟨P, 1, none⟩)) ∧ (L 22 = true → (L 1 = true ∧ L 11 = true ∧ L 16 = true ∧ L 20 = true) ∧ ∃ g1 c1, x20 = .slice (some ⟨g1, 0, none⟩) (Lr.length + 1) c1 ∧ Blk W (P) [.int .i64 (N : Nat), x20] 25) | _ => False) [_, _, _, _, _, _, _, _, _, _, _, _, _, _, _, _, _, _, _, _, _, _, undef] (by kernel_rfl) (by kernel_rfl) rfl (by simp only [puts, Act.put, List.setIfInBounds_toArray, List.set_cons_zero, List.set_cons_succ] <;> rfl) ?_ ?_ ?_
   ·exact ⟨⟨EffY.of_below (Below.refl _ _).drew, fun _ => bC1.later (Below.refl _ _).drew, fun _ => hOR.later' (Below.refl _ _).drew⟩, (fun h => by cases h), (fun h => by cases h), (fun h => by cases h), (fun h => by cases h), (fun h => by cases h), (fun h => by cases h), (fun h => by cases h), (fun h => by cases h), (fun h => by cases h), (fun h => by cases h), (fun h => by cases h), (fun h => by cases h), (fun h => by cases h), (fun h => by cases h), (fun h => by cases h), (fun h => by cases h), (fun h => by cases h), (fun h => by cases h), (fun h => by cases h), (fun h => by cases h), (fun h => by cases h), (fun h => by cases h), (fun h => by cases h)⟩
   ·refine ⟨?_, ?_, ?_, ?_, ?_, ?_, ?_, ?_, ?_, ?_, ?_, ?_, ?_, ?_, ?_, ?_, ?_, ?_, ?_, ?_, ?_, ?_, ?_, trivial⟩
    ·intro L vs W hlen hL hD hI K hK
     obtain ⟨x0, x1, x2, x3, x4, x5, x6, x7, x8, x9, x10, x11, x12, x13, x14, x15, x16, x17, x18, x19, x20, x21, x22, rfl⟩ := len23 hlen
     have hG := hI.1
     replace hI := hI.2
     have f0 := hide hI.1
     replace hI := hI.2
     have f1 := hide hI.1
     replace hI := hI.2
     have f2 := hide hI.1
     replace hI := hI.2
     have f3 := hide hI.1
     replace hI := hI.2
     have f4 := hide hI.1
     replace hI := hI.2
     have f5 := hide hI.1
     replace hI := hI.2
     have f6 := hide hI.1
     replace hI := hI.2
     have f7 := hide hI.1
     replace hI := hI.2
     have f8 := hide hI.1
     replace hI := hI.2
     have f9 := hide hI.1
     replace hI := hI.2
     have f10 := hide hI.1
     replace hI := hI.2
     have f11 := hide hI.1
     replace hI := hI.2
     have f12 := hide hI.1
     replace hI := hI.2
     have f13 := hide hI.1
     replace hI := hI.2
     have f14 := hide hI.1
     replace hI := hI.2
     have f15 := hide hI.1
     replace hI := hI.2
     have f16 := hide hI.1
     replace hI := hI.2
     have f17 := hide hI.1
     replace hI := hI.2
     have f18 := hide hI.1
     replace hI := hI.2
     have f19 := hide hI.1
     replace hI := hI.2
     have f20 := hide hI.1
     replace hI := hI.2
     have f21 := hide hI.1
     replace hI := hI.2
     have f22 := hide hI
     clear hI
     have r00 := hG.1.size
     try simp only [puts, Act.put, List.setIfInBounds_toArray, List.set_cons_zero, List.set_cons_succ]
     try go_simp
     exact hK.out _ _ _ (by simp only [puts, Act.put, List.setIfInBounds_toArray, List.set_cons_zero, List.set_cons_succ] <;> rfl) ⟨hG, (fun _ => rfl), (fun h => f1.out h), (fun h => f2.out h), (fun h => f3.out h), (fun h => f4.out h), (fun h => f5.out h), (fun h => f6.out h), (fun h => f7.out h), (fun h => f8.out h), (fun h => f9.out h), (fun h => f10.out h), (fun h => f11.out h), (fun h => f12.out h), (fun h => f13.out h), (fun h => f14.out h), (fun h => f15.out h), (fun h => f16.out h), (fun h => f17.out h), (fun h => f18.out h), (fun h => f19.out h), (fun h => f20.out h), (fun h => f21.out h), (fun h => f22.out h)⟩
    ·intro L vs W hlen hL hD hI K hK
     obtain ⟨x0, x1, x2, x3, x4, x5, x6, x7, x8, x9, x10, x11, x12, x13, x14, x15, x16, x17, x18, x19, x20, x21, x22, rfl⟩ := len23 hlen
     have hG := hI.1
     replace hI := hI.2
     have f0 := hide hI.1
     replace hI := hI.2
     have f1 := hide hI.1
     replace hI := hI.2
     have f2 := hide hI.1
     replace hI := hI.2
     have f3 := hide hI.1
     replace hI := hI.2
     have f4 := hide hI.1
     replace hI := hI.2
     have f5 := hide hI.1
     replace hI := hI.2
     have f6 := hide hI.1
     replace hI := hI.2
     have f7 := hide hI.1
     replace hI := hI.2
     have f8 := hide hI.1
     replace hI := hI.2
     have f9 := hide hI.1
     replace hI := hI.2
     have f10 := hide hI.1
     replace hI := hI.2
     have f11 := hide hI.1
     replace hI := hI.2
     have f12 := hide hI.1
     replace hI := hI.2
     have f13 := hide hI.1
     replace hI := hI.2
     have f14 := hide hI.1
     replace hI := hI.2
     have f15 := hide hI.1
     replace hI := hI.2
     have f16 := hide hI.1
     replace hI := hI.2
     have f17 := hide hI.1
     replace hI := hI.2
     have f18 := hide hI.1
     replace hI := hI.2
     have f19 := hide hI.1
     replace hI := hI.2
     have f20 := hide hI.1
     replace hI := hI.2
     have f21 := hide hI.1
     replace hI := hI.2
     have f22 := hide hI
     clear hI
     have r00 := hG.1.size
     obtain rfl := f0.out (hD.on 0 (by kernel_rfl))
     try simp only [puts, Act.put, List.setIfInBounds_toArray, List.set_cons_zero, List.set_cons_succ]
     have hst : L 22 = false := Bool.eq_false_iff.2 (fun h => absurd ((f22.out h).1.1.symm.trans hL) (by decide))
     have r0 := (hG.2.1 hst).cell 1 rfl
     go_simp
     exact hK.out _ _ _ (by simp only [puts, Act.put, List.setIfInBounds_toArray, List.set_cons_zero, List.set_cons_succ] <;> rfl) ⟨hG, (fun h => f0.out h), (fun _ => rfl), (fun h => f2.out h), (fun h => f3.out h), (fun h => f4.out h), (fun h => f5.out h), (fun h => f6.out h), (fun h => f7.out h), (fun h => f8.out h), (fun h => f9.out h), (fun h => f10.out h), (fun h => f11.out h), (fun h => f12.out h), (fun h => f13.out h), (fun h => f14.out h), (fun h => f15.out h), (fun h => f16.out h), (fun h => f17.out h), (fun h => f18.out h), (fun h => f19.out h), (fun h => f20.out h), (fun h => f21.out h), (fun h => (fun h => ⟨⟨rfl, h.1.2.1, h.1.2.2.1, h.1.2.2.2⟩, h.2⟩) (f22.out h))⟩
    ·intro L vs W hlen hL hD hI K hK
     obtain ⟨x0, x1, x2, x3, x4, x5, x6, x7, x8, x9, x10, x11, x12, x13, x14, x15, x16, x17, x18, x19, x20, x21, x22, rfl⟩ := len23 hlen
     have hG := hI.1
     replace hI := hI.2
     have f0 := hide hI.1
     replace hI := hI.2
     have f1 := hide hI.1
     replace hI := hI.2
     have f2 := hide hI.1
     replace hI := hI.2
     have f3 := hide hI.1
     replace hI := hI.2
     have f4 := hide hI.1
     replace hI := hI.2
     have f5 := hide hI.1
     replace hI := hI.2
     have f6 := hide hI.1
     replace hI := hI.2
     have f7 := hide hI.1
     replace hI := hI.2
     have f8 := hide hI.1
     replace hI := hI.2
     have f9 := hide hI.1
     replace hI := hI.2
     have f10 := hide hI.1
     replace hI := hI.2
     have f11 := hide hI.1
     replace hI := hI.2
     have f12 := hide hI.1
     replace hI := hI.2
     have f13 := hide hI.1
     replace hI := hI.2
     have f14 := hide hI.1
     replace hI := hI.2
     have f15 := hide hI.1
     replace hI := hI.2
     have f16 := hide hI.1
     replace hI := hI.2
     have f17 := hide hI.1
     replace hI := hI.2
     have f18 := hide hI.1
     replace hI := hI.2
     have f19 := hide hI.1
     replace hI := hI.2
     have f20 := hide hI.1
     replace hI := hI.2
     have f21 := hide hI.1
     replace hI := hI.2
     have f22 := hide hI
     clear hI
     have r00 := hG.1.size
     try simp only [puts, Act.put, List.setIfInBounds_toArray, List.set_cons_zero, List.set_cons_succ]
     try go_simp
     exact hK.out _ _ _ (by simp only [puts, Act.put, List.setIfInBounds_toArray, List.set_cons_zero, List.set_cons_succ] <;> rfl) ⟨hG, (fun h => f0.out h), (fun h => f1.out h), (fun _ => rfl), (fun h => f3.out h), (fun h => f4.out h), (fun h => f5.out h), (fun h => f6.out h), (fun h => f7.out h), (fun h => f8.out h), (fun h => f9.out h), (fun h => f10.out h), (fun h => f11.out h), (fun h => f12.out h), (fun h => f13.out h), (fun h => f14.out h), (fun h => f15.out h), (fun h => f16.out h), (fun h => f17.out h), (fun h => f18.out h), (fun h => f19.out h), (fun h => f20.out h), (fun h => f21.out h), (fun h => f22.out h)⟩
    ·intro L vs W hlen hL hD hI K hK
     obtain ⟨x0, x1, x2, x3, x4, x5, x6, x7, x8, x9, x10, x11, x12, x13, x14, x15, x16, x17, x18, x19, x20, x21, x22, rfl⟩ := len23 hlen
     have hG := hI.1
     replace hI := hI.2
     have f0 := hide hI.1
     replace hI := hI.2
     have f1 := hide hI.1
     replace hI := hI.2
     have f2 := hide hI.1
     replace hI := hI.2
     have f3 := hide hI.1
     replace hI := hI.2
     have f4 := hide hI.1
     replace hI := hI.2
     have f5 := hide hI.1
     replace hI := hI.2
     have f6 := hide hI.1
     replace hI := hI.2
     have f7 := hide hI.1
     replace hI := hI.2
     have f8 := hide hI.1
     replace hI := hI.2
     have f9 := hide hI.1
     replace hI := hI.2
     have f10 := hide hI.1
     replace hI := hI.2
     have f11 := hide hI.1
     replace hI := hI.2
     have f12 := hide hI.1
     replace hI := hI.2
     have f13 := hide hI.1
     replace hI := hI.2
     have f14 := hide hI.1
     replace hI := hI.2
     have f15 := hide hI.1
     replace hI := hI.2
     have f16 := hide hI.1
     replace hI := hI.2
     have f17 := hide hI.1
     replace hI := hI.2
     have f18 := hide hI.1
     replace hI := hI.2
     have f19 := hide hI.1
     replace hI := hI.2
     have f20 := hide hI.1
     replace hI := hI.2
     have f21 := hide hI.1
     replace hI := hI.2
     have f22 := hide hI
     clear hI
     have r00 := hG.1.size
     try simp only [puts, Act.put, List.setIfInBounds_toArray, List.set_cons_zero, List.set_cons_succ]
     try go_simp
     exact hK.out _ _ _ (by simp only [puts, Act.put, List.setIfInBounds_toArray, List.set_cons_zero, List.set_cons_succ] <;> rfl) ⟨hG, (fun h => f0.out h), (fun h => f1.out h), (fun h => f2.out h), (fun _ => rfl), (fun h => f4.out h), (fun h => f5.out h), (fun h => f6.out h), (fun h => f7.out h), (fun h => f8.out h), (fun h => f9.out h), (fun h => f10.out h), (fun h => f11.out h), (fun h => f12.out h), (fun h => f13.out h), (fun h => f14.out h), (fun h => f15.out h), (fun h => f16.out h), (fun h => f17.out h), (fun h => f18.out h), (fun h => f19.out h), (fun h => f20.out h), (fun h => f21.out h), (fun h => f22.out h)⟩
    ·intro L vs W hlen hL hD hI K hK
     obtain ⟨x0, x1, x2, x3, x4, x5, x6, x7, x8, x9, x10, x11, x12, x13, x14, x15, x16, x17, x18, x19, x20, x21, x22, rfl⟩ := len23 hlen
     have hG := hI.1
     replace hI := hI.2
     have f0 := hide hI.1
     replace hI := hI.2
     have f1 := hide hI.1
     replace hI := hI.2
     have f2 := hide hI.1
     replace hI := hI.2
     have f3 := hide hI.1
     replace hI := hI.2
     have f4 := hide hI.1
     replace hI := hI.2
     have f5 := hide hI.1
     replace hI := hI.2
     have f6 := hide hI.1
     replace hI := hI.2
     have f7 := hide hI.1
     replace hI := hI.2
     have f8 := hide hI.1
     replace hI := hI.2
     have f9 := hide hI.1
     replace hI := hI.2
     have f10 := hide hI.1
     replace hI := hI.2
     have f11 := hide hI.1
     replace hI := hI.2
     have f12 := hide hI.1
     replace hI := hI.2
     have f13 := hide hI.1
     replace hI := hI.2
     have f14 := hide hI.1
     replace hI := hI.2
     have f15 := hide hI.1
     replace hI := hI.2
     have f16 := hide hI.1
     replace hI := hI.2
     have f17 := hide hI.1
     replace hI := hI.2
     have f18 := hide hI.1
     replace hI := hI.2
     have f19 := hide hI.1
     replace hI := hI.2
     have f20 := hide hI.1
     replace hI := hI.2
     have f21 := hide hI.1
     replace hI := hI.2
     have f22 := hide hI
     clear hI
     have r00 := hG.1.size
     obtain rfl := f3.out (hD.on 3 (by kernel_rfl))
     try simp only [puts, Act.put, List.setIfInBounds_toArray, List.set_cons_zero, List.set_cons_succ]
     try go_simp
     exact hK.out _ _ _ (by simp only [puts, Act.put, List.setIfInBounds_toArray, List.set_cons_zero, List.set_cons_succ] <;> rfl) ⟨hG, (fun h => f0.out h), (fun h => f1.out h), (fun h => f2.out h), (fun h => f3.out h), (fun _ => rfl), (fun h => f5.out h), (fun h => f6.out h), (fun h => f7.out h), (fun h => f8.out h), (fun h => f9.out h), (fun h => f10.out h), (fun h => f11.out h), (fun h => f12.out h), (fun h => f13.out h), (fun h => f14.out h), (fun h => f15.out h), (fun h => f16.out h), (fun h => f17.out h), (fun h => f18.out h), (fun h => f19.out h), (fun h => f20.out h), (fun h => f21.out h), (fun h => f22.out h)⟩
    ·intro L vs W hlen hL hD hI K hK
     obtain ⟨x0, x1, x2, x3, x4, x5, x6, x7, x8, x9, x10, x11, x12, x13, x14, x15, x16, x17, x18, x19, x20, x21, x22, rfl⟩ := len23 hlen
     have hG := hI.1
     replace hI := hI.2
     have f0 := hide hI.1
     replace hI := hI.2
     have f1 := hide hI.1
     replace hI := hI.2
     have f2 := hide hI.1
     replace hI := hI.2
     have f3 := hide hI.1
     replace hI := hI.2
     have f4 := hide hI.1
     replace hI := hI.2
     have f5 := hide hI.1
     replace hI := hI.2
     have f6 := hide hI.1
     replace hI := hI.2
     have f7 := hide hI.1
     replace hI := hI.2
     have f8 := hide hI.1
     replace hI := hI.2
     have f9 := hide hI.1
     replace hI := hI.2
     have f10 := hide hI.1
     replace hI := hI.2
     have f11 := hide hI.1
     replace hI := hI.2
     have f12 := hide hI.1
     replace hI := hI.2
     have f13 := hide hI.1
     replace hI := hI.2
     have f14 := hide hI.1
     replace hI := hI.2
     have f15 := hide hI.1
     replace hI := hI.2
     have f16 := hide hI.1
     replace hI := hI.2
     have f17 := hide hI.1
     replace hI := hI.2
     have f18 := hide hI.1
     replace hI := hI.2
     have f19 := hide hI.1
     replace hI := hI.2
     have f20 := hide hI.1
     replace hI := hI.2
     have f21 := hide hI.1
     replace hI := hI.2
     have f22 := hide hI
     clear hI
     have r00 := hG.1.size
     try simp only [puts, Act.put, List.setIfInBounds_toArray, List.set_cons_zero, List.set_cons_succ]
     try go_simp
     exact hK.out _ _ _ (by simp only [puts, Act.put, List.setIfInBounds_toArray, List.set_cons_zero, List.set_cons_succ] <;> rfl) ⟨hG, (fun h => f0.out h), (fun h => f1.out h), (fun h => f2.out h), (fun h => f3.out h), (fun h => f4.out h), (fun _ => rfl), (fun h => f6.out h), (fun h => f7.out h), (fun h => f8.out h), (fun h => f9.out h), (fun h => f10.out h), (fun h => f11.out h), (fun h => f12.out h), (fun h => f13.out h), (fun h => f14.out h), (fun h => f15.out h), (fun h => f16.out h), (fun h => f17.out h), (fun h => f18.out h), (fun h => f19.out h), (fun h => f20.out h), (fun h => f21.out h), (fun h => f22.out h)⟩
    ·intro L vs W hlen hL hD hI K hK
     obtain ⟨x0, x1, x2, x3, x4, x5, x6, x7, x8, x9, x10, x11, x12, x13, x14, x15, x16, x17, x18, x19, x20, x21, x22, rfl⟩ := len23 hlen
     have hG := hI.1
     replace hI := hI.2
     have f0 := hide hI.1
     replace hI := hI.2
     have f1 := hide hI.1
     replace hI := hI.2
     have f2 := hide hI.1
     replace hI := hI.2
     have f3 := hide hI.1
     replace hI := hI.2
     have f4 := hide hI.1
     replace hI := hI.2
     have f5 := hide hI.1
     replace hI := hI.2
     have f6 := hide hI.1
     replace hI := hI.2
     have f7 := hide hI.1
     replace hI := hI.2
     have f8 := hide hI.1
     replace hI := hI.2
     have f9 := hide hI.1
     replace hI := hI.2
     have f10 := hide hI.1
     replace hI := hI.2
     have f11 := hide hI.1
     replace hI := hI.2
     have f12 := hide hI.1
     replace hI := hI.2
     have f13 := hide hI.1
     replace hI := hI.2
     have f14 := hide hI.1
     replace hI := hI.2
     have f15 := hide hI.1
     replace hI := hI.2
     have f16 := hide hI.1
     replace hI := hI.2
     have f17 := hide hI.1
     replace hI := hI.2
     have f18 := hide hI.1
     replace hI := hI.2
     have f19 := hide hI.1
     replace hI := hI.2
     have f20 := hide hI.1
     replace hI := hI.2
     have f21 := hide hI.1
     replace hI := hI.2
     have f22 := hide hI
     clear hI
     have r00 := hG.1.size
     try simp only [puts, Act.put, List.setIfInBounds_toArray, List.set_cons_zero, List.set_cons_succ]
     try go_simp
     exact hK.out _ _ _ (by simp only [puts, Act.put, List.setIfInBounds_toArray, List.set_cons_zero, List.set_cons_succ] <;> rfl) ⟨hG, (fun h => f0.out h), (fun h => f1.out h), (fun h => f2.out h), (fun h => f3.out h), (fun h => f4.out h), (fun h => f5.out h), (fun _ => rfl), (fun h => f7.out h), (fun h => f8.out h), (fun h => f9.out h), (fun h => f10.out h), (fun h => f11.out h), (fun h => f12.out h), (fun h => f13.out h), (fun h => f14.out h), (fun h => f15.out h), (fun h => f16.out h), (fun h => f17.out h), (fun h => f18.out h), (fun h => f19.out h), (fun h => f20.out h), (fun h => f21.out h), (fun h => f22.out h)⟩
    ·intro L vs W hlen hL hD hI K hK
     obtain ⟨x0, x1, x2, x3, x4, x5, x6, x7, x8, x9, x10, x11, x12, x13, x14, x15, x16, x17, x18, x19, x20, x21, x22, rfl⟩ := len23 hlen
     have hG := hI.1
     replace hI := hI.2
     have f0 := hide hI.1
     replace hI := hI.2
     have f1 := hide hI.1
     replace hI := hI.2
     have f2 := hide hI.1
     replace hI := hI.2
     have f3 := hide hI.1
     replace hI := hI.2
     have f4 := hide hI.1
     replace hI := hI.2
     have f5 := hide hI.1
     replace hI := hI.2
     have f6 := hide hI.1
     replace hI := hI.2
     have f7 := hide hI.1
     replace hI := hI.2
     have f8 := hide hI.1
     replace hI := hI.2
     have f9 := hide hI.1
     replace hI := hI.2
     have f10 := hide hI.1
     replace hI := hI.2
     have f11 := hide hI.1
     replace hI := hI.2
     have f12 := hide hI.1
     replace hI := hI.2
     have f13 := hide hI.1
     replace hI := hI.2
     have f14 := hide hI.1
     replace hI := hI.2
     have f15 := hide hI.1
     replace hI := hI.2
     have f16 := hide hI.1
     replace hI := hI.2
     have f17 := hide hI.1
     replace hI := hI.2
     have f18 := hide hI.1
     replace hI := hI.2
     have f19 := hide hI.1
     replace hI := hI.2
     have f20 := hide hI.1
     replace hI := hI.2
     have f21 := hide hI.1
     replace hI := hI.2
     have f22 := hide hI
     clear hI
     have r00 := hG.1.size
     obtain rfl := f5.out (hD.on 5 (by kernel_rfl))
     obtain rfl := f6.out (hD.on 6 (by kernel_rfl))
     try simp only [puts, Act.put, List.setIfInBounds_toArray, List.set_cons_zero, List.set_cons_succ]
     try go_simp
     exact hK.out _ _ _ (by simp only [puts, Act.put, List.setIfInBounds_toArray, List.set_cons_zero, List.set_cons_succ] <;> rfl) ⟨hG, (fun h => f0.out h), (fun h => f1.out h), (fun h => f2.out h), (fun h => f3.out h), (fun h => f4.out h), (fun h => f5.out h), (fun h => f6.out h), (fun _ => rfl), (fun h => f8.out h), (fun h => f9.out h), (fun h => f10.out h), (fun h => f11.out h), (fun h => f12.out h), (fun h => f13.out h), (fun h => f14.out h), (fun h => f15.out h), (fun h => f16.out h), (fun h => f17.out h), (fun h => f18.out h), (fun h => f19.out h), (fun h => f20.out h), (fun h => f21.out h), (fun h => f22.out h)⟩
    ·intro L vs W hlen hL hD hI K hK
     obtain ⟨x0, x1, x2, x3, x4, x5, x6, x7, x8, x9, x10, x11, x12, x13, x14, x15, x16, x17, x18, x19, x20, x21, x22, rfl⟩ := len23 hlen
     have hG := hI.1
     replace hI := hI.2
     have f0 := hide hI.1
     replace hI := hI.2
     have f1 := hide hI.1
     replace hI := hI.2
     have f2 := hide hI.1
     replace hI := hI.2
     have f3 := hide hI.1
     replace hI := hI.2
     have f4 := hide hI.1
     replace hI := hI.2
     have f5 := hide hI.1
     replace hI := hI.2
     have f6 := hide hI.1
     replace hI := hI.2
     have f7 := hide hI.1
     replace hI := hI.2
     have f8 := hide hI.1
     replace hI := hI.2
     have f9 := hide hI.1
     replace hI := hI.2
     have f10 := hide hI.1
     replace hI := hI.2
     have f11 := hide hI.1
     replace hI := hI.2
     have f12 := hide hI.1
     replace hI := hI.2
     have f13 := hide hI.1
     replace hI := hI.2
     have f14 := hide hI.1
     replace hI := hI.2
     have f15 := hide hI.1
     replace hI := hI.2
     have f16 := hide hI.1
     replace hI := hI.2
     have f17 := hide hI.1
     replace hI := hI.2
     have f18 := hide hI.1
     replace hI := hI.2
     have f19 := hide hI.1
     replace hI := hI.2
     have f20 := hide hI.1
     replace hI := hI.2
     have f21 := hide hI.1
     replace hI := hI.2
     have f22 := hide hI
     clear hI
     have r00 := hG.1.size
     obtain rfl := f7.out (hD.on 7 (by kernel_rfl))
     try simp only [puts, Act.put, List.setIfInBounds_toArray, List.set_cons_zero, List.set_cons_succ]
     try go_simp
     exact hK.out _ _ _ (by simp only [puts, Act.put, List.setIfInBounds_toArray, List.set_cons_zero, List.set_cons_succ] <;> rfl) ⟨hG, (fun h => f0.out h), (fun h => f1.out h), (fun h => f2.out h), (fun h => f3.out h), (fun h => f4.out h), (fun h => f5.out h), (fun h => f6.out h), (fun h => f7.out h), (fun _ => rfl), (fun h => f9.out h), (fun h => f10.out h), (fun h => f11.out h), (fun h => f12.out h), (fun h => f13.out h), (fun h => f14.out h), (fun h => f15.out h), (fun h => f16.out h), (fun h => f17.out h), (fun h => f18.out h), (fun h => f19.out h), (fun h => f20.out h), (fun h => f21.out h), (fun h => f22.out h)⟩
    ·intro L vs W hlen hL hD hI K hK
     obtain ⟨x0, x1, x2, x3, x4, x5, x6, x7, x8, x9, x10, x11, x12, x13, x14, x15, x16, x17, x18, x19, x20, x21, x22, rfl⟩ := len23 hlen
     have hG := hI.1
     replace hI := hI.2
     have f0 := hide hI.1
     replace hI := hI.2
     have f1 := hide hI.1
     replace hI := hI.2
     have f2 := hide hI.1
     replace hI := hI.2
     have f3 := hide hI.1
     replace hI := hI.2
     have f4 := hide hI.1
     replace hI := hI.2
     have f5 := hide hI.1
     replace hI := hI.2
     have f6 := hide hI.1
     replace hI := hI.2
     have f7 := hide hI.1
     replace hI := hI.2
     have f8 := hide hI.1
     replace hI := hI.2
     have f9 := hide hI.1
     replace hI := hI.2
     have f10 := hide hI.1
     replace hI := hI.2
     have f11 := hide hI.1
     replace hI := hI.2
     have f12 := hide hI.1
     replace hI := hI.2
     have f13 := hide hI.1
     replace hI := hI.2
     have f14 := hide hI.1
     replace hI := hI.2
     have f15 := hide hI.1
     replace hI := hI.2
     have f16 := hide hI.1
     replace hI := hI.2
     have f17 := hide hI.1
     replace hI := hI.2
     have f18 := hide hI.1
     replace hI := hI.2
     have f19 := hide hI.1
     replace hI := hI.2
     have f20 := hide hI.1
     replace hI := hI.2
     have f21 := hide hI.1
     replace hI := hI.2
     have f22 := hide hI
     clear hI
     have r00 := hG.1.size
     obtain rfl := f8.out (hD.on 8 (by kernel_rfl))
     try simp only [puts, Act.put, List.setIfInBounds_toArray, List.set_cons_zero, List.set_cons_succ]
     have z9 := keep (HLO.out W hG.1) HP2.out
     go_simp
     exact hK.out _ _ _ (by simp only [puts, Act.put, List.setIfInBounds_toArray, List.set_cons_zero, List.set_cons_succ] <;> rfl) ⟨hG, (fun h => f0.out h), (fun h => f1.out h), (fun h => f2.out h), (fun h => f3.out h), (fun h => f4.out h), (fun h => f5.out h), (fun h => f6.out h), (fun h => f7.out h), (fun h => f8.out h), (fun _ => rfl), (fun h => f10.out h), (fun h => f11.out h), (fun h => f12.out h), (fun h => f13.out h), (fun h => f14.out h), (fun h => f15.out h), (fun h => f16.out h), (fun h => f17.out h), (fun h => f18.out h), (fun h => f19.out h), (fun h => f20.out h), (fun h => f21.out h), (fun h => f22.out h)⟩
    ·intro L vs W hlen hL hD hI K hK
     obtain ⟨x0, x1, x2, x3, x4, x5, x6, x7, x8, x9, x10, x11, x12, x13, x14, x15, x16, x17, x18, x19, x20, x21, x22, rfl⟩ := len23 hlen
     have hG := hI.1
     replace hI := hI.2
     have f0 := hide hI.1
     replace hI := hI.2
     have f1 := hide hI.1
     replace hI := hI.2
     have f2 := hide hI.1
     replace hI := hI.2
     have f3 := hide hI.1
     replace hI := hI.2
     have f4 := hide hI.1
     replace hI := hI.2
     have f5 := hide hI.1
     replace hI := hI.2
     have f6 := hide hI.1
     replace hI := hI.2
     have f7 := hide hI.1
     replace hI := hI.2
     have f8 := hide hI.1
     replace hI := hI.2
     have f9 := hide hI.1
     replace hI := hI.2
     have f10 := hide hI.1
     replace hI := hI.2
     have f11 := hide hI.1
     replace hI := hI.2
     have f12 := hide hI.1
     replace hI := hI.2
     have f13 := hide hI.1
     replace hI := hI.2
     have f14 := hide hI.1
     replace hI := hI.2
     have f15 := hide hI.1
     replace hI := hI.2
     have f16 := hide hI.1
     replace hI := hI.2
     have f17 := hide hI.1
     replace hI := hI.2
     have f18 := hide hI.1
     replace hI := hI.2
     have f19 := hide hI.1
     replace hI := hI.2
     have f20 := hide hI.1
     replace hI := hI.2
     have f21 := hide hI.1
     replace hI := hI.2
     have f22 := hide hI
     clear hI
     have r00 := hG.1.size
     try simp only [puts, Act.put, List.setIfInBounds_toArray, List.set_cons_zero, List.set_cons_succ]
     try go_simp
     exact hK.out _ _ _ (by simp only [puts, Act.put, List.setIfInBounds_toArray, List.set_cons_zero, List.set_cons_succ] <;> rfl) ⟨hG, (fun h => f0.out h), (fun h => f1.out h), (fun h => f2.out h), (fun h => f3.out h), (fun h => f4.out h), (fun h => f5.out h), (fun h => f6.out h), (fun h => f7.out h), (fun h => f8.out h), (fun h => f9.out h), (fun _ => rfl), (fun h => f11.out h), (fun h => f12.out h), (fun h => f13.out h), (fun h => f14.out h), (fun h => f15.out h), (fun h => f16.out h), (fun h => f17.out h), (fun h => f18.out h), (fun h => f19.out h), (fun h => f20.out h), (fun h => f21.out h), (fun h => f22.out h)⟩
    ·intro L vs W hlen hL hD hI K hK
     obtain ⟨x0, x1, x2, x3, x4, x5, x6, x7, x8, x9, x10, x11, x12, x13, x14, x15, x16, x17, x18, x19, x20, x21, x22, rfl⟩ := len23 hlen
     have hG := hI.1
     replace hI := hI.2
     have f0 := hide hI.1
     replace hI := hI.2
     have f1 := hide hI.1
     replace hI := hI.2
     have f2 := hide hI.1
     replace hI := hI.2
     have f3 := hide hI.1
     replace hI := hI.2
     have f4 := hide hI.1
     replace hI := hI.2
     have f5 := hide hI.1
     replace hI := hI.2
     have f6 := hide hI.1
     replace hI := hI.2
     have f7 := hide hI.1
     replace hI := hI.2
     have f8 := hide hI.1
     replace hI := hI.2
     have f9 := hide hI.1
     replace hI := hI.2
     have f10 := hide hI.1
     replace hI := hI.2
     have f11 := hide hI.1
     replace hI := hI.2
     have f12 := hide hI.1
     replace hI := hI.2
     have f13 := hide hI.1
     replace hI := hI.2
     have f14 := hide hI.1
     replace hI := hI.2
     have f15 := hide hI.1
     replace hI := hI.2
     have f16 := hide hI.1
     replace hI := hI.2
     have f17 := hide hI.1
     replace hI := hI.2
     have f18 := hide hI.1
     replace hI := hI.2
     have f19 := hide hI.1
     replace hI := hI.2
     have f20 := hide hI.1
     replace hI := hI.2
     have f21 := hide hI.1
     replace hI := hI.2
     have f22 := hide hI
     clear hI
     have r00 := hG.1.size
     obtain rfl := f10.out (hD.on 10 (by kernel_rfl))
     try simp only [puts, Act.put, List.setIfInBounds_toArray, List.set_cons_zero, List.set_cons_succ]
     have hst : L 22 = false := Bool.eq_false_iff.2 (fun h => absurd ((f22.out h).1.2.1.symm.trans hL) (by decide))
     have r0 := (hG.2.1 hst).cell 0 rfl
     go_simp
     exact hK.out _ _ _ (by simp only [puts, Act.put, List.setIfInBounds_toArray, List.set_cons_zero, List.set_cons_succ] <;> rfl) ⟨hG, (fun h => f0.out h), (fun h => f1.out h), (fun h => f2.out h), (fun h => f3.out h), (fun h => f4.out h), (fun h => f5.out h), (fun h => f6.out h), (fun h => f7.out h), (fun h => f8.out h), (fun h => f9.out h), (fun h => f10.out h), (fun _ => rfl), (fun h => f12.out h), (fun h => f13.out h), (fun h => f14.out h), (fun h => f15.out h), (fun h => f16.out h), (fun h => f17.out h), (fun h => f18.out h), (fun h => f19.out h), (fun h => f20.out h), (fun h => f21.out h), (fun h => (fun h => ⟨⟨h.1.1, rfl, h.1.2.2.1, h.1.2.2.2⟩, h.2⟩) (f22.out h))⟩
    ·intro L vs W hlen hL hD hI K hK
     obtain ⟨x0, x1, x2, x3, x4, x5, x6, x7, x8, x9, x10, x11, x12, x13, x14, x15, x16, x17, x18, x19, x20, x21, x22, rfl⟩ := len23 hlen
     have hG := hI.1
     replace hI := hI.2
     have f0 := hide hI.1
     replace hI := hI.2
     have f1 := hide hI.1
     replace hI := hI.2
     have f2 := hide hI.1
     replace hI := hI.2
     have f3 := hide hI.1
     replace hI := hI.2
     have f4 := hide hI.1
     replace hI := hI.2
     have f5 := hide hI.1
     replace hI := hI.2
     have f6 := hide hI.1
     replace hI := hI.2
     have f7 := hide hI.1
     replace hI := hI.2
     have f8 := hide hI.1
     replace hI := hI.2
     have f9 := hide hI.1
     replace hI := hI.2
     have f10 := hide hI.1
     replace hI := hI.2
     have f11 := hide hI.1
     replace hI := hI.2
     have f12 := hide hI.1
     replace hI := hI.2
     have f13 := hide hI.1
     replace hI := hI.2
     have f14 := hide hI.1
     replace hI := hI.2
     have f15 := hide hI.1
     replace hI := hI.2
     have f16 := hide hI.1
     replace hI := hI.2
     have f17 := hide hI.1
     replace hI := hI.2
     have f18 := hide hI.1
     replace hI := hI.2
     have f19 := hide hI.1
     replace hI := hI.2
     have f20 := hide hI.1
     replace hI := hI.2
     have f21 := hide hI.1
     replace hI := hI.2
     have f22 := hide hI
     clear hI
     have r00 := hG.1.size
     obtain rfl := f11.out (hD.on 11 (by kernel_rfl))
     try simp only [puts, Act.put, List.setIfInBounds_toArray, List.set_cons_zero, List.set_cons_succ]
     try go_simp
     exact hK.out _ _ _ (by simp only [puts, Act.put, List.setIfInBounds_toArray, List.set_cons_zero, List.set_cons_succ] <;> rfl) ⟨hG, (fun h => f0.out h), (fun h => f1.out h), (fun h => f2.out h), (fun h => f3.out h), (fun h => f4.out h), (fun h => f5.out h), (fun h => f6.out h), (fun h => f7.out h), (fun h => f8.out h), (fun h => f9.out h), (fun h => f10.out h), (fun h => f11.out h), (fun _ => rfl), (fun h => f13.out h), (fun h => f14.out h), (fun h => f15.out h), (fun h => f16.out h), (fun h => f17.out h), (fun h => f18.out h), (fun h => f19.out h), (fun h => f20.out h), (fun h => f21.out h), (fun h => f22.out h)⟩
    ·intro L vs W hlen hL hD hI K hK
     obtain ⟨x0, x1, x2, x3, x4, x5, x6, x7, x8, x9, x10, x11, x12, x13, x14, x15, x16, x17, x18, x19, x20, x21, x22, rfl⟩ := len23 hlen
     have hG := hI.1
     replace hI := hI.2
     have f0 := hide hI.1
     replace hI := hI.2
     have f1 := hide hI.1
     replace hI := hI.2
     have f2 := hide hI.1
     replace hI := hI.2
     have f3 := hide hI.1
     replace hI := hI.2
     have f4 := hide hI.1
     replace hI := hI.2
     have f5 := hide hI.1
     replace hI := hI.2
     have f6 := hide hI.1
     replace hI := hI.2
     have f7 := hide hI.1
     replace hI := hI.2
     have f8 := hide hI.1
     replace hI := hI.2
     have f9 := hide hI.1
     replace hI := hI.2
     have f10 := hide hI.1
     replace hI := hI.2
     have f11 := hide hI.1
     replace hI := hI.2
     have f12 := hide hI.1
     replace hI := hI.2
     have f13 := hide hI.1
     replace hI := hI.2
     have f14 := hide hI.1
     replace hI := hI.2
     have f15 := hide hI.1
     replace hI := hI.2
     have f16 := hide hI.1
     replace hI := hI.2
     have f17 := hide hI.1
     replace hI := hI.2
     have f18 := hide hI.1
     replace hI := hI.2
     have f19 := hide hI.1
     replace hI := hI.2
     have f20 := hide hI.1
     replace hI := hI.2
     have f21 := hide hI.1
     replace hI := hI.2
     have f22 := hide hI
     clear hI
     have r00 := hG.1.size
     obtain rfl := f9.out (hD.on 9 (by kernel_rfl))
     obtain rfl := f12.out (hD.on 12 (by kernel_rfl))
     try simp only [puts, Act.put, List.setIfInBounds_toArray, List.set_cons_zero, List.set_cons_succ]
     try go_simp
     have HC1 := hide (HPK.out W)
     refine HC1.out.mono ?_
     rintro e W' ⟨rfl, rfl⟩
     try go_simp
     exact hK.out _ _ _ (by simp only [puts, Act.put, List.setIfInBounds_toArray, List.set_cons_zero, List.set_cons_succ] <;> rfl) ⟨hG, (fun h => f0.out h), (fun h => f1.out h), (fun h => f2.out h), (fun h => f3.out h), (fun h => f4.out h), (fun h => f5.out h), (fun h => f6.out h), (fun h => f7.out h), (fun h => f8.out h), (fun h => f9.out h), (fun h => f10.out h), (fun h => f11.out h), (fun h => f12.out h), (fun _ => rfl), (fun h => f14.out h), (fun h => f15.out h), (fun h => f16.out h), (fun h => f17.out h), (fun h => f18.out h), (fun h => f19.out h), (fun h => f20.out h), (fun h => f21.out h), (fun h => f22.out h)⟩
    ·intro L vs W hlen hL hD hI K hK
     obtain ⟨x0, x1, x2, x3, x4, x5, x6, x7, x8, x9, x10, x11, x12, x13, x14, x15, x16, x17, x18, x19, x20, x21, x22, rfl⟩ := len23 hlen
     have hG := hI.1
     replace hI := hI.2
     have f0 := hide hI.1
     replace hI := hI.2
     have f1 := hide hI.1
     replace hI := hI.2
     have f2 := hide hI.1
     replace hI := hI.2
     have f3 := hide hI.1
     replace hI := hI.2
     have f4 := hide hI.1
     replace hI := hI.2
     have f5 := hide hI.1
     replace hI := hI.2
     have f6 := hide hI.1
     replace hI := hI.2
     have f7 := hide hI.1
     replace hI := hI.2
     have f8 := hide hI.1
     replace hI := hI.2
     have f9 := hide hI.1
     replace hI := hI.2
     have f10 := hide hI.1
     replace hI := hI.2
     have f11 := hide hI.1
     replace hI := hI.2
     have f12 := hide hI.1
     replace hI := hI.2
     have f13 := hide hI.1
     replace hI := hI.2
     have f14 := hide hI.1
     replace hI := hI.2
     have f15 := hide hI.1
     replace hI := hI.2
     have f16 := hide hI.1
     replace hI := hI.2
     have f17 := hide hI.1
     replace hI := hI.2
     have f18 := hide hI.1
     replace hI := hI.2
     have f19 := hide hI.1
     replace hI := hI.2
     have f20 := hide hI.1
     replace hI := hI.2
     have f21 := hide hI.1
     replace hI := hI.2
     have f22 := hide hI
     clear hI
     have r00 := hG.1.size
     obtain rfl := f4.out (hD.on 4 (by kernel_rfl))
     obtain rfl := f13.out (hD.on 13 (by kernel_rfl))
     try simp only [puts, Act.put, List.setIfInBounds_toArray, List.set_cons_zero, List.set_cons_succ]
     try go_simp
     exact hK.out _ _ _ (by simp only [puts, Act.put, List.setIfInBounds_toArray, List.set_cons_zero, List.set_cons_succ] <;> rfl) ⟨hG, (fun h => f0.out h), (fun h => f1.out h), (fun h => f2.out h), (fun h => f3.out h), (fun h => f4.out h), (fun h => f5.out h), (fun h => f6.out h), (fun h => f7.out h), (fun h => f8.out h), (fun h => f9.out h), (fun h => f10.out h), (fun h => f11.out h), (fun h => f12.out h), (fun h => f13.out h), (fun _ => rfl), (fun h => f15.out h), (fun h => f16.out h), (fun h => f17.out h), (fun h => f18.out h), (fun h => f19.out h), (fun h => f20.out h), (fun h => f21.out h), (fun h => f22.out h)⟩
    ·intro L vs W hlen hL hD hI K hK
     obtain ⟨x0, x1, x2, x3, x4, x5, x6, x7, x8, x9, x10, x11, x12, x13, x14, x15, x16, x17, x18, x19, x20, x21, x22, rfl⟩ := len23 hlen
     have hG := hI.1
     replace hI := hI.2
     have f0 := hide hI.1
     replace hI := hI.2
     have f1 := hide hI.1
     replace hI := hI.2
     have f2 := hide hI.1
     replace hI := hI.2
     have f3 := hide hI.1
     replace hI := hI.2
     have f4 := hide hI.1
     replace hI := hI.2
     have f5 := hide hI.1
     replace hI := hI.2
     have f6 := hide hI.1
     replace hI := hI.2
     have f7 := hide hI.1
     replace hI := hI.2
     have f8 := hide hI.1
     replace hI := hI.2
     have f9 := hide hI.1
     replace hI := hI.2
     have f10 := hide hI.1
     replace hI := hI.2
     have f11 := hide hI.1
     replace hI := hI.2
     have f12 := hide hI.1
     replace hI := hI.2
     have f13 := hide hI.1
     replace hI := hI.2
     have f14 := hide hI.1
     replace hI := hI.2
     have f15 := hide hI.1
     replace hI := hI.2
     have f16 := hide hI.1
     replace hI := hI.2
     have f17 := hide hI.1
     replace hI := hI.2
     have f18 := hide hI.1
     replace hI := hI.2
     have f19 := hide hI.1
     replace hI := hI.2
     have f20 := hide hI.1
     replace hI := hI.2
     have f21 := hide hI.1
     replace hI := hI.2
     have f22 := hide hI
     clear hI
     have r00 := hG.1.size
     try simp only [puts, Act.put, List.setIfInBounds_toArray, List.set_cons_zero, List.set_cons_succ]
     try go_simp
     exact hK.out _ _ _ (by simp only [puts, Act.put, List.setIfInBounds_toArray, List.set_cons_zero, List.set_cons_succ] <;> rfl) ⟨hG, (fun h => f0.out h), (fun h => f1.out h), (fun h => f2.out h), (fun h => f3.out h), (fun h => f4.out h), (fun h => f5.out h), (fun h => f6.out h), (fun h => f7.out h), (fun h => f8.out h), (fun h => f9.out h), (fun h => f10.out h), (fun h => f11.out h), (fun h => f12.out h), (fun h => f13.out h), (fun h => f14.out h), (fun _ => rfl), (fun h => f16.out h), (fun h => f17.out h), (fun h => f18.out h), (fun h => f19.out h), (fun h => f20.out h), (fun h => f21.out h), (fun h => f22.out h)⟩
    ·intro L vs W hlen hL hD hI K hK
     obtain ⟨x0, x1, x2, x3, x4, x5, x6, x7, x8, x9, x10, x11, x12, x13, x14, x15, x16, x17, x18, x19, x20, x21, x22, rfl⟩ := len23 hlen
     have hG := hI.1
     replace hI := hI.2
     have f0 := hide hI.1
     replace hI := hI.2
     have f1 := hide hI.1
     replace hI := hI.2
     have f2 := hide hI.1
     replace hI := hI.2
     have f3 := hide hI.1
     replace hI := hI.2
     have f4 := hide hI.1
     replace hI := hI.2
     have f5 := hide hI.1
     replace hI := hI.2
     have f6 := hide hI.1
     replace hI := hI.2
     have f7 := hide hI.1
     replace hI := hI.2
     have f8 := hide hI.1
     replace hI := hI.2
     have f9 := hide hI.1
     replace hI := hI.2
     have f10 := hide hI.1
     replace hI := hI.2
     have f11 := hide hI.1
     replace hI := hI.2
     have f12 := hide hI.1
     replace hI := hI.2
     have f13 := hide hI.1
     replace hI := hI.2
     have f14 := hide hI.1
     replace hI := hI.2
     have f15 := hide hI.1
     replace hI := hI.2
     have f16 := hide hI.1
     replace hI := hI.2
     have f17 := hide hI.1
     replace hI := hI.2
     have f18 := hide hI.1
     replace hI := hI.2
     have f19 := hide hI.1
     replace hI := hI.2
     have f20 := hide hI.1
     replace hI := hI.2
     have f21 := hide hI.1
     replace hI := hI.2
     have f22 := hide hI
     clear hI
     have r00 := hG.1.size
     obtain rfl := f15.out (hD.on 15 (by kernel_rfl))
     try simp only [puts, Act.put, List.setIfInBounds_toArray, List.set_cons_zero, List.set_cons_succ]
     have hst : L 22 = false := Bool.eq_false_iff.2 (fun h => absurd ((f22.out h).1.2.2.1.symm.trans hL) (by decide))
     have r0 := (hG.2.1 hst).cell 0 rfl
     go_simp
     exact hK.out _ _ _ (by simp only [puts, Act.put, List.setIfInBounds_toArray, List.set_cons_zero, List.set_cons_succ] <;> rfl) ⟨hG, (fun h => f0.out h), (fun h => f1.out h), (fun h => f2.out h), (fun h => f3.out h), (fun h => f4.out h), (fun h => f5.out h), (fun h => f6.out h), (fun h => f7.out h), (fun h => f8.out h), (fun h => f9.out h), (fun h => f10.out h), (fun h => f11.out h), (fun h => f12.out h), (fun h => f13.out h), (fun h => f14.out h), (fun h => f15.out h), (fun _ => rfl), (fun h => f17.out h), (fun h => f18.out h), (fun h => f19.out h), (fun h => f20.out h), (fun h => f21.out h), (fun h => (fun h => ⟨⟨h.1.1, h.1.2.1, rfl, h.1.2.2.2⟩, h.2⟩) (f22.out h))⟩
    ·intro L vs W hlen hL hD hI K hK
     obtain ⟨x0, x1, x2, x3, x4, x5, x6, x7, x8, x9, x10, x11, x12, x13, x14, x15, x16, x17, x18, x19, x20, x21, x22, rfl⟩ := len23 hlen
     have hG := hI.1
     replace hI := hI.2
     have f0 := hide hI.1
     replace hI := hI.2
     have f1 := hide hI.1
     replace hI := hI.2
     have f2 := hide hI.1
     replace hI := hI.2
     have f3 := hide hI.1
     replace hI := hI.2
     have f4 := hide hI.1
     replace hI := hI.2
     have f5 := hide hI.1
     replace hI := hI.2
     have f6 := hide hI.1
     replace hI := hI.2
     have f7 := hide hI.1
     replace hI := hI.2
     have f8 := hide hI.1
     replace hI := hI.2
     have f9 := hide hI.1
     replace hI := hI.2
     have f10 := hide hI.1
     replace hI := hI.2
     have f11 := hide hI.1
     replace hI := hI.2
     have f12 := hide hI.1
     replace hI := hI.2
     have f13 := hide hI.1
     replace hI := hI.2
     have f14 := hide hI.1
     replace hI := hI.2
     have f15 := hide hI.1
     replace hI := hI.2
     have f16 := hide hI.1
     replace hI := hI.2
     have f17 := hide hI.1
     replace hI := hI.2
     have f18 := hide hI.1
     replace hI := hI.2
     have f19 := hide hI.1
     replace hI := hI.2
     have f20 := hide hI.1
     replace hI := hI.2
     have f21 := hide hI.1
     replace hI := hI.2
     have f22 := hide hI
     clear hI
     have r00 := hG.1.size
     obtain rfl := f14.out (hD.on 14 (by kernel_rfl))
     obtain rfl := f16.out (hD.on 16 (by kernel_rfl))
     try simp only [puts, Act.put, List.setIfInBounds_toArray, List.set_cons_zero, List.set_cons_succ]
     try go_simp
     exact hK.out _ _ _ (by simp only [puts, Act.put, List.setIfInBounds_toArray, List.set_cons_zero, List.set_cons_succ] <;> rfl) ⟨hG, (fun h => f0.out h), (fun h => f1.out h), (fun h => f2.out h), (fun h => f3.out h), (fun h => f4.out h), (fun h => f5.out h), (fun h => f6.out h), (fun h => f7.out h), (fun h => f8.out h), (fun h => f9.out h), (fun h => f10.out h), (fun h => f11.out h), (fun h => f12.out h), (fun h => f13.out h), (fun h => f14.out h), (fun h => f15.out h), (fun h => f16.out h), (fun _ => rfl), (fun h => f18.out h), (fun h => f19.out h), (fun h => f20.out h), (fun h => f21.out h), (fun h => f22.out h)⟩
    ·intro L vs W hlen hL hD hI K hK
     obtain ⟨x0, x1, x2, x3, x4, x5, x6, x7, x8, x9, x10, x11, x12, x13, x14, x15, x16, x17, x18, x19, x20, x21, x22, rfl⟩ := len23 hlen
     have hG := hI.1
     replace hI := hI.2
     have f0 := hide hI.1
     replace hI := hI.2
     have f1 := hide hI.1
     replace hI := hI.2
     have f2 := hide hI.1
     replace hI := hI.2
     have f3 := hide hI.1
     replace hI := hI.2
     have f4 := hide hI.1
     replace hI := hI.2
     have f5 := hide hI.1
     replace hI := hI.2
     have f6 := hide hI.1
     replace hI := hI.2
     have f7 := hide hI.1
     replace hI := hI.2
     have f8 := hide hI.1
     replace hI := hI.2
     have f9 := hide hI.1
     replace hI := hI.2
     have f10 := hide hI.1
     replace hI := hI.2
     have f11 := hide hI.1
     replace hI := hI.2
     have f12 := hide hI.1
     replace hI := hI.2
     have f13 := hide hI.1
     replace hI := hI.2
     have f14 := hide hI.1
     replace hI := hI.2
     have f15 := hide hI.1
     replace hI := hI.2
     have f16 := hide hI.1
     replace hI := hI.2
     have f17 := hide hI.1
     replace hI := hI.2
     have f18 := hide hI.1
     replace hI := hI.2
     have f19 := hide hI.1
     replace hI := hI.2
     have f20 := hide hI.1
     replace hI := hI.2
     have f21 := hide hI.1
     replace hI := hI.2
     have f22 := hide hI
     clear hI
     have r00 := hG.1.size
     obtain rfl := f2.out (hD.on 2 (by kernel_rfl))
     obtain rfl := f17.out (hD.on 17 (by kernel_rfl))
     try simp only [puts, Act.put, List.setIfInBounds_toArray, List.set_cons_zero, List.set_cons_succ]
     try go_simp
     exact hK.out _ _ _ (by simp only [puts, Act.put, List.setIfInBounds_toArray, List.set_cons_zero, List.set_cons_succ] <;> rfl) ⟨hG, (fun h => f0.out h), (fun h => f1.out h), (fun h => f2.out h), (fun h => f3.out h), (fun h => f4.out h), (fun h => f5.out h), (fun h => f6.out h), (fun h => f7.out h), (fun h => f8.out h), (fun h => f9.out h), (fun h => f10.out h), (fun h => f11.out h), (fun h => f12.out h), (fun h => f13.out h), (fun h => f14.out h), (fun h => f15.out h), (fun h => f16.out h), (fun h => f17.out h), (fun _ => rfl), (fun h => f19.out h), (fun h => f20.out h), (fun h => f21.out h), (fun h => f22.out h)⟩
    ·intro L vs W hlen hL hD hI K hK
     obtain ⟨x0, x1, x2, x3, x4, x5, x6, x7, x8, x9, x10, x11, x12, x13, x14, x15, x16, x17, x18, x19, x20, x21, x22, rfl⟩ := len23 hlen
     have hG := hI.1
     replace hI := hI.2
     have f0 := hide hI.1
     replace hI := hI.2
     have f1 := hide hI.1
     replace hI := hI.2
     have f2 := hide hI.1
     replace hI := hI.2
     have f3 := hide hI.1
     replace hI := hI.2
     have f4 := hide hI.1
     replace hI := hI.2
     have f5 := hide hI.1
     replace hI := hI.2
     have f6 := hide hI.1
     replace hI := hI.2
     have f7 := hide hI.1
     replace hI := hI.2
     have f8 := hide hI.1
     replace hI := hI.2
     have f9 := hide hI.1
     replace hI := hI.2
     have f10 := hide hI.1
     replace hI := hI.2
     have f11 := hide hI.1
     replace hI := hI.2
     have f12 := hide hI.1
     replace hI := hI.2
     have f13 := hide hI.1
     replace hI := hI.2
     have f14 := hide hI.1
     replace hI := hI.2
     have f15 := hide hI.1
     replace hI := hI.2
     have f16 := hide hI.1
     replace hI := hI.2
     have f17 := hide hI.1
     replace hI := hI.2
     have f18 := hide hI.1
     replace hI := hI.2
     have f19 := hide hI.1
     replace hI := hI.2
     have f20 := hide hI.1
     replace hI := hI.2
     have f21 := hide hI.1
     replace hI := hI.2
     have f22 := hide hI
     clear hI
     have r00 := hG.1.size
     obtain rfl := f18.out (hD.on 18 (by kernel_rfl))
     try simp only [puts, Act.put, List.setIfInBounds_toArray, List.set_cons_zero, List.set_cons_succ]
     go_simp
     generalize hW' : World.alloc W _ = W'
     have hb : Below W.heap.size W W' := by rw [← hW']; exact bal W _
     exact hK.out _ _ _ (by simp only [puts, Act.put, List.setIfInBounds_toArray, List.set_cons_zero, List.set_cons_succ] <;> rfl) ⟨⟨hG.1.then hb, fun h => (hG.2.1 h).later hb, fun h => (hG.2.2 h).later' hb⟩, (fun h => f0.out h), (fun h => f1.out h), (fun h => f2.out h), (fun h => f3.out h), (fun h => f4.out h), (fun h => f5.out h), (fun h => f6.out h), (fun h => f7.out h), (fun h => f8.out h), (fun h => f9.out h), (fun h => f10.out h), (fun h => f11.out h), (fun h => f12.out h), (fun h => f13.out h), (fun h => f14.out h), (fun h => f15.out h), (fun h => f16.out h), (fun h => f17.out h), (fun h => f18.out h), (fun _ => fun _ => ⟨W.heap.size, rfl, by rw [← hW']; exact Blk.newA W _ rfl⟩), (fun h => (fun h => let ⟨g1, c1, e, ho⟩ := h; ⟨g1, c1, e, ho.later' hb⟩) (f20.out h)), (fun h => f21.out h), (fun h => (fun h => ⟨h.1, let ⟨g1, c1, e, hk⟩ := h.2; ⟨g1, c1, e, hk.later hb⟩⟩) (f22.out h))⟩
    ·intro L vs W hlen hL hD hI K hK
     obtain ⟨x0, x1, x2, x3, x4, x5, x6, x7, x8, x9, x10, x11, x12, x13, x14, x15, x16, x17, x18, x19, x20, x21, x22, rfl⟩ := len23 hlen
     have hG := hI.1
     replace hI := hI.2
     have f0 := hide hI.1
     replace hI := hI.2
     have f1 := hide hI.1
     replace hI := hI.2
     have f2 := hide hI.1
     replace hI := hI.2
     have f3 := hide hI.1
     replace hI := hI.2
     have f4 := hide hI.1
     replace hI := hI.2
     have f5 := hide hI.1
     replace hI := hI.2
     have f6 := hide hI.1
     replace hI := hI.2
     have f7 := hide hI.1
     replace hI := hI.2
     have f8 := hide hI.1
     replace hI := hI.2
     have f9 := hide hI.1
     replace hI := hI.2
     have f10 := hide hI.1
     replace hI := hI.2
     have f11 := hide hI.1
     replace hI := hI.2
     have f12 := hide hI.1
     replace hI := hI.2
     have f13 := hide hI.1
     replace hI := hI.2
     have f14 := hide hI.1
     replace hI := hI.2
     have f15 := hide hI.1
     replace hI := hI.2
     have f16 := hide hI.1
     replace hI := hI.2
     have f17 := hide hI.1
     replace hI := hI.2
     have f18 := hide hI.1
     replace hI := hI.2
     have f19 := hide hI.1
     replace hI := hI.2
     have f20 := hide hI.1
     replace hI := hI.2
     have f21 := hide hI.1
     replace hI := hI.2
     have f22 := hide hI
     clear hI
     have r00 := hG.1.size
     obtain rfl := f1.out (hD.on 1 (by kernel_rfl))
     have g19 := f19.out (hD.on 19 (by kernel_rfl))
     try simp only [puts, Act.put, List.setIfInBounds_toArray, List.set_cons_zero, List.set_cons_succ]
     obtain ⟨b0, rfl, hB0⟩ := g19 hL
     refine step_one infoPair rfl (by decide) Tryd.underlying22 rfl _ _ rfl (B) _ Lr rfl (hG.2.2 hL) b0 _ rfl hB0 rfl (pairC_one (p := ((a : Nat), (r : Nat)))) (by omega) (by omega) (by omega) ?_
     intro g1 c1 W' hO' hE'
     have hb : True := trivial
     exact hK.out _ _ _ (by simp only [puts, Act.put, List.setIfInBounds_toArray, List.set_cons_zero, List.set_cons_succ] <;> rfl) ⟨⟨hG.1.app hE', fun h => hE'.blk (hG.2.1 h) (by decide), fun h => (by cases h)⟩, (fun h => f0.out h), (fun h => f1.out h), (fun h => f2.out h), (fun h => f3.out h), (fun h => f4.out h), (fun h => f5.out h), (fun h => f6.out h), (fun h => f7.out h), (fun h => f8.out h), (fun h => f9.out h), (fun h => f10.out h), (fun h => f11.out h), (fun h => f12.out h), (fun h => f13.out h), (fun h => f14.out h), (fun h => f15.out h), (fun h => f16.out h), (fun h => f17.out h), (fun h => f18.out h), (fun h => (fun h => (fun h21 => by cases h21)) (f19.out h)), (fun _ => ⟨g1, c1, rfl, hO'⟩), (fun h => f21.out h), (fun h => (fun h => absurd (h.1.2.2.2.symm.trans hL) (by decide)) (f22.out h))⟩
    ·intro L vs W hlen hL hD hI K hK
     obtain ⟨x0, x1, x2, x3, x4, x5, x6, x7, x8, x9, x10, x11, x12, x13, x14, x15, x16, x17, x18, x19, x20, x21, x22, rfl⟩ := len23 hlen
     have hG := hI.1
     replace hI := hI.2
     have f0 := hide hI.1
     replace hI := hI.2
     have f1 := hide hI.1
     replace hI := hI.2
     have f2 := hide hI.1
     replace hI := hI.2
     have f3 := hide hI.1
     replace hI := hI.2
     have f4 := hide hI.1
     replace hI := hI.2
     have f5 := hide hI.1
     replace hI := hI.2
     have f6 := hide hI.1
     replace hI := hI.2
     have f7 := hide hI.1
     replace hI := hI.2
     have f8 := hide hI.1
     replace hI := hI.2
     have f9 := hide hI.1
     replace hI := hI.2
     have f10 := hide hI.1
     replace hI := hI.2
     have f11 := hide hI.1
     replace hI := hI.2
     have f12 := hide hI.1
     replace hI := hI.2
     have f13 := hide hI.1
     replace hI := hI.2
     have f14 := hide hI.1
     replace hI := hI.2
     have f15 := hide hI.1
     replace hI := hI.2
     have f16 := hide hI.1
     replace hI := hI.2
     have f17 := hide hI.1
     replace hI := hI.2
     have f18 := hide hI.1
     replace hI := hI.2
     have f19 := hide hI.1
     replace hI := hI.2
     have f20 := hide hI.1
     replace hI := hI.2
     have f21 := hide hI.1
     replace hI := hI.2
     have f22 := hide hI
     clear hI
     have r00 := hG.1.size
     try simp only [puts, Act.put, List.setIfInBounds_toArray, List.set_cons_zero, List.set_cons_succ]
     try go_simp
     exact hK.out _ _ _ (by simp only [puts, Act.put, List.setIfInBounds_toArray, List.set_cons_zero, List.set_cons_succ] <;> rfl) ⟨hG, (fun h => f0.out h), (fun h => f1.out h), (fun h => f2.out h), (fun h => f3.out h), (fun h => f4.out h), (fun h => f5.out h), (fun h => f6.out h), (fun h => f7.out h), (fun h => f8.out h), (fun h => f9.out h), (fun h => f10.out h), (fun h => f11.out h), (fun h => f12.out h), (fun h => f13.out h), (fun h => f14.out h), (fun h => f15.out h), (fun h => f16.out h), (fun h => f17.out h), (fun h => f18.out h), (fun h => f19.out h), (fun h => f20.out h), (fun _ => rfl), (fun h => f22.out h)⟩
    ·intro L vs W hlen hL hD hI K hK
     obtain ⟨x0, x1, x2, x3, x4, x5, x6, x7, x8, x9, x10, x11, x12, x13, x14, x15, x16, x17, x18, x19, x20, x21, x22, rfl⟩ := len23 hlen
     have hG := hI.1
     replace hI := hI.2
     have f0 := hide hI.1
     replace hI := hI.2
     have f1 := hide hI.1
     replace hI := hI.2
     have f2 := hide hI.1
     replace hI := hI.2
     have f3 := hide hI.1
     replace hI := hI.2
     have f4 := hide hI.1
     replace hI := hI.2
     have f5 := hide hI.1
     replace hI := hI.2
     have f6 := hide hI.1
     replace hI := hI.2
     have f7 := hide hI.1
     replace hI := hI.2
     have f8 := hide hI.1
     replace hI := hI.2
     have f9 := hide hI.1
     replace hI := hI.2
     have f10 := hide hI.1
     replace hI := hI.2
     have f11 := hide hI.1
     replace hI := hI.2
     have f12 := hide hI.1
     replace hI := hI.2
     have f13 := hide hI.1
     replace hI := hI.2
     have f14 := hide hI.1
     replace hI := hI.2
     have f15 := hide hI.1
     replace hI := hI.2
     have f16 := hide hI.1
     replace hI := hI.2
     have f17 := hide hI.1
     replace hI := hI.2
     have f18 := hide hI.1
     replace hI := hI.2
     have f19 := hide hI.1
     replace hI := hI.2
     have f20 := hide hI.1
     replace hI := hI.2
     have f21 := hide hI.1
     replace hI := hI.2
     have f22 := hide hI
     clear hI
     have r00 := hG.1.size
     obtain rfl := f1.out (hD.on 1 (by kernel_rfl))
     obtain rfl := f11.out (hD.on 11 (by kernel_rfl))
     obtain rfl := f16.out (hD.on 16 (by kernel_rfl))
     have g20 := f20.out (hD.on 20 (by kernel_rfl))
     obtain rfl := f21.out (hD.on 21 (by kernel_rfl))
     try simp only [puts, Act.put, List.setIfInBounds_toArray, List.set_cons_zero, List.set_cons_succ]
     obtain ⟨g1, c1, rfl, hO1⟩ := g20
     have bC0 := hG.2.1 hL
     have z0 := bC0.frozen 1
     have z1 := bC0.cell 1 rfl
     go_simp
     have hb : True := trivial
     exact hK.out _ undef _ (by simp only [puts, Act.put, List.setIfInBounds_toArray, List.set_cons_zero, List.set_cons_succ] <;> rfl) ⟨⟨hG.1.set 1 _, fun h => (by cases h), fun h => absurd (h.symm.trans (hD.on 20 (by kernel_rfl))) (by decide)⟩, (fun h => f0.out h), (fun h => f1.out h), (fun h => f2.out h), (fun h => f3.out h), (fun h => f4.out h), (fun h => f5.out h), (fun h => f6.out h), (fun h => f7.out h), (fun h => f8.out h), (fun h => f9.out h), (fun h => f10.out h), (fun h => f11.out h), (fun h => f12.out h), (fun h => f13.out h), (fun h => f14.out h), (fun h => f15.out h), (fun h => f16.out h), (fun h => f17.out h), (fun h => f18.out h), (fun h => (fun h => (fun h21 => absurd (h21.symm.trans (hD.on 20 (by kernel_rfl))) (by decide))) (f19.out h)), (fun h => (fun h => let ⟨g2, c2, e, ho⟩ := h; ⟨g2, c2, e, ho.setO bC0 (by decide) _⟩) (f20.out h)), (fun h => f21.out h), (fun _ => ⟨⟨hD.on 1 (by kernel_rfl), hD.on 11 (by kernel_rfl), hD.on 16 (by kernel_rfl), hD.on 20 (by kernel_rfl)⟩, g1, c1, rfl, bC0.set 1 _⟩)⟩
   intro L vs W hlen hall hI
   obtain ⟨x0, x1, x2, x3, x4, x5, x6, x7, x8, x9, x10, x11, x12, x13, x14, x15, x16, x17, x18, x19, x20, x21, x22, rfl⟩ := len23 hlen
   have hG := hI.1
   replace hI := hI.2
   have f0 := hide hI.1
   replace hI := hI.2
   have f1 := hide hI.1
   replace hI := hI.2
   have f2 := hide hI.1
   replace hI := hI.2
   have f3 := hide hI.1
   replace hI := hI.2
   have f4 := hide hI.1
   replace hI := hI.2
   have f5 := hide hI.1
   replace hI := hI.2
   have f6 := hide hI.1
   replace hI := hI.2
   have f7 := hide hI.1
   replace hI := hI.2
   have f8 := hide hI.1
   replace hI := hI.2
   have f9 := hide hI.1
   replace hI := hI.2
   have f10 := hide hI.1
   replace hI := hI.2
   have f11 := hide hI.1
   replace hI := hI.2
   have f12 := hide hI.1
   replace hI := hI.2
   have f13 := hide hI.1
   replace hI := hI.2
   have f14 := hide hI.1
   replace hI := hI.2
   have f15 := hide hI.1
   replace hI := hI.2
   have f16 := hide hI.1
   replace hI := hI.2
   have f17 := hide hI.1
   replace hI := hI.2
   have f18 := hide hI.1
   replace hI := hI.2
   have f19 := hide hI.1
   replace hI := hI.2
   have f20 := hide hI.1
   replace hI := hI.2
   have f21 := hide hI.1
   replace hI := hI.2
   have f22 := hide hI
   clear hI
   obtain rfl := f0.out (hall 0 (by decide))
   obtain rfl := f1.out (hall 1 (by decide))
   obtain rfl := f2.out (hall 2 (by decide))
   obtain rfl := f3.out (hall 3 (by decide))
   obtain rfl := f4.out (hall 4 (by decide))
   obtain rfl := f5.out (hall 5 (by decide))
   obtain rfl := f6.out (hall 6 (by decide))
   obtain rfl := f7.out (hall 7 (by decide))
   obtain rfl := f8.out (hall 8 (by decide))
   obtain rfl := f9.out (hall 9 (by decide))
   obtain rfl := f10.out (hall 10 (by decide))
   obtain rfl := f11.out (hall 11 (by decide))
   obtain rfl := f12.out (hall 12 (by decide))
   obtain rfl := f13.out (hall 13 (by decide))
   obtain rfl := f14.out (hall 14 (by decide))
   obtain rfl := f15.out (hall 15 (by decide))
   obtain rfl := f16.out (hall 16 (by decide))
   obtain rfl := f17.out (hall 17 (by decide))
   obtain rfl := f18.out (hall 18 (by decide))
   have g19 := f19.out (hall 19 (by decide))
   have g20 := f20.out (hall 20 (by decide))
   obtain rfl := f21.out (hall 21 (by decide))
   have g22 := f22.out (hall 22 (by decide))
   have hal := hide hall
   clear hall f0 f1 f2 f3 f4 f5 f6 f7 f8 f9 f10 f11 f12 f13 f14 f15 f16 f17 f18 f19 f20 f21 f22
   try simp only [puts, Act.put, List.setIfInBounds_toArray, List.set_cons_zero, List.set_cons_succ]
   obtain ⟨-, g1, c1, rfl, hB2⟩ := g22
   obtain ⟨g1', c1', e20, hO2⟩ := g20
   have HO3 := hide (show OwnR W B 46 2 (.slice (some ⟨g1, 0, none⟩) (Lr.length + 1) c1) (((xs.take (k + 1)).map (looseP N)).map pairC) by rw [← HM.out]; exact hO2)
   have HB3 := hide hB2
   have HR3 := hide (hG.1.blk HRB.out (show w.heap.size ≠ P by omega) (by decide))
   have HW3 := hide (HLO.out W hG.1)
   have HS3 := hide (Nat.le_trans hBV hG.1.size)
   clear hG hO2 hB2 e20 hal g19
   go_wp2_with fail
   go_roundw
   case rel => exact ⟨k + 1, _, by have := HK.out; omega, by omega, .inr (by omega), by go_num, HO3.out, HB3.out, HR3.out, HW3.out, HS3.out⟩
   case measure => have := HK.out; simp [intOf]; omega
  ·have hex := HEN.out k hk hk20 hk0 hgo
   rw [hex] at hO
   obtain ⟨va, vc, rfl⟩ := OwnR.formE hO
   generalize ((looseL N xs).map pairC).length = m at *
   have HOO := hide hO
   have HBR := hide bR
   have HW := hide hw
   have r1 := bP.cell 1 rfl
   have q0 := bR.cell 0 rfl
   have q1 := bR.cell 1 rfl
   have f0 := bR.frozen 0
   have f1 := bR.frozen 1
   have HBW := hide (show w.heap.size ≤ B by omega)
   clear hO bR hw hex
   by_cases h1 : k < xs.length
   ·have h1I : (k : Int) < xs.length := by omega
    by_cases h2 : k < 20
    ·have h2I : (k : Int) < 20 := by omega
     have h3I : ¬ (1 : Int) < (N : Int) := by omega
     clear hgo
     go_wp2_with fail
     have q := (HBR.out.set 0 (.int .i64 (N : Nat))).set 1 (.slice va m vc)
     have x0 := q.cell 0 rfl
     have x1 := q.cell 1 rfl
     refine bodyPost_ret (v := orderV (N : Nat) (.slice va m vc)) (by simp [results, Tryd.results17, go_sem, x0, x1]) rfl ?_
     exact ⟨_, rfl, OwnR.weaken' ((HOO.out.setO HBR.out (by decide) (j := 0) (.int .i64 (N : Nat))).setO (HBR.out.set 0 (.int .i64 (N : Nat))) (by decide) (j := 1) (.slice va m vc)) HBW.out, (HW.out.setCell (p := ⟨w.heap.size, 0, none⟩) (Nat.le_refl _) _).setCell (p := ⟨w.heap.size, 1, none⟩) (Nat.le_refl _) _⟩
    ·have h2I : ¬ (k : Int) < 20 := by omega
     clear hgo
     go_wp2_with fail
     have q := (HBR.out.set 0 (.int .i64 (N : Nat))).set 1 (.slice va m vc)
     have x0 := q.cell 0 rfl
     have x1 := q.cell 1 rfl
     refine bodyPost_ret (v := orderV (N : Nat) (.slice va m vc)) (by simp [results, Tryd.results17, go_sem, x0, x1]) rfl ?_
     exact ⟨_, rfl, OwnR.weaken' ((HOO.out.setO HBR.out (by decide) (j := 0) (.int .i64 (N : Nat))).setO (HBR.out.set 0 (.int .i64 (N : Nat))) (by decide) (j := 1) (.slice va m vc)) HBW.out, (HW.out.setCell (p := ⟨w.heap.size, 0, none⟩) (Nat.le_refl _) _).setCell (p := ⟨w.heap.size, 1, none⟩) (Nat.le_refl _) _⟩
   ·have h1I : ¬ (k : Int) < xs.length := by omega
    clear hgo
    go_wp2_with fail
    have q := (HBR.out.set 0 (.int .i64 (N : Nat))).set 1 (.slice va m vc)
    have x0 := q.cell 0 rfl
    have x1 := q.cell 1 rfl
    refine bodyPost_ret (v := orderV (N : Nat) (.slice va m vc)) (by simp [results, Tryd.results17, go_sem, x0, x1]) rfl ?_
    exact ⟨_, rfl, OwnR.weaken' ((HOO.out.setO HBR.out (by decide) (j := 0) (.int .i64 (N : Nat))).setO (HBR.out.set 0 (.int .i64 (N : Nat))) (by decide) (j := 1) (.slice va m vc)) HBW.out, (HW.out.setCell (p := ⟨w.heap.size, 0, none⟩) (Nat.le_refl _) _).setCell (p := ⟨w.heap.size, 1, none⟩) (Nat.le_refl _) _⟩
end Go.Proofs.YtnidcoinfmcffaaDoor
