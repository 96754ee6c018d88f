/- The walk of OrderLattice. Conditions: how the arguments and the tables of math/bits lie in memory; that integers are of 64 bits. -/
import Derived.Test.YtnidcoinfmcffaaDoorOtG
namespace Go.Proofs.YtnidcoinfmcffaaDoor
open Go.RowKit
attribute [local go_sem] Oper.semAt_some
theorem made_split (n : Int) (xs : List (Int × Int)) (line : Int) : madeO n xs line = ⟨((looseN n : Nat) : Int), (madeO n xs line).pairs⟩ := rfl
theorem mem_pref {n : Nat} {R : RelO} {S : Nat} : S ∈ prefixesO n R ↔ S < 2 ^ n ∧ prefO n R S.testBit = true := by
  unfold prefixesO
  rw [List.mem_filter, List.mem_range]
theorem pref_zero {n : Nat} {R : RelO} : 0 ∈ prefixesO n R := mem_pref.2 ⟨Nat.pow_pos (by decide), by
  unfold prefO
  rw [List.all_eq_true]
  intro x _
  rw [Nat.zero_testBit]; rfl⟩
theorem pref_add {n : Nat} {R : RelO} (h : PoO n R) {a b : Nat} (ha : a < n) (hb : b < n) (hne : a ≠ b) (hr : R b a = false) : prefixesO n (addO R a b) = (prefixesO n R).filter fun S => S.testBit a || !S.testBit b := by
  unfold prefixesO
  rw [List.filter_filter]
  refine List.filter_congr fun S _ => ?_
  rw [add_pref h ha hb hne hr, Bool.and_comm]
theorem shr_mod {S k : Nat} : ((S : Int) / 2 ^ k) % 2 = ((S / 2 ^ k % 2 : Nat) : Int) := by simp
theorem shr_tmod {S k : Nat} : ((S : Int) / 2 ^ k).tmod 2 = ((S / 2 ^ k % 2 : Nat) : Int) := by
  rw [Int.tmod_eq_emod_of_nonneg (Int.ediv_nonneg (by omega) (Int.pow_nonneg (by decide))), shr_mod]
theorem bit_one {S k : Nat} : ((((S / 2 ^ k % 2 : Nat) : Int)) == 1) = S.testBit k := by
  rw [Nat.testBit_eq_decide_div_mod_eq]
  have h2 : S / 2 ^ k % 2 < 2 := Nat.mod_lt _ (by decide)
  generalize S / 2 ^ k % 2 = q at *
  show decide ((q : Int) = 1) = decide (q = 1)
  rw [decide_eq_decide]; omega
theorem bit_nil {S k : Nat} : ((((S / 2 ^ k % 2 : Nat) : Int)) == 0) = !S.testBit k := by
  rw [Nat.testBit_eq_decide_div_mod_eq]
  have h2 : S / 2 ^ k % 2 < 2 := Nat.mod_lt _ (by decide)
  generalize S / 2 ^ k % 2 = q at *
  show decide ((q : Int) = 0) = !decide (q = 1)
  rw [← decide_not, decide_eq_decide]; omega
theorem filter_take {α : Type} (p : α → Bool) {l : List α} {k : Nat} (d : α) (hk : k < l.length) : (l.take (k + 1)).filter p = (l.take k).filter p ++ if p (l.getD k d) then [l.getD k d] else [] := by
  rw [take_succ' l k d hk, List.filter_append, List.filter_cons, List.filter_nil]
set_option maxRecDepth 100000 in
set_option maxHeartbeats 4000000 in
theorem lattice_any (n : Int) (xs : List (Int × Int)) (xv : Value) (line p0 q0 a0 b0 : Int) (w : World) (hn : i64B n) (hx : PairsIn w.cell? xv xs) (h64 : ∀ p ∈ xs, i64B p.1 ∧ i64B p.2) (hl : i64B line) (hp0 : i64B p0) (hq0 : i64B q0) (ha : i64B a0) (hb : i64B b0) (hGl : Glob w) :
    Calls Tryd.prog 10 #[.int .i64 n, xv, .int .i64 line, .int .i64 p0, .int .i64 q0, .int .i64 a0, .int .i64 b0] w (Ret (.bool true) w) := by
  have HMD := hide (fun W (hb : Below w.heap.size w W) => made_any n xs line xv W hn hl (RecIn.below hb hx) h64)
  have hN8 := looseN_le n
  have hvd := made_valid n xs line
  rw [made_split] at hvd
  have hpl := made_len n xs line
  generalize (madeO n xs line).pairs = ps at *
  generalize looseN n = N at *
  have HPO := hide (show PoO N (beforeO ⟨(N : Int), ps⟩) from before_po hvd)
  have HVD := hide hvd
  obtain ⟨xa, xc, rfl, -, -, -⟩ := id hx
  clear hx h64 hn hl hvd
  have HPA := hide (fun W => pickl_any a0 8 W ha (by decide) (by decide))
  have HPB := hide (fun W => pickl_any b0 8 W hb (by decide) (by decide))
  have ha8 := pk_lt a0 (n := 8) (by decide)
  have hb8 := pk_lt b0 (n := 8) (by decide)
  generalize pkO a0 8 = a at *
  generalize pkO b0 8 = b at *
  have HPX := hide (fun pv W hp => prefixes_yes N ps pv W hp HVD.out)
  have HRE := hide (fun pv W hp => reduce_yes N ps pv W hp HVD.out)
  have HMO : Hid (∀ a b : Int, moreO N (beforeO ⟨(N : Int), ps⟩) a b = ⟨(N : Int), redL N (beforeO ⟨(N : Int), ps⟩) ++ [(a, b)]⟩) := hide (fun _ _ => rfl)
  have hrl := red_27 HPO.out hN8
  have HNV := hide (fun h => more_not HPO.out hN8 (a := a) (b := b) h)
  have HCY := hide (fun h => more_cycle HPO.out (a := a) (b := b) h)
  have HVA := hide (fun h1 h2 h3 h4 => more_valid HPO.out hN8 (a := a) (b := b) h1 h2 h3 h4)
  have HPD := hide (fun h1 h2 h3 h4 => pref_add HPO.out (a := a) (b := b) h1 h2 h3 h4)
  have HBE := hide (fun (h1 : a < N) (h2 : b < N) => (show befB ⟨(N : Int), ps⟩ b a = beforeO ⟨(N : Int), ps⟩ b a by
    unfold befB
    rw [HVD.out, decide_eq_true (by simp only; omega)]; rfl))
  have hz : 0 < (prefixesO N (beforeO ⟨(N : Int), ps⟩)).length := List.length_pos_iff.2 (fun e => by have := pref_zero (n := N) (R := beforeO ⟨(N : Int), ps⟩); rw [e] at this; cases this)
  have hpl2 : (prefixesO N (beforeO ⟨(N : Int), ps⟩)).length ≤ 256 := Nat.le_trans (List.length_filter_le _ _) (by rw [List.length_range]; exact pow_256 hN8)
  have HMM := hide (fun S => mem_pref (n := N) (R := beforeO ⟨(N : Int), ps⟩) (S := S))
  have HOR := hide (fun S T h1 h2 => pref_or HPO.out (S := S) (T := T) h1 h2)
  have HAN := hide (fun S T h1 h2 => pref_and HPO.out (S := S) (T := T) h1 h2)
  have hP256 := pow_256 hN8
  generalize prefixesO N (beforeO ⟨(N : Int), ps⟩) = PF at *
  have HPP := hide (fun W => pickl_any p0 PF.length W hp0 hz (by omega))
  have HPQ := hide (fun W => pickl_any q0 PF.length W hq0 hz (by omega))
  have hk1 := pk_lt p0 hz
  have hk2 := pk_lt q0 hz
  generalize pkO p0 PF.length = k1 at *
  generalize pkO q0 PF.length = k2 at *
  have hm1 := HMM.out _ |>.1 (getD_mem PF k1 (d := 0) hk1)
  have hm2 := HMM.out _ |>.1 (getD_mem PF k2 (d := 0) hk2)
  generalize redL N (beforeO ⟨(N : Int), ps⟩) = rl at *
  generalize hRR : beforeO ⟨(N : Int), ps⟩ = R0 at *
  clear ha hb hRR
  go_enter Tryd.func10, Tryd.ntmps10
  go_wp2_with fail
  refine (sane_any w hGl).mono ?_
  rintro e w1 ⟨rfl, hb1⟩
  have hGl1 := hGl.later hb1
  clear hGl
  go_wp2_with fail
  refine (HMD.out _ hb1).mono ?_
  rintro e w2 ⟨pv, rfl, hO, hb2⟩
  have hp2 : PairsIn w2.cell? pv ps := RecIn.at (RecIn.of_own hO (fun _ => rfl) (Nat.le_refl _))
  have hw2 := below2 hb1 hb2
  have hGl2 := hGl1.later hb2
  obtain ⟨pa, pc, rfl⟩ := OwnR.formE hO
  rw [List.length_map] at hp2 ⊢
  clear hO hb1 hb2 hGl1 HMD
  go_upto_region 5 with (fail)
  generalize hY1 : World.alloc w2 _ = Y1
  have zY1 : Y1.heap.size = w2.heap.size + 1 := by rw [← hY1]; simp
  have bY1 : Below w2.heap.size w2 Y1 := by rw [← hY1]; exact bal w2 _
  have bP : Blk Y1 (w2.heap.size) [.int .i64 (N : Nat), .slice pa ps.length pc] 25 := by rw [← hY1]; exact Blk.newA w2 _ (by first | rfl | simp)
  have Yb := bY1
  have Yz := zY1
  clear hY1 zY1 bY1
  have hpY := RecIn.below Yb hp2
  have hwY := below2 hw2 Yb
  have HGL := hide (hGl2.later Yb)
  obtain ⟨P, hP⟩ : ∃ P, w2.heap.size = P := ⟨_, rfl⟩
  rw [hP] at bP ⊢
  clear hp2 hw2 hGl2 Yb Yz hP
  have c0 := bP.cell 0 rfl
  have c1 := bP.cell 1 rfl
  go_wp2_with fail
  refine (HPX.out _ _ hpY).mono ?_
  rintro e w3 ⟨v3, rfl, hv3, hb3⟩
  have bP3 := bP.later hb3
  have hp3 := hpY.below hb3
  have hw3 := below2 hwY hb3
  have hi3 := hv3.at
  obtain ⟨fa, fc, e, -, -, -⟩ := id hi3
  subst e
  have hnl : (natsO PF).length = PF.length := by unfold natsO; rw [List.length_map]
  rw [hnl] at hi3 ⊢
  clear hv3 hb3 bP hpY hwY c0 c1 HPX
  have c0 := bP3.cell 0 rfl
  have c1 := bP3.cell 1 rfl
  go_wp2_with fail
  refine (HRE.out _ _ hp3).mono ?_
  rintro e w4 ⟨rv, rfl, hv, hb4⟩
  have hpr := hv.at
  obtain ⟨ra, rc, e, -, -, -⟩ := id hpr
  subst e
  have bP4 := bP3.later hb4
  have hp4 := hp3.below hb4
  have hi4 := ints_bel hi3 hb4
  have hw4 := below2 hw3 hb4
  generalize hm : rl.length = m at *
  clear hv hb4 bP3 hp3 hi3 hw3 c0 c1 HRE
  go_upto_region 7 with (fail)
  generalize hU1 : World.alloc w4 _ = U1
  have zU1 : U1.heap.size = w4.heap.size + 1 := by rw [← hU1]; simp
  have bU1 : Below w4.heap.size w4 U1 := by rw [← hU1]; exact bal w4 _
  have bR : Blk U1 (w4.heap.size) [.int .i64 (N : Nat), .slice ra m rc] 25 := by rw [← hU1]; exact Blk.newA w4 _ (by first | rfl | simp)
  have Ub := bU1
  have Uz := zU1
  clear hU1 zU1 bU1
  have bP5 := bP4.later Ub
  have hp5 := hp4.below Ub
  have hr5 := RecIn.below Ub hpr
  have hi5 := ints_bel hi4 Ub
  have hw5 := below2 hw4 Ub
  obtain ⟨R, hR⟩ : ∃ R, w4.heap.size = R := ⟨_, rfl⟩
  rw [hR] at bR ⊢
  clear bP4 hp4 hpr hi4 hw4 Ub Uz hR
  obtain ⟨a', m', e', -, -, hc⟩ := id hi5
  obtain ⟨rfl, -, -⟩ := Value.slice.inj e'
  obtain ⟨fb, fo, rfl, -⟩ := hc 0 (by rw [hnl]; exact hz)
  obtain ⟨b9, o9, e9, hc1⟩ := hc k1 (by rw [hnl]; exact hk1)
  cases e9
  obtain ⟨b9, o9, e9, hc2⟩ := hc k2 (by rw [hnl]; exact hk2)
  cases e9
  rw [natsO_at] at hc1 hc2
  have hzn : ¬ PF.length = 0 := by omega
  have hk1I : (k1 : Int) < PF.length := by omega
  have hk2I : (k2 : Int) < PF.length := by omega
  obtain ⟨S1, hS1⟩ : ∃ S, PF.getD k1 0 = S := ⟨_, rfl⟩
  obtain ⟨S2, hS2⟩ : ∃ S, PF.getD k2 0 = S := ⟨_, rfl⟩
  rw [hS1] at hc1 hm1
  rw [hS2] at hc2 hm2
  have hor := bor_nat (a := S1) (b := S2) (by omega) (by omega)
  have han := band_nat (a := S1) (b := S2) (by omega) (by omega)
  have hlo : S1 ||| S2 < 2 ^ N := Nat.or_lt_two_pow hm1.1 hm2.1
  have hla : S1 &&& S2 < 2 ^ N := Nat.and_lt_two_pow _ hm2.1
  have HI1 := hide (show inI (natsO PF) ((S1 ||| S2 : Nat) : Int) = true by rw [inI_nats]; simpa using (HMM.out _).2 ⟨hlo, HOR.out _ _ hm1.2 hm2.2⟩)
  have HI2 := hide (show inI (natsO PF) ((S1 &&& S2 : Nat) : Int) = true by rw [inI_nats]; simpa using (HMM.out _).2 ⟨hla, HAN.out _ _ hm1.2 hm2.2⟩)
  have HIN := hide (fun x => in_any (natsO PF) x (.slice (some ⟨fb, fo, none⟩) PF.length fc) U1 hi5)
  have HI5 := hide hi5
  generalize S1 ||| S2 = SO at *
  generalize S1 &&& S2 = SA at *
  clear hc e' hi5 hS1 hS2 hm1 hm2 hlo hla hz HOR HAN
  generalize U1 = V at *
  go_wp2_with fail
  refine (HPP.out _).mono ?_
  rintro e w6 ⟨rfl, hw6⟩
  obtain rfl := hw6
  go_wp2_with fail
  refine (HPQ.out _).mono ?_
  rintro e w7 ⟨rfl, hw7⟩
  obtain rfl := hw7
  go_wp2_with fail
  refine (HIN.out _).mono ?_
  rintro e w8 ⟨rfl, hw8⟩
  obtain rfl := hw8
  rw [HI1.out]
  go_wp2_with fail
  refine (HIN.out _).mono ?_
  rintro e w9 ⟨rfl, hw9⟩
  obtain rfl := hw9
  rw [HI2.out]
  go_wp2_with fail
  refine (HPA.out _).mono ?_
  rintro e w10 ⟨rfl, hw10⟩
  obtain rfl := hw10
  go_wp2_with fail
  refine (HPB.out _).mono ?_
  rintro e w11 ⟨rfl, hw11⟩
  obtain rfl := hw11
  clear hc1 hc2 hor han HI1 HI2 HIN HPP HPQ HPA HPB hk1I hk2I hzn
  generalize w11 = V at *
  have c0 := bP5.cell 0 rfl
  have c1 := bR.cell 1 rfl
  have HPS := hide hr5
  have hmm := hm
  have hm : m ≤ 1000 := by omega
  go_upto_region 15 with (fail)
  refine wp_region_inv [some 86, some 87, some 88, some 89, some 90, some 91, some 92, some 93, some 94, some 95, some 96, some 97, some 21, none] (fun L vs W => match vs with | [x0, x1, x2, x3, x4, x5, x6, x7, x8, x9, x10, x11, x12, x13] => (Below V.heap.size V W) ∧ (L 0 = true → x0 = .pointer (some ⟨P, 0, none⟩)) ∧ (L 1 = true → x1 = .int .i64 (N : Nat)) ∧ (L 2 = true → (L 5 = false → ∃ b0 : Nat, x2 = .slice (some ⟨b0, 0, none⟩) 0 0 ∧ OwnR W V.heap.size 46 2 (.slice (some ⟨b0, 0, none⟩) 0 0) [])) ∧ (L 3 = true → x3 = .pointer (some ⟨R, 1, none⟩)) ∧ (L 4 = true → x4 = .slice ra m rc) ∧ (L 5 = true → (L 10 = false → ∃ va vc, x5 = .slice va m vc ∧ OwnR W V.heap.size 46 2 (.slice va m vc) (List.map pairC rl))) ∧ (L 6 = true → x6 = .int .i64 ((a : Nat) : Int)) ∧ (L 7 = true → x7 = .int .i64 ((b : Nat) : Int)) ∧ (L 8 = true → x8 = .agg #[.int .i64 ((a : Nat) : Int), .int .i64 ((b : Nat) : Int)]) ∧ (L 9 = true → (L 10 = false → ∃ b0 : Nat, x9 = .slice (some ⟨b0, 0, none⟩) 1 1 ∧ Blk W b0 (pairC (((a : Nat) : Int), ((b : Nat) : Int))) 46)) ∧ (L 10 = true → ∃ g c, x10 = .slice (some ⟨g, 0, none⟩) (m + 1) c ∧ OwnR W V.heap.size 46 2 (.slice (some ⟨g, 0, none⟩) (m + 1) c) (List.map pairC (rl ++ [(((a : Nat) : Int), ((b : Nat) : Int))]))) ∧ (L 11 = true → L 10 = true ∧ ∃ g c, x10 = .slice (some ⟨g, 0, none⟩) (m + 1) c ∧ x11 = .agg #[.int .i64 (N : Nat), .slice (some ⟨g, 0, none⟩) (m + 1) c]) ∧ (L 12 = true → (L 13 = false → ∃ b0 : Nat, V.heap.size ≤ b0 ∧ x12 = .pointer (some ⟨b0, 0, none⟩) ∧ Blk W b0 [.int .i64 0, .slice none 0 0] 25)) ∧ (L 13 = true → (L 10 = true ∧ L 12 = true) ∧ NewO V (N : Nat) (m + 1) (rl ++ [(((a : Nat) : Int), ((b : Nat) : Int))]) x12 W) | _ => False) [_, _, _, _, _, _, _, _, _, _, _, _, _, undef] (by kernel_rfl) (by kernel_rfl) rfl (by simp only [puts, Act.put, List.setIfInBounds_toArray, List.set_cons_zero, List.set_cons_succ] <;> rfl) ?_ ?_ ?_
  · exact ⟨(Below.refl _ _).drew, (fun h => by cases h), (fun h => by cases h), (fun h => by cases h), (fun h => by cases h), (fun h => by cases h), (fun h => by cases h), (fun h => by cases h), (fun h => by cases h), (fun h => by cases h), (fun h => by cases h), (fun h => by cases h), (fun h => by cases h), (fun h => by cases h), (fun h => by cases h)⟩
  · refine ⟨?_, ?_, ?_, ?_, ?_, ?_, ?_, ?_, ?_, ?_, ?_, ?_, ?_, ?_, trivial⟩
    · intro L vs W hlen hL hD hI K hK
      obtain ⟨x0, x1, x2, x3, x4, x5, x6, x7, x8, x9, x10, x11, x12, x13, rfl⟩ := len14 hlen
      have hG := hI.1
      replace hI := hI.2
      have f0 := hide hI.1
      replace hI := hI.2
      have f1 := hide hI.1
      replace hI := hI.2
      have f2 := hide hI.1
      replace hI := hI.2
      have f3 := hide hI.1
      replace hI := hI.2
      have f4 := hide hI.1
      replace hI := hI.2
      have f5 := hide hI.1
      replace hI := hI.2
      have f6 := hide hI.1
      replace hI := hI.2
      have f7 := hide hI.1
      replace hI := hI.2
      have f8 := hide hI.1
      replace hI := hI.2
      have f9 := hide hI.1
      replace hI := hI.2
      have f10 := hide hI.1
      replace hI := hI.2
      have f11 := hide hI.1
      replace hI := hI.2
      have f12 := hide hI.1
      replace hI := hI.2
      have f13 := hide hI
      clear hI
      have c0 := keep hG c0
      have c1 := keep hG c1
      try simp only [puts, Act.put, List.setIfInBounds_toArray, List.set_cons_zero, List.set_cons_succ]
      try go_simp
      exact hK.out _ _ _ (by simp only [puts, Act.put, List.setIfInBounds_toArray, List.set_cons_zero, List.set_cons_succ] <;> rfl) ⟨hG, (fun _ => rfl), (fun h => f1.out h), (fun h => f2.out h), (fun h => f3.out h), (fun h => f4.out h), (fun h => f5.out h), (fun h => f6.out h), (fun h => f7.out h), (fun h => f8.out h), (fun h => f9.out h), (fun h => f10.out h), (fun h => f11.out h), (fun h => f12.out h), (fun h => f13.out h)⟩
    · intro L vs W hlen hL hD hI K hK
      obtain ⟨x0, x1, x2, x3, x4, x5, x6, x7, x8, x9, x10, x11, x12, x13, rfl⟩ := len14 hlen
      have hG := hI.1
      replace hI := hI.2
      have f0 := hide hI.1
      replace hI := hI.2
      have f1 := hide hI.1
      replace hI := hI.2
      have f2 := hide hI.1
      replace hI := hI.2
      have f3 := hide hI.1
      replace hI := hI.2
      have f4 := hide hI.1
      replace hI := hI.2
      have f5 := hide hI.1
      replace hI := hI.2
      have f6 := hide hI.1
      replace hI := hI.2
      have f7 := hide hI.1
      replace hI := hI.2
      have f8 := hide hI.1
      replace hI := hI.2
      have f9 := hide hI.1
      replace hI := hI.2
      have f10 := hide hI.1
      replace hI := hI.2
      have f11 := hide hI.1
      replace hI := hI.2
      have f12 := hide hI.1
      replace hI := hI.2
      have f13 := hide hI
      clear hI
      have c0 := keep hG c0
      have c1 := keep hG c1
      obtain rfl := f0.out (hD.on 0 (by kernel_rfl))
      try simp only [puts, Act.put, List.setIfInBounds_toArray, List.set_cons_zero, List.set_cons_succ]
      try go_simp
      exact hK.out _ _ _ (by simp only [puts, Act.put, List.setIfInBounds_toArray, List.set_cons_zero, List.set_cons_succ] <;> rfl) ⟨hG, (fun h => f0.out h), (fun _ => rfl), (fun h => f2.out h), (fun h => f3.out h), (fun h => f4.out h), (fun h => f5.out h), (fun h => f6.out h), (fun h => f7.out h), (fun h => f8.out h), (fun h => f9.out h), (fun h => f10.out h), (fun h => f11.out h), (fun h => f12.out h), (fun h => f13.out h)⟩
    · intro L vs W hlen hL hD hI K hK
      obtain ⟨x0, x1, x2, x3, x4, x5, x6, x7, x8, x9, x10, x11, x12, x13, rfl⟩ := len14 hlen
      have hG := hI.1
      replace hI := hI.2
      have f0 := hide hI.1
      replace hI := hI.2
      have f1 := hide hI.1
      replace hI := hI.2
      have f2 := hide hI.1
      replace hI := hI.2
      have f3 := hide hI.1
      replace hI := hI.2
      have f4 := hide hI.1
      replace hI := hI.2
      have f5 := hide hI.1
      replace hI := hI.2
      have f6 := hide hI.1
      replace hI := hI.2
      have f7 := hide hI.1
      replace hI := hI.2
      have f8 := hide hI.1
      replace hI := hI.2
      have f9 := hide hI.1
      replace hI := hI.2
      have f10 := hide hI.1
      replace hI := hI.2
      have f11 := hide hI.1
      replace hI := hI.2
      have f12 := hide hI.1
      replace hI := hI.2
      have f13 := hide hI
      clear hI
      have c0 := keep hG c0
      have c1 := keep hG c1
      try simp only [puts, Act.put, List.setIfInBounds_toArray, List.set_cons_zero, List.set_cons_succ]
      try go_simp
      generalize hW' : World.alloc W _ = W'
      have hb : Below W.heap.size W W' := by rw [← hW']; exact bal W _
      exact hK.out _ _ _ (by simp only [puts, Act.put, List.setIfInBounds_toArray, List.set_cons_zero, List.set_cons_succ] <;> rfl) ⟨below2 hG hb, (fun h => f0.out h), (fun h => f1.out h), (fun _ => fun _ => ⟨W.heap.size, rfl, by rw [← hW']; exact lit_recsK W _ 2 hG.size⟩), (fun h => f3.out h), (fun h => f4.out h), (fun h => (fun h => fun h8 => let ⟨va, vc, e, o⟩ := h h8; ⟨va, vc, e, OwnR.later' o hb⟩) (f5.out h)), (fun h => f6.out h), (fun h => f7.out h), (fun h => f8.out h), (fun h => (fun h => fun h8 => let ⟨b0, e, o⟩ := h h8; ⟨b0, e, o.later hb⟩) (f9.out h)), (fun h => (fun h => let ⟨g, c, e, o⟩ := h; ⟨g, c, e, OwnR.later' o hb⟩) (f10.out h)), (fun h => f11.out h), (fun h => (fun h => fun h8 => let ⟨b0, h0, e, k⟩ := h h8; ⟨b0, h0, e, k.later hb⟩) (f12.out h)), (fun h => (fun h => ⟨h.1, let ⟨b, g, c, e, k, o, q⟩ := h.2; ⟨b, g, c, e, k.later hb, OwnR.later' o hb, q⟩⟩) (f13.out h))⟩
    · intro L vs W hlen hL hD hI K hK
      obtain ⟨x0, x1, x2, x3, x4, x5, x6, x7, x8, x9, x10, x11, x12, x13, rfl⟩ := len14 hlen
      have hG := hI.1
      replace hI := hI.2
      have f0 := hide hI.1
      replace hI := hI.2
      have f1 := hide hI.1
      replace hI := hI.2
      have f2 := hide hI.1
      replace hI := hI.2
      have f3 := hide hI.1
      replace hI := hI.2
      have f4 := hide hI.1
      replace hI := hI.2
      have f5 := hide hI.1
      replace hI := hI.2
      have f6 := hide hI.1
      replace hI := hI.2
      have f7 := hide hI.1
      replace hI := hI.2
      have f8 := hide hI.1
      replace hI := hI.2
      have f9 := hide hI.1
      replace hI := hI.2
      have f10 := hide hI.1
      replace hI := hI.2
      have f11 := hide hI.1
      replace hI := hI.2
      have f12 := hide hI.1
      replace hI := hI.2
      have f13 := hide hI
      clear hI
      have c0 := keep hG c0
      have c1 := keep hG c1
      try simp only [puts, Act.put, List.setIfInBounds_toArray, List.set_cons_zero, List.set_cons_succ]
      try go_simp
      exact hK.out _ _ _ (by simp only [puts, Act.put, List.setIfInBounds_toArray, List.set_cons_zero, List.set_cons_succ] <;> rfl) ⟨hG, (fun h => f0.out h), (fun h => f1.out h), (fun h => f2.out h), (fun _ => rfl), (fun h => f4.out h), (fun h => f5.out h), (fun h => f6.out h), (fun h => f7.out h), (fun h => f8.out h), (fun h => f9.out h), (fun h => f10.out h), (fun h => f11.out h), (fun h => f12.out h), (fun h => f13.out h)⟩
    · intro L vs W hlen hL hD hI K hK
      obtain ⟨x0, x1, x2, x3, x4, x5, x6, x7, x8, x9, x10, x11, x12, x13, rfl⟩ := len14 hlen
      have hG := hI.1
      replace hI := hI.2
      have f0 := hide hI.1
      replace hI := hI.2
      have f1 := hide hI.1
      replace hI := hI.2
      have f2 := hide hI.1
      replace hI := hI.2
      have f3 := hide hI.1
      replace hI := hI.2
      have f4 := hide hI.1
      replace hI := hI.2
      have f5 := hide hI.1
      replace hI := hI.2
      have f6 := hide hI.1
      replace hI := hI.2
      have f7 := hide hI.1
      replace hI := hI.2
      have f8 := hide hI.1
      replace hI := hI.2
      have f9 := hide hI.1
      replace hI := hI.2
      have f10 := hide hI.1
      replace hI := hI.2
      have f11 := hide hI.1
      replace hI := hI.2
      have f12 := hide hI.1
      replace hI := hI.2
      have f13 := hide hI
      clear hI
      have c0 := keep hG c0
      have c1 := keep hG c1
      obtain rfl := f3.out (hD.on 3 (by kernel_rfl))
      try simp only [puts, Act.put, List.setIfInBounds_toArray, List.set_cons_zero, List.set_cons_succ]
      try go_simp
      exact hK.out _ _ _ (by simp only [puts, Act.put, List.setIfInBounds_toArray, List.set_cons_zero, List.set_cons_succ] <;> rfl) ⟨hG, (fun h => f0.out h), (fun h => f1.out h), (fun h => f2.out h), (fun h => f3.out h), (fun _ => rfl), (fun h => f5.out h), (fun h => f6.out h), (fun h => f7.out h), (fun h => f8.out h), (fun h => f9.out h), (fun h => f10.out h), (fun h => f11.out h), (fun h => f12.out h), (fun h => f13.out h)⟩
    · intro L vs W hlen hL hD hI K hK
      obtain ⟨x0, x1, x2, x3, x4, x5, x6, x7, x8, x9, x10, x11, x12, x13, rfl⟩ := len14 hlen
      have hG := hI.1
      replace hI := hI.2
      have f0 := hide hI.1
      replace hI := hI.2
      have f1 := hide hI.1
      replace hI := hI.2
      have f2 := hide hI.1
      replace hI := hI.2
      have f3 := hide hI.1
      replace hI := hI.2
      have f4 := hide hI.1
      replace hI := hI.2
      have f5 := hide hI.1
      replace hI := hI.2
      have f6 := hide hI.1
      replace hI := hI.2
      have f7 := hide hI.1
      replace hI := hI.2
      have f8 := hide hI.1
      replace hI := hI.2
      have f9 := hide hI.1
      replace hI := hI.2
      have f10 := hide hI.1
      replace hI := hI.2
      have f11 := hide hI.1
      replace hI := hI.2
      have f12 := hide hI.1
      replace hI := hI.2
      have f13 := hide hI
      clear hI
      have c0 := keep hG c0
      have c1 := keep hG c1
      have g2 := f2.out (hD.on 2 (by kernel_rfl))
      obtain rfl := f4.out (hD.on 4 (by kernel_rfl))
      try simp only [puts, Act.put, List.setIfInBounds_toArray, List.set_cons_zero, List.set_cons_succ]
      obtain ⟨b0, rfl, hO0⟩ := g2 hL
      refine step_copy rfl _ _ rfl V.heap.size b0 rfl hO0 ra m rc (rl) rfl (RecIn.below hG HPS.out) hm hG.size ?_
      intro va vc W' hO' hb
      exact hK.out _ _ _ (by simp only [puts, Act.put, List.setIfInBounds_toArray, List.set_cons_zero, List.set_cons_succ] <;> rfl) ⟨below2 hG hb, (fun h => f0.out h), (fun h => f1.out h), (fun h => (fun _ h8 => absurd h8 (by simp)) (f2.out h)), (fun h => f3.out h), (fun h => f4.out h), (fun _ => fun _ => ⟨va, vc, rfl, hO'⟩), (fun h => f6.out h), (fun h => f7.out h), (fun h => f8.out h), (fun h => (fun h => fun h8 => let ⟨b0, e, o⟩ := h h8; ⟨b0, e, o.later hb⟩) (f9.out h)), (fun h => (fun h => let ⟨g, c, e, o⟩ := h; ⟨g, c, e, OwnR.later' o hb⟩) (f10.out h)), (fun h => f11.out h), (fun h => (fun h => fun h8 => let ⟨b0, h0, e, k⟩ := h h8; ⟨b0, h0, e, k.later hb⟩) (f12.out h)), (fun h => (fun h => ⟨h.1, let ⟨b, g, c, e, k, o, q⟩ := h.2; ⟨b, g, c, e, k.later hb, OwnR.later' o hb, q⟩⟩) (f13.out h))⟩
    · intro L vs W hlen hL hD hI K hK
      obtain ⟨x0, x1, x2, x3, x4, x5, x6, x7, x8, x9, x10, x11, x12, x13, rfl⟩ := len14 hlen
      have hG := hI.1
      replace hI := hI.2
      have f0 := hide hI.1
      replace hI := hI.2
      have f1 := hide hI.1
      replace hI := hI.2
      have f2 := hide hI.1
      replace hI := hI.2
      have f3 := hide hI.1
      replace hI := hI.2
      have f4 := hide hI.1
      replace hI := hI.2
      have f5 := hide hI.1
      replace hI := hI.2
      have f6 := hide hI.1
      replace hI := hI.2
      have f7 := hide hI.1
      replace hI := hI.2
      have f8 := hide hI.1
      replace hI := hI.2
      have f9 := hide hI.1
      replace hI := hI.2
      have f10 := hide hI.1
      replace hI := hI.2
      have f11 := hide hI.1
      replace hI := hI.2
      have f12 := hide hI.1
      replace hI := hI.2
      have f13 := hide hI
      clear hI
      have c0 := keep hG c0
      have c1 := keep hG c1
      try simp only [puts, Act.put, List.setIfInBounds_toArray, List.set_cons_zero, List.set_cons_succ]
      try go_simp
      exact hK.out _ _ _ (by simp only [puts, Act.put, List.setIfInBounds_toArray, List.set_cons_zero, List.set_cons_succ] <;> rfl) ⟨hG, (fun h => f0.out h), (fun h => f1.out h), (fun h => f2.out h), (fun h => f3.out h), (fun h => f4.out h), (fun h => f5.out h), (fun _ => rfl), (fun h => f7.out h), (fun h => f8.out h), (fun h => f9.out h), (fun h => f10.out h), (fun h => f11.out h), (fun h => f12.out h), (fun h => f13.out h)⟩
    · intro L vs W hlen hL hD hI K hK
      obtain ⟨x0, x1, x2, x3, x4, x5, x6, x7, x8, x9, x10, x11, x12, x13, rfl⟩ := len14 hlen
      have hG := hI.1
      replace hI := hI.2
      have f0 := hide hI.1
      replace hI := hI.2
      have f1 := hide hI.1
      replace hI := hI.2
      have f2 := hide hI.1
      replace hI := hI.2
      have f3 := hide hI.1
      replace hI := hI.2
      have f4 := hide hI.1
      replace hI := hI.2
      have f5 := hide hI.1
      replace hI := hI.2
      have f6 := hide hI.1
      replace hI := hI.2
      have f7 := hide hI.1
      replace hI := hI.2
      have f8 := hide hI.1
      replace hI := hI.2
      have f9 := hide hI.1
      replace hI := hI.2
      have f10 := hide hI.1
      replace hI := hI.2
      have f11 := hide hI.1
      replace hI := hI.2
      have f12 := hide hI.1
      replace hI := hI.2
      have f13 := hide hI
      clear hI
      have c0 := keep hG c0
      have c1 := keep hG c1
      try simp only [puts, Act.put, List.setIfInBounds_toArray, List.set_cons_zero, List.set_cons_succ]
      try go_simp
      exact hK.out _ _ _ (by simp only [puts, Act.put, List.setIfInBounds_toArray, List.set_cons_zero, List.set_cons_succ] <;> rfl) ⟨hG, (fun h => f0.out h), (fun h => f1.out h), (fun h => f2.out h), (fun h => f3.out h), (fun h => f4.out h), (fun h => f5.out h), (fun h => f6.out h), (fun _ => rfl), (fun h => f8.out h), (fun h => f9.out h), (fun h => f10.out h), (fun h => f11.out h), (fun h => f12.out h), (fun h => f13.out h)⟩
    · intro L vs W hlen hL hD hI K hK
      obtain ⟨x0, x1, x2, x3, x4, x5, x6, x7, x8, x9, x10, x11, x12, x13, rfl⟩ := len14 hlen
      have hG := hI.1
      replace hI := hI.2
      have f0 := hide hI.1
      replace hI := hI.2
      have f1 := hide hI.1
      replace hI := hI.2
      have f2 := hide hI.1
      replace hI := hI.2
      have f3 := hide hI.1
      replace hI := hI.2
      have f4 := hide hI.1
      replace hI := hI.2
      have f5 := hide hI.1
      replace hI := hI.2
      have f6 := hide hI.1
      replace hI := hI.2
      have f7 := hide hI.1
      replace hI := hI.2
      have f8 := hide hI.1
      replace hI := hI.2
      have f9 := hide hI.1
      replace hI := hI.2
      have f10 := hide hI.1
      replace hI := hI.2
      have f11 := hide hI.1
      replace hI := hI.2
      have f12 := hide hI.1
      replace hI := hI.2
      have f13 := hide hI
      clear hI
      have c0 := keep hG c0
      have c1 := keep hG c1
      obtain rfl := f6.out (hD.on 6 (by kernel_rfl))
      obtain rfl := f7.out (hD.on 7 (by kernel_rfl))
      try simp only [puts, Act.put, List.setIfInBounds_toArray, List.set_cons_zero, List.set_cons_succ]
      try go_simp
      exact hK.out _ _ _ (by simp only [puts, Act.put, List.setIfInBounds_toArray, List.set_cons_zero, List.set_cons_succ] <;> rfl) ⟨hG, (fun h => f0.out h), (fun h => f1.out h), (fun h => f2.out h), (fun h => f3.out h), (fun h => f4.out h), (fun h => f5.out h), (fun h => f6.out h), (fun h => f7.out h), (fun _ => rfl), (fun h => f9.out h), (fun h => f10.out h), (fun h => f11.out h), (fun h => f12.out h), (fun h => f13.out h)⟩
    · intro L vs W hlen hL hD hI K hK
      obtain ⟨x0, x1, x2, x3, x4, x5, x6, x7, x8, x9, x10, x11, x12, x13, rfl⟩ := len14 hlen
      have hG := hI.1
      replace hI := hI.2
      have f0 := hide hI.1
      replace hI := hI.2
      have f1 := hide hI.1
      replace hI := hI.2
      have f2 := hide hI.1
      replace hI := hI.2
      have f3 := hide hI.1
      replace hI := hI.2
      have f4 := hide hI.1
      replace hI := hI.2
      have f5 := hide hI.1
      replace hI := hI.2
      have f6 := hide hI.1
      replace hI := hI.2
      have f7 := hide hI.1
      replace hI := hI.2
      have f8 := hide hI.1
      replace hI := hI.2
      have f9 := hide hI.1
      replace hI := hI.2
      have f10 := hide hI.1
      replace hI := hI.2
      have f11 := hide hI.1
      replace hI := hI.2
      have f12 := hide hI.1
      replace hI := hI.2
      have f13 := hide hI
      clear hI
      have c0 := keep hG c0
      have c1 := keep hG c1
      obtain rfl := f8.out (hD.on 8 (by kernel_rfl))
      try simp only [puts, Act.put, List.setIfInBounds_toArray, List.set_cons_zero, List.set_cons_succ]
      try go_simp
      generalize hW' : World.alloc W _ = W'
      have hb : Below W.heap.size W W' := by rw [← hW']; exact bal W _
      exact hK.out _ _ _ (by simp only [puts, Act.put, List.setIfInBounds_toArray, List.set_cons_zero, List.set_cons_succ] <;> rfl) ⟨below2 hG hb, (fun h => f0.out h), (fun h => f1.out h), (fun h => (fun h => fun h5 => let ⟨b0, e, o⟩ := h h5; ⟨b0, e, OwnR.later' o hb⟩) (f2.out h)), (fun h => f3.out h), (fun h => f4.out h), (fun h => (fun h => fun h8 => let ⟨va, vc, e, o⟩ := h h8; ⟨va, vc, e, OwnR.later' o hb⟩) (f5.out h)), (fun h => f6.out h), (fun h => f7.out h), (fun h => f8.out h), (fun _ => fun _ => ⟨W.heap.size, rfl, by rw [← hW']; exact Blk.newA W _ rfl⟩), (fun h => (fun h => let ⟨g, c, e, o⟩ := h; ⟨g, c, e, OwnR.later' o hb⟩) (f10.out h)), (fun h => f11.out h), (fun h => (fun h => fun h8 => let ⟨b0, h0, e, k⟩ := h h8; ⟨b0, h0, e, k.later hb⟩) (f12.out h)), (fun h => (fun h => ⟨h.1, let ⟨b, g, c, e, k, o, q⟩ := h.2; ⟨b, g, c, e, k.later hb, OwnR.later' o hb, q⟩⟩) (f13.out h))⟩
    · intro L vs W hlen hL hD hI K hK
      obtain ⟨x0, x1, x2, x3, x4, x5, x6, x7, x8, x9, x10, x11, x12, x13, rfl⟩ := len14 hlen
      have hG := hI.1
      replace hI := hI.2
      have f0 := hide hI.1
      replace hI := hI.2
      have f1 := hide hI.1
      replace hI := hI.2
      have f2 := hide hI.1
      replace hI := hI.2
      have f3 := hide hI.1
      replace hI := hI.2
      have f4 := hide hI.1
      replace hI := hI.2
      have f5 := hide hI.1
      replace hI := hI.2
      have f6 := hide hI.1
      replace hI := hI.2
      have f7 := hide hI.1
      replace hI := hI.2
      have f8 := hide hI.1
      replace hI := hI.2
      have f9 := hide hI.1
      replace hI := hI.2
      have f10 := hide hI.1
      replace hI := hI.2
      have f11 := hide hI.1
      replace hI := hI.2
      have f12 := hide hI.1
      replace hI := hI.2
      have f13 := hide hI
      clear hI
      have c0 := keep hG c0
      have c1 := keep hG c1
      have g5 := f5.out (hD.on 5 (by kernel_rfl))
      have g9 := f9.out (hD.on 9 (by kernel_rfl))
      try simp only [puts, Act.put, List.setIfInBounds_toArray, List.set_cons_zero, List.set_cons_succ]
      obtain ⟨va, vc, rfl, hO5⟩ := g5 hL
      obtain ⟨b0, rfl, hB0⟩ := g9 hL
      refine step_one' rfl _ _ rfl V.heap.size m va vc (rl) (((a : Nat) : Int), ((b : Nat) : Int)) rfl hO5 b0 rfl hB0 hm hG.size ?_
      intro g c W' hO' hE'
      have hb := effE_far hG hE'
      exact hK.out _ _ _ (by simp only [puts, Act.put, List.setIfInBounds_toArray, List.set_cons_zero, List.set_cons_succ] <;> rfl) ⟨hG.trans hb, (fun h => f0.out h), (fun h => f1.out h), (fun h => (fun _ h8 => absurd ((hD.on 5 (by kernel_rfl)).symm.trans h8) (by decide)) (f2.out h)), (fun h => f3.out h), (fun h => f4.out h), (fun h => (fun _ h8 => absurd h8 (by simp)) (f5.out h)), (fun h => f6.out h), (fun h => f7.out h), (fun h => f8.out h), (fun h => (fun _ h8 => absurd h8 (by simp)) (f9.out h)), (fun _ => ⟨g, c, rfl, hO'⟩), (fun h => (fun h => absurd (h.1.symm.trans hL) (by decide)) (f11.out h)), (fun h => (fun h h13 => let ⟨b0, h0, e, k⟩ := h h13; ⟨b0, h0, e, hE'.blk k (by decide)⟩) (f12.out h)), (fun h => (fun h => absurd (h.1.1.symm.trans hL) (by decide)) (f13.out h))⟩
    · intro L vs W hlen hL hD hI K hK
      obtain ⟨x0, x1, x2, x3, x4, x5, x6, x7, x8, x9, x10, x11, x12, x13, rfl⟩ := len14 hlen
      have hG := hI.1
      replace hI := hI.2
      have f0 := hide hI.1
      replace hI := hI.2
      have f1 := hide hI.1
      replace hI := hI.2
      have f2 := hide hI.1
      replace hI := hI.2
      have f3 := hide hI.1
      replace hI := hI.2
      have f4 := hide hI.1
      replace hI := hI.2
      have f5 := hide hI.1
      replace hI := hI.2
      have f6 := hide hI.1
      replace hI := hI.2
      have f7 := hide hI.1
      replace hI := hI.2
      have f8 := hide hI.1
      replace hI := hI.2
      have f9 := hide hI.1
      replace hI := hI.2
      have f10 := hide hI.1
      replace hI := hI.2
      have f11 := hide hI.1
      replace hI := hI.2
      have f12 := hide hI.1
      replace hI := hI.2
      have f13 := hide hI
      clear hI
      have c0 := keep hG c0
      have c1 := keep hG c1
      obtain rfl := f1.out (hD.on 1 (by kernel_rfl))
      have g10 := f10.out (hD.on 10 (by kernel_rfl))
      try simp only [puts, Act.put, List.setIfInBounds_toArray, List.set_cons_zero, List.set_cons_succ]
      obtain ⟨g, c, rfl, hO'⟩ := g10
      go_simp
      exact hK.out _ _ _ (by simp only [puts, Act.put, List.setIfInBounds_toArray, List.set_cons_zero, List.set_cons_succ] <;> rfl) ⟨hG, (fun h => f0.out h), (fun h => f1.out h), (fun h => f2.out h), (fun h => f3.out h), (fun h => f4.out h), (fun h => f5.out h), (fun h => f6.out h), (fun h => f7.out h), (fun h => f8.out h), (fun h => f9.out h), (fun h => f10.out h), (fun _ => ⟨hD.on 10 (by kernel_rfl), g, c, rfl, rfl⟩), (fun h => f12.out h), (fun h => f13.out h)⟩
    · intro L vs W hlen hL hD hI K hK
      obtain ⟨x0, x1, x2, x3, x4, x5, x6, x7, x8, x9, x10, x11, x12, x13, rfl⟩ := len14 hlen
      have hG := hI.1
      replace hI := hI.2
      have f0 := hide hI.1
      replace hI := hI.2
      have f1 := hide hI.1
      replace hI := hI.2
      have f2 := hide hI.1
      replace hI := hI.2
      have f3 := hide hI.1
      replace hI := hI.2
      have f4 := hide hI.1
      replace hI := hI.2
      have f5 := hide hI.1
      replace hI := hI.2
      have f6 := hide hI.1
      replace hI := hI.2
      have f7 := hide hI.1
      replace hI := hI.2
      have f8 := hide hI.1
      replace hI := hI.2
      have f9 := hide hI.1
      replace hI := hI.2
      have f10 := hide hI.1
      replace hI := hI.2
      have f11 := hide hI.1
      replace hI := hI.2
      have f12 := hide hI.1
      replace hI := hI.2
      have f13 := hide hI
      clear hI
      have c0 := keep hG c0
      have c1 := keep hG c1
      try simp only [puts, Act.put, List.setIfInBounds_toArray, List.set_cons_zero, List.set_cons_succ]
      try go_simp
      generalize hW' : World.alloc W _ = W'
      have hb : Below W.heap.size W W' := by rw [← hW']; exact bal W _
      exact hK.out _ _ _ (by simp only [puts, Act.put, List.setIfInBounds_toArray, List.set_cons_zero, List.set_cons_succ] <;> rfl) ⟨below2 hG hb, (fun h => f0.out h), (fun h => f1.out h), (fun h => (fun h => fun h5 => let ⟨b0, e, o⟩ := h h5; ⟨b0, e, OwnR.later' o hb⟩) (f2.out h)), (fun h => f3.out h), (fun h => f4.out h), (fun h => (fun h => fun h8 => let ⟨va, vc, e, o⟩ := h h8; ⟨va, vc, e, OwnR.later' o hb⟩) (f5.out h)), (fun h => f6.out h), (fun h => f7.out h), (fun h => f8.out h), (fun h => (fun h => fun h8 => let ⟨b0, e, o⟩ := h h8; ⟨b0, e, o.later hb⟩) (f9.out h)), (fun h => (fun h => let ⟨g, c, e, o⟩ := h; ⟨g, c, e, OwnR.later' o hb⟩) (f10.out h)), (fun h => f11.out h), (fun _ => fun _ => ⟨W.heap.size, hG.size, rfl, by rw [← hW']; exact Blk.newA W _ rfl⟩), (fun h => (fun h => absurd (h.1.2.symm.trans hL) (by decide)) (f13.out h))⟩
    · intro L vs W hlen hL hD hI K hK
      obtain ⟨x0, x1, x2, x3, x4, x5, x6, x7, x8, x9, x10, x11, x12, x13, rfl⟩ := len14 hlen
      have hG := hI.1
      replace hI := hI.2
      have f0 := hide hI.1
      replace hI := hI.2
      have f1 := hide hI.1
      replace hI := hI.2
      have f2 := hide hI.1
      replace hI := hI.2
      have f3 := hide hI.1
      replace hI := hI.2
      have f4 := hide hI.1
      replace hI := hI.2
      have f5 := hide hI.1
      replace hI := hI.2
      have f6 := hide hI.1
      replace hI := hI.2
      have f7 := hide hI.1
      replace hI := hI.2
      have f8 := hide hI.1
      replace hI := hI.2
      have f9 := hide hI.1
      replace hI := hI.2
      have f10 := hide hI.1
      replace hI := hI.2
      have f11 := hide hI.1
      replace hI := hI.2
      have f12 := hide hI.1
      replace hI := hI.2
      have f13 := hide hI
      clear hI
      have c0 := keep hG c0
      have c1 := keep hG c1
      have g10 := f10.out (hD.on 10 (by kernel_rfl))
      have g11 := f11.out (hD.on 11 (by kernel_rfl))
      have g12 := f12.out (hD.on 12 (by kernel_rfl))
      try simp only [puts, Act.put, List.setIfInBounds_toArray, List.set_cons_zero, List.set_cons_succ]
      obtain ⟨g, c, rfl, hO10⟩ := g10
      obtain ⟨-, g1, c1, e1, rfl⟩ := g11
      cases e1
      obtain ⟨b0, h0, rfl, hB0⟩ := g12 hL
      have z0 := hB0.cell 0 rfl
      have z1 := hB0.cell 1 rfl
      have zf0 := hB0.frozen 0
      have zf1 := hB0.frozen 1
      go_simp
      have hb := ((Below.refl (V.heap.size) W).setCell (p := ⟨b0, 0, none⟩) h0 (.int .i64 (N : Nat))).setCell (p := ⟨b0, 1, none⟩) h0 (.slice (some ⟨g, 0, none⟩) (m + 1) c)
      exact hK.out _ undef _ (by simp only [puts, Act.put, List.setIfInBounds_toArray, List.set_cons_zero, List.set_cons_succ] <;> rfl) ⟨hG.trans hb, (fun h => f0.out h), (fun h => f1.out h), (fun h => (fun _ h8 => absurd ((hD.on 5 (by kernel_rfl)).symm.trans h8) (by decide)) (f2.out h)), (fun h => f3.out h), (fun h => f4.out h), (fun h => (fun _ h8 => absurd ((hD.on 10 (by kernel_rfl)).symm.trans h8) (by decide)) (f5.out h)), (fun h => f6.out h), (fun h => f7.out h), (fun h => f8.out h), (fun h => (fun _ h8 => absurd ((hD.on 10 (by kernel_rfl)).symm.trans h8) (by decide)) (f9.out h)), (fun h => (fun h => let ⟨g2, c2, e, o⟩ := h; ⟨g2, c2, e, (o.setO hB0 (by decide) (j := 0) _).setO (hB0.set 0 _) (by decide) (j := 1) _⟩) (f10.out h)), (fun h => f11.out h), (fun h => (fun _ h8 => absurd h8 (by simp)) (f12.out h)), (fun _ => ⟨⟨hD.on 10 (by kernel_rfl), hD.on 12 (by kernel_rfl)⟩, b0, g, c, rfl, (hB0.set 0 _).set 1 _, (hO10.setO hB0 (by decide) (j := 0) _).setO (hB0.set 0 _) (by decide) (j := 1) _, h0⟩)⟩
  intro L vs W hlen hall hI
  obtain ⟨x0, x1, x2, x3, x4, x5, x6, x7, x8, x9, x10, x11, x12, x13, rfl⟩ := len14 hlen
  have hG := hI.1
  replace hI := hI.2
  have f0 := hide hI.1
  replace hI := hI.2
  have f1 := hide hI.1
  replace hI := hI.2
  have f2 := hide hI.1
  replace hI := hI.2
  have f3 := hide hI.1
  replace hI := hI.2
  have f4 := hide hI.1
  replace hI := hI.2
  have f5 := hide hI.1
  replace hI := hI.2
  have f6 := hide hI.1
  replace hI := hI.2
  have f7 := hide hI.1
  replace hI := hI.2
  have f8 := hide hI.1
  replace hI := hI.2
  have f9 := hide hI.1
  replace hI := hI.2
  have f10 := hide hI.1
  replace hI := hI.2
  have f11 := hide hI.1
  replace hI := hI.2
  have f12 := hide hI.1
  replace hI := hI.2
  have f13 := hide hI
  clear hI
  obtain rfl := f0.out (hall 0 (by decide))
  obtain rfl := f1.out (hall 1 (by decide))
  have g2 := f2.out (hall 2 (by decide))
  obtain rfl := f3.out (hall 3 (by decide))
  obtain rfl := f4.out (hall 4 (by decide))
  have g5 := f5.out (hall 5 (by decide))
  obtain rfl := f6.out (hall 6 (by decide))
  obtain rfl := f7.out (hall 7 (by decide))
  obtain rfl := f8.out (hall 8 (by decide))
  have g9 := f9.out (hall 9 (by decide))
  have g10 := f10.out (hall 10 (by decide))
  have g11 := f11.out (hall 11 (by decide))
  have g12 := f12.out (hall 12 (by decide))
  have g13 := f13.out (hall 13 (by decide))
  have hal := hide hall
  clear hall f0 f1 f2 f3 f4 f5 f6 f7 f8 f9 f10 f11 f12 f13
  try simp only [puts, Act.put, List.setIfInBounds_toArray, List.set_cons_zero, List.set_cons_succ]
  obtain ⟨-, b1, g1, d1, rfl, hB1, hO1, hb1V⟩ := g13
  have hWb := hG
  clear hG hal g2 g5 g9 g10 g11 g12
  have hq1 : PairsIn W.cell? (.slice (some ⟨g1, 0, none⟩) (m + 1) d1) (rl ++ [((a : Int), (b : Int))]) := RecIn.at (RecIn.of_own hO1 (fun _ => rfl) (Nat.le_refl _))
  have HP8 := hide (bP5.later hWb)
  have HPP8 := hide (hp5.below hWb)
  have HI8 := hide (ints_bel HI5.out hWb)
  have HW8 := hide (below2 hw5 hWb)
  have HB8 := hide hB1
  have HQ8 := hide hq1
  clear hO1 bP5 bR hp5 hr5 hw5 hWb HPS c0 c1 hb1V hB1 hq1 HI5
  generalize W = V3 at *
  have HMA := hide (HMO.out (a : Int) (b : Int))
  have e0 := HB8.out.cell 0 rfl
  have e1 := HB8.out.cell 1 rfl
  by_cases hbad : N ≤ a ∨ N ≤ b ∨ a = b
  · have hv := HNV.out hbad
    rw [HMA.out] at hv
    have HL := hide (prefixes_no ⟨(N : Int), rl ++ [((a : Int), (b : Int))]⟩ _ V3 HQ8.out hv)
    clear hv
    go_wp2_with fail
    refine HL.out.mono ?_
    rintro e w12 ⟨rfl, hb12⟩
    have c0 := (HP8.out.later hb12).cell 0 rfl
    have HW9 := hide (below2 HW8.out hb12)
    clear e0 e1 hb12
    by_cases h1 : N ≤ a
    · have h1I : (N : Int) ≤ a := by omega
      go_wp2_with fail
      go_ret
      exact ⟨rfl, HW9.out⟩
    · have h1I : ¬ (N : Int) ≤ a := by omega
      by_cases h2 : N ≤ b
      · have h2I : (N : Int) ≤ b := by omega
        go_wp2_with fail
        go_ret
        exact ⟨rfl, HW9.out⟩
      · have h2I : ¬ (N : Int) ≤ b := by omega
        obtain rfl : a = b := by omega
        go_wp2_with fail
        go_ret
        exact ⟨rfl, HW9.out⟩
  · have ha1 : a < N := by omega
    have hb1 : b < N := by omega
    have hab : a ≠ b := by omega
    have h1I : ¬ (N : Int) ≤ a := by omega
    have h2I : ¬ (N : Int) ≤ b := by omega
    have h3I : ((a : Int) == b) = false := by simp; omega
    have h3J : ¬ a = b := hab
    have h1D : decide (N ≤ a) = false := decide_eq_false (by omega)
    have h2D : decide (N ≤ b) = false := decide_eq_false (by omega)
    have HBF := hide (HBE.out ha1 hb1)
    cases hr : R0 b a
    · obtain ⟨hv, hv2⟩ := HVA.out ha1 hb1 hab hr
      have hpd := HPD.out ha1 hb1 hab hr
      rw [HMA.out] at hv hv2
      have hpx := prefixes_yes N (rl ++ [((a : Int), (b : Int))]) _ V3 HQ8.out hv
      rw [hv2, hpd] at hpx
      have HL := hide hpx
      rw [hr] at HBF
      clear hv hv2 hpd hpx hbad hr
      go_wp2_with fail
      refine HL.out.mono ?_
      rintro e w12 ⟨sv, rfl, hsv, hb12⟩
      have c0 := (HP8.out.later hb12).cell 0 rfl
      have c1 := (HP8.out.later hb12).cell 1 rfl
      have HS9 := hide hsv.at
      have HI9 := hide (ints_bel HI8.out hb12)
      have HPP9 := hide (HPP8.out.below hb12)
      have HW9 := hide (below2 HW8.out hb12)
      obtain ⟨sa, sc, e, -, -, -⟩ := id hsv
      subst e
      clear e0 e1 hb12 hsv HL
      go_wp2_with fail
      refine (before_any ⟨(N : Int), ps⟩ _ b a _ HPP9.out).mono ?_
      rintro e w13 ⟨rfl, hb13⟩
      rw [HBF.out]
      have HS10 := hide (ints_bel HS9.out hb13)
      have HI10 := hide (ints_bel HI9.out hb13)
      have HW10 := hide (below2 HW9.out hb13)
      clear c0 c1 hb13 HS9 HI9 HW9 HPP9
      have hcl : ∀ k, ((PF.take k).filter fun S => S.testBit a || !S.testBit b).length ≤ 256 := fun k => Nat.le_trans (List.length_filter_le _ _) (by rw [List.length_take]; omega)
      have HCL := hide hcl
      have HFT := hide (fun k (hk : k < PF.length) => filter_take (fun S : Nat => S.testBit a || !S.testBit b) (0 : Nat) hk)
      have HF0 : Hid (((PF.take 0).filter fun S => S.testBit a || !S.testBit b) = []) := hide rfl
      have HFN : Hid (((PF.take PF.length).filter fun S => S.testBit a || !S.testBit b) = PF.filter fun S => S.testBit a || !S.testBit b) := hide (by rw [List.take_length])
      have HSL : Hid (PF.getD 0 0 = PF.getD 0 0) := hide rfl
      have hfI : (PF.length : Int) ≤ 9223372036854775807 := by omega
      clear hcl
      go_wp2_with fail
      go_loopw [24, 25] (fun wv i wr => ∃ k : Nat, k ≤ PF.length ∧ i = .int .i64 k ∧ OwnI wr w13.heap.size wv (natsO ((PF.take k).filter fun S => S.testBit a || !S.testBit b)) ∧ Below w13.heap.size w13 wr) (fun _ i _ => PF.length - (intOf i).toNat)
      case atStart => exact ⟨0, by omega, rfl, by rw [HF0.out]; exact OwnI.nil _ _, Below.refl _ _⟩
      case round =>
        obtain ⟨k, hk, rfl, hO, hbr⟩ := hrel
        obtain ⟨va, vc, rfl⟩ := hO.form
        by_cases hlt : k < PF.length
        · have hltI : (k : Int) < PF.length := by omega
          have HK := hide hlt
          obtain ⟨a', m', e', -, -, hc⟩ := ints_bel HI10.out hbr
          obtain ⟨ea, -, -⟩ := Value.slice.inj e'
          subst ea
          obtain ⟨b9, o9, e9, hck⟩ := hc k (by rw [hnl]; exact hlt)
          cases e9
          rw [natsO_at] at hck
          have HFK := hide (HFT.out k hlt)
          have hql := HCL.out k
          rw [← natsO_len] at hql
          obtain ⟨S, hS⟩ : ∃ S, PF.getD k 0 = S := ⟨_, rfl⟩
          rw [hS] at hck HFK
          have ht1 : ((S : Int) / 2 ^ a % 2 == 1) = S.testBit a := by rw [← bit_one]; rw [shr_mod]
          have ht2 : (((S : Int) / 2 ^ a).tmod 2 == 1) = S.testBit a := by rw [← bit_one]; rw [shr_tmod]
          have ht3 : ((S : Int) / 2 ^ b % 2 == 0) = !S.testBit b := by rw [← bit_nil]; rw [shr_mod]
          have ht4 : (((S : Int) / 2 ^ b).tmod 2 == 0) = !S.testBit b := by rw [← bit_nil]; rw [shr_tmod]
          have HSQ : Hid ((natsO ((PF.take (k + 1)).filter fun S => S.testBit a || !S.testBit b)) = natsO ((PF.take k).filter fun S => S.testBit a || !S.testBit b) ++ if S.testBit a || !S.testBit b then [(S : Int)] else []) := hide (by rw [HFK.out]; split <;> simp [natsO])
          generalize natsO ((PF.take k).filter fun S => S.testBit a || !S.testBit b) = q at *
          clear hc e' hS HFK
          have hsz := hbr.size
          have HBR := hide hbr
          have hqlen : q.length < 1000000 := by omega
          clear hbr
          cases hba : S.testBit a
          · rw [hba] at ht1 ht2 HSQ
            cases hbb : S.testBit b
            · rw [hbb] at ht3 ht4 HSQ
              simp only [Bool.not_false] at ht3 ht4
              clear hba hbb
              go_wp2_with (at_builtin; refine app_intE rfl _ _ rfl w13.heap.size _ q rfl hO (S : Int) rfl hqlen hsz ?_; intro v3 w3 hO3 hE3 hob3; have HB3 := hide (HBR.out.trans (hE3.below hsz (fun k e => (hO.ltB e.symm).1))); have HO3 := hide hO3; clear hO3 hE3 hob3)
              go_roundw
              case rel => exact ⟨k + 1, by have := HK.out; omega, by go_num, by rw [HSQ.out]; exact HO3.out, HB3.out⟩
              case measure => have := HK.out; simp [intOf]; omega
            · rw [hbb] at ht3 ht4 HSQ
              simp only [Bool.not_true] at ht3 ht4
              have HO := hide hO
              clear hba hbb hO
              go_wp2_with fail
              clear hck
              go_roundw
              case rel => exact ⟨k + 1, by have := HK.out; omega, by go_num, by rw [HSQ.out]; simpa using HO.out, HBR.out⟩
              case measure => have := HK.out; simp [intOf]; omega
          · rw [hba] at ht1 ht2 HSQ
            clear hba ht3 ht4
            go_wp2_with (at_builtin; refine app_intE rfl _ _ rfl w13.heap.size _ q rfl hO (S : Int) rfl hqlen hsz ?_; intro v3 w3 hO3 hE3 hob3; have HB3 := hide (HBR.out.trans (hE3.below hsz (fun k e => (hO.ltB e.symm).1))); have HO3 := hide hO3; clear hO3 hE3 hob3)
            go_roundw
            case rel => exact ⟨k + 1, by have := HK.out; omega, by go_num, by rw [HSQ.out]; exact HO3.out, HB3.out⟩
            case measure => have := HK.out; simp [intOf]; omega
        · obtain rfl : k = PF.length := by omega
          rw [HFN.out] at hO ⊢
          have HS11 := hide (ints_bel HS10.out hbr)
          have HW11 := hide (below2 HW10.out hbr)
          have HOI := hide hO.ints
          have HIB : Hid (intsB (natsO (PF.filter fun S => S.testBit a || !S.testBit b)) (natsO (PF.filter fun S => S.testBit a || !S.testBit b)) = true) := hide (by unfold intsB; exact decide_eq_true rfl)
          generalize natsO (PF.filter fun S => S.testBit a || !S.testBit b) = q at *
          have HC := hide (ints_any q q _ _ wr HS11.out HOI.out)
          clear hO hbr
          go_wp2_with fail
          refine HC.out.mono ?_
          rintro e w14 ⟨rfl, hb14⟩
          rw [HIB.out]
          have HW12 := hide (below2 HW11.out hb14)
          clear hb14
          go_wp2_with fail
          go_ret
          exact ⟨rfl, HW12.out⟩
    · have hv := HCY.out hr
      rw [HMA.out] at hv
      have HL := hide (prefixes_no ⟨(N : Int), rl ++ [((a : Int), (b : Int))]⟩ _ V3 HQ8.out hv)
      rw [hr] at HBF
      clear hv hbad hr
      go_wp2_with fail
      refine HL.out.mono ?_
      rintro e w12 ⟨rfl, hb12⟩
      have c0 := (HP8.out.later hb12).cell 0 rfl
      have c1 := (HP8.out.later hb12).cell 1 rfl
      have HPP9 := hide (HPP8.out.below hb12)
      have HW9 := hide (below2 HW8.out hb12)
      clear e0 e1 hb12 HL
      go_wp2_with fail
      refine (before_any ⟨(N : Int), ps⟩ _ b a _ HPP9.out).mono ?_
      rintro e w13 ⟨rfl, hb13⟩
      rw [HBF.out]
      have HW10 := hide (below2 HW9.out hb13)
      clear c0 c1 hb13 HW9 HPP9
      go_wp2_with fail
      go_ret
      exact ⟨rfl, HW10.out⟩
end Go.Proofs.YtnidcoinfmcffaaDoor
