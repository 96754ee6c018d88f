/- The walk of OrderSplits. Conditions: how the arguments and the tables of math/bits lie in memory; that integers are of 64 bits. -/
import Derived.Test.YtnidcoinfmcffaaDoorOtG
namespace Go.Proofs.YtnidcoinfmcffaaDoor
open Go.RowKit
attribute [local go_sem] Oper.semAt_some
theorem made_split (n : Int) (xs : List (Int × Int)) (line : Int) : madeO n xs line = ⟨((looseN n : Nat) : Int), (madeO n xs line).pairs⟩ := rfl
set_option maxRecDepth 100000 in
set_option maxHeartbeats 4000000 in
theorem splits_any (n : Int) (xs : List (Int × Int)) (xv : Value) (line a0 b0 : Int) (w : World) (hn : i64B n) (hx : PairsIn w.cell? xv xs) (h64 : ∀ p ∈ xs, i64B p.1 ∧ i64B p.2) (hl : i64B line) (ha : i64B a0) (hb : i64B b0) (hGl : Glob w) :
    Calls Tryd.prog 9 #[.int .i64 n, xv, .int .i64 line, .int .i64 a0, .int .i64 b0] w (Ret (.bool true) w) := by
  have HMD := hide (fun W (hb : Below w.heap.size w W) => made_any n xs line xv W hn hl (RecIn.below hb hx) h64)
  have hN8 := looseN_le n
  have hvd := made_valid n xs line
  rw [made_split] at hvd
  have hpl := made_len n xs line
  generalize (madeO n xs line).pairs = ps at *
  generalize looseN n = N at *
  have HPO := hide (show PoO N (beforeO ⟨(N : Int), ps⟩) from before_po hvd)
  have HVD := hide hvd
  obtain ⟨xa, xc, rfl, -, -, -⟩ := id hx
  clear hx h64 hn hl hvd
  go_enter Tryd.func9, Tryd.ntmps9
  go_wp2_with fail
  refine (sane_any w hGl).mono ?_
  rintro e w1 ⟨rfl, hb1⟩
  have hGl1 := hGl.later hb1
  clear hGl
  go_wp2_with fail
  refine (HMD.out _ hb1).mono ?_
  rintro e w2 ⟨pv, rfl, hO, hb2⟩
  have hp2 : PairsIn w2.cell? pv ps := RecIn.at (RecIn.of_own hO (fun _ => rfl) (Nat.le_refl _))
  have hw2 := below2 hb1 hb2
  have hGl2 := hGl1.later hb2
  obtain ⟨pa, pc, rfl⟩ := OwnR.formE hO
  rw [List.length_map] at hp2 ⊢
  clear hO hb1 hb2 hGl1 HMD
  go_upto_region 5 with (fail)
  generalize hY1 : World.alloc w2 _ = Y1
  have zY1 : Y1.heap.size = w2.heap.size + 1 := by rw [← hY1]; simp
  have bY1 : Below w2.heap.size w2 Y1 := by rw [← hY1]; exact bal w2 _
  have bP : Blk Y1 (w2.heap.size) [.int .i64 (N : Nat), .slice pa ps.length pc] 25 := by rw [← hY1]; exact Blk.newA w2 _ (by first | rfl | simp)
  have Yb := bY1
  have Yz := zY1
  clear hY1 zY1 bY1
  have hpY := RecIn.below Yb hp2
  have hwY := below2 hw2 Yb
  obtain ⟨P, hP⟩ : ∃ P, w2.heap.size = P := ⟨_, rfl⟩
  rw [hP] at bP ⊢
  clear hp2 hw2 hGl2 Yb Yz hP
  have c0 := bP.cell 0 rfl
  have c1 := bP.cell 1 rfl
  by_cases h2 : N < 2
  · have h2I : (N : Int) < 2 := by omega
    have hone := lines_one HPO.out (by omega)
    have HLN := hide (lines_yes N ps _ Y1 hpY HVD.out)
    rw [hone] at HLN
    go_wp2_with fail
    refine HLN.out.mono ?_
    rintro e w3 ⟨rfl, hb3⟩
    have hw3 := below2 hwY hb3
    go_wp2_with fail
    go_ret
    exact ⟨rfl, hw3⟩
  · have h2I : ¬ (N : Int) < 2 := by omega
    have h2n : 2 ≤ N := by omega
    have hok := two_ok h2n a0 b0
    have HPA := hide (fun W => pickl_any a0 N W ha (by omega) (by omega))
    have HPB : Hid (∀ W, Calls Tryd.prog 13 #[.int .i64 b0, .int .i64 ((N : Int) - 1)] W (fun e w' => e = .returned (.int .i64 (pkO b0 (N - 1) : Nat)) ∧ w' = W)) := hide (fun W => by have h := pickl_any b0 (N - 1) W hb (by omega) (by omega); rw [show ((N - 1 : Nat) : Int) = (N : Int) - 1 by omega] at h; exact h)
    unfold twoO at hok
    simp only at hok
    have hq := pk_lt b0 (n := N - 1) (by omega)
    have hr2 : ((pkO a0 N : Nat) : Int) + 1 + (pkO b0 (N - 1) : Nat) = ((pkO a0 N + 1 + pkO b0 (N - 1) : Nat) : Int) := by omega
    have hr3 : (((pkO a0 N : Nat) : Int) + 1 + (pkO b0 (N - 1) : Nat)) % (N : Int) = (((pkO a0 N + 1 + pkO b0 (N - 1)) % N : Nat) : Int) := by rw [hr2]; rfl
    have hr4 : (((pkO a0 N : Nat) : Int) + 1 + (pkO b0 (N - 1) : Nat)).tmod (N : Int) = (((pkO a0 N + 1 + pkO b0 (N - 1)) % N : Nat) : Int) := by rw [Int.tmod_eq_emod_of_nonneg (by omega)]; exact hr3
    generalize pkO a0 N = a at *
    generalize pkO b0 (N - 1) = q at *
    generalize (a + 1 + q) % N = b at *
    obtain ⟨ha1, hb1, hab⟩ := hok
    have HSY := hide (fun h => split_yes HPO.out hN8 ha1 hb1 hab h)
    have HSY' := hide (fun h => split_yes HPO.out hN8 hb1 ha1 (fun e => hab e.symm) h)
    have HSN := hide (fun h1 h2 => split_no HPO.out hN8 ha1 hb1 hab h1 h2)
    have HRE := hide (reduce_yes N ps _ Y1 hpY HVD.out)
    have hrl := red_27 HPO.out hN8
    have HMO : Hid (∀ a b : Int, moreO N (beforeO ⟨(N : Int), ps⟩) a b = ⟨(N : Int), redL N (beforeO ⟨(N : Int), ps⟩) ++ [(a, b)]⟩) := hide (fun _ _ => rfl)
    have HBE := hide (fun (a b : Nat) (h1 : a < N) (h2 : b < N) => (show befB ⟨(N : Int), ps⟩ a b = beforeO ⟨(N : Int), ps⟩ a b by
      unfold befB
      rw [HVD.out, decide_eq_true (by simp only; omega)]; rfl))
    have HBA := hide (HBE.out a b ha1 hb1)
    have HBB := hide (HBE.out b a hb1 ha1)
    have hN0 : ¬ N = 0 := by omega
    have hu1 : IntKind.i64.wrap ((N : Int) - 1) = (N : Int) - 1 := IntWalk.i64_in _ ⟨by omega, by omega⟩
    have hu2 : IntKind.i64.wrap ((a : Int) + 1) = (a : Int) + 1 := IntWalk.i64_in _ ⟨by omega, by omega⟩
    have hu3 : IntKind.i64.wrap ((a : Int) + 1 + q) = (a : Int) + 1 + q := IntWalk.i64_in _ ⟨by omega, by omega⟩
    have hu4 : IntKind.i64.wrap (b : Int) = b := IntWalk.i64_in _ ⟨by omega, by omega⟩
    clear ha hb HBE hr2 h2
    generalize redL N (beforeO ⟨(N : Int), ps⟩) = rl at *
    generalize hRR : beforeO ⟨(N : Int), ps⟩ = R0 at *
    have HRR := hide hRR
    clear hRR
    go_wp2_with fail
    refine HRE.out.mono ?_
    rintro e w3 ⟨rv, rfl, hv, hb3⟩
    have hpr := hv.at
    obtain ⟨ra, rc, e, -, -, -⟩ := id hpr
    subst e
    have bP3 := bP.later hb3
    have hp3 := RecIn.below hb3 hpY
    have hw3 := below2 hwY hb3
    generalize hm : rl.length = m at *
    clear hv hb3 bP hpY hwY c0 c1 HRE
    go_upto_region 9 with (fail)
    generalize hU1 : World.alloc w3 _ = U1
    have zU1 : U1.heap.size = w3.heap.size + 1 := by rw [← hU1]; simp
    have bU1 : Below w3.heap.size w3 U1 := by rw [← hU1]; exact bal w3 _
    have bR : Blk U1 (w3.heap.size) [.int .i64 (N : Nat), .slice ra m rc] 25 := by rw [← hU1]; exact Blk.newA w3 _ (by first | rfl | simp)
    have Ub := bU1
    have Uz := zU1
    clear hU1 zU1 bU1
    have bPU := bP3.later Ub
    have hpU := RecIn.below Ub hp3
    have hrU := RecIn.below Ub hpr
    have hwU := below2 hw3 Ub
    obtain ⟨R, hR⟩ : ∃ R, w3.heap.size = R := ⟨_, rfl⟩
    rw [hR] at bR ⊢
    clear bP3 hp3 hpr hw3 Ub Uz hR
    have c0 := bPU.cell 0 rfl
    have c1 := bR.cell 1 rfl
    go_wp2_with fail
    refine (HPA.out _).mono ?_
    rintro e w4 ⟨rfl, hw4⟩
    obtain rfl := hw4
    go_wp2_with fail
    refine wp_region_still_tail 11 (by kernel_rfl) (by kernel_rfl) ?_
    simp only [List.take_succ_cons, List.take_zero, List.drop_succ_cons, List.drop_zero]
    repeat (with_reducible refine wpStill_step (fun K hK => ?_) ; go_simp ; with_reducible refine hK _ ?_ ; clear hK K)
    with_reducible refine wpStill_step (fun K hK => ?_)
    go_simp
    refine ⟨_, (HPB.out _), ?_⟩
    with_reducible refine hK _ ?_
    clear hK K
    repeat (with_reducible refine wpStill_step (fun K hK => ?_) ; go_simp ; with_reducible refine hK _ ?_ ; clear hK K)
    refine wpStill_nil ?_
    change wpList _ _ _ _ _ w4.drew
    have hbd := (Below.refl w4.heap.size w4).drew
    have bP5 := bPU.later hbd
    have bR5 := bR.later hbd
    have hp5 := RecIn.below hbd hpU
    have hr5 := RecIn.below hbd hrU
    have hw5 := below2 hwU hbd
    generalize World.drew w4 = V at *
    clear hbd bPU bR hpU hrU hwU c0 c1
    have c0 := bP5.cell 0 rfl
    have c1 := bR5.cell 1 rfl
    have HPS := hide hr5
    have hmm := hm
    have hm : m ≤ 1000 := by omega
    go_upto_region 11 with (fail)
    refine wp_region_inv [some 66, some 67, some 68, some 69, some 70, some 71, some 72, some 73, some 74, some 75, some 76, some 77, some 17, none] (fun L vs W => match vs with | [x0, x1, x2, x3, x4, x5, x6, x7, x8, x9, x10, x11, x12, x13] => (Below V.heap.size V W) ∧ (L 0 = true → x0 = .pointer (some ⟨P, 0, none⟩)) ∧ (L 1 = true → x1 = .int .i64 (N : Nat)) ∧ (L 2 = true → (L 5 = false → ∃ b0 : Nat, x2 = .slice (some ⟨b0, 0, none⟩) 0 0 ∧ OwnR W V.heap.size 46 2 (.slice (some ⟨b0, 0, none⟩) 0 0) [])) ∧ (L 3 = true → x3 = .pointer (some ⟨R, 1, none⟩)) ∧ (L 4 = true → x4 = .slice ra m rc) ∧ (L 5 = true → (L 10 = false → ∃ va vc, x5 = .slice va m vc ∧ OwnR W V.heap.size 46 2 (.slice va m vc) (List.map pairC rl))) ∧ (L 6 = true → x6 = .int .i64 ((a : Nat) : Int)) ∧ (L 7 = true → x7 = .int .i64 ((b : Nat) : Int)) ∧ (L 8 = true → x8 = .agg #[.int .i64 ((a : Nat) : Int), .int .i64 ((b : Nat) : Int)]) ∧ (L 9 = true → (L 10 = false → ∃ b0 : Nat, x9 = .slice (some ⟨b0, 0, none⟩) 1 1 ∧ Blk W b0 (pairC (((a : Nat) : Int), ((b : Nat) : Int))) 46)) ∧ (L 10 = true → ∃ g c, x10 = .slice (some ⟨g, 0, none⟩) (m + 1) c ∧ OwnR W V.heap.size 46 2 (.slice (some ⟨g, 0, none⟩) (m + 1) c) (List.map pairC (rl ++ [(((a : Nat) : Int), ((b : Nat) : Int))]))) ∧ (L 11 = true → L 10 = true ∧ ∃ g c, x10 = .slice (some ⟨g, 0, none⟩) (m + 1) c ∧ x11 = .agg #[.int .i64 (N : Nat), .slice (some ⟨g, 0, none⟩) (m + 1) c]) ∧ (L 12 = true → (L 13 = false → ∃ b0 : Nat, V.heap.size ≤ b0 ∧ x12 = .pointer (some ⟨b0, 0, none⟩) ∧ Blk W b0 [.int .i64 0, .slice none 0 0] 25)) ∧ (L 13 = true → (L 10 = true ∧ L 12 = true) ∧ NewO V (N : Nat) (m + 1) (rl ++ [(((a : Nat) : Int), ((b : Nat) : Int))]) x12 W) | _ => False) [_, _, _, _, _, _, _, _, _, _, _, _, _, undef] (by kernel_rfl) (by kernel_rfl) rfl (by simp only [puts, Act.put, List.setIfInBounds_toArray, List.set_cons_zero, List.set_cons_succ] <;> rfl) ?_ ?_ ?_
    · exact ⟨(Below.refl _ _).drew, (fun h => by cases h), (fun h => by cases h), (fun h => by cases h), (fun h => by cases h), (fun h => by cases h), (fun h => by cases h), (fun h => by cases h), (fun h => by cases h), (fun h => by cases h), (fun h => by cases h), (fun h => by cases h), (fun h => by cases h), (fun h => by cases h), (fun h => by cases h)⟩
    · refine ⟨?_, ?_, ?_, ?_, ?_, ?_, ?_, ?_, ?_, ?_, ?_, ?_, ?_, ?_, trivial⟩
      · intro L vs W hlen hL hD hI K hK
        obtain ⟨x0, x1, x2, x3, x4, x5, x6, x7, x8, x9, x10, x11, x12, x13, rfl⟩ := len14 hlen
        have hG := hI.1
        replace hI := hI.2
        have f0 := hide hI.1
        replace hI := hI.2
        have f1 := hide hI.1
        replace hI := hI.2
        have f2 := hide hI.1
        replace hI := hI.2
        have f3 := hide hI.1
        replace hI := hI.2
        have f4 := hide hI.1
        replace hI := hI.2
        have f5 := hide hI.1
        replace hI := hI.2
        have f6 := hide hI.1
        replace hI := hI.2
        have f7 := hide hI.1
        replace hI := hI.2
        have f8 := hide hI.1
        replace hI := hI.2
        have f9 := hide hI.1
        replace hI := hI.2
        have f10 := hide hI.1
        replace hI := hI.2
        have f11 := hide hI.1
        replace hI := hI.2
        have f12 := hide hI.1
        replace hI := hI.2
        have f13 := hide hI
        clear hI
        have c0 := keep hG c0
        have c1 := keep hG c1
        try simp only [puts, Act.put, List.setIfInBounds_toArray, List.set_cons_zero, List.set_cons_succ]
        try go_simp
        exact hK.out _ _ _ (by simp only [puts, Act.put, List.setIfInBounds_toArray, List.set_cons_zero, List.set_cons_succ] <;> rfl) ⟨hG, (fun _ => rfl), (fun h => f1.out h), (fun h => f2.out h), (fun h => f3.out h), (fun h => f4.out h), (fun h => f5.out h), (fun h => f6.out h), (fun h => f7.out h), (fun h => f8.out h), (fun h => f9.out h), (fun h => f10.out h), (fun h => f11.out h), (fun h => f12.out h), (fun h => f13.out h)⟩
      · intro L vs W hlen hL hD hI K hK
        obtain ⟨x0, x1, x2, x3, x4, x5, x6, x7, x8, x9, x10, x11, x12, x13, rfl⟩ := len14 hlen
        have hG := hI.1
        replace hI := hI.2
        have f0 := hide hI.1
        replace hI := hI.2
        have f1 := hide hI.1
        replace hI := hI.2
        have f2 := hide hI.1
        replace hI := hI.2
        have f3 := hide hI.1
        replace hI := hI.2
        have f4 := hide hI.1
        replace hI := hI.2
        have f5 := hide hI.1
        replace hI := hI.2
        have f6 := hide hI.1
        replace hI := hI.2
        have f7 := hide hI.1
        replace hI := hI.2
        have f8 := hide hI.1
        replace hI := hI.2
        have f9 := hide hI.1
        replace hI := hI.2
        have f10 := hide hI.1
        replace hI := hI.2
        have f11 := hide hI.1
        replace hI := hI.2
        have f12 := hide hI.1
        replace hI := hI.2
        have f13 := hide hI
        clear hI
        have c0 := keep hG c0
        have c1 := keep hG c1
        obtain rfl := f0.out (hD.on 0 (by kernel_rfl))
        try simp only [puts, Act.put, List.setIfInBounds_toArray, List.set_cons_zero, List.set_cons_succ]
        try go_simp
        exact hK.out _ _ _ (by simp only [puts, Act.put, List.setIfInBounds_toArray, List.set_cons_zero, List.set_cons_succ] <;> rfl) ⟨hG, (fun h => f0.out h), (fun _ => rfl), (fun h => f2.out h), (fun h => f3.out h), (fun h => f4.out h), (fun h => f5.out h), (fun h => f6.out h), (fun h => f7.out h), (fun h => f8.out h), (fun h => f9.out h), (fun h => f10.out h), (fun h => f11.out h), (fun h => f12.out h), (fun h => f13.out h)⟩
      · intro L vs W hlen hL hD hI K hK
        obtain ⟨x0, x1, x2, x3, x4, x5, x6, x7, x8, x9, x10, x11, x12, x13, rfl⟩ := len14 hlen
        have hG := hI.1
        replace hI := hI.2
        have f0 := hide hI.1
        replace hI := hI.2
        have f1 := hide hI.1
        replace hI := hI.2
        have f2 := hide hI.1
        replace hI := hI.2
        have f3 := hide hI.1
        replace hI := hI.2
        have f4 := hide hI.1
        replace hI := hI.2
        have f5 := hide hI.1
        replace hI := hI.2
        have f6 := hide hI.1
        replace hI := hI.2
        have f7 := hide hI.1
        replace hI := hI.2
        have f8 := hide hI.1
        replace hI := hI.2
        have f9 := hide hI.1
        replace hI := hI.2
        have f10 := hide hI.1
        replace hI := hI.2
        have f11 := hide hI.1
        replace hI := hI.2
        have f12 := hide hI.1
        replace hI := hI.2
        have f13 := hide hI
        clear hI
        have c0 := keep hG c0
        have c1 := keep hG c1
        try simp only [puts, Act.put, List.setIfInBounds_toArray, List.set_cons_zero, List.set_cons_succ]
        try go_simp
        generalize hW' : World.alloc W _ = W'
        have hb : Below W.heap.size W W' := by rw [← hW']; exact bal W _
        exact hK.out _ _ _ (by simp only [puts, Act.put, List.setIfInBounds_toArray, List.set_cons_zero, List.set_cons_succ] <;> rfl) ⟨below2 hG hb, (fun h => f0.out h), (fun h => f1.out h), (fun _ => fun _ => ⟨W.heap.size, rfl, by rw [← hW']; exact lit_recsK W _ 2 hG.size⟩), (fun h => f3.out h), (fun h => f4.out h), (fun h => (fun h => fun h8 => let ⟨va, vc, e, o⟩ := h h8; ⟨va, vc, e, OwnR.later' o hb⟩) (f5.out h)), (fun h => f6.out h), (fun h => f7.out h), (fun h => f8.out h), (fun h => (fun h => fun h8 => let ⟨b0, e, o⟩ := h h8; ⟨b0, e, o.later hb⟩) (f9.out h)), (fun h => (fun h => let ⟨g, c, e, o⟩ := h; ⟨g, c, e, OwnR.later' o hb⟩) (f10.out h)), (fun h => f11.out h), (fun h => (fun h => fun h8 => let ⟨b0, h0, e, k⟩ := h h8; ⟨b0, h0, e, k.later hb⟩) (f12.out h)), (fun h => (fun h => ⟨h.1, let ⟨b, g, c, e, k, o, q⟩ := h.2; ⟨b, g, c, e, k.later hb, OwnR.later' o hb, q⟩⟩) (f13.out h))⟩
      · intro L vs W hlen hL hD hI K hK
        obtain ⟨x0, x1, x2, x3, x4, x5, x6, x7, x8, x9, x10, x11, x12, x13, rfl⟩ := len14 hlen
        have hG := hI.1
        replace hI := hI.2
        have f0 := hide hI.1
        replace hI := hI.2
        have f1 := hide hI.1
        replace hI := hI.2
        have f2 := hide hI.1
        replace hI := hI.2
        have f3 := hide hI.1
        replace hI := hI.2
        have f4 := hide hI.1
        replace hI := hI.2
        have f5 := hide hI.1
        replace hI := hI.2
        have f6 := hide hI.1
        replace hI := hI.2
        have f7 := hide hI.1
        replace hI := hI.2
        have f8 := hide hI.1
        replace hI := hI.2
        have f9 := hide hI.1
        replace hI := hI.2
        have f10 := hide hI.1
        replace hI := hI.2
        have f11 := hide hI.1
        replace hI := hI.2
        have f12 := hide hI.1
        replace hI := hI.2
        have f13 := hide hI
        clear hI
        have c0 := keep hG c0
        have c1 := keep hG c1
        try simp only [puts, Act.put, List.setIfInBounds_toArray, List.set_cons_zero, List.set_cons_succ]
        try go_simp
        exact hK.out _ _ _ (by simp only [puts, Act.put, List.setIfInBounds_toArray, List.set_cons_zero, List.set_cons_succ] <;> rfl) ⟨hG, (fun h => f0.out h), (fun h => f1.out h), (fun h => f2.out h), (fun _ => rfl), (fun h => f4.out h), (fun h => f5.out h), (fun h => f6.out h), (fun h => f7.out h), (fun h => f8.out h), (fun h => f9.out h), (fun h => f10.out h), (fun h => f11.out h), (fun h => f12.out h), (fun h => f13.out h)⟩
      · intro L vs W hlen hL hD hI K hK
        obtain ⟨x0, x1, x2, x3, x4, x5, x6, x7, x8, x9, x10, x11, x12, x13, rfl⟩ := len14 hlen
        have hG := hI.1
        replace hI := hI.2
        have f0 := hide hI.1
        replace hI := hI.2
        have f1 := hide hI.1
        replace hI := hI.2
        have f2 := hide hI.1
        replace hI := hI.2
        have f3 := hide hI.1
        replace hI := hI.2
        have f4 := hide hI.1
        replace hI := hI.2
        have f5 := hide hI.1
        replace hI := hI.2
        have f6 := hide hI.1
        replace hI := hI.2
        have f7 := hide hI.1
        replace hI := hI.2
        have f8 := hide hI.1
        replace hI := hI.2
        have f9 := hide hI.1
        replace hI := hI.2
        have f10 := hide hI.1
        replace hI := hI.2
        have f11 := hide hI.1
        replace hI := hI.2
        have f12 := hide hI.1
        replace hI := hI.2
        have f13 := hide hI
        clear hI
        have c0 := keep hG c0
        have c1 := keep hG c1
        obtain rfl := f3.out (hD.on 3 (by kernel_rfl))
        try simp only [puts, Act.put, List.setIfInBounds_toArray, List.set_cons_zero, List.set_cons_succ]
        try go_simp
        exact hK.out _ _ _ (by simp only [puts, Act.put, List.setIfInBounds_toArray, List.set_cons_zero, List.set_cons_succ] <;> rfl) ⟨hG, (fun h => f0.out h), (fun h => f1.out h), (fun h => f2.out h), (fun h => f3.out h), (fun _ => rfl), (fun h => f5.out h), (fun h => f6.out h), (fun h => f7.out h), (fun h => f8.out h), (fun h => f9.out h), (fun h => f10.out h), (fun h => f11.out h), (fun h => f12.out h), (fun h => f13.out h)⟩
      · intro L vs W hlen hL hD hI K hK
        obtain ⟨x0, x1, x2, x3, x4, x5, x6, x7, x8, x9, x10, x11, x12, x13, rfl⟩ := len14 hlen
        have hG := hI.1
        replace hI := hI.2
        have f0 := hide hI.1
        replace hI := hI.2
        have f1 := hide hI.1
        replace hI := hI.2
        have f2 := hide hI.1
        replace hI := hI.2
        have f3 := hide hI.1
        replace hI := hI.2
        have f4 := hide hI.1
        replace hI := hI.2
        have f5 := hide hI.1
        replace hI := hI.2
        have f6 := hide hI.1
        replace hI := hI.2
        have f7 := hide hI.1
        replace hI := hI.2
        have f8 := hide hI.1
        replace hI := hI.2
        have f9 := hide hI.1
        replace hI := hI.2
        have f10 := hide hI.1
        replace hI := hI.2
        have f11 := hide hI.1
        replace hI := hI.2
        have f12 := hide hI.1
        replace hI := hI.2
        have f13 := hide hI
        clear hI
        have c0 := keep hG c0
        have c1 := keep hG c1
        have g2 := f2.out (hD.on 2 (by kernel_rfl))
        obtain rfl := f4.out (hD.on 4 (by kernel_rfl))
        try simp only [puts, Act.put, List.setIfInBounds_toArray, List.set_cons_zero, List.set_cons_succ]
        obtain ⟨b0, rfl, hO0⟩ := g2 hL
        refine step_copy rfl _ _ rfl V.heap.size b0 rfl hO0 ra m rc (rl) rfl (RecIn.below hG HPS.out) hm hG.size ?_
        intro va vc W' hO' hb
        exact hK.out _ _ _ (by simp only [puts, Act.put, List.setIfInBounds_toArray, List.set_cons_zero, List.set_cons_succ] <;> rfl) ⟨below2 hG hb, (fun h => f0.out h), (fun h => f1.out h), (fun h => (fun _ h8 => absurd h8 (by simp)) (f2.out h)), (fun h => f3.out h), (fun h => f4.out h), (fun _ => fun _ => ⟨va, vc, rfl, hO'⟩), (fun h => f6.out h), (fun h => f7.out h), (fun h => f8.out h), (fun h => (fun h => fun h8 => let ⟨b0, e, o⟩ := h h8; ⟨b0, e, o.later hb⟩) (f9.out h)), (fun h => (fun h => let ⟨g, c, e, o⟩ := h; ⟨g, c, e, OwnR.later' o hb⟩) (f10.out h)), (fun h => f11.out h), (fun h => (fun h => fun h8 => let ⟨b0, h0, e, k⟩ := h h8; ⟨b0, h0, e, k.later hb⟩) (f12.out h)), (fun h => (fun h => ⟨h.1, let ⟨b, g, c, e, k, o, q⟩ := h.2; ⟨b, g, c, e, k.later hb, OwnR.later' o hb, q⟩⟩) (f13.out h))⟩
      · intro L vs W hlen hL hD hI K hK
        obtain ⟨x0, x1, x2, x3, x4, x5, x6, x7, x8, x9, x10, x11, x12, x13, rfl⟩ := len14 hlen
        have hG := hI.1
        replace hI := hI.2
        have f0 := hide hI.1
        replace hI := hI.2
        have f1 := hide hI.1
        replace hI := hI.2
        have f2 := hide hI.1
        replace hI := hI.2
        have f3 := hide hI.1
        replace hI := hI.2
        have f4 := hide hI.1
        replace hI := hI.2
        have f5 := hide hI.1
        replace hI := hI.2
        have f6 := hide hI.1
        replace hI := hI.2
        have f7 := hide hI.1
        replace hI := hI.2
        have f8 := hide hI.1
        replace hI := hI.2
        have f9 := hide hI.1
        replace hI := hI.2
        have f10 := hide hI.1
        replace hI := hI.2
        have f11 := hide hI.1
        replace hI := hI.2
        have f12 := hide hI.1
        replace hI := hI.2
        have f13 := hide hI
        clear hI
        have c0 := keep hG c0
        have c1 := keep hG c1
        try simp only [puts, Act.put, List.setIfInBounds_toArray, List.set_cons_zero, List.set_cons_succ]
        try go_simp
        exact hK.out _ _ _ (by simp only [puts, Act.put, List.setIfInBounds_toArray, List.set_cons_zero, List.set_cons_succ] <;> rfl) ⟨hG, (fun h => f0.out h), (fun h => f1.out h), (fun h => f2.out h), (fun h => f3.out h), (fun h => f4.out h), (fun h => f5.out h), (fun _ => rfl), (fun h => f7.out h), (fun h => f8.out h), (fun h => f9.out h), (fun h => f10.out h), (fun h => f11.out h), (fun h => f12.out h), (fun h => f13.out h)⟩
      · intro L vs W hlen hL hD hI K hK
        obtain ⟨x0, x1, x2, x3, x4, x5, x6, x7, x8, x9, x10, x11, x12, x13, rfl⟩ := len14 hlen
        have hG := hI.1
        replace hI := hI.2
        have f0 := hide hI.1
        replace hI := hI.2
        have f1 := hide hI.1
        replace hI := hI.2
        have f2 := hide hI.1
        replace hI := hI.2
        have f3 := hide hI.1
        replace hI := hI.2
        have f4 := hide hI.1
        replace hI := hI.2
        have f5 := hide hI.1
        replace hI := hI.2
        have f6 := hide hI.1
        replace hI := hI.2
        have f7 := hide hI.1
        replace hI := hI.2
        have f8 := hide hI.1
        replace hI := hI.2
        have f9 := hide hI.1
        replace hI := hI.2
        have f10 := hide hI.1
        replace hI := hI.2
        have f11 := hide hI.1
        replace hI := hI.2
        have f12 := hide hI.1
        replace hI := hI.2
        have f13 := hide hI
        clear hI
        have c0 := keep hG c0
        have c1 := keep hG c1
        try simp only [puts, Act.put, List.setIfInBounds_toArray, List.set_cons_zero, List.set_cons_succ]
        try go_simp
        exact hK.out _ _ _ (by simp only [puts, Act.put, List.setIfInBounds_toArray, List.set_cons_zero, List.set_cons_succ] <;> rfl) ⟨hG, (fun h => f0.out h), (fun h => f1.out h), (fun h => f2.out h), (fun h => f3.out h), (fun h => f4.out h), (fun h => f5.out h), (fun h => f6.out h), (fun _ => rfl), (fun h => f8.out h), (fun h => f9.out h), (fun h => f10.out h), (fun h => f11.out h), (fun h => f12.out h), (fun h => f13.out h)⟩
      · intro L vs W hlen hL hD hI K hK
        obtain ⟨x0, x1, x2, x3, x4, x5, x6, x7, x8, x9, x10, x11, x12, x13, rfl⟩ := len14 hlen
        have hG := hI.1
        replace hI := hI.2
        have f0 := hide hI.1
        replace hI := hI.2
        have f1 := hide hI.1
        replace hI := hI.2
        have f2 := hide hI.1
        replace hI := hI.2
        have f3 := hide hI.1
        replace hI := hI.2
        have f4 := hide hI.1
        replace hI := hI.2
        have f5 := hide hI.1
        replace hI := hI.2
        have f6 := hide hI.1
        replace hI := hI.2
        have f7 := hide hI.1
        replace hI := hI.2
        have f8 := hide hI.1
        replace hI := hI.2
        have f9 := hide hI.1
        replace hI := hI.2
        have f10 := hide hI.1
        replace hI := hI.2
        have f11 := hide hI.1
        replace hI := hI.2
        have f12 := hide hI.1
        replace hI := hI.2
        have f13 := hide hI
        clear hI
        have c0 := keep hG c0
        have c1 := keep hG c1
        obtain rfl := f6.out (hD.on 6 (by kernel_rfl))
        obtain rfl := f7.out (hD.on 7 (by kernel_rfl))
        try simp only [puts, Act.put, List.setIfInBounds_toArray, List.set_cons_zero, List.set_cons_succ]
        try go_simp
        exact hK.out _ _ _ (by simp only [puts, Act.put, List.setIfInBounds_toArray, List.set_cons_zero, List.set_cons_succ] <;> rfl) ⟨hG, (fun h => f0.out h), (fun h => f1.out h), (fun h => f2.out h), (fun h => f3.out h), (fun h => f4.out h), (fun h => f5.out h), (fun h => f6.out h), (fun h => f7.out h), (fun _ => rfl), (fun h => f9.out h), (fun h => f10.out h), (fun h => f11.out h), (fun h => f12.out h), (fun h => f13.out h)⟩
      · intro L vs W hlen hL hD hI K hK
        obtain ⟨x0, x1, x2, x3, x4, x5, x6, x7, x8, x9, x10, x11, x12, x13, rfl⟩ := len14 hlen
        have hG := hI.1
        replace hI := hI.2
        have f0 := hide hI.1
        replace hI := hI.2
        have f1 := hide hI.1
        replace hI := hI.2
        have f2 := hide hI.1
        replace hI := hI.2
        have f3 := hide hI.1
        replace hI := hI.2
        have f4 := hide hI.1
        replace hI := hI.2
        have f5 := hide hI.1
        replace hI := hI.2
        have f6 := hide hI.1
        replace hI := hI.2
        have f7 := hide hI.1
        replace hI := hI.2
        have f8 := hide hI.1
        replace hI := hI.2
        have f9 := hide hI.1
        replace hI := hI.2
        have f10 := hide hI.1
        replace hI := hI.2
        have f11 := hide hI.1
        replace hI := hI.2
        have f12 := hide hI.1
        replace hI := hI.2
        have f13 := hide hI
        clear hI
        have c0 := keep hG c0
        have c1 := keep hG c1
        obtain rfl := f8.out (hD.on 8 (by kernel_rfl))
        try simp only [puts, Act.put, List.setIfInBounds_toArray, List.set_cons_zero, List.set_cons_succ]
        try go_simp
        generalize hW' : World.alloc W _ = W'
        have hb : Below W.heap.size W W' := by rw [← hW']; exact bal W _
        exact hK.out _ _ _ (by simp only [puts, Act.put, List.setIfInBounds_toArray, List.set_cons_zero, List.set_cons_succ] <;> rfl) ⟨below2 hG hb, (fun h => f0.out h), (fun h => f1.out h), (fun h => (fun h => fun h5 => let ⟨b0, e, o⟩ := h h5; ⟨b0, e, OwnR.later' o hb⟩) (f2.out h)), (fun h => f3.out h), (fun h => f4.out h), (fun h => (fun h => fun h8 => let ⟨va, vc, e, o⟩ := h h8; ⟨va, vc, e, OwnR.later' o hb⟩) (f5.out h)), (fun h => f6.out h), (fun h => f7.out h), (fun h => f8.out h), (fun _ => fun _ => ⟨W.heap.size, rfl, by rw [← hW']; exact Blk.newA W _ rfl⟩), (fun h => (fun h => let ⟨g, c, e, o⟩ := h; ⟨g, c, e, OwnR.later' o hb⟩) (f10.out h)), (fun h => f11.out h), (fun h => (fun h => fun h8 => let ⟨b0, h0, e, k⟩ := h h8; ⟨b0, h0, e, k.later hb⟩) (f12.out h)), (fun h => (fun h => ⟨h.1, let ⟨b, g, c, e, k, o, q⟩ := h.2; ⟨b, g, c, e, k.later hb, OwnR.later' o hb, q⟩⟩) (f13.out h))⟩
      · intro L vs W hlen hL hD hI K hK
        obtain ⟨x0, x1, x2, x3, x4, x5, x6, x7, x8, x9, x10, x11, x12, x13, rfl⟩ := len14 hlen
        have hG := hI.1
        replace hI := hI.2
        have f0 := hide hI.1
        replace hI := hI.2
        have f1 := hide hI.1
        replace hI := hI.2
        have f2 := hide hI.1
        replace hI := hI.2
        have f3 := hide hI.1
        replace hI := hI.2
        have f4 := hide hI.1
        replace hI := hI.2
        have f5 := hide hI.1
        replace hI := hI.2
        have f6 := hide hI.1
        replace hI := hI.2
        have f7 := hide hI.1
        replace hI := hI.2
        have f8 := hide hI.1
        replace hI := hI.2
        have f9 := hide hI.1
        replace hI := hI.2
        have f10 := hide hI.1
        replace hI := hI.2
        have f11 := hide hI.1
        replace hI := hI.2
        have f12 := hide hI.1
        replace hI := hI.2
        have f13 := hide hI
        clear hI
        have c0 := keep hG c0
        have c1 := keep hG c1
        have g5 := f5.out (hD.on 5 (by kernel_rfl))
        have g9 := f9.out (hD.on 9 (by kernel_rfl))
        try simp only [puts, Act.put, List.setIfInBounds_toArray, List.set_cons_zero, List.set_cons_succ]
        obtain ⟨va, vc, rfl, hO5⟩ := g5 hL
        obtain ⟨b0, rfl, hB0⟩ := g9 hL
        refine step_one' rfl _ _ rfl V.heap.size m va vc (rl) (((a : Nat) : Int), ((b : Nat) : Int)) rfl hO5 b0 rfl hB0 hm hG.size ?_
        intro g c W' hO' hE'
        have hb := effE_far hG hE'
        exact hK.out _ _ _ (by simp only [puts, Act.put, List.setIfInBounds_toArray, List.set_cons_zero, List.set_cons_succ] <;> rfl) ⟨hG.trans hb, (fun h => f0.out h), (fun h => f1.out h), (fun h => (fun _ h8 => absurd ((hD.on 5 (by kernel_rfl)).symm.trans h8) (by decide)) (f2.out h)), (fun h => f3.out h), (fun h => f4.out h), (fun h => (fun _ h8 => absurd h8 (by simp)) (f5.out h)), (fun h => f6.out h), (fun h => f7.out h), (fun h => f8.out h), (fun h => (fun _ h8 => absurd h8 (by simp)) (f9.out h)), (fun _ => ⟨g, c, rfl, hO'⟩), (fun h => (fun h => absurd (h.1.symm.trans hL) (by decide)) (f11.out h)), (fun h => (fun h h13 => let ⟨b0, h0, e, k⟩ := h h13; ⟨b0, h0, e, hE'.blk k (by decide)⟩) (f12.out h)), (fun h => (fun h => absurd (h.1.1.symm.trans hL) (by decide)) (f13.out h))⟩
      · intro L vs W hlen hL hD hI K hK
        obtain ⟨x0, x1, x2, x3, x4, x5, x6, x7, x8, x9, x10, x11, x12, x13, rfl⟩ := len14 hlen
        have hG := hI.1
        replace hI := hI.2
        have f0 := hide hI.1
        replace hI := hI.2
        have f1 := hide hI.1
        replace hI := hI.2
        have f2 := hide hI.1
        replace hI := hI.2
        have f3 := hide hI.1
        replace hI := hI.2
        have f4 := hide hI.1
        replace hI := hI.2
        have f5 := hide hI.1
        replace hI := hI.2
        have f6 := hide hI.1
        replace hI := hI.2
        have f7 := hide hI.1
        replace hI := hI.2
        have f8 := hide hI.1
        replace hI := hI.2
        have f9 := hide hI.1
        replace hI := hI.2
        have f10 := hide hI.1
        replace hI := hI.2
        have f11 := hide hI.1
        replace hI := hI.2
        have f12 := hide hI.1
        replace hI := hI.2
        have f13 := hide hI
        clear hI
        have c0 := keep hG c0
        have c1 := keep hG c1
        obtain rfl := f1.out (hD.on 1 (by kernel_rfl))
        have g10 := f10.out (hD.on 10 (by kernel_rfl))
        try simp only [puts, Act.put, List.setIfInBounds_toArray, List.set_cons_zero, List.set_cons_succ]
        obtain ⟨g, c, rfl, hO'⟩ := g10
        go_simp
        exact hK.out _ _ _ (by simp only [puts, Act.put, List.setIfInBounds_toArray, List.set_cons_zero, List.set_cons_succ] <;> rfl) ⟨hG, (fun h => f0.out h), (fun h => f1.out h), (fun h => f2.out h), (fun h => f3.out h), (fun h => f4.out h), (fun h => f5.out h), (fun h => f6.out h), (fun h => f7.out h), (fun h => f8.out h), (fun h => f9.out h), (fun h => f10.out h), (fun _ => ⟨hD.on 10 (by kernel_rfl), g, c, rfl, rfl⟩), (fun h => f12.out h), (fun h => f13.out h)⟩
      · intro L vs W hlen hL hD hI K hK
        obtain ⟨x0, x1, x2, x3, x4, x5, x6, x7, x8, x9, x10, x11, x12, x13, rfl⟩ := len14 hlen
        have hG := hI.1
        replace hI := hI.2
        have f0 := hide hI.1
        replace hI := hI.2
        have f1 := hide hI.1
        replace hI := hI.2
        have f2 := hide hI.1
        replace hI := hI.2
        have f3 := hide hI.1
        replace hI := hI.2
        have f4 := hide hI.1
        replace hI := hI.2
        have f5 := hide hI.1
        replace hI := hI.2
        have f6 := hide hI.1
        replace hI := hI.2
        have f7 := hide hI.1
        replace hI := hI.2
        have f8 := hide hI.1
        replace hI := hI.2
        have f9 := hide hI.1
        replace hI := hI.2
        have f10 := hide hI.1
        replace hI := hI.2
        have f11 := hide hI.1
        replace hI := hI.2
        have f12 := hide hI.1
        replace hI := hI.2
        have f13 := hide hI
        clear hI
        have c0 := keep hG c0
        have c1 := keep hG c1
        try simp only [puts, Act.put, List.setIfInBounds_toArray, List.set_cons_zero, List.set_cons_succ]
        try go_simp
        generalize hW' : World.alloc W _ = W'
        have hb : Below W.heap.size W W' := by rw [← hW']; exact bal W _
        exact hK.out _ _ _ (by simp only [puts, Act.put, List.setIfInBounds_toArray, List.set_cons_zero, List.set_cons_succ] <;> rfl) ⟨below2 hG hb, (fun h => f0.out h), (fun h => f1.out h), (fun h => (fun h => fun h5 => let ⟨b0, e, o⟩ := h h5; ⟨b0, e, OwnR.later' o hb⟩) (f2.out h)), (fun h => f3.out h), (fun h => f4.out h), (fun h => (fun h => fun h8 => let ⟨va, vc, e, o⟩ := h h8; ⟨va, vc, e, OwnR.later' o hb⟩) (f5.out h)), (fun h => f6.out h), (fun h => f7.out h), (fun h => f8.out h), (fun h => (fun h => fun h8 => let ⟨b0, e, o⟩ := h h8; ⟨b0, e, o.later hb⟩) (f9.out h)), (fun h => (fun h => let ⟨g, c, e, o⟩ := h; ⟨g, c, e, OwnR.later' o hb⟩) (f10.out h)), (fun h => f11.out h), (fun _ => fun _ => ⟨W.heap.size, hG.size, rfl, by rw [← hW']; exact Blk.newA W _ rfl⟩), (fun h => (fun h => absurd (h.1.2.symm.trans hL) (by decide)) (f13.out h))⟩
      · intro L vs W hlen hL hD hI K hK
        obtain ⟨x0, x1, x2, x3, x4, x5, x6, x7, x8, x9, x10, x11, x12, x13, rfl⟩ := len14 hlen
        have hG := hI.1
        replace hI := hI.2
        have f0 := hide hI.1
        replace hI := hI.2
        have f1 := hide hI.1
        replace hI := hI.2
        have f2 := hide hI.1
        replace hI := hI.2
        have f3 := hide hI.1
        replace hI := hI.2
        have f4 := hide hI.1
        replace hI := hI.2
        have f5 := hide hI.1
        replace hI := hI.2
        have f6 := hide hI.1
        replace hI := hI.2
        have f7 := hide hI.1
        replace hI := hI.2
        have f8 := hide hI.1
        replace hI := hI.2
        have f9 := hide hI.1
        replace hI := hI.2
        have f10 := hide hI.1
        replace hI := hI.2
        have f11 := hide hI.1
        replace hI := hI.2
        have f12 := hide hI.1
        replace hI := hI.2
        have f13 := hide hI
        clear hI
        have c0 := keep hG c0
        have c1 := keep hG c1
        have g10 := f10.out (hD.on 10 (by kernel_rfl))
        have g11 := f11.out (hD.on 11 (by kernel_rfl))
        have g12 := f12.out (hD.on 12 (by kernel_rfl))
        try simp only [puts, Act.put, List.setIfInBounds_toArray, List.set_cons_zero, List.set_cons_succ]
        obtain ⟨g, c, rfl, hO10⟩ := g10
        obtain ⟨-, g1, c1, e1, rfl⟩ := g11
        cases e1
        obtain ⟨b0, h0, rfl, hB0⟩ := g12 hL
        have z0 := hB0.cell 0 rfl
        have z1 := hB0.cell 1 rfl
        have zf0 := hB0.frozen 0
        have zf1 := hB0.frozen 1
        go_simp
        have hb := ((Below.refl (V.heap.size) W).setCell (p := ⟨b0, 0, none⟩) h0 (.int .i64 (N : Nat))).setCell (p := ⟨b0, 1, none⟩) h0 (.slice (some ⟨g, 0, none⟩) (m + 1) c)
        exact hK.out _ undef _ (by simp only [puts, Act.put, List.setIfInBounds_toArray, List.set_cons_zero, List.set_cons_succ] <;> rfl) ⟨hG.trans hb, (fun h => f0.out h), (fun h => f1.out h), (fun h => (fun _ h8 => absurd ((hD.on 5 (by kernel_rfl)).symm.trans h8) (by decide)) (f2.out h)), (fun h => f3.out h), (fun h => f4.out h), (fun h => (fun _ h8 => absurd ((hD.on 10 (by kernel_rfl)).symm.trans h8) (by decide)) (f5.out h)), (fun h => f6.out h), (fun h => f7.out h), (fun h => f8.out h), (fun h => (fun _ h8 => absurd ((hD.on 10 (by kernel_rfl)).symm.trans h8) (by decide)) (f9.out h)), (fun h => (fun h => let ⟨g2, c2, e, o⟩ := h; ⟨g2, c2, e, (o.setO hB0 (by decide) (j := 0) _).setO (hB0.set 0 _) (by decide) (j := 1) _⟩) (f10.out h)), (fun h => f11.out h), (fun h => (fun _ h8 => absurd h8 (by simp)) (f12.out h)), (fun _ => ⟨⟨hD.on 10 (by kernel_rfl), hD.on 12 (by kernel_rfl)⟩, b0, g, c, rfl, (hB0.set 0 _).set 1 _, (hO10.setO hB0 (by decide) (j := 0) _).setO (hB0.set 0 _) (by decide) (j := 1) _, h0⟩)⟩
    intro L vs W hlen hall hI
    obtain ⟨x0, x1, x2, x3, x4, x5, x6, x7, x8, x9, x10, x11, x12, x13, rfl⟩ := len14 hlen
    have hG := hI.1
    replace hI := hI.2
    have f0 := hide hI.1
    replace hI := hI.2
    have f1 := hide hI.1
    replace hI := hI.2
    have f2 := hide hI.1
    replace hI := hI.2
    have f3 := hide hI.1
    replace hI := hI.2
    have f4 := hide hI.1
    replace hI := hI.2
    have f5 := hide hI.1
    replace hI := hI.2
    have f6 := hide hI.1
    replace hI := hI.2
    have f7 := hide hI.1
    replace hI := hI.2
    have f8 := hide hI.1
    replace hI := hI.2
    have f9 := hide hI.1
    replace hI := hI.2
    have f10 := hide hI.1
    replace hI := hI.2
    have f11 := hide hI.1
    replace hI := hI.2
    have f12 := hide hI.1
    replace hI := hI.2
    have f13 := hide hI
    clear hI
    obtain rfl := f0.out (hall 0 (by decide))
    obtain rfl := f1.out (hall 1 (by decide))
    have g2 := f2.out (hall 2 (by decide))
    obtain rfl := f3.out (hall 3 (by decide))
    obtain rfl := f4.out (hall 4 (by decide))
    have g5 := f5.out (hall 5 (by decide))
    obtain rfl := f6.out (hall 6 (by decide))
    obtain rfl := f7.out (hall 7 (by decide))
    obtain rfl := f8.out (hall 8 (by decide))
    have g9 := f9.out (hall 9 (by decide))
    have g10 := f10.out (hall 10 (by decide))
    have g11 := f11.out (hall 11 (by decide))
    have g12 := f12.out (hall 12 (by decide))
    have g13 := f13.out (hall 13 (by decide))
    have hal := hide hall
    clear hall f0 f1 f2 f3 f4 f5 f6 f7 f8 f9 f10 f11 f12 f13
    try simp only [puts, Act.put, List.setIfInBounds_toArray, List.set_cons_zero, List.set_cons_succ]
    obtain ⟨-, b1, g1, d1, rfl, hB1, hO1, hb1V⟩ := g13
    have hWb := hG
    clear hG hal g2 g5 g9 g10 g11 g12
    have bP6 := bP5.later hWb
    have bR6 := bR5.later hWb
    have hp6 := RecIn.below hWb hp5
    have hr6 := RecIn.below hWb hr5
    have hw6 := below2 hw5 hWb
    have hq1 : PairsIn W.cell? (.slice (some ⟨g1, 0, none⟩) (m + 1) d1) (rl ++ [((a : Int), (b : Int))]) := RecIn.at (RecIn.of_own hO1 (fun _ => rfl) (Nat.le_refl _))
    clear hO1 bP5 bR5 hp5 hr5 hw5 hWb HPS c0 c1 hb1V
    generalize W = V2 at *
    have c0 := bP6.cell 0 rfl
    have c1 := bR6.cell 1 rfl
    have HPS2 := hide hr6
    go_upto_region 12 with (fail)
    refine wp_region_inv [some 78, some 79, some 80, some 81, some 82, some 83, some 84, some 85, some 86, some 87, some 88, some 89, some 18, none] (fun L vs W => match vs with | [x0, x1, x2, x3, x4, x5, x6, x7, x8, x9, x10, x11, x12, x13] => (Below V2.heap.size V2 W) ∧ (L 0 = true → x0 = .pointer (some ⟨P, 0, none⟩)) ∧ (L 1 = true → x1 = .int .i64 (N : Nat)) ∧ (L 2 = true → (L 5 = false → ∃ b0 : Nat, x2 = .slice (some ⟨b0, 0, none⟩) 0 0 ∧ OwnR W V2.heap.size 46 2 (.slice (some ⟨b0, 0, none⟩) 0 0) [])) ∧ (L 3 = true → x3 = .pointer (some ⟨R, 1, none⟩)) ∧ (L 4 = true → x4 = .slice ra m rc) ∧ (L 5 = true → (L 10 = false → ∃ va vc, x5 = .slice va m vc ∧ OwnR W V2.heap.size 46 2 (.slice va m vc) (List.map pairC rl))) ∧ (L 6 = true → x6 = .int .i64 ((b : Nat) : Int)) ∧ (L 7 = true → x7 = .int .i64 ((a : Nat) : Int)) ∧ (L 8 = true → x8 = .agg #[.int .i64 ((b : Nat) : Int), .int .i64 ((a : Nat) : Int)]) ∧ (L 9 = true → (L 10 = false → ∃ b0 : Nat, x9 = .slice (some ⟨b0, 0, none⟩) 1 1 ∧ Blk W b0 (pairC (((b : Nat) : Int), ((a : Nat) : Int))) 46)) ∧ (L 10 = true → ∃ g c, x10 = .slice (some ⟨g, 0, none⟩) (m + 1) c ∧ OwnR W V2.heap.size 46 2 (.slice (some ⟨g, 0, none⟩) (m + 1) c) (List.map pairC (rl ++ [(((b : Nat) : Int), ((a : Nat) : Int))]))) ∧ (L 11 = true → L 10 = true ∧ ∃ g c, x10 = .slice (some ⟨g, 0, none⟩) (m + 1) c ∧ x11 = .agg #[.int .i64 (N : Nat), .slice (some ⟨g, 0, none⟩) (m + 1) c]) ∧ (L 12 = true → (L 13 = false → ∃ b0 : Nat, V2.heap.size ≤ b0 ∧ x12 = .pointer (some ⟨b0, 0, none⟩) ∧ Blk W b0 [.int .i64 0, .slice none 0 0] 25)) ∧ (L 13 = true → (L 10 = true ∧ L 12 = true) ∧ NewO V2 (N : Nat) (m + 1) (rl ++ [(((b : Nat) : Int), ((a : Nat) : Int))]) x12 W) | _ => False) [_, _, _, _, _, _, _, _, _, _, _, _, _, undef] (by kernel_rfl) (by kernel_rfl) rfl (by simp only [puts, Act.put, List.setIfInBounds_toArray, List.set_cons_zero, List.set_cons_succ] <;> rfl) ?_ ?_ ?_
    · exact ⟨(Below.refl _ _).drew, (fun h => by cases h), (fun h => by cases h), (fun h => by cases h), (fun h => by cases h), (fun h => by cases h), (fun h => by cases h), (fun h => by cases h), (fun h => by cases h), (fun h => by cases h), (fun h => by cases h), (fun h => by cases h), (fun h => by cases h), (fun h => by cases h), (fun h => by cases h)⟩
    · refine ⟨?_, ?_, ?_, ?_, ?_, ?_, ?_, ?_, ?_, ?_, ?_, ?_, ?_, ?_, trivial⟩
      · intro L vs W hlen hL hD hI K hK
        obtain ⟨x0, x1, x2, x3, x4, x5, x6, x7, x8, x9, x10, x11, x12, x13, rfl⟩ := len14 hlen
        have hG := hI.1
        replace hI := hI.2
        have f0 := hide hI.1
        replace hI := hI.2
        have f1 := hide hI.1
        replace hI := hI.2
        have f2 := hide hI.1
        replace hI := hI.2
        have f3 := hide hI.1
        replace hI := hI.2
        have f4 := hide hI.1
        replace hI := hI.2
        have f5 := hide hI.1
        replace hI := hI.2
        have f6 := hide hI.1
        replace hI := hI.2
        have f7 := hide hI.1
        replace hI := hI.2
        have f8 := hide hI.1
        replace hI := hI.2
        have f9 := hide hI.1
        replace hI := hI.2
        have f10 := hide hI.1
        replace hI := hI.2
        have f11 := hide hI.1
        replace hI := hI.2
        have f12 := hide hI.1
        replace hI := hI.2
        have f13 := hide hI
        clear hI
        have c0 := keep hG c0
        have c1 := keep hG c1
        try simp only [puts, Act.put, List.setIfInBounds_toArray, List.set_cons_zero, List.set_cons_succ]
        try go_simp
        exact hK.out _ _ _ (by simp only [puts, Act.put, List.setIfInBounds_toArray, List.set_cons_zero, List.set_cons_succ] <;> rfl) ⟨hG, (fun _ => rfl), (fun h => f1.out h), (fun h => f2.out h), (fun h => f3.out h), (fun h => f4.out h), (fun h => f5.out h), (fun h => f6.out h), (fun h => f7.out h), (fun h => f8.out h), (fun h => f9.out h), (fun h => f10.out h), (fun h => f11.out h), (fun h => f12.out h), (fun h => f13.out h)⟩
      · intro L vs W hlen hL hD hI K hK
        obtain ⟨x0, x1, x2, x3, x4, x5, x6, x7, x8, x9, x10, x11, x12, x13, rfl⟩ := len14 hlen
        have hG := hI.1
        replace hI := hI.2
        have f0 := hide hI.1
        replace hI := hI.2
        have f1 := hide hI.1
        replace hI := hI.2
        have f2 := hide hI.1
        replace hI := hI.2
        have f3 := hide hI.1
        replace hI := hI.2
        have f4 := hide hI.1
        replace hI := hI.2
        have f5 := hide hI.1
        replace hI := hI.2
        have f6 := hide hI.1
        replace hI := hI.2
        have f7 := hide hI.1
        replace hI := hI.2
        have f8 := hide hI.1
        replace hI := hI.2
        have f9 := hide hI.1
        replace hI := hI.2
        have f10 := hide hI.1
        replace hI := hI.2
        have f11 := hide hI.1
        replace hI := hI.2
        have f12 := hide hI.1
        replace hI := hI.2
        have f13 := hide hI
        clear hI
        have c0 := keep hG c0
        have c1 := keep hG c1
        obtain rfl := f0.out (hD.on 0 (by kernel_rfl))
        try simp only [puts, Act.put, List.setIfInBounds_toArray, List.set_cons_zero, List.set_cons_succ]
        try go_simp
        exact hK.out _ _ _ (by simp only [puts, Act.put, List.setIfInBounds_toArray, List.set_cons_zero, List.set_cons_succ] <;> rfl) ⟨hG, (fun h => f0.out h), (fun _ => rfl), (fun h => f2.out h), (fun h => f3.out h), (fun h => f4.out h), (fun h => f5.out h), (fun h => f6.out h), (fun h => f7.out h), (fun h => f8.out h), (fun h => f9.out h), (fun h => f10.out h), (fun h => f11.out h), (fun h => f12.out h), (fun h => f13.out h)⟩
      · intro L vs W hlen hL hD hI K hK
        obtain ⟨x0, x1, x2, x3, x4, x5, x6, x7, x8, x9, x10, x11, x12, x13, rfl⟩ := len14 hlen
        have hG := hI.1
        replace hI := hI.2
        have f0 := hide hI.1
        replace hI := hI.2
        have f1 := hide hI.1
        replace hI := hI.2
        have f2 := hide hI.1
        replace hI := hI.2
        have f3 := hide hI.1
        replace hI := hI.2
        have f4 := hide hI.1
        replace hI := hI.2
        have f5 := hide hI.1
        replace hI := hI.2
        have f6 := hide hI.1
        replace hI := hI.2
        have f7 := hide hI.1
        replace hI := hI.2
        have f8 := hide hI.1
        replace hI := hI.2
        have f9 := hide hI.1
        replace hI := hI.2
        have f10 := hide hI.1
        replace hI := hI.2
        have f11 := hide hI.1
        replace hI := hI.2
        have f12 := hide hI.1
        replace hI := hI.2
        have f13 := hide hI
        clear hI
        have c0 := keep hG c0
        have c1 := keep hG c1
        try simp only [puts, Act.put, List.setIfInBounds_toArray, List.set_cons_zero, List.set_cons_succ]
        try go_simp
        generalize hW' : World.alloc W _ = W'
        have hb : Below W.heap.size W W' := by rw [← hW']; exact bal W _
        exact hK.out _ _ _ (by simp only [puts, Act.put, List.setIfInBounds_toArray, List.set_cons_zero, List.set_cons_succ] <;> rfl) ⟨below2 hG hb, (fun h => f0.out h), (fun h => f1.out h), (fun _ => fun _ => ⟨W.heap.size, rfl, by rw [← hW']; exact lit_recsK W _ 2 hG.size⟩), (fun h => f3.out h), (fun h => f4.out h), (fun h => (fun h => fun h8 => let ⟨va, vc, e, o⟩ := h h8; ⟨va, vc, e, OwnR.later' o hb⟩) (f5.out h)), (fun h => f6.out h), (fun h => f7.out h), (fun h => f8.out h), (fun h => (fun h => fun h8 => let ⟨b0, e, o⟩ := h h8; ⟨b0, e, o.later hb⟩) (f9.out h)), (fun h => (fun h => let ⟨g, c, e, o⟩ := h; ⟨g, c, e, OwnR.later' o hb⟩) (f10.out h)), (fun h => f11.out h), (fun h => (fun h => fun h8 => let ⟨b0, h0, e, k⟩ := h h8; ⟨b0, h0, e, k.later hb⟩) (f12.out h)), (fun h => (fun h => ⟨h.1, let ⟨b, g, c, e, k, o, q⟩ := h.2; ⟨b, g, c, e, k.later hb, OwnR.later' o hb, q⟩⟩) (f13.out h))⟩
      · intro L vs W hlen hL hD hI K hK
        obtain ⟨x0, x1, x2, x3, x4, x5, x6, x7, x8, x9, x10, x11, x12, x13, rfl⟩ := len14 hlen
        have hG := hI.1
        replace hI := hI.2
        have f0 := hide hI.1
        replace hI := hI.2
        have f1 := hide hI.1
        replace hI := hI.2
        have f2 := hide hI.1
        replace hI := hI.2
        have f3 := hide hI.1
        replace hI := hI.2
        have f4 := hide hI.1
        replace hI := hI.2
        have f5 := hide hI.1
        replace hI := hI.2
        have f6 := hide hI.1
        replace hI := hI.2
        have f7 := hide hI.1
        replace hI := hI.2
        have f8 := hide hI.1
        replace hI := hI.2
        have f9 := hide hI.1
        replace hI := hI.2
        have f10 := hide hI.1
        replace hI := hI.2
        have f11 := hide hI.1
        replace hI := hI.2
        have f12 := hide hI.1
        replace hI := hI.2
        have f13 := hide hI
        clear hI
        have c0 := keep hG c0
        have c1 := keep hG c1
        try simp only [puts, Act.put, List.setIfInBounds_toArray, List.set_cons_zero, List.set_cons_succ]
        try go_simp
        exact hK.out _ _ _ (by simp only [puts, Act.put, List.setIfInBounds_toArray, List.set_cons_zero, List.set_cons_succ] <;> rfl) ⟨hG, (fun h => f0.out h), (fun h => f1.out h), (fun h => f2.out h), (fun _ => rfl), (fun h => f4.out h), (fun h => f5.out h), (fun h => f6.out h), (fun h => f7.out h), (fun h => f8.out h), (fun h => f9.out h), (fun h => f10.out h), (fun h => f11.out h), (fun h => f12.out h), (fun h => f13.out h)⟩
      · intro L vs W hlen hL hD hI K hK
        obtain ⟨x0, x1, x2, x3, x4, x5, x6, x7, x8, x9, x10, x11, x12, x13, rfl⟩ := len14 hlen
        have hG := hI.1
        replace hI := hI.2
        have f0 := hide hI.1
        replace hI := hI.2
        have f1 := hide hI.1
        replace hI := hI.2
        have f2 := hide hI.1
        replace hI := hI.2
        have f3 := hide hI.1
        replace hI := hI.2
        have f4 := hide hI.1
        replace hI := hI.2
        have f5 := hide hI.1
        replace hI := hI.2
        have f6 := hide hI.1
        replace hI := hI.2
        have f7 := hide hI.1
        replace hI := hI.2
        have f8 := hide hI.1
        replace hI := hI.2
        have f9 := hide hI.1
        replace hI := hI.2
        have f10 := hide hI.1
        replace hI := hI.2
        have f11 := hide hI.1
        replace hI := hI.2
        have f12 := hide hI.1
        replace hI := hI.2
        have f13 := hide hI
        clear hI
        have c0 := keep hG c0
        have c1 := keep hG c1
        obtain rfl := f3.out (hD.on 3 (by kernel_rfl))
        try simp only [puts, Act.put, List.setIfInBounds_toArray, List.set_cons_zero, List.set_cons_succ]
        try go_simp
        exact hK.out _ _ _ (by simp only [puts, Act.put, List.setIfInBounds_toArray, List.set_cons_zero, List.set_cons_succ] <;> rfl) ⟨hG, (fun h => f0.out h), (fun h => f1.out h), (fun h => f2.out h), (fun h => f3.out h), (fun _ => rfl), (fun h => f5.out h), (fun h => f6.out h), (fun h => f7.out h), (fun h => f8.out h), (fun h => f9.out h), (fun h => f10.out h), (fun h => f11.out h), (fun h => f12.out h), (fun h => f13.out h)⟩
      · intro L vs W hlen hL hD hI K hK
        obtain ⟨x0, x1, x2, x3, x4, x5, x6, x7, x8, x9, x10, x11, x12, x13, rfl⟩ := len14 hlen
        have hG := hI.1
        replace hI := hI.2
        have f0 := hide hI.1
        replace hI := hI.2
        have f1 := hide hI.1
        replace hI := hI.2
        have f2 := hide hI.1
        replace hI := hI.2
        have f3 := hide hI.1
        replace hI := hI.2
        have f4 := hide hI.1
        replace hI := hI.2
        have f5 := hide hI.1
        replace hI := hI.2
        have f6 := hide hI.1
        replace hI := hI.2
        have f7 := hide hI.1
        replace hI := hI.2
        have f8 := hide hI.1
        replace hI := hI.2
        have f9 := hide hI.1
        replace hI := hI.2
        have f10 := hide hI.1
        replace hI := hI.2
        have f11 := hide hI.1
        replace hI := hI.2
        have f12 := hide hI.1
        replace hI := hI.2
        have f13 := hide hI
        clear hI
        have c0 := keep hG c0
        have c1 := keep hG c1
        have g2 := f2.out (hD.on 2 (by kernel_rfl))
        obtain rfl := f4.out (hD.on 4 (by kernel_rfl))
        try simp only [puts, Act.put, List.setIfInBounds_toArray, List.set_cons_zero, List.set_cons_succ]
        obtain ⟨b0, rfl, hO0⟩ := g2 hL
        refine step_copy rfl _ _ rfl V2.heap.size b0 rfl hO0 ra m rc (rl) rfl (RecIn.below hG HPS2.out) hm hG.size ?_
        intro va vc W' hO' hb
        exact hK.out _ _ _ (by simp only [puts, Act.put, List.setIfInBounds_toArray, List.set_cons_zero, List.set_cons_succ] <;> rfl) ⟨below2 hG hb, (fun h => f0.out h), (fun h => f1.out h), (fun h => (fun _ h8 => absurd h8 (by simp)) (f2.out h)), (fun h => f3.out h), (fun h => f4.out h), (fun _ => fun _ => ⟨va, vc, rfl, hO'⟩), (fun h => f6.out h), (fun h => f7.out h), (fun h => f8.out h), (fun h => (fun h => fun h8 => let ⟨b0, e, o⟩ := h h8; ⟨b0, e, o.later hb⟩) (f9.out h)), (fun h => (fun h => let ⟨g, c, e, o⟩ := h; ⟨g, c, e, OwnR.later' o hb⟩) (f10.out h)), (fun h => f11.out h), (fun h => (fun h => fun h8 => let ⟨b0, h0, e, k⟩ := h h8; ⟨b0, h0, e, k.later hb⟩) (f12.out h)), (fun h => (fun h => ⟨h.1, let ⟨b, g, c, e, k, o, q⟩ := h.2; ⟨b, g, c, e, k.later hb, OwnR.later' o hb, q⟩⟩) (f13.out h))⟩
      · intro L vs W hlen hL hD hI K hK
        obtain ⟨x0, x1, x2, x3, x4, x5, x6, x7, x8, x9, x10, x11, x12, x13, rfl⟩ := len14 hlen
        have hG := hI.1
        replace hI := hI.2
        have f0 := hide hI.1
        replace hI := hI.2
        have f1 := hide hI.1
        replace hI := hI.2
        have f2 := hide hI.1
        replace hI := hI.2
        have f3 := hide hI.1
        replace hI := hI.2
        have f4 := hide hI.1
        replace hI := hI.2
        have f5 := hide hI.1
        replace hI := hI.2
        have f6 := hide hI.1
        replace hI := hI.2
        have f7 := hide hI.1
        replace hI := hI.2
        have f8 := hide hI.1
        replace hI := hI.2
        have f9 := hide hI.1
        replace hI := hI.2
        have f10 := hide hI.1
        replace hI := hI.2
        have f11 := hide hI.1
        replace hI := hI.2
        have f12 := hide hI.1
        replace hI := hI.2
        have f13 := hide hI
        clear hI
        have c0 := keep hG c0
        have c1 := keep hG c1
        try simp only [puts, Act.put, List.setIfInBounds_toArray, List.set_cons_zero, List.set_cons_succ]
        try go_simp
        exact hK.out _ _ _ (by simp only [puts, Act.put, List.setIfInBounds_toArray, List.set_cons_zero, List.set_cons_succ] <;> rfl) ⟨hG, (fun h => f0.out h), (fun h => f1.out h), (fun h => f2.out h), (fun h => f3.out h), (fun h => f4.out h), (fun h => f5.out h), (fun _ => rfl), (fun h => f7.out h), (fun h => f8.out h), (fun h => f9.out h), (fun h => f10.out h), (fun h => f11.out h), (fun h => f12.out h), (fun h => f13.out h)⟩
      · intro L vs W hlen hL hD hI K hK
        obtain ⟨x0, x1, x2, x3, x4, x5, x6, x7, x8, x9, x10, x11, x12, x13, rfl⟩ := len14 hlen
        have hG := hI.1
        replace hI := hI.2
        have f0 := hide hI.1
        replace hI := hI.2
        have f1 := hide hI.1
        replace hI := hI.2
        have f2 := hide hI.1
        replace hI := hI.2
        have f3 := hide hI.1
        replace hI := hI.2
        have f4 := hide hI.1
        replace hI := hI.2
        have f5 := hide hI.1
        replace hI := hI.2
        have f6 := hide hI.1
        replace hI := hI.2
        have f7 := hide hI.1
        replace hI := hI.2
        have f8 := hide hI.1
        replace hI := hI.2
        have f9 := hide hI.1
        replace hI := hI.2
        have f10 := hide hI.1
        replace hI := hI.2
        have f11 := hide hI.1
        replace hI := hI.2
        have f12 := hide hI.1
        replace hI := hI.2
        have f13 := hide hI
        clear hI
        have c0 := keep hG c0
        have c1 := keep hG c1
        try simp only [puts, Act.put, List.setIfInBounds_toArray, List.set_cons_zero, List.set_cons_succ]
        try go_simp
        exact hK.out _ _ _ (by simp only [puts, Act.put, List.setIfInBounds_toArray, List.set_cons_zero, List.set_cons_succ] <;> rfl) ⟨hG, (fun h => f0.out h), (fun h => f1.out h), (fun h => f2.out h), (fun h => f3.out h), (fun h => f4.out h), (fun h => f5.out h), (fun h => f6.out h), (fun _ => rfl), (fun h => f8.out h), (fun h => f9.out h), (fun h => f10.out h), (fun h => f11.out h), (fun h => f12.out h), (fun h => f13.out h)⟩
      · intro L vs W hlen hL hD hI K hK
        obtain ⟨x0, x1, x2, x3, x4, x5, x6, x7, x8, x9, x10, x11, x12, x13, rfl⟩ := len14 hlen
        have hG := hI.1
        replace hI := hI.2
        have f0 := hide hI.1
        replace hI := hI.2
        have f1 := hide hI.1
        replace hI := hI.2
        have f2 := hide hI.1
        replace hI := hI.2
        have f3 := hide hI.1
        replace hI := hI.2
        have f4 := hide hI.1
        replace hI := hI.2
        have f5 := hide hI.1
        replace hI := hI.2
        have f6 := hide hI.1
        replace hI := hI.2
        have f7 := hide hI.1
        replace hI := hI.2
        have f8 := hide hI.1
        replace hI := hI.2
        have f9 := hide hI.1
        replace hI := hI.2
        have f10 := hide hI.1
        replace hI := hI.2
        have f11 := hide hI.1
        replace hI := hI.2
        have f12 := hide hI.1
        replace hI := hI.2
        have f13 := hide hI
        clear hI
        have c0 := keep hG c0
        have c1 := keep hG c1
        obtain rfl := f6.out (hD.on 6 (by kernel_rfl))
        obtain rfl := f7.out (hD.on 7 (by kernel_rfl))
        try simp only [puts, Act.put, List.setIfInBounds_toArray, List.set_cons_zero, List.set_cons_succ]
        try go_simp
        exact hK.out _ _ _ (by simp only [puts, Act.put, List.setIfInBounds_toArray, List.set_cons_zero, List.set_cons_succ] <;> rfl) ⟨hG, (fun h => f0.out h), (fun h => f1.out h), (fun h => f2.out h), (fun h => f3.out h), (fun h => f4.out h), (fun h => f5.out h), (fun h => f6.out h), (fun h => f7.out h), (fun _ => rfl), (fun h => f9.out h), (fun h => f10.out h), (fun h => f11.out h), (fun h => f12.out h), (fun h => f13.out h)⟩
      · intro L vs W hlen hL hD hI K hK
        obtain ⟨x0, x1, x2, x3, x4, x5, x6, x7, x8, x9, x10, x11, x12, x13, rfl⟩ := len14 hlen
        have hG := hI.1
        replace hI := hI.2
        have f0 := hide hI.1
        replace hI := hI.2
        have f1 := hide hI.1
        replace hI := hI.2
        have f2 := hide hI.1
        replace hI := hI.2
        have f3 := hide hI.1
        replace hI := hI.2
        have f4 := hide hI.1
        replace hI := hI.2
        have f5 := hide hI.1
        replace hI := hI.2
        have f6 := hide hI.1
        replace hI := hI.2
        have f7 := hide hI.1
        replace hI := hI.2
        have f8 := hide hI.1
        replace hI := hI.2
        have f9 := hide hI.1
        replace hI := hI.2
        have f10 := hide hI.1
        replace hI := hI.2
        have f11 := hide hI.1
        replace hI := hI.2
        have f12 := hide hI.1
        replace hI := hI.2
        have f13 := hide hI
        clear hI
        have c0 := keep hG c0
        have c1 := keep hG c1
        obtain rfl := f8.out (hD.on 8 (by kernel_rfl))
        try simp only [puts, Act.put, List.setIfInBounds_toArray, List.set_cons_zero, List.set_cons_succ]
        try go_simp
        generalize hW' : World.alloc W _ = W'
        have hb : Below W.heap.size W W' := by rw [← hW']; exact bal W _
        exact hK.out _ _ _ (by simp only [puts, Act.put, List.setIfInBounds_toArray, List.set_cons_zero, List.set_cons_succ] <;> rfl) ⟨below2 hG hb, (fun h => f0.out h), (fun h => f1.out h), (fun h => (fun h => fun h5 => let ⟨b0, e, o⟩ := h h5; ⟨b0, e, OwnR.later' o hb⟩) (f2.out h)), (fun h => f3.out h), (fun h => f4.out h), (fun h => (fun h => fun h8 => let ⟨va, vc, e, o⟩ := h h8; ⟨va, vc, e, OwnR.later' o hb⟩) (f5.out h)), (fun h => f6.out h), (fun h => f7.out h), (fun h => f8.out h), (fun _ => fun _ => ⟨W.heap.size, rfl, by rw [← hW']; exact Blk.newA W _ rfl⟩), (fun h => (fun h => let ⟨g, c, e, o⟩ := h; ⟨g, c, e, OwnR.later' o hb⟩) (f10.out h)), (fun h => f11.out h), (fun h => (fun h => fun h8 => let ⟨b0, h0, e, k⟩ := h h8; ⟨b0, h0, e, k.later hb⟩) (f12.out h)), (fun h => (fun h => ⟨h.1, let ⟨b, g, c, e, k, o, q⟩ := h.2; ⟨b, g, c, e, k.later hb, OwnR.later' o hb, q⟩⟩) (f13.out h))⟩
      · intro L vs W hlen hL hD hI K hK
        obtain ⟨x0, x1, x2, x3, x4, x5, x6, x7, x8, x9, x10, x11, x12, x13, rfl⟩ := len14 hlen
        have hG := hI.1
        replace hI := hI.2
        have f0 := hide hI.1
        replace hI := hI.2
        have f1 := hide hI.1
        replace hI := hI.2
        have f2 := hide hI.1
        replace hI := hI.2
        have f3 := hide hI.1
        replace hI := hI.2
        have f4 := hide hI.1
        replace hI := hI.2
        have f5 := hide hI.1
        replace hI := hI.2
        have f6 := hide hI.1
        replace hI := hI.2
        have f7 := hide hI.1
        replace hI := hI.2
        have f8 := hide hI.1
        replace hI := hI.2
        have f9 := hide hI.1
        replace hI := hI.2
        have f10 := hide hI.1
        replace hI := hI.2
        have f11 := hide hI.1
        replace hI := hI.2
        have f12 := hide hI.1
        replace hI := hI.2
        have f13 := hide hI
        clear hI
        have c0 := keep hG c0
        have c1 := keep hG c1
        have g5 := f5.out (hD.on 5 (by kernel_rfl))
        have g9 := f9.out (hD.on 9 (by kernel_rfl))
        try simp only [puts, Act.put, List.setIfInBounds_toArray, List.set_cons_zero, List.set_cons_succ]
        obtain ⟨va, vc, rfl, hO5⟩ := g5 hL
        obtain ⟨b0, rfl, hB0⟩ := g9 hL
        refine step_one' rfl _ _ rfl V2.heap.size m va vc (rl) (((b : Nat) : Int), ((a : Nat) : Int)) rfl hO5 b0 rfl hB0 hm hG.size ?_
        intro g c W' hO' hE'
        have hb := effE_far hG hE'
        exact hK.out _ _ _ (by simp only [puts, Act.put, List.setIfInBounds_toArray, List.set_cons_zero, List.set_cons_succ] <;> rfl) ⟨hG.trans hb, (fun h => f0.out h), (fun h => f1.out h), (fun h => (fun _ h8 => absurd ((hD.on 5 (by kernel_rfl)).symm.trans h8) (by decide)) (f2.out h)), (fun h => f3.out h), (fun h => f4.out h), (fun h => (fun _ h8 => absurd h8 (by simp)) (f5.out h)), (fun h => f6.out h), (fun h => f7.out h), (fun h => f8.out h), (fun h => (fun _ h8 => absurd h8 (by simp)) (f9.out h)), (fun _ => ⟨g, c, rfl, hO'⟩), (fun h => (fun h => absurd (h.1.symm.trans hL) (by decide)) (f11.out h)), (fun h => (fun h h13 => let ⟨b0, h0, e, k⟩ := h h13; ⟨b0, h0, e, hE'.blk k (by decide)⟩) (f12.out h)), (fun h => (fun h => absurd (h.1.1.symm.trans hL) (by decide)) (f13.out h))⟩
      · intro L vs W hlen hL hD hI K hK
        obtain ⟨x0, x1, x2, x3, x4, x5, x6, x7, x8, x9, x10, x11, x12, x13, rfl⟩ := len14 hlen
        have hG := hI.1
        replace hI := hI.2
        have f0 := hide hI.1
        replace hI := hI.2
        have f1 := hide hI.1
        replace hI := hI.2
        have f2 := hide hI.1
        replace hI := hI.2
        have f3 := hide hI.1
        replace hI := hI.2
        have f4 := hide hI.1
        replace hI := hI.2
        have f5 := hide hI.1
        replace hI := hI.2
        have f6 := hide hI.1
        replace hI := hI.2
        have f7 := hide hI.1
        replace hI := hI.2
        have f8 := hide hI.1
        replace hI := hI.2
        have f9 := hide hI.1
        replace hI := hI.2
        have f10 := hide hI.1
        replace hI := hI.2
        have f11 := hide hI.1
        replace hI := hI.2
        have f12 := hide hI.1
        replace hI := hI.2
        have f13 := hide hI
        clear hI
        have c0 := keep hG c0
        have c1 := keep hG c1
        obtain rfl := f1.out (hD.on 1 (by kernel_rfl))
        have g10 := f10.out (hD.on 10 (by kernel_rfl))
        try simp only [puts, Act.put, List.setIfInBounds_toArray, List.set_cons_zero, List.set_cons_succ]
        obtain ⟨g, c, rfl, hO'⟩ := g10
        go_simp
        exact hK.out _ _ _ (by simp only [puts, Act.put, List.setIfInBounds_toArray, List.set_cons_zero, List.set_cons_succ] <;> rfl) ⟨hG, (fun h => f0.out h), (fun h => f1.out h), (fun h => f2.out h), (fun h => f3.out h), (fun h => f4.out h), (fun h => f5.out h), (fun h => f6.out h), (fun h => f7.out h), (fun h => f8.out h), (fun h => f9.out h), (fun h => f10.out h), (fun _ => ⟨hD.on 10 (by kernel_rfl), g, c, rfl, rfl⟩), (fun h => f12.out h), (fun h => f13.out h)⟩
      · intro L vs W hlen hL hD hI K hK
        obtain ⟨x0, x1, x2, x3, x4, x5, x6, x7, x8, x9, x10, x11, x12, x13, rfl⟩ := len14 hlen
        have hG := hI.1
        replace hI := hI.2
        have f0 := hide hI.1
        replace hI := hI.2
        have f1 := hide hI.1
        replace hI := hI.2
        have f2 := hide hI.1
        replace hI := hI.2
        have f3 := hide hI.1
        replace hI := hI.2
        have f4 := hide hI.1
        replace hI := hI.2
        have f5 := hide hI.1
        replace hI := hI.2
        have f6 := hide hI.1
        replace hI := hI.2
        have f7 := hide hI.1
        replace hI := hI.2
        have f8 := hide hI.1
        replace hI := hI.2
        have f9 := hide hI.1
        replace hI := hI.2
        have f10 := hide hI.1
        replace hI := hI.2
        have f11 := hide hI.1
        replace hI := hI.2
        have f12 := hide hI.1
        replace hI := hI.2
        have f13 := hide hI
        clear hI
        have c0 := keep hG c0
        have c1 := keep hG c1
        try simp only [puts, Act.put, List.setIfInBounds_toArray, List.set_cons_zero, List.set_cons_succ]
        try go_simp
        generalize hW' : World.alloc W _ = W'
        have hb : Below W.heap.size W W' := by rw [← hW']; exact bal W _
        exact hK.out _ _ _ (by simp only [puts, Act.put, List.setIfInBounds_toArray, List.set_cons_zero, List.set_cons_succ] <;> rfl) ⟨below2 hG hb, (fun h => f0.out h), (fun h => f1.out h), (fun h => (fun h => fun h5 => let ⟨b0, e, o⟩ := h h5; ⟨b0, e, OwnR.later' o hb⟩) (f2.out h)), (fun h => f3.out h), (fun h => f4.out h), (fun h => (fun h => fun h8 => let ⟨va, vc, e, o⟩ := h h8; ⟨va, vc, e, OwnR.later' o hb⟩) (f5.out h)), (fun h => f6.out h), (fun h => f7.out h), (fun h => f8.out h), (fun h => (fun h => fun h8 => let ⟨b0, e, o⟩ := h h8; ⟨b0, e, o.later hb⟩) (f9.out h)), (fun h => (fun h => let ⟨g, c, e, o⟩ := h; ⟨g, c, e, OwnR.later' o hb⟩) (f10.out h)), (fun h => f11.out h), (fun _ => fun _ => ⟨W.heap.size, hG.size, rfl, by rw [← hW']; exact Blk.newA W _ rfl⟩), (fun h => (fun h => absurd (h.1.2.symm.trans hL) (by decide)) (f13.out h))⟩
      · intro L vs W hlen hL hD hI K hK
        obtain ⟨x0, x1, x2, x3, x4, x5, x6, x7, x8, x9, x10, x11, x12, x13, rfl⟩ := len14 hlen
        have hG := hI.1
        replace hI := hI.2
        have f0 := hide hI.1
        replace hI := hI.2
        have f1 := hide hI.1
        replace hI := hI.2
        have f2 := hide hI.1
        replace hI := hI.2
        have f3 := hide hI.1
        replace hI := hI.2
        have f4 := hide hI.1
        replace hI := hI.2
        have f5 := hide hI.1
        replace hI := hI.2
        have f6 := hide hI.1
        replace hI := hI.2
        have f7 := hide hI.1
        replace hI := hI.2
        have f8 := hide hI.1
        replace hI := hI.2
        have f9 := hide hI.1
        replace hI := hI.2
        have f10 := hide hI.1
        replace hI := hI.2
        have f11 := hide hI.1
        replace hI := hI.2
        have f12 := hide hI.1
        replace hI := hI.2
        have f13 := hide hI
        clear hI
        have c0 := keep hG c0
        have c1 := keep hG c1
        have g10 := f10.out (hD.on 10 (by kernel_rfl))
        have g11 := f11.out (hD.on 11 (by kernel_rfl))
        have g12 := f12.out (hD.on 12 (by kernel_rfl))
        try simp only [puts, Act.put, List.setIfInBounds_toArray, List.set_cons_zero, List.set_cons_succ]
        obtain ⟨g, c, rfl, hO10⟩ := g10
        obtain ⟨-, g1, c1, e1, rfl⟩ := g11
        cases e1
        obtain ⟨b0, h0, rfl, hB0⟩ := g12 hL
        have z0 := hB0.cell 0 rfl
        have z1 := hB0.cell 1 rfl
        have zf0 := hB0.frozen 0
        have zf1 := hB0.frozen 1
        go_simp
        have hb := ((Below.refl (V2.heap.size) W).setCell (p := ⟨b0, 0, none⟩) h0 (.int .i64 (N : Nat))).setCell (p := ⟨b0, 1, none⟩) h0 (.slice (some ⟨g, 0, none⟩) (m + 1) c)
        exact hK.out _ undef _ (by simp only [puts, Act.put, List.setIfInBounds_toArray, List.set_cons_zero, List.set_cons_succ] <;> rfl) ⟨hG.trans hb, (fun h => f0.out h), (fun h => f1.out h), (fun h => (fun _ h8 => absurd ((hD.on 5 (by kernel_rfl)).symm.trans h8) (by decide)) (f2.out h)), (fun h => f3.out h), (fun h => f4.out h), (fun h => (fun _ h8 => absurd ((hD.on 10 (by kernel_rfl)).symm.trans h8) (by decide)) (f5.out h)), (fun h => f6.out h), (fun h => f7.out h), (fun h => f8.out h), (fun h => (fun _ h8 => absurd ((hD.on 10 (by kernel_rfl)).symm.trans h8) (by decide)) (f9.out h)), (fun h => (fun h => let ⟨g2, c2, e, o⟩ := h; ⟨g2, c2, e, (o.setO hB0 (by decide) (j := 0) _).setO (hB0.set 0 _) (by decide) (j := 1) _⟩) (f10.out h)), (fun h => f11.out h), (fun h => (fun _ h8 => absurd h8 (by simp)) (f12.out h)), (fun _ => ⟨⟨hD.on 10 (by kernel_rfl), hD.on 12 (by kernel_rfl)⟩, b0, g, c, rfl, (hB0.set 0 _).set 1 _, (hO10.setO hB0 (by decide) (j := 0) _).setO (hB0.set 0 _) (by decide) (j := 1) _, h0⟩)⟩
    intro L vs W hlen hall hI
    obtain ⟨x0, x1, x2, x3, x4, x5, x6, x7, x8, x9, x10, x11, x12, x13, rfl⟩ := len14 hlen
    have hG := hI.1
    replace hI := hI.2
    have f0 := hide hI.1
    replace hI := hI.2
    have f1 := hide hI.1
    replace hI := hI.2
    have f2 := hide hI.1
    replace hI := hI.2
    have f3 := hide hI.1
    replace hI := hI.2
    have f4 := hide hI.1
    replace hI := hI.2
    have f5 := hide hI.1
    replace hI := hI.2
    have f6 := hide hI.1
    replace hI := hI.2
    have f7 := hide hI.1
    replace hI := hI.2
    have f8 := hide hI.1
    replace hI := hI.2
    have f9 := hide hI.1
    replace hI := hI.2
    have f10 := hide hI.1
    replace hI := hI.2
    have f11 := hide hI.1
    replace hI := hI.2
    have f12 := hide hI.1
    replace hI := hI.2
    have f13 := hide hI
    clear hI
    obtain rfl := f0.out (hall 0 (by decide))
    obtain rfl := f1.out (hall 1 (by decide))
    have g2 := f2.out (hall 2 (by decide))
    obtain rfl := f3.out (hall 3 (by decide))
    obtain rfl := f4.out (hall 4 (by decide))
    have g5 := f5.out (hall 5 (by decide))
    obtain rfl := f6.out (hall 6 (by decide))
    obtain rfl := f7.out (hall 7 (by decide))
    obtain rfl := f8.out (hall 8 (by decide))
    have g9 := f9.out (hall 9 (by decide))
    have g10 := f10.out (hall 10 (by decide))
    have g11 := f11.out (hall 11 (by decide))
    have g12 := f12.out (hall 12 (by decide))
    have g13 := f13.out (hall 13 (by decide))
    have hal := hide hall
    clear hall f0 f1 f2 f3 f4 f5 f6 f7 f8 f9 f10 f11 f12 f13
    try simp only [puts, Act.put, List.setIfInBounds_toArray, List.set_cons_zero, List.set_cons_succ]
    obtain ⟨-, b2, g2, d2, rfl, hB2, hO2, hb2V⟩ := g13
    have hWb := hG
    clear hG hal g5 g9 g10 g11 g12
    have bP7 := bP6.later hWb
    have hp7 := RecIn.below hWb hp6
    have hw7 := below2 hw6 hWb
    have hB17 := hB1.later hWb
    have hq17 := RecIn.below hWb hq1
    have hq2 : PairsIn W.cell? (.slice (some ⟨g2, 0, none⟩) (m + 1) d2) (rl ++ [((b : Int), (a : Int))]) := RecIn.at (RecIn.of_own hO2 (fun _ => rfl) (Nat.le_refl _))
    clear hO2 bP6 bR6 hp6 hr6 hw6 hWb HPS2 c0 c1 hb2V hB1 hq1
    generalize W = V3 at *
    have c0 := bP7.cell 0 rfl
    have c1 := bP7.cell 1 rfl
    have e0 := hB17.cell 0 rfl
    have e1 := hB17.cell 1 rfl
    have f0 := hB2.cell 0 rfl
    have f1 := hB2.cell 1 rfl
    have HP7 := hide bP7
    have HB1 := hide hB17
    have HB2 := hide hB2
    have HQ1 := hide hq17
    have HQ2 := hide hq2
    have HPP := hide hp7
    have HW7 := hide hw7
    have HLA := hide (lines_yes N ps _ V3 hp7 HVD.out)
    have hLs := ways_small HPO.out hN8 (S := 2 ^ N - 1) (by have := Nat.pow_pos (a := 2) (n := N) (by decide); omega)
    rw [ways_all] at hLs
    rw [HRR.out] at HLA
    clear bP7 hB17 hB2 hq17 hq2 hp7 hw7
    go_wp2_with fail
    refine HLA.out.mono ?_
    rintro e w8 ⟨rfl, hb8⟩
    have HP8 := hide (HP7.out.later hb8)
    have HB18 := hide (HB1.out.later hb8)
    have HB28 := hide (HB2.out.later hb8)
    have HQ18 := hide (HQ1.out.below hb8)
    have HQ28 := hide (HQ2.out.below hb8)
    have HPP8 := hide (HPP.out.below hb8)
    have HW8 := hide (below2 HW7.out hb8)
    clear hb8 HP7 HB1 HB2 HQ1 HQ2 HPP HW7 c0 c1 e0 e1 f0 f1
    have HMA := HMO.out (a : Int) (b : Int)
    have HMB := HMO.out (b : Int) (a : Int)
    have HPL := hide (show 1 ≤ (linesO N R0).length from lines_pos HPO.out hN8)
    cases hab1 : R0 a b
    · cases hab2 : R0 b a
      · obtain ⟨v1, v2, hsum, hp1, hp2⟩ := HSN.out hab1 hab2
        rw [HMA] at v1 hsum hp1
        rw [HMB] at v2 hsum hp2
        have HV1 := hide v1
        have HV2 := hide v2
        have HL1 := hide (fun pv W hq => lines_yes N (rl ++ [((a : Int), (b : Int))]) pv W hq HV1.out)
        have HL2 := hide (fun pv W hq => lines_yes N (rl ++ [((b : Int), (a : Int))]) pv W hq HV2.out)
        rw [hab1] at HBA
        rw [hab2] at HBB
        generalize (linesO N (beforeO ⟨(N : Int), rl ++ [((a : Int), (b : Int))]⟩)).length = l1 at *
        generalize (linesO N (beforeO ⟨(N : Int), rl ++ [((b : Int), (a : Int))]⟩)).length = l2 at *
        generalize (linesO N R0).length = L at *
        have hs1 : IntKind.i64.wrap ((l1 : Int) + l2) = L := by rw [show (l1 : Int) + l2 = L by omega]; exact IntWalk.i64_in _ ⟨by omega, by omega⟩
        have hs2 : (l1 : Int) + l2 = L := by omega
        have hg1 : (0 : Int) < l1 := by omega
        have hg2 : (0 : Int) < l2 := by omega
        have hg3 : 0 < l1 := by omega
        have hg4 : 0 < l2 := by omega
        clear v1 v2 hsum hp1 hp2 hab1 hab2 HMA HMB
        have c0 := HP8.out.cell 0 rfl
        have c1 := HP8.out.cell 1 rfl
        have e0 := HB18.out.cell 0 rfl
        have e1 := HB18.out.cell 1 rfl
        have f0 := HB28.out.cell 0 rfl
        have f1 := HB28.out.cell 1 rfl
        go_wp2_with fail
        refine (HL1.out _ _ HQ18.out).mono ?_
        rintro e w9 ⟨rfl, hb9⟩
        clear c0 c1 e0 e1 f0 f1
        have HP9 := hide (HP8.out.later hb9)
        have HB19 := hide (HB18.out.later hb9)
        have HB29 := hide (HB28.out.later hb9)
        have HQ19 := hide (HQ18.out.below hb9)
        have HQ29 := hide (HQ28.out.below hb9)
        have HPP9 := hide (HPP8.out.below hb9)
        have HW9 := hide (below2 HW8.out hb9)
        clear hb9 HP8 HB18 HB28 HQ18 HQ28 HPP8 HW8
        have HP8 := HP9
        have HB18 := HB19
        have HB28 := HB29
        have HQ18 := HQ19
        have HQ28 := HQ29
        have HPP8 := HPP9
        have HW8 := HW9
        clear HP9 HB19 HB29 HQ19 HQ29 HPP9 HW9
        have c0 := HP8.out.cell 0 rfl
        have c1 := HP8.out.cell 1 rfl
        have e0 := HB18.out.cell 0 rfl
        have e1 := HB18.out.cell 1 rfl
        have f0 := HB28.out.cell 0 rfl
        have f1 := HB28.out.cell 1 rfl
        go_wp2_with fail
        refine (HL2.out _ _ HQ28.out).mono ?_
        rintro e w10 ⟨rfl, hb9⟩
        clear c0 c1 e0 e1 f0 f1
        have HP9 := hide (HP8.out.later hb9)
        have HB19 := hide (HB18.out.later hb9)
        have HB29 := hide (HB28.out.later hb9)
        have HQ19 := hide (HQ18.out.below hb9)
        have HQ29 := hide (HQ28.out.below hb9)
        have HPP9 := hide (HPP8.out.below hb9)
        have HW9 := hide (below2 HW8.out hb9)
        clear hb9 HP8 HB18 HB28 HQ18 HQ28 HPP8 HW8
        have HP8 := HP9
        have HB18 := HB19
        have HB28 := HB29
        have HQ18 := HQ19
        have HQ28 := HQ29
        have HPP8 := HPP9
        have HW8 := HW9
        clear HP9 HB19 HB29 HQ19 HQ29 HPP9 HW9
        have c0 := HP8.out.cell 0 rfl
        have c1 := HP8.out.cell 1 rfl
        have e0 := HB18.out.cell 0 rfl
        have e1 := HB18.out.cell 1 rfl
        have f0 := HB28.out.cell 0 rfl
        have f1 := HB28.out.cell 1 rfl
        go_wp2_with fail
        refine (before_any ⟨(N : Int), ps⟩ _ a b _ HPP8.out).mono ?_
        rintro e w11 ⟨rfl, hb9⟩
        rw [HBA.out]
        clear c0 c1 e0 e1 f0 f1
        have HP9 := hide (HP8.out.later hb9)
        have HB19 := hide (HB18.out.later hb9)
        have HB29 := hide (HB28.out.later hb9)
        have HQ19 := hide (HQ18.out.below hb9)
        have HQ29 := hide (HQ28.out.below hb9)
        have HPP9 := hide (HPP8.out.below hb9)
        have HW9 := hide (below2 HW8.out hb9)
        clear hb9 HP8 HB18 HB28 HQ18 HQ28 HPP8 HW8
        have HP8 := HP9
        have HB18 := HB19
        have HB28 := HB29
        have HQ18 := HQ19
        have HQ28 := HQ29
        have HPP8 := HPP9
        have HW8 := HW9
        clear HP9 HB19 HB29 HQ19 HQ29 HPP9 HW9
        have c0 := HP8.out.cell 0 rfl
        have c1 := HP8.out.cell 1 rfl
        have e0 := HB18.out.cell 0 rfl
        have e1 := HB18.out.cell 1 rfl
        have f0 := HB28.out.cell 0 rfl
        have f1 := HB28.out.cell 1 rfl
        go_wp2_with fail
        refine (before_any ⟨(N : Int), ps⟩ _ b a _ HPP8.out).mono ?_
        rintro e w12 ⟨rfl, hb9⟩
        rw [HBB.out]
        clear c0 c1 e0 e1 f0 f1
        have HP9 := hide (HP8.out.later hb9)
        have HB19 := hide (HB18.out.later hb9)
        have HB29 := hide (HB28.out.later hb9)
        have HQ19 := hide (HQ18.out.below hb9)
        have HQ29 := hide (HQ28.out.below hb9)
        have HPP9 := hide (HPP8.out.below hb9)
        have HW9 := hide (below2 HW8.out hb9)
        clear hb9 HP8 HB18 HB28 HQ18 HQ28 HPP8 HW8
        have HP8 := HP9
        have HB18 := HB19
        have HB28 := HB29
        have HQ18 := HQ19
        have HQ28 := HQ29
        have HPP8 := HPP9
        have HW8 := HW9
        clear HP9 HB19 HB29 HQ19 HQ29 HPP9 HW9
        have c0 := HP8.out.cell 0 rfl
        have c1 := HP8.out.cell 1 rfl
        have e0 := HB18.out.cell 0 rfl
        have e1 := HB18.out.cell 1 rfl
        have f0 := HB28.out.cell 0 rfl
        have f1 := HB28.out.cell 1 rfl
        go_wp2_with fail
        go_ret
        exact ⟨rfl, HW8.out⟩
      · obtain ⟨v1, hl1, v2⟩ := HSY'.out hab2
        rw [HMB] at v1 hl1
        rw [HMA] at v2
        have HV1 := hide v1
        have HV2 := hide v2
        have HL1 := hide (fun pv W hq => lines_yes N (rl ++ [((b : Int), (a : Int))]) pv W hq HV1.out)
        have HL2 := hide (fun pv W hq => lines_no ⟨(N : Int), rl ++ [((a : Int), (b : Int))]⟩ pv W hq HV2.out)
        rw [hab1] at HBA
        rw [hab2] at HBB
        rw [hl1] at HL1
        generalize (linesO N R0).length = L at *
        clear v1 v2 hl1 hab1 hab2 HMA HMB
        have c0 := HP8.out.cell 0 rfl
        have c1 := HP8.out.cell 1 rfl
        have e0 := HB18.out.cell 0 rfl
        have e1 := HB18.out.cell 1 rfl
        have f0 := HB28.out.cell 0 rfl
        have f1 := HB28.out.cell 1 rfl
        go_wp2_with fail
        refine (HL2.out _ _ HQ18.out).mono ?_
        rintro e w9 ⟨rfl, hb9⟩
        clear c0 c1 e0 e1 f0 f1
        have HP9 := hide (HP8.out.later hb9)
        have HB19 := hide (HB18.out.later hb9)
        have HB29 := hide (HB28.out.later hb9)
        have HQ19 := hide (HQ18.out.below hb9)
        have HQ29 := hide (HQ28.out.below hb9)
        have HPP9 := hide (HPP8.out.below hb9)
        have HW9 := hide (below2 HW8.out hb9)
        clear hb9 HP8 HB18 HB28 HQ18 HQ28 HPP8 HW8
        have HP8 := HP9
        have HB18 := HB19
        have HB28 := HB29
        have HQ18 := HQ19
        have HQ28 := HQ29
        have HPP8 := HPP9
        have HW8 := HW9
        clear HP9 HB19 HB29 HQ19 HQ29 HPP9 HW9
        have c0 := HP8.out.cell 0 rfl
        have c1 := HP8.out.cell 1 rfl
        have e0 := HB18.out.cell 0 rfl
        have e1 := HB18.out.cell 1 rfl
        have f0 := HB28.out.cell 0 rfl
        have f1 := HB28.out.cell 1 rfl
        go_wp2_with fail
        refine (HL1.out _ _ HQ28.out).mono ?_
        rintro e w10 ⟨rfl, hb9⟩
        clear c0 c1 e0 e1 f0 f1
        have HP9 := hide (HP8.out.later hb9)
        have HB19 := hide (HB18.out.later hb9)
        have HB29 := hide (HB28.out.later hb9)
        have HQ19 := hide (HQ18.out.below hb9)
        have HQ29 := hide (HQ28.out.below hb9)
        have HPP9 := hide (HPP8.out.below hb9)
        have HW9 := hide (below2 HW8.out hb9)
        clear hb9 HP8 HB18 HB28 HQ18 HQ28 HPP8 HW8
        have HP8 := HP9
        have HB18 := HB19
        have HB28 := HB29
        have HQ18 := HQ19
        have HQ28 := HQ29
        have HPP8 := HPP9
        have HW8 := HW9
        clear HP9 HB19 HB29 HQ19 HQ29 HPP9 HW9
        have c0 := HP8.out.cell 0 rfl
        have c1 := HP8.out.cell 1 rfl
        have e0 := HB18.out.cell 0 rfl
        have e1 := HB18.out.cell 1 rfl
        have f0 := HB28.out.cell 0 rfl
        have f1 := HB28.out.cell 1 rfl
        go_wp2_with fail
        refine (before_any ⟨(N : Int), ps⟩ _ a b _ HPP8.out).mono ?_
        rintro e w11 ⟨rfl, hb9⟩
        rw [HBA.out]
        clear c0 c1 e0 e1 f0 f1
        have HP9 := hide (HP8.out.later hb9)
        have HB19 := hide (HB18.out.later hb9)
        have HB29 := hide (HB28.out.later hb9)
        have HQ19 := hide (HQ18.out.below hb9)
        have HQ29 := hide (HQ28.out.below hb9)
        have HPP9 := hide (HPP8.out.below hb9)
        have HW9 := hide (below2 HW8.out hb9)
        clear hb9 HP8 HB18 HB28 HQ18 HQ28 HPP8 HW8
        have HP8 := HP9
        have HB18 := HB19
        have HB28 := HB29
        have HQ18 := HQ19
        have HQ28 := HQ29
        have HPP8 := HPP9
        have HW8 := HW9
        clear HP9 HB19 HB29 HQ19 HQ29 HPP9 HW9
        have c0 := HP8.out.cell 0 rfl
        have c1 := HP8.out.cell 1 rfl
        have e0 := HB18.out.cell 0 rfl
        have e1 := HB18.out.cell 1 rfl
        have f0 := HB28.out.cell 0 rfl
        have f1 := HB28.out.cell 1 rfl
        go_wp2_with fail
        refine (before_any ⟨(N : Int), ps⟩ _ b a _ HPP8.out).mono ?_
        rintro e w12 ⟨rfl, hb9⟩
        rw [HBB.out]
        clear c0 c1 e0 e1 f0 f1
        have HP9 := hide (HP8.out.later hb9)
        have HB19 := hide (HB18.out.later hb9)
        have HB29 := hide (HB28.out.later hb9)
        have HQ19 := hide (HQ18.out.below hb9)
        have HQ29 := hide (HQ28.out.below hb9)
        have HPP9 := hide (HPP8.out.below hb9)
        have HW9 := hide (below2 HW8.out hb9)
        clear hb9 HP8 HB18 HB28 HQ18 HQ28 HPP8 HW8
        have HP8 := HP9
        have HB18 := HB19
        have HB28 := HB29
        have HQ18 := HQ19
        have HQ28 := HQ29
        have HPP8 := HPP9
        have HW8 := HW9
        clear HP9 HB19 HB29 HQ19 HQ29 HPP9 HW9
        have c0 := HP8.out.cell 0 rfl
        have c1 := HP8.out.cell 1 rfl
        have e0 := HB18.out.cell 0 rfl
        have e1 := HB18.out.cell 1 rfl
        have f0 := HB28.out.cell 0 rfl
        have f1 := HB28.out.cell 1 rfl
        go_wp2_with fail
        go_ret
        exact ⟨rfl, HW8.out⟩
    · obtain ⟨v1, hl1, v2⟩ := HSY.out hab1
      rw [HMA] at v1 hl1
      rw [HMB] at v2
      have HV1 := hide v1
      have HV2 := hide v2
      have HL1 := hide (fun pv W hq => lines_yes N (rl ++ [((a : Int), (b : Int))]) pv W hq HV1.out)
      have HL2 := hide (fun pv W hq => lines_no ⟨(N : Int), rl ++ [((b : Int), (a : Int))]⟩ pv W hq HV2.out)
      rw [hab1] at HBA
      rw [hl1] at HL1
      generalize (linesO N R0).length = L at *
      clear v1 v2 hl1 hab1 HMA HMB
      have c0 := HP8.out.cell 0 rfl
      have c1 := HP8.out.cell 1 rfl
      have e0 := HB18.out.cell 0 rfl
      have e1 := HB18.out.cell 1 rfl
      have f0 := HB28.out.cell 0 rfl
      have f1 := HB28.out.cell 1 rfl
      go_wp2_with fail
      refine (HL1.out _ _ HQ18.out).mono ?_
      rintro e w9 ⟨rfl, hb9⟩
      clear c0 c1 e0 e1 f0 f1
      have HP9 := hide (HP8.out.later hb9)
      have HB19 := hide (HB18.out.later hb9)
      have HB29 := hide (HB28.out.later hb9)
      have HQ19 := hide (HQ18.out.below hb9)
      have HQ29 := hide (HQ28.out.below hb9)
      have HPP9 := hide (HPP8.out.below hb9)
      have HW9 := hide (below2 HW8.out hb9)
      clear hb9 HP8 HB18 HB28 HQ18 HQ28 HPP8 HW8
      have HP8 := HP9
      have HB18 := HB19
      have HB28 := HB29
      have HQ18 := HQ19
      have HQ28 := HQ29
      have HPP8 := HPP9
      have HW8 := HW9
      clear HP9 HB19 HB29 HQ19 HQ29 HPP9 HW9
      have c0 := HP8.out.cell 0 rfl
      have c1 := HP8.out.cell 1 rfl
      have e0 := HB18.out.cell 0 rfl
      have e1 := HB18.out.cell 1 rfl
      have f0 := HB28.out.cell 0 rfl
      have f1 := HB28.out.cell 1 rfl
      go_wp2_with fail
      refine (HL2.out _ _ HQ28.out).mono ?_
      rintro e w10 ⟨rfl, hb9⟩
      clear c0 c1 e0 e1 f0 f1
      have HP9 := hide (HP8.out.later hb9)
      have HB19 := hide (HB18.out.later hb9)
      have HB29 := hide (HB28.out.later hb9)
      have HQ19 := hide (HQ18.out.below hb9)
      have HQ29 := hide (HQ28.out.below hb9)
      have HPP9 := hide (HPP8.out.below hb9)
      have HW9 := hide (below2 HW8.out hb9)
      clear hb9 HP8 HB18 HB28 HQ18 HQ28 HPP8 HW8
      have HP8 := HP9
      have HB18 := HB19
      have HB28 := HB29
      have HQ18 := HQ19
      have HQ28 := HQ29
      have HPP8 := HPP9
      have HW8 := HW9
      clear HP9 HB19 HB29 HQ19 HQ29 HPP9 HW9
      have c0 := HP8.out.cell 0 rfl
      have c1 := HP8.out.cell 1 rfl
      have e0 := HB18.out.cell 0 rfl
      have e1 := HB18.out.cell 1 rfl
      have f0 := HB28.out.cell 0 rfl
      have f1 := HB28.out.cell 1 rfl
      go_wp2_with fail
      refine (before_any ⟨(N : Int), ps⟩ _ a b _ HPP8.out).mono ?_
      rintro e w11 ⟨rfl, hb9⟩
      rw [HBA.out]
      clear c0 c1 e0 e1 f0 f1
      have HP9 := hide (HP8.out.later hb9)
      have HB19 := hide (HB18.out.later hb9)
      have HB29 := hide (HB28.out.later hb9)
      have HQ19 := hide (HQ18.out.below hb9)
      have HQ29 := hide (HQ28.out.below hb9)
      have HPP9 := hide (HPP8.out.below hb9)
      have HW9 := hide (below2 HW8.out hb9)
      clear hb9 HP8 HB18 HB28 HQ18 HQ28 HPP8 HW8
      have HP8 := HP9
      have HB18 := HB19
      have HB28 := HB29
      have HQ18 := HQ19
      have HQ28 := HQ29
      have HPP8 := HPP9
      have HW8 := HW9
      clear HP9 HB19 HB29 HQ19 HQ29 HPP9 HW9
      have c0 := HP8.out.cell 0 rfl
      have c1 := HP8.out.cell 1 rfl
      have e0 := HB18.out.cell 0 rfl
      have e1 := HB18.out.cell 1 rfl
      have f0 := HB28.out.cell 0 rfl
      have f1 := HB28.out.cell 1 rfl
      go_wp2_with fail
      go_ret
      exact ⟨rfl, HW8.out⟩
end Go.Proofs.YtnidcoinfmcffaaDoor
