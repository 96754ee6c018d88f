/- Walks of the two tests of walk of package proof, each a region of its own. Conditions: how the values lie in memory; sizes. -/
import Derived.Test.YtppfdjjhloaopaaPfL
namespace Go.Proofs.Ytppfdjjhloaopaa
open Go.RowKit

/-- the regions of a code, in order -/
def regionsOf : Code → List Code
  | .region i o d => [.region i o d]
  | .loop c => regionsOf c
  | .seq a b => regionsOf a ++ regionsOf b
  | .block _ c => regionsOf c
  | .scope c => regionsOf c
  | .cond _ a b => regionsOf a ++ regionsOf b
  | _ => []
noncomputable def walkReg4 : Code := (Try.f61.body.bind fun c => (regionsOf c)[4]?).getD .skip
noncomputable def walkReg5 : Code := (Try.f61.body.bind fun c => (regionsOf c)[5]?).getD .skip
set_option maxRecDepth 100000 in
set_option maxHeartbeats 2000000 in
theorem walk_reg4 (bc a n BD BS m wc : Nat) (wa : Option Addr) (svr E : Int) (p1 : Bool) (hn : n ≤ 12) (W : World) (hi : isInB 0 svr ((n : Int) - 1) = p1) (c0 : W.cell? ⟨bc, 0, none⟩ = some (.int .i64 n)) (t0 : W.cell? ⟨BS, 0, none⟩ = some (.int .i64 svr)) (t3 : W.cell? ⟨BS, 3, none⟩ = some (.slice wa m wc))
    (tV : ∀ V : Nat, svr = V → V < n → W.cell? ⟨BD, V, none⟩ = some (.int .i64 E)) (Q0 : Exit → Act → World → Prop) (u2 u3 u4 u7 u8 u9 u10 u11 u12 u13 u14 u15 u16 u17 u18 u19 u20 u21 u22 u23 u24 u25 u26 u27 u28 u29 u30 u31 u32 u33 u34 u35 u36 u37 u38 u39 u40 u41 u42 u43 u44 u45 u46 u47 u48 u49 u50 u51 u52 u53 u54 u55 u56 u57 u58 u59 u60 u61 u62 u63 u64 u65 u66 u67 u68 u69 u70 u71 u72 u73 u74 u75 u76 u77 u78 u79 u80 u81 u82 u83 u84 u85 : Value)
    (hyes : (p1 && decide (E = 0) && decide (m = 0)) = true → ∀ (t21 t22 t23 t24 t25 t26 t27 t28 t29 t30 t31 t32 t33 t34 t35 t36 t37 t38 t39 t40 t41 t42 t43 : Value), Q0 .normal ⟨#[.pointer (some ⟨bc, 0, none⟩), .int .i64 a, u2, u3, u4, .pointer (some ⟨BD, 0, none⟩), .pointer (some ⟨BS, 0, none⟩), u7, u8, u9, u10, u11, u12, u13, u14, u15, u16, u17, u18, u19, u20, t21, t22, t23, t24, t25, t26, t27, t28, t29, t30, t31, t32, t33, t34, t35, t36, t37, t38, t39, t40, t41, t42, t43, u44, u45, u46, u47, u48, u49, u50, u51, u52, u53, u54, u55, u56, u57, u58, u59, u60, u61, u62, u63, u64, u65, u66, u67, u68, u69, u70, u71, u72, u73, u74, u75, u76, u77, u78, u79, u80, u81, u82, u83, u84, u85], []⟩ W.drew)
    (hno : (p1 && decide (E = 0) && decide (m = 0)) = false → ∀ fr : Act, fr.defers = [] → Q0 (.panic (wrongC a)) fr W.drew) :
    Code.wp Try.prog walkReg4 Q0 ⟨#[.pointer (some ⟨bc, 0, none⟩), .int .i64 a, u2, u3, u4, .pointer (some ⟨BD, 0, none⟩), .pointer (some ⟨BS, 0, none⟩), u7, u8, u9, u10, u11, u12, u13, u14, u15, u16, u17, u18, u19, u20, u21, u22, u23, u24, u25, u26, u27, u28, u29, u30, u31, u32, u33, u34, u35, u36, u37, u38, u39, u40, u41, u42, u43, u44, u45, u46, u47, u48, u49, u50, u51, u52, u53, u54, u55, u56, u57, u58, u59, u60, u61, u62, u63, u64, u65, u66, u67, u68, u69, u70, u71, u72, u73, u74, u75, u76, u77, u78, u79, u80, u81, u82, u83, u84, u85], []⟩ W := by
  have HY := hide hyes
  have HN := hide hno
  have HV := hide tV
  have H1 := hide (fun (W : World) => isInP_eq svr 0 (n - 1) W)
  rw [hi] at H1
  have HI := hide hi
  have wV : IntKind.i64.wrap ((n : Int) - 1) = n - 1 := IntWalk.i64_in _ ⟨by omega, by omega⟩
  have HNN := hide hn
  clear hyes hno tV hi hn
  conv => arg 2; whnf
  dsimp only
  cases p1
  · skip
    refine wp_region_still_tail 22 (by kernel_rfl) (by kernel_rfl) ?_
    simp only [List.take_succ_cons, List.take_zero, List.drop_succ_cons, List.drop_zero]
    repeat (with_reducible refine wpStill_step (fun K hK => ?_) ; go_simp ; with_reducible refine hK _ ?_ ; clear hK K)
    with_reducible refine wpStill_step (fun K hK => ?_)
    go_simp
    refine ⟨_, (H1.out _), ?_⟩
    with_reducible refine hK _ ?_
    clear hK K
    repeat (with_reducible refine wpStill_step (fun K hK => ?_) ; go_simp ; with_reducible refine hK _ ?_ ; clear hK K)
    refine wpStill_nil ?_
    go_wp2_with fail
    refine (need_no _ _).mono ?_
    rintro e w1 ⟨rfl, hw⟩
    rw [hw]
    clear hw w1
    exact HN.out rfl _ rfl
  · have hi := HI.out
    simp only [isInB, decide_eq_true_eq] at hi
    obtain ⟨V, rfl⟩ : ∃ V : Nat, svr = (V : Int) := ⟨svr.toNat, by omega⟩
    have tV := HV.out V rfl (by omega)
    have hV12 : ((V : Int) < 12) = True := eq_true (by have := HNN.out; omega)
    clear hi HV
    by_cases hE : E = 0
    · subst hE
      by_cases hm0 : m = 0
      · have q3 : ((m : Int) == 0) = true := by simp [hm0]
        have HM := hide hm0
        clear hm0
        refine wp_region_still_tail 22 (by kernel_rfl) (by kernel_rfl) ?_
        simp only [List.take_succ_cons, List.take_zero, List.drop_succ_cons, List.drop_zero]
        repeat (with_reducible refine wpStill_step (fun K hK => ?_) ; go_simp ; with_reducible refine hK _ ?_ ; clear hK K)
        with_reducible refine wpStill_step (fun K hK => ?_)
        go_simp
        refine ⟨_, (H1.out _), ?_⟩
        with_reducible refine hK _ ?_
        clear hK K
        repeat (with_reducible refine wpStill_step (fun K hK => ?_) ; go_simp ; with_reducible refine hK _ ?_ ; clear hK K)
        refine wpStill_nil ?_
        go_wp2_with fail
        refine (need_yes _ _).mono ?_
        rintro e w1 ⟨rfl, hw⟩
        rw [hw]
        clear hw w1
        go_wp2_with fail
        exact HY.out (by simp [HM.out]) _ _ _ _ _ _ _ _ _ _ _ _ _ _ _ _ _ _ _ _ _ _ _
      · have q3 : ((m : Int) == 0) = false := by simpa using hm0
        have HM := hide hm0
        clear hm0
        refine wp_region_still_tail 22 (by kernel_rfl) (by kernel_rfl) ?_
        simp only [List.take_succ_cons, List.take_zero, List.drop_succ_cons, List.drop_zero]
        repeat (with_reducible refine wpStill_step (fun K hK => ?_) ; go_simp ; with_reducible refine hK _ ?_ ; clear hK K)
        with_reducible refine wpStill_step (fun K hK => ?_)
        go_simp
        refine ⟨_, (H1.out _), ?_⟩
        with_reducible refine hK _ ?_
        clear hK K
        repeat (with_reducible refine wpStill_step (fun K hK => ?_) ; go_simp ; with_reducible refine hK _ ?_ ; clear hK K)
        refine wpStill_nil ?_
        go_wp2_with fail
        refine (need_no _ _).mono ?_
        rintro e w1 ⟨rfl, hw⟩
        rw [hw]
        clear hw w1
        exact HN.out (by simp [HM.out]) _ rfl
    · have q2 : (E == 0) = false := by simpa using hE
      have HE := hide hE
      clear hE
      refine wp_region_still_tail 22 (by kernel_rfl) (by kernel_rfl) ?_
      simp only [List.take_succ_cons, List.take_zero, List.drop_succ_cons, List.drop_zero]
      repeat (with_reducible refine wpStill_step (fun K hK => ?_) ; go_simp ; with_reducible refine hK _ ?_ ; clear hK K)
      with_reducible refine wpStill_step (fun K hK => ?_)
      go_simp
      refine ⟨_, (H1.out _), ?_⟩
      with_reducible refine hK _ ?_
      clear hK K
      repeat (with_reducible refine wpStill_step (fun K hK => ?_) ; go_simp ; with_reducible refine hK _ ?_ ; clear hK K)
      refine wpStill_nil ?_
      go_wp2_with fail
      refine (need_no _ _).mono ?_
      rintro e w1 ⟨rfl, hw⟩
      rw [hw]
      clear hw w1
      exact HN.out (by simp [HE.out]) _ rfl
set_option maxRecDepth 100000 in
set_option maxHeartbeats 2000000 in
theorem walk_reg5 (bc a BD BS m sc : Nat) (sa : Option Addr) (sno sye : Int) (p4 p5 : Bool) (hm : (m : Int) ≤ 9223372036854775807) (ha : (a : Int) ≤ 1000000) (W : World) (hi4 : isInB (a + 1) sno ((m : Int) - 1) = p4) (hi5 : isInB (a + 1) sye ((m : Int) - 1) = p5) (c2 : W.cell? ⟨bc, 2, none⟩ = some (.slice sa m sc)) (t1 : W.cell? ⟨BS, 1, none⟩ = some (.int .i64 sno))
    (t2 : W.cell? ⟨BS, 2, none⟩ = some (.int .i64 sye)) (Q0 : Exit → Act → World → Prop) (u2 u3 u4 u7 u8 u9 u10 u11 u12 u13 u14 u15 u16 u17 u18 u19 u20 u21 u22 u23 u24 u25 u26 u27 u28 u29 u30 u31 u32 u33 u34 u35 u36 u37 u38 u39 u40 u41 u42 u43 u44 u45 u46 u47 u48 u49 u50 u51 u52 u53 u54 u55 u56 u57 u58 u59 u60 u61 u62 u63 u64 u65 u66 u67 u68 u69 u70 u71 u72 u73 u74 u75 u76 u77 u78 u79 u80 u81 u82 u83 u84 u85 : Value)
    (hyes : (p4 && p5) = true → ∀ (t44 t45 t46 t47 t48 t49 t50 t51 t52 t53 t54 t55 t56 t57 t58 t59 t60 t61 t62 t63 t64 t65 t66 t67 t68 t69 : Value), Q0 .normal ⟨#[.pointer (some ⟨bc, 0, none⟩), .int .i64 a, u2, u3, u4, .pointer (some ⟨BD, 0, none⟩), .pointer (some ⟨BS, 0, none⟩), u7, u8, u9, u10, u11, u12, u13, u14, u15, u16, u17, u18, u19, u20, u21, u22, u23, u24, u25, u26, u27, u28, u29, u30, u31, u32, u33, u34, u35, u36, u37, u38, u39, u40, u41, u42, u43, t44, t45, t46, t47, t48, t49, t50, t51, t52, t53, t54, t55, t56, t57, t58, t59, t60, t61, t62, t63, t64, t65, t66, t67, t68, t69, u70, u71, u72, u73, u74, u75, u76, u77, u78, u79, u80, u81, u82, u83, u84, u85], []⟩ W.drew)
    (hno : (p4 && p5) = false → ∀ fr : Act, fr.defers = [] → Q0 (.panic (wrongC a)) fr W.drew) :
    Code.wp Try.prog walkReg5 Q0 ⟨#[.pointer (some ⟨bc, 0, none⟩), .int .i64 a, u2, u3, u4, .pointer (some ⟨BD, 0, none⟩), .pointer (some ⟨BS, 0, none⟩), u7, u8, u9, u10, u11, u12, u13, u14, u15, u16, u17, u18, u19, u20, u21, u22, u23, u24, u25, u26, u27, u28, u29, u30, u31, u32, u33, u34, u35, u36, u37, u38, u39, u40, u41, u42, u43, u44, u45, u46, u47, u48, u49, u50, u51, u52, u53, u54, u55, u56, u57, u58, u59, u60, u61, u62, u63, u64, u65, u66, u67, u68, u69, u70, u71, u72, u73, u74, u75, u76, u77, u78, u79, u80, u81, u82, u83, u84, u85], []⟩ W := by
  have HY := hide hyes
  have HN := hide hno
  have H4 := hide (fun (W : World) => isInP_eq sno (a + 1) (m - 1) W)
  rw [hi4] at H4
  have H5 := hide (fun (W : World) => isInP_eq sye (a + 1) (m - 1) W)
  rw [hi5] at H5
  have wA : IntKind.i64.wrap ((a : Int) + 1) = a + 1 := IntWalk.i64_in _ ⟨by omega, by omega⟩
  have wL : IntKind.i64.wrap ((m : Int) - 1) = m - 1 := IntWalk.i64_in _ ⟨by omega, by omega⟩
  clear hyes hno hi4 hi5 ha hm
  conv => arg 2; whnf
  dsimp only
  cases p4
  · skip
    refine wp_region_still_tail 25 (by kernel_rfl) (by kernel_rfl) ?_
    simp only [List.take_succ_cons, List.take_zero, List.drop_succ_cons, List.drop_zero]
    repeat (with_reducible refine wpStill_step (fun K hK => ?_) ; go_simp ; with_reducible refine hK _ ?_ ; clear hK K)
    with_reducible refine wpStill_step (fun K hK => ?_)
    go_simp
    refine ⟨_, (H4.out _), ?_⟩
    with_reducible refine hK _ ?_
    clear hK K
    repeat (with_reducible refine wpStill_step (fun K hK => ?_) ; go_simp ; with_reducible refine hK _ ?_ ; clear hK K)
    refine wpStill_nil ?_
    go_wp2_with fail
    refine (need_no _ _).mono ?_
    rintro e w1 ⟨rfl, hw⟩
    rw [hw]
    clear hw w1
    exact HN.out rfl _ rfl
  · cases p5
    · skip
      refine wp_region_still_tail 25 (by kernel_rfl) (by kernel_rfl) ?_
      simp only [List.take_succ_cons, List.take_zero, List.drop_succ_cons, List.drop_zero]
      repeat (with_reducible refine wpStill_step (fun K hK => ?_) ; go_simp ; with_reducible refine hK _ ?_ ; clear hK K)
      with_reducible refine wpStill_step (fun K hK => ?_)
      go_simp
      refine ⟨_, (H4.out _), ?_⟩
      with_reducible refine hK _ ?_
      clear hK K
      repeat (with_reducible refine wpStill_step (fun K hK => ?_) ; go_simp ; with_reducible refine hK _ ?_ ; clear hK K)
      with_reducible refine wpStill_step (fun K hK => ?_)
      go_simp
      refine ⟨_, (H5.out _), ?_⟩
      with_reducible refine hK _ ?_
      clear hK K
      repeat (with_reducible refine wpStill_step (fun K hK => ?_) ; go_simp ; with_reducible refine hK _ ?_ ; clear hK K)
      refine wpStill_nil ?_
      go_wp2_with fail
      refine (need_no _ _).mono ?_
      rintro e w1 ⟨rfl, hw⟩
      rw [hw]
      clear hw w1
      exact HN.out rfl _ rfl
    · skip
      refine wp_region_still_tail 25 (by kernel_rfl) (by kernel_rfl) ?_
      simp only [List.take_succ_cons, List.take_zero, List.drop_succ_cons, List.drop_zero]
      repeat (with_reducible refine wpStill_step (fun K hK => ?_) ; go_simp ; with_reducible refine hK _ ?_ ; clear hK K)
      with_reducible refine wpStill_step (fun K hK => ?_)
      go_simp
      refine ⟨_, (H4.out _), ?_⟩
      with_reducible refine hK _ ?_
      clear hK K
      repeat (with_reducible refine wpStill_step (fun K hK => ?_) ; go_simp ; with_reducible refine hK _ ?_ ; clear hK K)
      with_reducible refine wpStill_step (fun K hK => ?_)
      go_simp
      refine ⟨_, (H5.out _), ?_⟩
      with_reducible refine hK _ ?_
      clear hK K
      repeat (with_reducible refine wpStill_step (fun K hK => ?_) ; go_simp ; with_reducible refine hK _ ?_ ; clear hK K)
      refine wpStill_nil ?_
      go_wp2_with fail
      refine (need_yes _ _).mono ?_
      rintro e w1 ⟨rfl, hw⟩
      rw [hw]
      clear hw w1
      go_wp2_with fail
      exact HY.out rfl _ _ _ _ _ _ _ _ _ _ _ _ _ _ _ _ _ _ _ _ _ _ _ _ _ _
end Go.Proofs.Ytppfdjjhloaopaa
