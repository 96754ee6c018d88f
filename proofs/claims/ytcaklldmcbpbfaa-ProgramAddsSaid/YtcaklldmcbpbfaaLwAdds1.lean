/- The walk of the first loop of ProgramAdds. Conditions: how the values lie in memory; that integers are of 64 bits. -/
import Derived.Test.YtcaklldmcbpbfaaLwB
import Derived.Test.YtcaklldmcbpbfaaPmodI
import Derived.Test.YtcaklldmcbpbfaaAppI
import Derived.Test.YtcaklldmcbpbfaaRegZ
import Derived.Deep.RegionLawGrows
import Derived.Deep.RegionHeld3
import Derived.Deep.DeepCutAuto
namespace Go.Proofs.Ytcaklldmcbpbfaa
open Go.RowKit

/-- the loops of a code, the outer ones first -/
def loopsOf : Code → List Code
  | .loop c => c :: loopsOf c
  | .seq a b => loopsOf a ++ loopsOf b
  | .block _ c => loopsOf c
  | .scope c => loopsOf c
  | .cond _ a b => loopsOf a ++ loopsOf b
  | _ => []
noncomputable def addsLoop1 : Code := (Try.f9.body.bind fun c => (loopsOf c)[0]?).getD .skip
set_option linter.unusedSimpArgs false in
set_option maxRecDepth 100000 in
set_option maxHeartbeats 4000000 in
theorem adds_loop1 (W5 W3 W4 w2 W7 : World) (n : Nat) (rows : List RowD) (gain : List Int) (rA rB : RowD) (M N : Nat) (hM2 : M ≤ 50) (hN2 : N ≤ 50) (hn8 : n ≤ 8) (ra ga caA caB : Option Addr) (rc gc ccA ccB : Nat)
    (HRA : Hid (rightB rA n = true ∧ smallR rA)) (HRB : Hid (rightB rB n = true ∧ smallR rB)) (bA5 : Blk W5 W3.heap.size (rowCells rA (.slice caA rA.coef.length ccA)) 26) (bB : Blk W5 W4.heap.size (rowCells rB (.slice caB rB.coef.length ccB)) 26)
    (bP5 : Blk W5 w2.heap.size [.int .i64 n, .slice ra rows.length rc, .slice ga gain.length gc] 29) (yA5 : IntsAt W5 (.slice caA rA.coef.length ccA) rA.coef) (yB : IntsAt W5 (.slice caB rB.coef.length ccB) rB.coef)
    (bS7 : Blk W7 W5.heap.size [.int .i64 0, .int .i64 0, .int .i64 0, .int .i64 0, .slice none 0 0, .int .i64 (M * rA.most + N * rB.most)] 26) (bG7 : Blk W7 (W5.heap.size + 1) [.int .i64 0, .int .i64 0, .int .i64 0, .int .i64 0, .slice none 0 0, .int .i64 ((M + 1) * rA.most)] 26)
    (hb57 : Below W5.heap.size W5 W7) (HZ7 : Hid (W7.heap.size = W5.heap.size + 1 + 1)) (Q0 : Exit → Act → World → Prop) (u0 u1 u2 u3 u4 u5 u6 u7 u8 u9 u10 u11 u20 u21 u22 u23 u24 u25 u26 u27 u28 u29 u30 u31 u32 u33 u34 u35 u36 u37 u38 u39 u40 u41 u42 u43 u44 u45 u46 u47 u48 u49 u50 u51 u52 u53 u54 u55 u56 u57 u58 u59 u60 u61 u62 u63 u64 u65 u66 u67 u68 u69 u70 u71 u72 u73 u74 u75 u76 u77 u78 u79 u80 u81 u82 u83 u84 u85 u86 u87 u88 u89 u90 u91 u92 u93 u94 u95 u96 u97 u98 u99 u100 u101 u102 u103 u104 u105 u106 u107 u108 u109 u110 u111 u112 u113 u114 u115 u116 u117 u118 u119 u120 u121 u122 u123 u124 u125 u126 u127 u128 u129 u130 u131 u132 u133 u134 u135 u136 u137 u138 u139 u140 u141 u142 u143 u144 u145 u146 u147 u148 u149 u150 u151 u152 u153 u154 u155 u156 u157 u158 u159 u160 u161 u162 u163 u164 u165 u166 u167 u168 u169 u170 u171 u172 u173 u174 u175 u176 u177 : Value)
    (hexit : ∀ (t79 t80 t81 t82 t83 t84 t85 t86 t87 t88 t89 t90 t91 t92 t93 t94 t95 t96 t97 t98 t99 t100 t101 t102 t103 t104 t105 t106 t107 t108 t109 t110 t111 t112 t113 t114 t115 t116 t117 : Value) (wr : World) (cs cg : Value), OwnI wr (W5.heap.size + 1 + 1) cs (addUp M N rA rB n) → OwnI wr (W5.heap.size + 1 + 1) cg (greatUp M rA n) →
      Blk wr W5.heap.size [.int .i64 0, .int .i64 0, .int .i64 0, .int .i64 0, cs, .int .i64 (M * rA.most + N * rB.most)] 26 → Blk wr (W5.heap.size + 1) [.int .i64 0, .int .i64 0, .int .i64 0, .int .i64 0, cg, .int .i64 ((M + 1) * rA.most)] 26 → Below W5.heap.size W5 wr →
      Q0 (.exit 0) ⟨#[u0, u1, u2, u3, u4, u5, u6, u7, u8, u9, u10, u11, .pointer (some ⟨w2.heap.size, 0, none⟩), .pointer (some ⟨W3.heap.size, 0, none⟩), .pointer (some ⟨W4.heap.size, 0, none⟩), .int .i64 M, .int .i64 N, .pointer (some ⟨W5.heap.size, 0, none⟩), .pointer (some ⟨W5.heap.size + 1, 0, none⟩), .int .i64 n, u20, u21, u22, u23, u24, u25, u26, u27, u28, u29, u30, u31, u32, u33, u34, u35, u36, u37, u38, u39, u40, u41, u42, u43, u44, u45, u46, u47, u48, u49, u50, u51, u52, u53, u54, u55, u56, u57, u58, u59, u60, u61, u62, u63, u64, u65, u66, u67, u68, u69, u70, u71, u72, u73, u74, u75, u76, u77, u78, t79, t80, t81, t82, t83, t84, t85, t86, t87, t88, t89, t90, t91, t92, t93, t94, t95, t96, t97, t98, t99, t100, t101, t102, t103, t104, t105, t106, t107, t108, t109, t110, t111, t112, t113, t114, t115, t116, t117, u118, u119, u120, u121, u122, u123, u124, u125, u126, u127, u128, u129, u130, u131, u132, u133, u134, u135, u136, u137, u138, u139, u140, u141, u142, u143, u144, u145, u146, u147, u148, u149, u150, u151, u152, u153, u154, u155, u156, u157, u158, u159, u160, u161, u162, u163, u164, u165, u166, u167, u168, u169, u170, u171, u172, u173, u174, u175, u176, u177], []⟩ wr) :
    Code.wp Try.prog (Code.loop addsLoop1) Q0 ⟨#[u0, u1, u2, u3, u4, u5, u6, u7, u8, u9, u10, u11, .pointer (some ⟨w2.heap.size, 0, none⟩), .pointer (some ⟨W3.heap.size, 0, none⟩), .pointer (some ⟨W4.heap.size, 0, none⟩), .int .i64 M, .int .i64 N, .pointer (some ⟨W5.heap.size, 0, none⟩), .pointer (some ⟨W5.heap.size + 1, 0, none⟩), .int .i64 0, u20, u21, u22, u23, u24, u25, u26, u27, u28, u29, u30, u31, u32, u33, u34, u35, u36, u37, u38, u39, u40, u41, u42, u43, u44, u45, u46, u47, u48, u49, u50, u51, u52, u53, u54, u55, u56, u57, u58, u59, u60, u61, u62, u63, u64, u65, u66, u67, u68, u69, u70, u71, u72, u73, u74, u75, u76, u77, u78, u79, u80, u81, u82, u83, u84, u85, u86, u87, u88, u89, u90, u91, u92, u93, u94, u95, u96, u97, u98, u99, u100, u101, u102, u103, u104, u105, u106, u107, u108, u109, u110, u111, u112, u113, u114, u115, u116, u117, u118, u119, u120, u121, u122, u123, u124, u125, u126, u127, u128, u129, u130, u131, u132, u133, u134, u135, u136, u137, u138, u139, u140, u141, u142, u143, u144, u145, u146, u147, u148, u149, u150, u151, u152, u153, u154, u155, u156, u157, u158, u159, u160, u161, u162, u163, u164, u165, u166, u167, u168, u169, u170, u171, u172, u173, u174, u175, u176, u177], []⟩ W7 := by
  conv => arg 2; arg 1; whnf
  dsimp only
  go_loopw [19] (fun i wr => ∃ (k : Nat) (cs cg : Value), k ≤ n ∧ i = .int .i64 k ∧ OwnI wr (W5.heap.size + 1 + 1) cs (addUp M N rA rB k) ∧ OwnI wr (W5.heap.size + 1 + 1) cg (greatUp M rA k) ∧ Hid (∀ q, cs.ownBlock = some q → cg.ownBlock ≠ some q) ∧
    Blk wr W5.heap.size [.int .i64 0, .int .i64 0, .int .i64 0, .int .i64 0, cs, .int .i64 (M * rA.most + N * rB.most)] 26 ∧ Blk wr (W5.heap.size + 1) [.int .i64 0, .int .i64 0, .int .i64 0, .int .i64 0, cg, .int .i64 ((M + 1) * rA.most)] 26 ∧ Below W5.heap.size W5 wr ∧ W5.heap.size + 1 + 1 ≤ wr.heap.size) (fun i _ => n - (intOf i).toNat)
  case atStart => exact ⟨0, _, _, by omega, rfl, OwnI.nil _ _, OwnI.nil _ _, hide fun q h => (by cases h), bS7, bG7, hb57, by rw [HZ7.out]; exact Nat.le_refl _⟩
  case round =>
    obtain ⟨k, cs, cg, hk, rfl, hcs, hcg, HDJ, bS, bG, hbr, hzr⟩ := hrel
    have bPr := bP5.later hbr
    have p0 := bPr.cell 0 rfl
    by_cases hlt : k < n
    · have bAr := bA5.later hbr
      have bBr := bB.later hbr
      have hlenA : rA.coef.length = n := by have := HRA.out.1; simp only [rightB, Bool.and_eq_true, lenB, decide_eq_true_eq] at this; exact Int.ofNat.inj this.1.1
      have hlenB : rB.coef.length = n := by have := HRB.out.1; simp only [rightB, Bool.and_eq_true, lenB, decide_eq_true_eq] at this; exact Int.ofNat.inj this.1.1
      have hkA : k < rA.coef.length := by omega
      have hkB : k < rB.coef.length := by omega
      obtain ⟨a', n', e', -, -, hac⟩ := id yA5
      cases e'
      obtain ⟨ba, oa, rfl, hca⟩ := hac k hkA
      obtain ⟨a', n', e', -, -, hbc⟩ := id yB
      cases e'
      obtain ⟨bb, ob, rfl, hcb⟩ := hbc k hkB
      have HSA := hide (addUp_succ M N rA rB k)
      have HSG := hide (greatUp_succ M rA k)
      have sa := getD_small HRA.out.2.2.2 k
      have sb := getD_small HRB.out.2.2.2 k
      have hla := addUp_len M N rA rB k
      have hlg := greatUp_len M rA k
      have hll : (addUp M N rA rB k).length < 1000000 := by omega
      have hlg' : (greatUp M rA k).length < 1000000 := by omega
      generalize rA.coef.getD k 0 = xa' at hca HSA HSG sa
      generalize rB.coef.getD k 0 = xb' at hcb HSA sb
      have u1 := mul_small (m := M) (c := xa') (by omega) (by omega) sa.1 sa.2
      have u2 := mul_small (m := N) (c := xb') (by omega) (by omega) sb.1 sb.2
      have u3 := mul_small (m := (M : Int) + 1) (c := xa') (by omega) (by omega) sa.1 sa.2
      have e1 : IntKind.i64.wrap ((M : Int) * xa') = M * xa' := IntWalk.i64_in _ ⟨by omega, by omega⟩
      have e2 : IntKind.i64.wrap ((N : Int) * xb') = N * xb' := IntWalk.i64_in _ ⟨by omega, by omega⟩
      have e3 : IntKind.i64.wrap ((M : Int) * xa' + N * xb') = M * xa' + N * xb' := IntWalk.i64_in _ ⟨by omega, by omega⟩
      have e4 : IntKind.i64.wrap (((M : Int) + 1) * xa') = (M + 1) * xa' := IntWalk.i64_in _ ⟨by omega, by omega⟩
      have e5 : IntKind.i64.wrap ((M : Int) + 1) = M + 1 := IntWalk.i64_in _ ⟨by omega, by omega⟩
      have hlS := bS.lt
      have hlG := bG.lt
      have s4 := bS.cell 4 rfl
      have a4 := bAr.cell 4 rfl
      have b4 := bBr.cell 4 rfl
      have hNS : ∀ q, cs.ownBlock = some q → q ≠ W5.heap.size := fun q h => by have := (hcs.lt q h).1; omega
      have hNS' : ∀ q, cs.ownBlock = some q → q ≠ W5.heap.size + 1 := fun q h => by have := (hcs.lt q h).1; omega
      have HNS : Hid (cs.ownBlock ≠ some W5.heap.size) := hide fun h => hNS _ h rfl
      have HNS' : Hid (cs.ownBlock ≠ some (W5.heap.size + 1)) := hide fun h => hNS' _ h rfl
      have HLT := hide hcg.lt
      clear hac hbc u1 u2 u3 sa sb hla hlg hlenA hlenB hNS hNS'
      have HE := hide (And.intro e4 e5)
      clear e4 e5
      go_wp2_with fail
      go_cut [19] from 79 to 117 (fun i wx => i = .int .i64 k ∧ ∃ cs', OwnI wx (W5.heap.size + 1 + 1) cs' (addUp M N rA rB (k + 1)) ∧ OwnI wx (W5.heap.size + 1 + 1) cg (greatUp M rA k) ∧ Hid (∀ q, cs'.ownBlock = some q → cg.ownBlock ≠ some q) ∧
        Blk wx W5.heap.size [.int .i64 0, .int .i64 0, .int .i64 0, .int .i64 0, cs', .int .i64 (M * rA.most + N * rB.most)] 26 ∧ Blk wx (W5.heap.size + 1) [.int .i64 0, .int .i64 0, .int .i64 0, .int .i64 0, cg, .int .i64 ((M + 1) * rA.most)] 26 ∧ Below W5.heap.size wr wx ∧ W5.heap.size + 1 + 1 ≤ wx.heap.size)
      case first =>
        have la := lt_of_cell hca
        have lb := lt_of_cell hcb
        have l3 := bA5.lt
        have l4 := bB.lt
        have hcar := keep hbr hca
        have hcbr := keep hbr hcb
        have HSW : Hid (∀ W, Below (W5.heap.size + 1 + 1) wr W → W.cell? ⟨W5.heap.size, 4, none⟩ = some cs ∧ W.cell? ⟨W3.heap.size, 4, none⟩ = some (.slice (some ⟨ba, oa, none⟩) rA.coef.length ccA) ∧ W.cell? ⟨ba, oa + k, none⟩ = some (.int .i64 xa') ∧ W.cell? ⟨W4.heap.size, 4, none⟩ = some (.slice (some ⟨bb, ob, none⟩) rB.coef.length ccB) ∧ W.cell? ⟨bb, ob + k, none⟩ = some (.int .i64 xb')) :=
          hide fun W h => ⟨(h.cell (p := ⟨W5.heap.size, 4, none⟩) (by show W5.heap.size < _; omega)).trans s4, (h.cell (p := ⟨W3.heap.size, 4, none⟩) (by show W3.heap.size < _; omega)).trans a4, (h.cell (p := ⟨ba, oa + k, none⟩) (by show ba < _; have l5 : ba < W5.heap.size := la; omega)).trans hcar, (h.cell (p := ⟨W4.heap.size, 4, none⟩) (by show W4.heap.size < _; omega)).trans b4, (h.cell (p := ⟨bb, ob + k, none⟩) (by show bb < _; have l5 : bb < W5.heap.size := lb; omega)).trans hcbr⟩
        refine wp_region_noPanic ?_
        refine wp_region_z (S := fun W => W.cell? ⟨W5.heap.size, 4, none⟩ = some cs ∧ W.cell? ⟨W3.heap.size, 4, none⟩ = some (.slice (some ⟨ba, oa, none⟩) rA.coef.length ccA) ∧ W.cell? ⟨ba, oa + k, none⟩ = some (.int .i64 xa') ∧ W.cell? ⟨W4.heap.size, 4, none⟩ = some (.slice (some ⟨bb, ob, none⟩) rB.coef.length ccB) ∧ W.cell? ⟨bb, ob + k, none⟩ = some (.int .i64 xb')) (by kernel_rfl) 20 (HSW.out _ ((Below.refl _ _).drew)) (fun hH => ?_)
        refine wpZ_take (i := 0) (v := ?vz1_0) rfl (by as_aux_lemma => kernel_rfl) (by as_aux_lemma => kernel_rfl) (by as_aux_lemma => kernel_rfl) (by as_aux_lemma => kernel_rfl) (fun _ _ _ h => h) (Or.inl ⟨by rfl, ?hyz1_0⟩) (by assumption) ?restz1_0
        case hyz1_0 =>
          intro w hSw
          (try dsimp only at hSw)
          go_simp
          first | done | (with_reducible rfl)
        try simp only [Act.put, List.setIfInBounds_toArray, List.set_cons_zero, List.set_cons_succ]
        refine wpZ_take (i := 1) (v := ?vz1_1) rfl (by as_aux_lemma => kernel_rfl) (by as_aux_lemma => kernel_rfl) (by as_aux_lemma => kernel_rfl) (by as_aux_lemma => kernel_rfl) (fun _ _ _ h => h) (Or.inl ⟨by rfl, ?hyz1_1⟩) (by assumption) ?restz1_1
        case hyz1_1 =>
          intro w hSw
          (try dsimp only at hSw)
          go_simp
          first | done | (with_reducible rfl)
        try simp only [Act.put, List.setIfInBounds_toArray, List.set_cons_zero, List.set_cons_succ]
        refine wpZ_take (i := 2) (v := ?vz1_2) rfl (by as_aux_lemma => kernel_rfl) (by as_aux_lemma => kernel_rfl) (by as_aux_lemma => kernel_rfl) (by as_aux_lemma => kernel_rfl) (fun _ _ _ h => h) (Or.inl ⟨by rfl, ?hyz1_2⟩) (by assumption) ?restz1_2
        case hyz1_2 =>
          intro w hSw
          (try dsimp only at hSw)
          go_simp
          first | done | (with_reducible rfl)
        try simp only [Act.put, List.setIfInBounds_toArray, List.set_cons_zero, List.set_cons_succ]
        refine wpZ_take (i := 3) (v := ?vz1_3) rfl (by as_aux_lemma => kernel_rfl) (by as_aux_lemma => kernel_rfl) (by as_aux_lemma => kernel_rfl) (by as_aux_lemma => kernel_rfl) (fun _ _ _ h => h) (Or.inl ⟨by rfl, ?hyz1_3⟩) (by assumption) ?restz1_3
        case hyz1_3 =>
          intro w hSw
          (try dsimp only at hSw)
          go_simp
          first | done | (with_reducible rfl)
        try simp only [Act.put, List.setIfInBounds_toArray, List.set_cons_zero, List.set_cons_succ]
        refine wpZ_take (i := 4) (v := ?vz1_4) rfl (by as_aux_lemma => kernel_rfl) (by as_aux_lemma => kernel_rfl) (by as_aux_lemma => kernel_rfl) (by as_aux_lemma => kernel_rfl) (fun _ _ _ h => h) (Or.inl ⟨by rfl, ?hyz1_4⟩) (by assumption) ?restz1_4
        case hyz1_4 =>
          intro w hSw
          (try dsimp only at hSw)
          go_simp
          first | done | (with_reducible rfl)
        try simp only [Act.put, List.setIfInBounds_toArray, List.set_cons_zero, List.set_cons_succ]
        refine wpZ_take (i := 5) (v := ?vz1_5) rfl (by as_aux_lemma => kernel_rfl) (by as_aux_lemma => kernel_rfl) (by as_aux_lemma => kernel_rfl) (by as_aux_lemma => kernel_rfl) (fun _ _ _ h => h) (Or.inl ⟨by rfl, ?hyz1_5⟩) (by assumption) ?restz1_5
        case hyz1_5 =>
          intro w hSw
          (try dsimp only at hSw)
          go_simp
          first | done | (with_reducible rfl)
        try simp only [Act.put, List.setIfInBounds_toArray, List.set_cons_zero, List.set_cons_succ]
        refine wpZ_take (i := 6) (v := ?vz1_6) rfl (by as_aux_lemma => kernel_rfl) (by as_aux_lemma => kernel_rfl) (by as_aux_lemma => kernel_rfl) (by as_aux_lemma => kernel_rfl) (fun _ _ _ h => h) (Or.inl ⟨by rfl, ?hyz1_6⟩) (by assumption) ?restz1_6
        case hyz1_6 =>
          intro w hSw
          (try dsimp only at hSw)
          go_simp
          first | done | (with_reducible rfl)
        try simp only [Act.put, List.setIfInBounds_toArray, List.set_cons_zero, List.set_cons_succ]
        refine wpZ_take (i := 7) (v := ?vz1_7) rfl (by as_aux_lemma => kernel_rfl) (by as_aux_lemma => kernel_rfl) (by as_aux_lemma => kernel_rfl) (by as_aux_lemma => kernel_rfl) (fun _ _ _ h => h) (Or.inl ⟨by rfl, ?hyz1_7⟩) (by assumption) ?restz1_7
        case hyz1_7 =>
          intro w hSw
          (try dsimp only at hSw)
          go_simp
          first | done | (with_reducible rfl)
        try simp only [Act.put, List.setIfInBounds_toArray, List.set_cons_zero, List.set_cons_succ]
        refine wpZ_take (i := 8) (v := ?vz1_8) rfl (by as_aux_lemma => kernel_rfl) (by as_aux_lemma => kernel_rfl) (by as_aux_lemma => kernel_rfl) (by as_aux_lemma => kernel_rfl) (fun _ _ _ h => h) (Or.inl ⟨by rfl, ?hyz1_8⟩) (by assumption) ?restz1_8
        case hyz1_8 =>
          intro w hSw
          (try dsimp only at hSw)
          go_simp
          first | done | (with_reducible rfl)
        try simp only [Act.put, List.setIfInBounds_toArray, List.set_cons_zero, List.set_cons_succ]
        refine wpZ_take (i := 9) (v := ?vz1_9) rfl (by as_aux_lemma => kernel_rfl) (by as_aux_lemma => kernel_rfl) (by as_aux_lemma => kernel_rfl) (by as_aux_lemma => kernel_rfl) (fun _ _ _ h => h) (Or.inl ⟨by rfl, ?hyz1_9⟩) (by assumption) ?restz1_9
        case hyz1_9 =>
          intro w hSw
          (try dsimp only at hSw)
          go_simp
          first | done | (with_reducible rfl)
        try simp only [Act.put, List.setIfInBounds_toArray, List.set_cons_zero, List.set_cons_succ]
        refine wpZ_take (i := 10) (v := ?vz1_10) rfl (by as_aux_lemma => kernel_rfl) (by as_aux_lemma => kernel_rfl) (by as_aux_lemma => kernel_rfl) (by as_aux_lemma => kernel_rfl) (fun _ _ _ h => h) (Or.inl ⟨by rfl, ?hyz1_10⟩) (by assumption) ?restz1_10
        case hyz1_10 =>
          intro w hSw
          (try dsimp only at hSw)
          go_simp
          first | done | (with_reducible rfl)
        try simp only [Act.put, List.setIfInBounds_toArray, List.set_cons_zero, List.set_cons_succ]
        refine wpZ_take (i := 11) (v := ?vz1_11) rfl (by as_aux_lemma => kernel_rfl) (by as_aux_lemma => kernel_rfl) (by as_aux_lemma => kernel_rfl) (by as_aux_lemma => kernel_rfl) (fun _ _ _ h => h) (Or.inl ⟨by rfl, ?hyz1_11⟩) (by assumption) ?restz1_11
        case hyz1_11 =>
          intro w hSw
          (try dsimp only at hSw)
          go_simp
          first | done | (with_reducible rfl)
        try simp only [Act.put, List.setIfInBounds_toArray, List.set_cons_zero, List.set_cons_succ]
        refine wpZ_take (i := 12) (v := ?vz1_12) rfl (by as_aux_lemma => kernel_rfl) (by as_aux_lemma => kernel_rfl) (by as_aux_lemma => kernel_rfl) (by as_aux_lemma => kernel_rfl) (fun _ _ _ h => h) (Or.inl ⟨by rfl, ?hyz1_12⟩) (by assumption) ?restz1_12
        case hyz1_12 =>
          intro w hSw
          (try dsimp only at hSw)
          go_simp
          first | done | (with_reducible rfl)
        try simp only [Act.put, List.setIfInBounds_toArray, List.set_cons_zero, List.set_cons_succ]
        refine wpZ_take (i := 13) (v := ?vz1_13) rfl (by as_aux_lemma => kernel_rfl) (by as_aux_lemma => kernel_rfl) (by as_aux_lemma => kernel_rfl) (by as_aux_lemma => kernel_rfl) (fun _ _ _ h => h) (Or.inl ⟨by rfl, ?hyz1_13⟩) (by assumption) ?restz1_13
        case hyz1_13 =>
          intro w hSw
          (try dsimp only at hSw)
          go_simp
          first | done | (with_reducible rfl)
        try simp only [Act.put, List.setIfInBounds_toArray, List.set_cons_zero, List.set_cons_succ]
        refine wpZ_take (i := 14) (v := ?vz1_14) rfl (by as_aux_lemma => kernel_rfl) (by as_aux_lemma => kernel_rfl) (by as_aux_lemma => kernel_rfl) (by as_aux_lemma => kernel_rfl) (fun _ _ _ h => h) (Or.inl ⟨by rfl, ?hyz1_14⟩) (by assumption) ?restz1_14
        case hyz1_14 =>
          intro w hSw
          (try dsimp only at hSw)
          go_simp
          first | done | (with_reducible rfl)
        try simp only [Act.put, List.setIfInBounds_toArray, List.set_cons_zero, List.set_cons_succ]
        refine wpZ_take (i := 15) (v := ?vz1_15) rfl (by as_aux_lemma => kernel_rfl) (by as_aux_lemma => kernel_rfl) (by as_aux_lemma => kernel_rfl) (by as_aux_lemma => kernel_rfl) (fun _ _ _ h => h) (Or.inl ⟨by rfl, ?hyz1_15⟩) (by assumption) ?restz1_15
        case hyz1_15 =>
          intro w hSw
          (try dsimp only at hSw)
          go_simp
          first | done | (with_reducible rfl)
        try simp only [Act.put, List.setIfInBounds_toArray, List.set_cons_zero, List.set_cons_succ]
        refine wpZ_take (i := 16) (v := ?vz1_16) rfl (by as_aux_lemma => kernel_rfl) (by as_aux_lemma => kernel_rfl) (by as_aux_lemma => kernel_rfl) (by as_aux_lemma => kernel_rfl) (fun _ _ _ h => h) (Or.inl ⟨by rfl, ?hyz1_16⟩) (by assumption) ?restz1_16
        case hyz1_16 =>
          intro w hSw
          (try dsimp only at hSw)
          go_simp
          first | done | (with_reducible rfl)
        try simp only [Act.put, List.setIfInBounds_toArray, List.set_cons_zero, List.set_cons_succ]
        refine wpZ_one (i := 17) (by kernel_rfl) rfl (fun K hK => ?_)
        go_simp
        refine hK.out _ _ ?_ (fun hH => ?_)
        · exact HSW.out _ (((bal wr _).trans ((Below.refl _ _).drew)).mono hzr)
        clear hK K
        try simp only [Act.put, List.setIfInBounds_toArray, List.set_cons_zero, List.set_cons_succ]
        refine wpZ_one (i := 18) (by kernel_rfl) rfl (fun K hK => ?_)
        refine step_app_int2 wr rfl _ _ rfl _ _ _ rfl hcs _ ((Below.refl _ _).drew) rfl hll hzr ?_
        intro v' w6 hown6 hg6 hob6
        obtain ⟨gb, gc', rfl⟩ := hown6.succ
        have hsz6 := hg6.size
        have hdr : Below wr.heap.size wr (wr.alloc (.cells #[.int .i64 (M * xa' + N * xb')] 3)).drew := below2 (bal wr _) ((Below.refl _ _).drew)
        have hcsD := hcs.later hdr
        have hb6 : Below (W5.heap.size + 1 + 1) wr w6 := (hdr.mono hzr).trans ((Below.refl _ _).grown hg6 (by have := hdr.size; omega) (fun q hq => (hcsD.lt q hq).1))
        have hcg6 := (hcg.later hdr).grown hg6 (fun q hq e => HDJ.out q e hq)
        refine hK.out _ _ ?_ (fun hH => ?_)
        · exact HSW.out _ hb6
        clear hK K
        try simp only [Act.put, List.setIfInBounds_toArray, List.set_cons_zero, List.set_cons_succ]
        refine wpZ_take (i := 19) (v := ?vz2_19) rfl (by as_aux_lemma => kernel_rfl) (by as_aux_lemma => kernel_rfl) (by as_aux_lemma => kernel_rfl) (by as_aux_lemma => kernel_rfl) (fun _ _ _ h => h) (Or.inl ⟨by rfl, ?hyz2_19⟩) (by assumption) ?restz2_19
        case hyz2_19 =>
          intro w hSw
          (try dsimp only at hSw)
          go_simp
          first | done | (with_reducible rfl)
        try simp only [Act.put, List.setIfInBounds_toArray, List.set_cons_zero, List.set_cons_succ]
        have bS6 := bS.below hb6 (by omega)
        have bG6 := bG.below hb6 (by omega)
        have s46 := bS6.cell 4 rfl
        have f46 := bS6.frozen 4
        refine wpZ_last (by kernel_rfl) (by kernel_rfl) rfl (fun K hK => ?_)
        go_simp
        refine hK.out _ _ ?_
        clear hK K
        refine NoPanic.normal ?_
        go_wp2_with fail
        go_meet
        refine ⟨rfl, _, ?_, hcg6.set (by omega) _ _, ?_, bS6.set 4 _, bG6.other (by omega) _ _, ?_, ?_⟩
        · rw [HSA.out]; exact hown6.set (by omega) _ _
        · refine hide fun q hq e => ?_
          rcases hob6 with h1 | h1
          · rw [h1] at hq; exact HDJ.out q hq e
          · rw [h1] at hq
            have h2 := (HLT.out q e).2
            have h3 : (wr.alloc (.cells #[.int .i64 (M * xa' + N * xb')] 3)).drew.heap.size = q := Option.some.inj hq
            have := hdr.size
            omega
        · have hb6' : Below W5.heap.size wr w6 := hb6.mono (by omega)
          exact hb6'.setCell (p := ⟨W5.heap.size, 4, none⟩) (Nat.le_refl _) _
        · have := hb6.size; simp [World.setCell]; omega
      case rest =>
        obtain ⟨rfl, cs', hcs', hcg', HDJ', bS', bG', hbx, hzx⟩ := hcut
        obtain ⟨Wx, rfl⟩ : ∃ W : World, W = wc := ⟨_, rfl⟩
        have hbrx := hbr.trans hbx
        have bAx := bA5.later hbrx
        have hcax := keep hbrx hca
        have g4 := bG'.cell 4 rfl
        have a4' := bAx.cell 4 rfl
        have HNG : Hid (cg.ownBlock ≠ some (W5.heap.size + 1)) := hide fun h => by have := (hcg'.lt _ h).1; omega
        have HLT' := hide hcs'.lt
        have e4 := HE.out.1
        have e5 := HE.out.2
        have la := lt_of_cell hca
        have l3 := bA5.lt
        clear bS bG hcs hcg HDJ HNS HNS' HLT s4 a4 b4 hlS hlG bPr bAr bBr p0 e1 e2 e3
        go_wp2_with fail
        have HSW : Hid (∀ W, Below (W5.heap.size + 1 + 1) Wx W → W.cell? ⟨W5.heap.size + 1, 4, none⟩ = some cg ∧ W.cell? ⟨W3.heap.size, 4, none⟩ = some (.slice (some ⟨ba, oa, none⟩) rA.coef.length ccA) ∧ W.cell? ⟨ba, oa + k, none⟩ = some (.int .i64 xa')) :=
          hide fun W h => ⟨(h.cell (p := ⟨W5.heap.size + 1, 4, none⟩) (by show W5.heap.size + 1 < _; omega)).trans g4, (h.cell (p := ⟨W3.heap.size, 4, none⟩) (by show W3.heap.size < _; omega)).trans a4', (h.cell (p := ⟨ba, oa + k, none⟩) (by show ba < _; have l5 : ba < W5.heap.size := la; omega)).trans hcax⟩
        refine wp_region_noPanic ?_
        refine wp_region_z (S := fun W => W.cell? ⟨W5.heap.size + 1, 4, none⟩ = some cg ∧ W.cell? ⟨W3.heap.size, 4, none⟩ = some (.slice (some ⟨ba, oa, none⟩) rA.coef.length ccA) ∧ W.cell? ⟨ba, oa + k, none⟩ = some (.int .i64 xa')) (by kernel_rfl) 13 (HSW.out _ ((Below.refl _ _).drew)) (fun hH => ?_)
        refine wpZ_take (i := 0) (v := ?vz3_0) rfl (by as_aux_lemma => kernel_rfl) (by as_aux_lemma => kernel_rfl) (by as_aux_lemma => kernel_rfl) (by as_aux_lemma => kernel_rfl) (fun _ _ _ h => h) (Or.inl ⟨by rfl, ?hyz3_0⟩) (by assumption) ?restz3_0
        case hyz3_0 =>
          intro w hSw
          (try dsimp only at hSw)
          go_simp
          first | done | (with_reducible rfl)
        try simp only [Act.put, List.setIfInBounds_toArray, List.set_cons_zero, List.set_cons_succ]
        refine wpZ_take (i := 1) (v := ?vz3_1) rfl (by as_aux_lemma => kernel_rfl) (by as_aux_lemma => kernel_rfl) (by as_aux_lemma => kernel_rfl) (by as_aux_lemma => kernel_rfl) (fun _ _ _ h => h) (Or.inl ⟨by rfl, ?hyz3_1⟩) (by assumption) ?restz3_1
        case hyz3_1 =>
          intro w hSw
          (try dsimp only at hSw)
          go_simp
          first | done | (with_reducible rfl)
        try simp only [Act.put, List.setIfInBounds_toArray, List.set_cons_zero, List.set_cons_succ]
        refine wpZ_take (i := 2) (v := ?vz3_2) rfl (by as_aux_lemma => kernel_rfl) (by as_aux_lemma => kernel_rfl) (by as_aux_lemma => kernel_rfl) (by as_aux_lemma => kernel_rfl) (fun _ _ _ h => h) (Or.inl ⟨by rfl, ?hyz3_2⟩) (by assumption) ?restz3_2
        case hyz3_2 =>
          intro w hSw
          (try dsimp only at hSw)
          go_simp
          first | done | (with_reducible rfl)
        try simp only [Act.put, List.setIfInBounds_toArray, List.set_cons_zero, List.set_cons_succ]
        refine wpZ_take (i := 3) (v := ?vz3_3) rfl (by as_aux_lemma => kernel_rfl) (by as_aux_lemma => kernel_rfl) (by as_aux_lemma => kernel_rfl) (by as_aux_lemma => kernel_rfl) (fun _ _ _ h => h) (Or.inl ⟨by rfl, ?hyz3_3⟩) (by assumption) ?restz3_3
        case hyz3_3 =>
          intro w hSw
          (try dsimp only at hSw)
          go_simp
          first | done | (with_reducible rfl)
        try simp only [Act.put, List.setIfInBounds_toArray, List.set_cons_zero, List.set_cons_succ]
        refine wpZ_take (i := 4) (v := ?vz3_4) rfl (by as_aux_lemma => kernel_rfl) (by as_aux_lemma => kernel_rfl) (by as_aux_lemma => kernel_rfl) (by as_aux_lemma => kernel_rfl) (fun _ _ _ h => h) (Or.inl ⟨by rfl, ?hyz3_4⟩) (by assumption) ?restz3_4
        case hyz3_4 =>
          intro w hSw
          (try dsimp only at hSw)
          go_simp
          first | done | (with_reducible rfl)
        try simp only [Act.put, List.setIfInBounds_toArray, List.set_cons_zero, List.set_cons_succ]
        refine wpZ_take (i := 5) (v := ?vz3_5) rfl (by as_aux_lemma => kernel_rfl) (by as_aux_lemma => kernel_rfl) (by as_aux_lemma => kernel_rfl) (by as_aux_lemma => kernel_rfl) (fun _ _ _ h => h) (Or.inl ⟨by rfl, ?hyz3_5⟩) (by assumption) ?restz3_5
        case hyz3_5 =>
          intro w hSw
          (try dsimp only at hSw)
          go_simp
          first | done | (with_reducible rfl)
        try simp only [Act.put, List.setIfInBounds_toArray, List.set_cons_zero, List.set_cons_succ]
        refine wpZ_take (i := 6) (v := ?vz3_6) rfl (by as_aux_lemma => kernel_rfl) (by as_aux_lemma => kernel_rfl) (by as_aux_lemma => kernel_rfl) (by as_aux_lemma => kernel_rfl) (fun _ _ _ h => h) (Or.inl ⟨by rfl, ?hyz3_6⟩) (by assumption) ?restz3_6
        case hyz3_6 =>
          intro w hSw
          (try dsimp only at hSw)
          go_simp
          first | done | (with_reducible rfl)
        try simp only [Act.put, List.setIfInBounds_toArray, List.set_cons_zero, List.set_cons_succ]
        refine wpZ_take (i := 7) (v := ?vz3_7) rfl (by as_aux_lemma => kernel_rfl) (by as_aux_lemma => kernel_rfl) (by as_aux_lemma => kernel_rfl) (by as_aux_lemma => kernel_rfl) (fun _ _ _ h => h) (Or.inl ⟨by rfl, ?hyz3_7⟩) (by assumption) ?restz3_7
        case hyz3_7 =>
          intro w hSw
          (try dsimp only at hSw)
          go_simp
          first | done | (with_reducible rfl)
        try simp only [Act.put, List.setIfInBounds_toArray, List.set_cons_zero, List.set_cons_succ]
        refine wpZ_take (i := 8) (v := ?vz3_8) rfl (by as_aux_lemma => kernel_rfl) (by as_aux_lemma => kernel_rfl) (by as_aux_lemma => kernel_rfl) (by as_aux_lemma => kernel_rfl) (fun _ _ _ h => h) (Or.inl ⟨by rfl, ?hyz3_8⟩) (by assumption) ?restz3_8
        case hyz3_8 =>
          intro w hSw
          (try dsimp only at hSw)
          go_simp
          first | done | (with_reducible rfl)
        try simp only [Act.put, List.setIfInBounds_toArray, List.set_cons_zero, List.set_cons_succ]
        refine wpZ_take (i := 9) (v := ?vz3_9) rfl (by as_aux_lemma => kernel_rfl) (by as_aux_lemma => kernel_rfl) (by as_aux_lemma => kernel_rfl) (by as_aux_lemma => kernel_rfl) (fun _ _ _ h => h) (Or.inl ⟨by rfl, ?hyz3_9⟩) (by assumption) ?restz3_9
        case hyz3_9 =>
          intro w hSw
          (try dsimp only at hSw)
          go_simp
          first | done | (with_reducible rfl)
        try simp only [Act.put, List.setIfInBounds_toArray, List.set_cons_zero, List.set_cons_succ]
        refine wpZ_one (i := 10) (by kernel_rfl) rfl (fun K hK => ?_)
        go_simp
        refine hK.out _ _ ?_ (fun hH => ?_)
        · exact HSW.out _ (((bal Wx _).trans ((Below.refl _ _).drew)).mono hzx)
        clear hK K
        try simp only [Act.put, List.setIfInBounds_toArray, List.set_cons_zero, List.set_cons_succ]
        refine wpZ_one (i := 11) (by kernel_rfl) rfl (fun K hK => ?_)
        refine step_app_int2 Wx rfl _ _ rfl _ _ _ rfl hcg' _ ((Below.refl _ _).drew) rfl hlg' hzx ?_
        intro v' w6 hown6 hg6 hob6
        obtain ⟨gb, gc', rfl⟩ := hown6.succ
        have hdr : Below Wx.heap.size Wx (Wx.alloc (.cells #[.int .i64 ((M + 1) * xa')] 3)).drew := below2 (bal Wx _) ((Below.refl _ _).drew)
        have hcgD := hcg'.later hdr
        have hb6 : Below (W5.heap.size + 1 + 1) Wx w6 := (hdr.mono hzx).trans ((Below.refl _ _).grown hg6 (by have := hdr.size; omega) (fun q hq => (hcgD.lt q hq).1))
        have hcs6 := (hcs'.later hdr).grown hg6 (fun q hq e => HDJ'.out q hq e)
        refine hK.out _ _ ?_ (fun hH => ?_)
        · exact HSW.out _ hb6
        clear hK K
        try simp only [Act.put, List.setIfInBounds_toArray, List.set_cons_zero, List.set_cons_succ]
        refine wpZ_take (i := 12) (v := ?vz4_12) rfl (by as_aux_lemma => kernel_rfl) (by as_aux_lemma => kernel_rfl) (by as_aux_lemma => kernel_rfl) (by as_aux_lemma => kernel_rfl) (fun _ _ _ h => h) (Or.inl ⟨by rfl, ?hyz4_12⟩) (by assumption) ?restz4_12
        case hyz4_12 =>
          intro w hSw
          (try dsimp only at hSw)
          go_simp
          first | done | (with_reducible rfl)
        try simp only [Act.put, List.setIfInBounds_toArray, List.set_cons_zero, List.set_cons_succ]
        have bS6 := bS'.below hb6 (by omega)
        have bG6 := bG'.below hb6 (by omega)
        have g46 := bG6.cell 4 rfl
        have f46 := bG6.frozen 4
        refine wpZ_last (by kernel_rfl) (by kernel_rfl) rfl (fun K hK => ?_)
        go_simp
        refine hK.out _ _ ?_
        clear hK K
        refine NoPanic.normal ?_
        go_wp2_with fail
        go_roundw
        case rel =>
          have hb6' : Below W5.heap.size Wx w6 := hb6.mono (by omega)
          refine ⟨k + 1, cs', _, by omega, by go_num, hcs6.set (show W5.heap.size + 1 < W5.heap.size + 1 + 1 by omega) _ _, ?_, ?_, bS6.other (show W5.heap.size ≠ W5.heap.size + 1 by omega) _ _, bG6.set 4 _, ?_, ?_⟩
          · rw [HSG.out]; exact hown6.set (by omega) _ _
          · refine hide fun q hq e => ?_
            rcases hob6 with h1 | h1
            · rw [h1] at e; exact HDJ'.out q hq e
            · rw [h1] at e
              have h2 := (HLT'.out q hq).2
              have h3 : (Wx.alloc (.cells #[.int .i64 ((M + 1) * xa')] 3)).drew.heap.size = q := Option.some.inj e
              have := hdr.size
              omega
          · exact (hbrx.trans hb6').setCell (p := ⟨W5.heap.size + 1, 4, none⟩) (Nat.le_succ _) _
          · have := hb6.size; simp [World.setCell]; omega
        case measure => simp [intOf]; omega
    · obtain rfl : k = n := by omega
      clear HRA HRB bA5 bB yA5 yB bS7 bG7 hb57 HZ7
      have HX := hide hexit
      clear hexit
      go_wp2_with fail
      exact HX.out _ _ _ _ _ _ _ _ _ _ _ _ _ _ _ _ _ _ _ _ _ _ _ _ _ _ _ _ _ _ _ _ _ _ _ _ _ _ _ wr cs cg hcs hcg bS bG hbr
end Go.Proofs.Ytcaklldmcbpbfaa
