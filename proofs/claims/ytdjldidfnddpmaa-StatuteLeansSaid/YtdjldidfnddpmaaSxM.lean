/- The walk of StatuteLeans: its loops. Conditions: how the lists lie in memory. -/
import Derived.Test.YtdjldidfnddpmaaSxL
import Derived.Test.YtdjldidfnddpmaaSxJ
import Derived.Deep.DeepCutAuto
namespace Go.Proofs.Ytdjldidfnddpmaa
open Go.RowKit
noncomputable def leansLoop1 : Code := (Try.f5.body.bind fun c => (loopsOf c)[0]?).getD .skip
noncomputable def leansLoop2 : Code := (Try.f5.body.bind fun c => (loopsOf c)[1]?).getD .skip
noncomputable def leansLoop3 : Code := (Try.f5.body.bind fun c => (loopsOf c)[2]?).getD .skip
noncomputable def leansLoop4 : Code := (Try.f5.body.bind fun c => (loopsOf c)[3]?).getD .skip
set_option maxRecDepth 100000 in
set_option maxHeartbeats 4000000 in
theorem leans_loop1 (w W0 : World) (c : CodeD) (U V : List Int) (cb : Nat) (cv rv : Value) (fa ua : Option Addr) (fn un : Nat) (bC : Blk w cb [cv, rv, .slice fa c.facts.length fn] 34) (hfa : FactsIn w.cell? (.slice fa c.facts.length fn) c.facts)
    (hU : IntsIn w.cell? (.slice ua U.length un) U) (HA : Hid (AscI U ∧ ∀ i ∈ U, 0 ≤ i ∧ i < (c.facts.length : Int))) (hul : U.length ≤ 20) (hbL : Blk W0 w.heap.size [.slice none 0 0, .slice none 0 0, .slice none 0 0] 34) (hb : Below w.heap.size w W0) (hs : w.heap.size < W0.heap.size)
    (Q0 : Exit → Act → World → Prop) (u0 u1 u2 u3 u4 u6 u7 u8 u9 u11 u12 u15 u16 u17 u18 u19 u20 u21 u22 u23 u24 u25 u26 u27 u28 u29 u30 u31 u32 u33 u34 u35 u36 u37 u38 u39 u40 u41 u42 u43 u44 u45 u46 u47 u48 u49 u50 u51 u52 u53 u54 u55 u56 u57 u58 u59 u60 u61 u62 u63 u64 u65 u66 u67 u68 u69 u70 u71 u72 u73 u74 u75 u76 u77 u78 u79 u80 u81 u82 u83 u84 u85 u86 u87 u88 u89 u90 u91 u92 u93 u94 u95 u96 u97 u98 u99 u100 u101 u102 u103 u104 u105 u106 u107 u108 u109 u110 u111 u112 u113 u114 u115 u116 u117 u118 u119 u120 u121 u122 u123 u124 u125 u126 u127 u128 u129 u130 u131 u132 u133 u134 u135 u136 u137 u138 u139 u140 u141 u142 u143 u144 u145 u146 u147 u148 u149 u150 u151 u152 u153 u154 u155 u156 u157 u158 u159 u160 u161 u162 u163 u164 u165 u166 u167 u168 u169 u170 u171 u172 u173 u174 u175 u176 u177 u178 u179 u180 u181 u182 u183 u184 u185 u186 u187 u188 u189 u190 u191 u192 u193 u194 u195 u196 u197 u198 u199 u200 u201 u202 u203 u204 u205 u206 u207 u208 u209 u210 u211 u212 u213 u214 u215 u216 u217 u218 u219 u220 u221 u222 u223 u224 u225 u226 u227 u228 u229 u230 u231 : Value)
    (hexit : ∀ (t4 t14 t51 t52 t53 t54 t55 t56 t57 t58 t59 t60 t61 t62 t63 t64 t65 t66 t67 t68 t69 t70 t71 t72 t73 t74 t75 t76 t77 t78 t79 t80 t81 t82 t83 t84 t85 t86 t87 t88 t89 t90 t91 t92 t93 t94 t95 t96 t97 t98 t99 t100 : Value) (wr : World) (lv : Value), OwnR wr w.heap.size 57 6 lv ((lessC c U V).facts.map factC) → Blk wr w.heap.size [.slice none 0 0, .slice none 0 0, lv] 34 → Below w.heap.size w wr → w.heap.size < wr.heap.size →
      Q0 (.exit 0) ⟨#[u0, u1, u2, u3, t4, .pointer (some ⟨cb, 0, none⟩), u6, u7, u8, u9, .slice ua U.length un, u11, u12, .pointer (some ⟨w.heap.size, 0, none⟩), t14, u15, u16, u17, u18, u19, u20, u21, u22, u23, u24, u25, u26, u27, u28, u29, u30, u31, u32, u33, u34, u35, u36, u37, u38, u39, u40, u41, u42, u43, u44, u45, u46, u47, u48, u49, u50, t51, t52, t53, t54, t55, t56, t57, t58, t59, t60, t61, t62, t63, t64, t65, t66, t67, t68, t69, t70, t71, t72, t73, t74, t75, t76, t77, t78, t79, t80, t81, t82, t83, t84, t85, t86, t87, t88, t89, t90, t91, t92, t93, t94, t95, t96, t97, t98, t99, t100, u101, u102, u103, u104, u105, u106, u107, u108, u109, u110, u111, u112, u113, u114, u115, u116, u117, u118, u119, u120, u121, u122, u123, u124, u125, u126, u127, u128, u129, u130, u131, u132, u133, u134, u135, u136, u137, u138, u139, u140, u141, u142, u143, u144, u145, u146, u147, u148, u149, u150, u151, u152, u153, u154, u155, u156, u157, u158, u159, u160, u161, u162, u163, u164, u165, u166, u167, u168, u169, u170, u171, u172, u173, u174, u175, u176, u177, u178, u179, u180, u181, u182, u183, u184, u185, u186, u187, u188, u189, u190, u191, u192, u193, u194, u195, u196, u197, u198, u199, u200, u201, u202, u203, u204, u205, u206, u207, u208, u209, u210, u211, u212, u213, u214, u215, u216, u217, u218, u219, u220, u221, u222, u223, u224, u225, u226, u227, u228, u229, u230, u231], []⟩ wr) :
    Code.wp Try.prog (Code.loop leansLoop1) Q0 ⟨#[u0, u1, u2, u3, u4, .pointer (some ⟨cb, 0, none⟩), u6, u7, u8, u9, .slice ua U.length un, u11, u12, .pointer (some ⟨w.heap.size, 0, none⟩), .int .i64 0, u15, u16, u17, u18, u19, u20, u21, u22, u23, u24, u25, u26, u27, u28, u29, u30, u31, u32, u33, u34, u35, u36, u37, u38, u39, u40, u41, u42, u43, u44, u45, u46, u47, u48, u49, u50, u51, u52, u53, u54, u55, u56, u57, u58, u59, u60, u61, u62, u63, u64, u65, u66, u67, u68, u69, u70, u71, u72, u73, u74, u75, u76, u77, u78, u79, u80, u81, u82, u83, u84, u85, u86, u87, u88, u89, u90, u91, u92, u93, u94, u95, u96, u97, u98, u99, u100, u101, u102, u103, u104, u105, u106, u107, u108, u109, u110, u111, u112, u113, u114, u115, u116, u117, u118, u119, u120, u121, u122, u123, u124, u125, u126, u127, u128, u129, u130, u131, u132, u133, u134, u135, u136, u137, u138, u139, u140, u141, u142, u143, u144, u145, u146, u147, u148, u149, u150, u151, u152, u153, u154, u155, u156, u157, u158, u159, u160, u161, u162, u163, u164, u165, u166, u167, u168, u169, u170, u171, u172, u173, u174, u175, u176, u177, u178, u179, u180, u181, u182, u183, u184, u185, u186, u187, u188, u189, u190, u191, u192, u193, u194, u195, u196, u197, u198, u199, u200, u201, u202, u203, u204, u205, u206, u207, u208, u209, u210, u211, u212, u213, u214, u215, u216, u217, u218, u219, u220, u221, u222, u223, u224, u225, u226, u227, u228, u229, u230, u231], []⟩ W0 := by
  have HF := hide hfa
  have HU := hide hU
  have HE : Hid ((U.take U.length).map (fun i => c.facts.getD i.toNat fact0) = (lessC c U V).facts) := hide (by rw [List.take_length]; rfl)
  generalize (lessC c U V).facts = LF at HE hexit
  clear hfa hU
  conv => arg 2; arg 1; whnf
  dsimp only
  go_loopw [14] (fun i wr => ∃ (k : Nat) (lv : Value), k ≤ U.length ∧ i = .int .i64 k ∧ OwnR wr w.heap.size 57 6 lv (((U.take k).map fun i => c.facts.getD i.toNat fact0).map factC) ∧ Blk wr w.heap.size [.slice none 0 0, .slice none 0 0, lv] 34 ∧ Below w.heap.size w wr ∧ w.heap.size < wr.heap.size) (fun i _ => U.length - (intOf i).toNat)
  case atStart => exact ⟨0, _, by omega, rfl, OwnR.nil _ _ _ _, hbL, hb, hs⟩
  case round =>
    obtain ⟨k, lv, hk, rfl, hown, hbC, hbr, hsz⟩ := hrel
    obtain ⟨va, vc, e0⟩ := own_form hown
    by_cases hlt : k < U.length
    · have HK := hide hlt
      have hltI : (k : Int) < U.length := by omega
      obtain ⟨a', n', e', -, -, hcc⟩ := HU.out
      cases e'
      obtain ⟨ub, uo, rfl, hu⟩ := hcc k hlt
      have hx := HA.out.2 _ (getD_mem U k hlt (d := 0))
      have HTK := hide (take_map_succ (fun i => c.facts.getD i.toNat fact0) U 0 hlt)
      have HLN : Hid ((((U.take k).map fun i => c.facts.getD i.toNat fact0).map factC).length ≤ 20) := hide (by rw [List.length_map, List.length_map, List.length_take]; omega)
      have HPV : Hid (∀ j, k = j + 1 → w.cell? ⟨ub, uo + j, none⟩ = some (.int .i64 (U.getD j 0)) ∧ U.getD j 0 < U.getD k 0) := hide (fun j e => by
        subst e
        obtain ⟨b2, o2, e2, h2⟩ := hcc j (by omega)
        cases e2
        exact ⟨h2, by have := asc_at HA.out.1 (show 0 < j + 1 by omega) hlt; simpa using this⟩)
      generalize U.getD k 0 = xi at hu hx HTK HPV
      obtain ⟨n, rfl⟩ : ∃ n : Nat, xi = n := ⟨xi.toNat, by omega⟩
      have hn : n < c.facts.length := by omega
      have hnI : (n : Int) < c.facts.length := by omega
      have hn0 : decide ((n : Int) < 0) = false := decide_eq_false (by omega)
      have hnG : decide (c.facts.length ≤ n) = false := decide_eq_false (by omega)
      obtain ⟨fb, fo, e, hck⟩ := HF.out.cell hn
      cases e
      obtain ⟨fl1, fl2⟩ : c.facts.length ≤ fn ∧ fn ≤ 9223372036854775807 := by obtain ⟨a', n', e, h1, h2, -⟩ := HF.out; cases e; exact ⟨h1, h2⟩
      rw [Int.toNat_natCast] at HTK
      generalize c.facts.getD n fact0 = y at hck HTK
      have y0 := hck 0 _ rfl
      have y1 := hck 1 _ rfl
      have y2 := hck 2 _ rfl
      have y3 := hck 3 _ rfl
      have y4 := hck 4 _ rfl
      have y5 := hck 5 _ rfl
      rw [Nat.add_zero] at y0
      have bc2 := bC.cell 2 rfl
      subst e0
      generalize hLr : ((U.take k).map fun i => c.facts.getD i.toNat fact0).map factC = Lr at *
      have HLr := hide hLr
      have hln8 : Lr.length ≤ 20 := HLN.out
      clear hLr hck hcc
      have k0 := keep hbr hu
      have k2 := keep hbr bc2
      have bC1 := hbC
      have hOR := hown
      have hkk : (k : Int) ≤ 20 := by omega
      have k0b := bwc k0
      have k2b := bwc k2
      clear k0 k2
      go_wp2_with fail
      go_cut [87] from 51 to 100 (fun s wx => s = .bool false ∧ Below wr.heap.size wr wx)
      case first =>
        rcases Nat.eq_zero_or_pos k with hk0 | hk0
        · have hk1 : decide ((0 : Int) < k) = false := decide_eq_false (by omega)
          have hk2 : decide (0 < k) = false := decide_eq_false (by omega)
          clear HPV hk0
          refine wp_region_bw (by kernel_rfl) (by kernel_rfl) ?_
          repeat (go_big_quiet_step (fail))
          refine wpQuiet_nil ?_
          rintro _ ⟨i, rfl⟩
          go_wp2_with fail
          go_meet
          exact ⟨rfl, i.h⟩
        · obtain ⟨j, ej⟩ : ∃ j, k = j + 1 := ⟨k - 1, by omega⟩
          obtain ⟨hpc, hpl⟩ := HPV.out j ej
          have kp := bwc (keep hbr hpc)
          generalize U.getD j 0 = xp at hpc hpl kp
          have hjl : j < U.length := by omega
          have hjlI : (j : Int) < U.length := by omega
          have hk1 : decide ((0 : Int) < k) = true := decide_eq_true (by omega)
          have hk2 : decide (0 < k) = true := decide_eq_true (by omega)
          have ekj : (k : Int) - 1 = j := by omega
          have hplI : decide ((n : Int) ≤ xp) = false := decide_eq_false (by omega)
          clear HPV ej hk0
          refine wp_region_bw (by kernel_rfl) (by kernel_rfl) ?_
          repeat (go_big_quiet_step (fail))
          refine wpQuiet_nil ?_
          rintro _ ⟨i, rfl⟩
          go_wp2_with fail
          go_meet
          exact ⟨rfl, i.h⟩
      case rest =>
        obtain ⟨rfl, hbx⟩ := hcut
        replace hbr := below2 hbr hbx
        replace bC1 := bC1.later hbx
        replace hOR := hOR.later' hbx
        replace hsz : w.heap.size < wc.heap.size := Nat.lt_of_lt_of_le hsz hbx.size
        clear HPV hbx hown hbC k0b k2b
        go_wp2_with fail
        refine wp_region_inv [some 88, some 89, some 90, some 91, some 92, some 93, some 94, some 95, some 96, some 97, some 98, some 99, some 100, none] (fun L vs W => match vs with | [x0, x1, x2, x3, x4, x5, x6, x7, x8, x9, x10, x11, x12, x13] => (EffY (w.heap.size) 57 (w.heap.size) wc W ∧ (L 13 = false → Blk W (w.heap.size) [.slice none 0 0, .slice none 0 0, .slice va Lr.length vc] 34) ∧ (L 11 = false → OwnR W (w.heap.size) 57 6 (.slice va Lr.length vc) Lr)) ∧ (L 0 = true → x0 = .pointer (some ⟨w.heap.size, 2, none⟩)) ∧ (L 1 = true → x1 = .slice va Lr.length vc) ∧ (L 2 = true → x2 = .pointer (some ⟨cb, 2, none⟩)) ∧ (L 3 = true → x3 = .slice (some ⟨fb, fo, none⟩) c.facts.length fn) ∧ (L 4 = true → x4 = .slice (some ⟨ub, uo, none⟩) U.length un) ∧ (L 5 = true → x5 = .int .i64 (k : Nat)) ∧ (L 6 = true → x6 = .pointer (some ⟨ub, uo + k, none⟩)) ∧ (L 7 = true → x7 = .int .i64 n) ∧ (L 8 = true → x8 = .pointer (some ⟨fb, fo + n * 6, none⟩)) ∧ (L 9 = true → x9 = .agg #[.int .i64 y.thing, .int .i64 y.says, .int .i64 y.sf, .int .i64 y.st, .int .i64 y.kf, .int .i64 y.kt]) ∧ (L 10 = true → (L 11 = false → ∃ b0 : Nat, x10 = .slice (some ⟨b0, 0, none⟩) 1 1 ∧ Blk W b0 [.int .i64 y.thing, .int .i64 y.says, .int .i64 y.sf, .int .i64 y.st, .int .i64 y.kf, .int .i64 y.kt] 57)) ∧ (L 11 = true → ∃ g1 c1, x11 = .slice (some ⟨g1, 0, none⟩) (Lr.length + 1) c1 ∧ OwnR W (w.heap.size) 57 6 x11 (Lr ++ [[.int .i64 y.thing, .int .i64 y.says, .int .i64 y.sf, .int .i64 y.st, .int .i64 y.kf, .int .i64 y.kt]])) ∧ (L 12 = true → x12 = .pointer (some ⟨w.heap.size, 2, none⟩)) ∧ (L 13 = true → (L 1 = true ∧ L 11 = true) ∧ ∃ g1 c1, x11 = .slice (some ⟨g1, 0, none⟩) (Lr.length + 1) c1 ∧ Blk W (w.heap.size) [.slice none 0 0, .slice none 0 0, x11] 34) | _ => False) [_, _, _, _, _, _, _, _, _, _, _, _, _, undef] (by kernel_rfl) (by kernel_rfl) rfl (by simp only [puts, Act.put, List.setIfInBounds_toArray, List.set_cons_zero, List.set_cons_succ] <;> rfl) ?_ ?_ ?_
        · exact ⟨⟨EffY.of_below (Below.refl _ _).drew, fun _ => bC1.later (Below.refl _ _).drew, fun _ => hOR.later' (Below.refl _ _).drew⟩, (fun h => by cases h), (fun h => by cases h), (fun h => by cases h), (fun h => by cases h), (fun h => by cases h), (fun h => by cases h), (fun h => by cases h), (fun h => by cases h), (fun h => by cases h), (fun h => by cases h), (fun h => by cases h), (fun h => by cases h), (fun h => by cases h), (fun h => by cases h)⟩
        · refine ⟨?_, ?_, ?_, ?_, ?_, ?_, ?_, ?_, ?_, ?_, ?_, ?_, ?_, ?_, trivial⟩
          · intro L vs W hlen hL hD hI K hK
            obtain ⟨x0, x1, x2, x3, x4, x5, x6, x7, x8, x9, x10, x11, x12, x13, rfl⟩ := len14 hlen
            have hG := hI.1
            replace hI := hI.2
            have f0 := hide hI.1
            replace hI := hI.2
            have f1 := hide hI.1
            replace hI := hI.2
            have f2 := hide hI.1
            replace hI := hI.2
            have f3 := hide hI.1
            replace hI := hI.2
            have f4 := hide hI.1
            replace hI := hI.2
            have f5 := hide hI.1
            replace hI := hI.2
            have f6 := hide hI.1
            replace hI := hI.2
            have f7 := hide hI.1
            replace hI := hI.2
            have f8 := hide hI.1
            replace hI := hI.2
            have f9 := hide hI.1
            replace hI := hI.2
            have f10 := hide hI.1
            replace hI := hI.2
            have f11 := hide hI.1
            replace hI := hI.2
            have f12 := hide hI.1
            replace hI := hI.2
            have f13 := hide hI
            clear hI
            have r00 := hG.1.size
            have hLow := keeps_low_effY hG.1 (Nat.le_refl _) (Nat.le_refl _) hbr
            try simp only [puts, Act.put, List.setIfInBounds_toArray, List.set_cons_zero, List.set_cons_succ]
            try go_simp
            exact hK.out _ _ _ (by simp only [puts, Act.put, List.setIfInBounds_toArray, List.set_cons_zero, List.set_cons_succ] <;> rfl) ⟨hG, (fun _ => rfl), (fun h => f1.out h), (fun h => f2.out h), (fun h => f3.out h), (fun h => f4.out h), (fun h => f5.out h), (fun h => f6.out h), (fun h => f7.out h), (fun h => f8.out h), (fun h => f9.out h), (fun h => f10.out h), (fun h => f11.out h), (fun h => f12.out h), (fun h => f13.out h)⟩
          · intro L vs W hlen hL hD hI K hK
            obtain ⟨x0, x1, x2, x3, x4, x5, x6, x7, x8, x9, x10, x11, x12, x13, rfl⟩ := len14 hlen
            have hG := hI.1
            replace hI := hI.2
            have f0 := hide hI.1
            replace hI := hI.2
            have f1 := hide hI.1
            replace hI := hI.2
            have f2 := hide hI.1
            replace hI := hI.2
            have f3 := hide hI.1
            replace hI := hI.2
            have f4 := hide hI.1
            replace hI := hI.2
            have f5 := hide hI.1
            replace hI := hI.2
            have f6 := hide hI.1
            replace hI := hI.2
            have f7 := hide hI.1
            replace hI := hI.2
            have f8 := hide hI.1
            replace hI := hI.2
            have f9 := hide hI.1
            replace hI := hI.2
            have f10 := hide hI.1
            replace hI := hI.2
            have f11 := hide hI.1
            replace hI := hI.2
            have f12 := hide hI.1
            replace hI := hI.2
            have f13 := hide hI
            clear hI
            have r00 := hG.1.size
            have hLow := keeps_low_effY hG.1 (Nat.le_refl _) (Nat.le_refl _) hbr
            obtain rfl := f0.out (hD.on 0 (by kernel_rfl))
            try simp only [puts, Act.put, List.setIfInBounds_toArray, List.set_cons_zero, List.set_cons_succ]
            have hst : L 13 = false := Bool.eq_false_iff.2 (fun h => absurd ((f13.out h).1.1.symm.trans hL) (by decide))
            have r0 := (hG.2.1 hst).cell 2 rfl
            go_simp
            exact hK.out _ _ _ (by simp only [puts, Act.put, List.setIfInBounds_toArray, List.set_cons_zero, List.set_cons_succ] <;> rfl) ⟨hG, (fun h => f0.out h), (fun _ => rfl), (fun h => f2.out h), (fun h => f3.out h), (fun h => f4.out h), (fun h => f5.out h), (fun h => f6.out h), (fun h => f7.out h), (fun h => f8.out h), (fun h => f9.out h), (fun h => f10.out h), (fun h => f11.out h), (fun h => f12.out h), (fun h => (fun h => ⟨⟨rfl, h.1.2⟩, h.2⟩) (f13.out h))⟩
          · intro L vs W hlen hL hD hI K hK
            obtain ⟨x0, x1, x2, x3, x4, x5, x6, x7, x8, x9, x10, x11, x12, x13, rfl⟩ := len14 hlen
            have hG := hI.1
            replace hI := hI.2
            have f0 := hide hI.1
            replace hI := hI.2
            have f1 := hide hI.1
            replace hI := hI.2
            have f2 := hide hI.1
            replace hI := hI.2
            have f3 := hide hI.1
            replace hI := hI.2
            have f4 := hide hI.1
            replace hI := hI.2
            have f5 := hide hI.1
            replace hI := hI.2
            have f6 := hide hI.1
            replace hI := hI.2
            have f7 := hide hI.1
            replace hI := hI.2
            have f8 := hide hI.1
            replace hI := hI.2
            have f9 := hide hI.1
            replace hI := hI.2
            have f10 := hide hI.1
            replace hI := hI.2
            have f11 := hide hI.1
            replace hI := hI.2
            have f12 := hide hI.1
            replace hI := hI.2
            have f13 := hide hI
            clear hI
            have r00 := hG.1.size
            have hLow := keeps_low_effY hG.1 (Nat.le_refl _) (Nat.le_refl _) hbr
            try simp only [puts, Act.put, List.setIfInBounds_toArray, List.set_cons_zero, List.set_cons_succ]
            try go_simp
            exact hK.out _ _ _ (by simp only [puts, Act.put, List.setIfInBounds_toArray, List.set_cons_zero, List.set_cons_succ] <;> rfl) ⟨hG, (fun h => f0.out h), (fun h => f1.out h), (fun _ => rfl), (fun h => f3.out h), (fun h => f4.out h), (fun h => f5.out h), (fun h => f6.out h), (fun h => f7.out h), (fun h => f8.out h), (fun h => f9.out h), (fun h => f10.out h), (fun h => f11.out h), (fun h => f12.out h), (fun h => f13.out h)⟩
          · intro L vs W hlen hL hD hI K hK
            obtain ⟨x0, x1, x2, x3, x4, x5, x6, x7, x8, x9, x10, x11, x12, x13, rfl⟩ := len14 hlen
            have hG := hI.1
            replace hI := hI.2
            have f0 := hide hI.1
            replace hI := hI.2
            have f1 := hide hI.1
            replace hI := hI.2
            have f2 := hide hI.1
            replace hI := hI.2
            have f3 := hide hI.1
            replace hI := hI.2
            have f4 := hide hI.1
            replace hI := hI.2
            have f5 := hide hI.1
            replace hI := hI.2
            have f6 := hide hI.1
            replace hI := hI.2
            have f7 := hide hI.1
            replace hI := hI.2
            have f8 := hide hI.1
            replace hI := hI.2
            have f9 := hide hI.1
            replace hI := hI.2
            have f10 := hide hI.1
            replace hI := hI.2
            have f11 := hide hI.1
            replace hI := hI.2
            have f12 := hide hI.1
            replace hI := hI.2
            have f13 := hide hI
            clear hI
            have r00 := hG.1.size
            have hLow := keeps_low_effY hG.1 (Nat.le_refl _) (Nat.le_refl _) hbr
            obtain rfl := f2.out (hD.on 2 (by kernel_rfl))
            try simp only [puts, Act.put, List.setIfInBounds_toArray, List.set_cons_zero, List.set_cons_succ]
            have r0 := keep hLow bc2
            go_simp
            exact hK.out _ _ _ (by simp only [puts, Act.put, List.setIfInBounds_toArray, List.set_cons_zero, List.set_cons_succ] <;> rfl) ⟨hG, (fun h => f0.out h), (fun h => f1.out h), (fun h => f2.out h), (fun _ => rfl), (fun h => f4.out h), (fun h => f5.out h), (fun h => f6.out h), (fun h => f7.out h), (fun h => f8.out h), (fun h => f9.out h), (fun h => f10.out h), (fun h => f11.out h), (fun h => f12.out h), (fun h => f13.out h)⟩
          · intro L vs W hlen hL hD hI K hK
            obtain ⟨x0, x1, x2, x3, x4, x5, x6, x7, x8, x9, x10, x11, x12, x13, rfl⟩ := len14 hlen
            have hG := hI.1
            replace hI := hI.2
            have f0 := hide hI.1
            replace hI := hI.2
            have f1 := hide hI.1
            replace hI := hI.2
            have f2 := hide hI.1
            replace hI := hI.2
            have f3 := hide hI.1
            replace hI := hI.2
            have f4 := hide hI.1
            replace hI := hI.2
            have f5 := hide hI.1
            replace hI := hI.2
            have f6 := hide hI.1
            replace hI := hI.2
            have f7 := hide hI.1
            replace hI := hI.2
            have f8 := hide hI.1
            replace hI := hI.2
            have f9 := hide hI.1
            replace hI := hI.2
            have f10 := hide hI.1
            replace hI := hI.2
            have f11 := hide hI.1
            replace hI := hI.2
            have f12 := hide hI.1
            replace hI := hI.2
            have f13 := hide hI
            clear hI
            have r00 := hG.1.size
            have hLow := keeps_low_effY hG.1 (Nat.le_refl _) (Nat.le_refl _) hbr
            try simp only [puts, Act.put, List.setIfInBounds_toArray, List.set_cons_zero, List.set_cons_succ]
            try go_simp
            exact hK.out _ _ _ (by simp only [puts, Act.put, List.setIfInBounds_toArray, List.set_cons_zero, List.set_cons_succ] <;> rfl) ⟨hG, (fun h => f0.out h), (fun h => f1.out h), (fun h => f2.out h), (fun h => f3.out h), (fun _ => rfl), (fun h => f5.out h), (fun h => f6.out h), (fun h => f7.out h), (fun h => f8.out h), (fun h => f9.out h), (fun h => f10.out h), (fun h => f11.out h), (fun h => f12.out h), (fun h => f13.out h)⟩
          · intro L vs W hlen hL hD hI K hK
            obtain ⟨x0, x1, x2, x3, x4, x5, x6, x7, x8, x9, x10, x11, x12, x13, rfl⟩ := len14 hlen
            have hG := hI.1
            replace hI := hI.2
            have f0 := hide hI.1
            replace hI := hI.2
            have f1 := hide hI.1
            replace hI := hI.2
            have f2 := hide hI.1
            replace hI := hI.2
            have f3 := hide hI.1
            replace hI := hI.2
            have f4 := hide hI.1
            replace hI := hI.2
            have f5 := hide hI.1
            replace hI := hI.2
            have f6 := hide hI.1
            replace hI := hI.2
            have f7 := hide hI.1
            replace hI := hI.2
            have f8 := hide hI.1
            replace hI := hI.2
            have f9 := hide hI.1
            replace hI := hI.2
            have f10 := hide hI.1
            replace hI := hI.2
            have f11 := hide hI.1
            replace hI := hI.2
            have f12 := hide hI.1
            replace hI := hI.2
            have f13 := hide hI
            clear hI
            have r00 := hG.1.size
            have hLow := keeps_low_effY hG.1 (Nat.le_refl _) (Nat.le_refl _) hbr
            try simp only [puts, Act.put, List.setIfInBounds_toArray, List.set_cons_zero, List.set_cons_succ]
            try go_simp
            exact hK.out _ _ _ (by simp only [puts, Act.put, List.setIfInBounds_toArray, List.set_cons_zero, List.set_cons_succ] <;> rfl) ⟨hG, (fun h => f0.out h), (fun h => f1.out h), (fun h => f2.out h), (fun h => f3.out h), (fun h => f4.out h), (fun _ => rfl), (fun h => f6.out h), (fun h => f7.out h), (fun h => f8.out h), (fun h => f9.out h), (fun h => f10.out h), (fun h => f11.out h), (fun h => f12.out h), (fun h => f13.out h)⟩
          · intro L vs W hlen hL hD hI K hK
            obtain ⟨x0, x1, x2, x3, x4, x5, x6, x7, x8, x9, x10, x11, x12, x13, rfl⟩ := len14 hlen
            have hG := hI.1
            replace hI := hI.2
            have f0 := hide hI.1
            replace hI := hI.2
            have f1 := hide hI.1
            replace hI := hI.2
            have f2 := hide hI.1
            replace hI := hI.2
            have f3 := hide hI.1
            replace hI := hI.2
            have f4 := hide hI.1
            replace hI := hI.2
            have f5 := hide hI.1
            replace hI := hI.2
            have f6 := hide hI.1
            replace hI := hI.2
            have f7 := hide hI.1
            replace hI := hI.2
            have f8 := hide hI.1
            replace hI := hI.2
            have f9 := hide hI.1
            replace hI := hI.2
            have f10 := hide hI.1
            replace hI := hI.2
            have f11 := hide hI.1
            replace hI := hI.2
            have f12 := hide hI.1
            replace hI := hI.2
            have f13 := hide hI
            clear hI
            have r00 := hG.1.size
            have hLow := keeps_low_effY hG.1 (Nat.le_refl _) (Nat.le_refl _) hbr
            obtain rfl := f4.out (hD.on 4 (by kernel_rfl))
            obtain rfl := f5.out (hD.on 5 (by kernel_rfl))
            try simp only [puts, Act.put, List.setIfInBounds_toArray, List.set_cons_zero, List.set_cons_succ]
            try go_simp
            exact hK.out _ _ _ (by simp only [puts, Act.put, List.setIfInBounds_toArray, List.set_cons_zero, List.set_cons_succ] <;> rfl) ⟨hG, (fun h => f0.out h), (fun h => f1.out h), (fun h => f2.out h), (fun h => f3.out h), (fun h => f4.out h), (fun h => f5.out h), (fun _ => rfl), (fun h => f7.out h), (fun h => f8.out h), (fun h => f9.out h), (fun h => f10.out h), (fun h => f11.out h), (fun h => f12.out h), (fun h => f13.out h)⟩
          · intro L vs W hlen hL hD hI K hK
            obtain ⟨x0, x1, x2, x3, x4, x5, x6, x7, x8, x9, x10, x11, x12, x13, rfl⟩ := len14 hlen
            have hG := hI.1
            replace hI := hI.2
            have f0 := hide hI.1
            replace hI := hI.2
            have f1 := hide hI.1
            replace hI := hI.2
            have f2 := hide hI.1
            replace hI := hI.2
            have f3 := hide hI.1
            replace hI := hI.2
            have f4 := hide hI.1
            replace hI := hI.2
            have f5 := hide hI.1
            replace hI := hI.2
            have f6 := hide hI.1
            replace hI := hI.2
            have f7 := hide hI.1
            replace hI := hI.2
            have f8 := hide hI.1
            replace hI := hI.2
            have f9 := hide hI.1
            replace hI := hI.2
            have f10 := hide hI.1
            replace hI := hI.2
            have f11 := hide hI.1
            replace hI := hI.2
            have f12 := hide hI.1
            replace hI := hI.2
            have f13 := hide hI
            clear hI
            have r00 := hG.1.size
            have hLow := keeps_low_effY hG.1 (Nat.le_refl _) (Nat.le_refl _) hbr
            obtain rfl := f6.out (hD.on 6 (by kernel_rfl))
            try simp only [puts, Act.put, List.setIfInBounds_toArray, List.set_cons_zero, List.set_cons_succ]
            have r0 := keep hLow hu
            go_simp
            exact hK.out _ _ _ (by simp only [puts, Act.put, List.setIfInBounds_toArray, List.set_cons_zero, List.set_cons_succ] <;> rfl) ⟨hG, (fun h => f0.out h), (fun h => f1.out h), (fun h => f2.out h), (fun h => f3.out h), (fun h => f4.out h), (fun h => f5.out h), (fun h => f6.out h), (fun _ => rfl), (fun h => f8.out h), (fun h => f9.out h), (fun h => f10.out h), (fun h => f11.out h), (fun h => f12.out h), (fun h => f13.out h)⟩
          · intro L vs W hlen hL hD hI K hK
            obtain ⟨x0, x1, x2, x3, x4, x5, x6, x7, x8, x9, x10, x11, x12, x13, rfl⟩ := len14 hlen
            have hG := hI.1
            replace hI := hI.2
            have f0 := hide hI.1
            replace hI := hI.2
            have f1 := hide hI.1
            replace hI := hI.2
            have f2 := hide hI.1
            replace hI := hI.2
            have f3 := hide hI.1
            replace hI := hI.2
            have f4 := hide hI.1
            replace hI := hI.2
            have f5 := hide hI.1
            replace hI := hI.2
            have f6 := hide hI.1
            replace hI := hI.2
            have f7 := hide hI.1
            replace hI := hI.2
            have f8 := hide hI.1
            replace hI := hI.2
            have f9 := hide hI.1
            replace hI := hI.2
            have f10 := hide hI.1
            replace hI := hI.2
            have f11 := hide hI.1
            replace hI := hI.2
            have f12 := hide hI.1
            replace hI := hI.2
            have f13 := hide hI
            clear hI
            have r00 := hG.1.size
            have hLow := keeps_low_effY hG.1 (Nat.le_refl _) (Nat.le_refl _) hbr
            obtain rfl := f3.out (hD.on 3 (by kernel_rfl))
            obtain rfl := f7.out (hD.on 7 (by kernel_rfl))
            try simp only [puts, Act.put, List.setIfInBounds_toArray, List.set_cons_zero, List.set_cons_succ]
            try go_simp
            exact hK.out _ _ _ (by simp only [puts, Act.put, List.setIfInBounds_toArray, List.set_cons_zero, List.set_cons_succ] <;> rfl) ⟨hG, (fun h => f0.out h), (fun h => f1.out h), (fun h => f2.out h), (fun h => f3.out h), (fun h => f4.out h), (fun h => f5.out h), (fun h => f6.out h), (fun h => f7.out h), (fun _ => rfl), (fun h => f9.out h), (fun h => f10.out h), (fun h => f11.out h), (fun h => f12.out h), (fun h => f13.out h)⟩
          · intro L vs W hlen hL hD hI K hK
            obtain ⟨x0, x1, x2, x3, x4, x5, x6, x7, x8, x9, x10, x11, x12, x13, rfl⟩ := len14 hlen
            have hG := hI.1
            replace hI := hI.2
            have f0 := hide hI.1
            replace hI := hI.2
            have f1 := hide hI.1
            replace hI := hI.2
            have f2 := hide hI.1
            replace hI := hI.2
            have f3 := hide hI.1
            replace hI := hI.2
            have f4 := hide hI.1
            replace hI := hI.2
            have f5 := hide hI.1
            replace hI := hI.2
            have f6 := hide hI.1
            replace hI := hI.2
            have f7 := hide hI.1
            replace hI := hI.2
            have f8 := hide hI.1
            replace hI := hI.2
            have f9 := hide hI.1
            replace hI := hI.2
            have f10 := hide hI.1
            replace hI := hI.2
            have f11 := hide hI.1
            replace hI := hI.2
            have f12 := hide hI.1
            replace hI := hI.2
            have f13 := hide hI
            clear hI
            have r00 := hG.1.size
            have hLow := keeps_low_effY hG.1 (Nat.le_refl _) (Nat.le_refl _) hbr
            obtain rfl := f8.out (hD.on 8 (by kernel_rfl))
            try simp only [puts, Act.put, List.setIfInBounds_toArray, List.set_cons_zero, List.set_cons_succ]
            have q0 := keep hLow y0
            have q1 := keep hLow y1
            have q2 := keep hLow y2
            have q3 := keep hLow y3
            have q4 := keep hLow y4
            have q5 := keep hLow y5
            go_simp
            exact hK.out _ _ _ (by simp only [puts, Act.put, List.setIfInBounds_toArray, List.set_cons_zero, List.set_cons_succ] <;> rfl) ⟨hG, (fun h => f0.out h), (fun h => f1.out h), (fun h => f2.out h), (fun h => f3.out h), (fun h => f4.out h), (fun h => f5.out h), (fun h => f6.out h), (fun h => f7.out h), (fun h => f8.out h), (fun _ => rfl), (fun h => f10.out h), (fun h => f11.out h), (fun h => f12.out h), (fun h => f13.out h)⟩
          · intro L vs W hlen hL hD hI K hK
            obtain ⟨x0, x1, x2, x3, x4, x5, x6, x7, x8, x9, x10, x11, x12, x13, rfl⟩ := len14 hlen
            have hG := hI.1
            replace hI := hI.2
            have f0 := hide hI.1
            replace hI := hI.2
            have f1 := hide hI.1
            replace hI := hI.2
            have f2 := hide hI.1
            replace hI := hI.2
            have f3 := hide hI.1
            replace hI := hI.2
            have f4 := hide hI.1
            replace hI := hI.2
            have f5 := hide hI.1
            replace hI := hI.2
            have f6 := hide hI.1
            replace hI := hI.2
            have f7 := hide hI.1
            replace hI := hI.2
            have f8 := hide hI.1
            replace hI := hI.2
            have f9 := hide hI.1
            replace hI := hI.2
            have f10 := hide hI.1
            replace hI := hI.2
            have f11 := hide hI.1
            replace hI := hI.2
            have f12 := hide hI.1
            replace hI := hI.2
            have f13 := hide hI
            clear hI
            have r00 := hG.1.size
            have hLow := keeps_low_effY hG.1 (Nat.le_refl _) (Nat.le_refl _) hbr
            obtain rfl := f9.out (hD.on 9 (by kernel_rfl))
            try simp only [puts, Act.put, List.setIfInBounds_toArray, List.set_cons_zero, List.set_cons_succ]
            go_simp
            generalize hW' : World.alloc W _ = W'
            have hb : Below W.heap.size W W' := by rw [← hW']; exact bal W _
            exact hK.out _ _ _ (by simp only [puts, Act.put, List.setIfInBounds_toArray, List.set_cons_zero, List.set_cons_succ] <;> rfl) ⟨⟨hG.1.then hb, fun h => (hG.2.1 h).later hb, fun h => (hG.2.2 h).later' hb⟩, (fun h => f0.out h), (fun h => f1.out h), (fun h => f2.out h), (fun h => f3.out h), (fun h => f4.out h), (fun h => f5.out h), (fun h => f6.out h), (fun h => f7.out h), (fun h => f8.out h), (fun h => f9.out h), (fun _ => fun _ => ⟨W.heap.size, rfl, by rw [← hW']; exact Blk.newA W _ rfl⟩), (fun h => (fun h => let ⟨g1, c1, e, ho⟩ := h; ⟨g1, c1, e, ho.later' hb⟩) (f11.out h)), (fun h => f12.out h), (fun h => (fun h => ⟨h.1, let ⟨g1, c1, e, hk⟩ := h.2; ⟨g1, c1, e, hk.later hb⟩⟩) (f13.out h))⟩
          · intro L vs W hlen hL hD hI K hK
            obtain ⟨x0, x1, x2, x3, x4, x5, x6, x7, x8, x9, x10, x11, x12, x13, rfl⟩ := len14 hlen
            have hG := hI.1
            replace hI := hI.2
            have f0 := hide hI.1
            replace hI := hI.2
            have f1 := hide hI.1
            replace hI := hI.2
            have f2 := hide hI.1
            replace hI := hI.2
            have f3 := hide hI.1
            replace hI := hI.2
            have f4 := hide hI.1
            replace hI := hI.2
            have f5 := hide hI.1
            replace hI := hI.2
            have f6 := hide hI.1
            replace hI := hI.2
            have f7 := hide hI.1
            replace hI := hI.2
            have f8 := hide hI.1
            replace hI := hI.2
            have f9 := hide hI.1
            replace hI := hI.2
            have f10 := hide hI.1
            replace hI := hI.2
            have f11 := hide hI.1
            replace hI := hI.2
            have f12 := hide hI.1
            replace hI := hI.2
            have f13 := hide hI
            clear hI
            have r00 := hG.1.size
            have hLow := keeps_low_effY hG.1 (Nat.le_refl _) (Nat.le_refl _) hbr
            obtain rfl := f1.out (hD.on 1 (by kernel_rfl))
            have g10 := f10.out (hD.on 10 (by kernel_rfl))
            try simp only [puts, Act.put, List.setIfInBounds_toArray, List.set_cons_zero, List.set_cons_succ]
            obtain ⟨b0, rfl, hB0⟩ := g10 hL
            refine step_one infoFact rfl (by decide) Try.underlying32 rfl _ _ rfl (w.heap.size) _ Lr rfl (hG.2.2 hL) b0 _ rfl hB0 rfl (factC_one (x := y)) (by omega) (by omega) (by omega) ?_
            intro g1 c1 W' hO' hE'
            have hb : True := trivial
            exact hK.out _ _ _ (by simp only [puts, Act.put, List.setIfInBounds_toArray, List.set_cons_zero, List.set_cons_succ] <;> rfl) ⟨⟨hG.1.app hE', fun h => hE'.blk (hG.2.1 h) (by decide), fun h => (by cases h)⟩, (fun h => f0.out h), (fun h => f1.out h), (fun h => f2.out h), (fun h => f3.out h), (fun h => f4.out h), (fun h => f5.out h), (fun h => f6.out h), (fun h => f7.out h), (fun h => f8.out h), (fun h => f9.out h), (fun h => (fun h => (fun h21 => by cases h21)) (f10.out h)), (fun _ => ⟨g1, c1, rfl, hO'⟩), (fun h => f12.out h), (fun h => (fun h => absurd (h.1.2.symm.trans hL) (by decide)) (f13.out h))⟩
          · intro L vs W hlen hL hD hI K hK
            obtain ⟨x0, x1, x2, x3, x4, x5, x6, x7, x8, x9, x10, x11, x12, x13, rfl⟩ := len14 hlen
            have hG := hI.1
            replace hI := hI.2
            have f0 := hide hI.1
            replace hI := hI.2
            have f1 := hide hI.1
            replace hI := hI.2
            have f2 := hide hI.1
            replace hI := hI.2
            have f3 := hide hI.1
            replace hI := hI.2
            have f4 := hide hI.1
            replace hI := hI.2
            have f5 := hide hI.1
            replace hI := hI.2
            have f6 := hide hI.1
            replace hI := hI.2
            have f7 := hide hI.1
            replace hI := hI.2
            have f8 := hide hI.1
            replace hI := hI.2
            have f9 := hide hI.1
            replace hI := hI.2
            have f10 := hide hI.1
            replace hI := hI.2
            have f11 := hide hI.1
            replace hI := hI.2
            have f12 := hide hI.1
            replace hI := hI.2
            have f13 := hide hI
            clear hI
            have r00 := hG.1.size
            have hLow := keeps_low_effY hG.1 (Nat.le_refl _) (Nat.le_refl _) hbr
            try simp only [puts, Act.put, List.setIfInBounds_toArray, List.set_cons_zero, List.set_cons_succ]
            try go_simp
            exact hK.out _ _ _ (by simp only [puts, Act.put, List.setIfInBounds_toArray, List.set_cons_zero, List.set_cons_succ] <;> rfl) ⟨hG, (fun h => f0.out h), (fun h => f1.out h), (fun h => f2.out h), (fun h => f3.out h), (fun h => f4.out h), (fun h => f5.out h), (fun h => f6.out h), (fun h => f7.out h), (fun h => f8.out h), (fun h => f9.out h), (fun h => f10.out h), (fun h => f11.out h), (fun _ => rfl), (fun h => f13.out h)⟩
          · intro L vs W hlen hL hD hI K hK
            obtain ⟨x0, x1, x2, x3, x4, x5, x6, x7, x8, x9, x10, x11, x12, x13, rfl⟩ := len14 hlen
            have hG := hI.1
            replace hI := hI.2
            have f0 := hide hI.1
            replace hI := hI.2
            have f1 := hide hI.1
            replace hI := hI.2
            have f2 := hide hI.1
            replace hI := hI.2
            have f3 := hide hI.1
            replace hI := hI.2
            have f4 := hide hI.1
            replace hI := hI.2
            have f5 := hide hI.1
            replace hI := hI.2
            have f6 := hide hI.1
            replace hI := hI.2
            have f7 := hide hI.1
            replace hI := hI.2
            have f8 := hide hI.1
            replace hI := hI.2
            have f9 := hide hI.1
            replace hI := hI.2
            have f10 := hide hI.1
            replace hI := hI.2
            have f11 := hide hI.1
            replace hI := hI.2
            have f12 := hide hI.1
            replace hI := hI.2
            have f13 := hide hI
            clear hI
            have r00 := hG.1.size
            have hLow := keeps_low_effY hG.1 (Nat.le_refl _) (Nat.le_refl _) hbr
            obtain rfl := f1.out (hD.on 1 (by kernel_rfl))
            have g11 := f11.out (hD.on 11 (by kernel_rfl))
            obtain rfl := f12.out (hD.on 12 (by kernel_rfl))
            try simp only [puts, Act.put, List.setIfInBounds_toArray, List.set_cons_zero, List.set_cons_succ]
            obtain ⟨g1, c1, rfl, hO1⟩ := g11
            have bC0 := hG.2.1 hL
            have z0 := bC0.frozen 2
            have z1 := bC0.cell 2 rfl
            go_simp
            have hb : True := trivial
            exact hK.out _ undef _ (by simp only [puts, Act.put, List.setIfInBounds_toArray, List.set_cons_zero, List.set_cons_succ] <;> rfl) ⟨⟨hG.1.set 2 _, fun h => (by cases h), fun h => absurd (h.symm.trans (hD.on 11 (by kernel_rfl))) (by decide)⟩, (fun h => f0.out h), (fun h => f1.out h), (fun h => f2.out h), (fun h => f3.out h), (fun h => f4.out h), (fun h => f5.out h), (fun h => f6.out h), (fun h => f7.out h), (fun h => f8.out h), (fun h => f9.out h), (fun h => (fun h => (fun h21 => absurd (h21.symm.trans (hD.on 11 (by kernel_rfl))) (by decide))) (f10.out h)), (fun h => (fun h => let ⟨g2, c2, e, ho⟩ := h; ⟨g2, c2, e, ho.setO bC0 (by decide) _⟩) (f11.out h)), (fun h => f12.out h), (fun _ => ⟨⟨hD.on 1 (by kernel_rfl), hD.on 11 (by kernel_rfl)⟩, g1, c1, rfl, bC0.set 2 _⟩)⟩
        intro L vs W hlen hall hI
        obtain ⟨x0, x1, x2, x3, x4, x5, x6, x7, x8, x9, x10, x11, x12, x13, rfl⟩ := len14 hlen
        have hG := hI.1
        replace hI := hI.2
        have f0 := hide hI.1
        replace hI := hI.2
        have f1 := hide hI.1
        replace hI := hI.2
        have f2 := hide hI.1
        replace hI := hI.2
        have f3 := hide hI.1
        replace hI := hI.2
        have f4 := hide hI.1
        replace hI := hI.2
        have f5 := hide hI.1
        replace hI := hI.2
        have f6 := hide hI.1
        replace hI := hI.2
        have f7 := hide hI.1
        replace hI := hI.2
        have f8 := hide hI.1
        replace hI := hI.2
        have f9 := hide hI.1
        replace hI := hI.2
        have f10 := hide hI.1
        replace hI := hI.2
        have f11 := hide hI.1
        replace hI := hI.2
        have f12 := hide hI.1
        replace hI := hI.2
        have f13 := hide hI
        clear hI
        obtain rfl := f0.out (hall 0 (by decide))
        obtain rfl := f1.out (hall 1 (by decide))
        obtain rfl := f2.out (hall 2 (by decide))
        obtain rfl := f3.out (hall 3 (by decide))
        obtain rfl := f4.out (hall 4 (by decide))
        obtain rfl := f5.out (hall 5 (by decide))
        obtain rfl := f6.out (hall 6 (by decide))
        obtain rfl := f7.out (hall 7 (by decide))
        obtain rfl := f8.out (hall 8 (by decide))
        obtain rfl := f9.out (hall 9 (by decide))
        have g10 := f10.out (hall 10 (by decide))
        have g11 := f11.out (hall 11 (by decide))
        obtain rfl := f12.out (hall 12 (by decide))
        have g13 := f13.out (hall 13 (by decide))
        have hal := hide hall
        clear hall f0 f1 f2 f3 f4 f5 f6 f7 f8 f9 f10 f11 f12 f13
        try simp only [puts, Act.put, List.setIfInBounds_toArray, List.set_cons_zero, List.set_cons_succ]
        obtain ⟨g1, c1, e21, hO21⟩ := g11
        obtain ⟨-, g2, c2, e22, hC23⟩ := g13
        have HB2 := hide (keeps_low_effY hG.1 (Nat.le_refl _) (Nat.le_refl _) hbr)
        have HS2 : Hid (w.heap.size < W.heap.size) := hide (Nat.lt_of_lt_of_le hsz hG.1.size)
        have HOR := hide hO21
        have HC2 := hide hC23
        clear hO21 hC23 hG hOR bC1 hal hbr
        subst e21
        clear e22
        go_wp2_with fail
        go_roundw
        case rel => exact ⟨k + 1, _, by have := HK.out; omega, by go_num, by rw [HTK.out, List.map_append, HLr.out]; exact HOR.out, HC2.out, HB2.out, HS2.out⟩
        case measure => have := HK.out; simp [intOf]; omega
    · obtain rfl : k = U.length := by omega
      have hown' := hown
      rw [HE.out] at hown'
      have HO := hide hown'
      have hC9 := hbC
      clear hown hown'
      subst e0
      go_wp2_with fail
      exact hexit _ _ _ _ _ _ _ _ _ _ _ _ _ _ _ _ _ _ _ _ _ _ _ _ _ _ _ _ _ _ _ _ _ _ _ _ _ _ _ _ _ _ _ _ _ _ _ _ _ _ _ _ wr _ HO.out hC9 hbr hsz
end Go.Proofs.Ytdjldidfnddpmaa
