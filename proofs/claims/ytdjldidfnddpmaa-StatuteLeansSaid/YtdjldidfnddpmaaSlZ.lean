/- StatuteLeans: for every input the law returns true. No condition. -/
import Derived.Test.YtdjldidfnddpmaaSxM
import Derived.Test.YtdjldidfnddpmaaSxD
import Derived.Test.YtdjldidfnddpmaaWrap
import Derived.Test.YtdjldidfnddpmaaSwF
/- The walk of StatuteLeans: its second and third loop. Conditions: how the lists lie in memory. -/
namespace Go.Proofs.Ytdjldidfnddpmaa
open Go.RowKit
set_option maxRecDepth 100000 in
set_option maxHeartbeats 4000000 in
theorem leans_loop2 (w W0 : World) (c : CodeD) (U V : List Int) (cb A B0 : Nat) (rv fv : Value) (ka ua fa2 : Option Addr) (kn un fm fc : Nat) (Lf : List (List Value)) (bC : Blk w cb [.slice ka c.clauses.length kn, rv, fv] 34) (hcl : ClausesOwn w A B0 (.slice ka c.clauses.length kn) c.clauses)
    (hkn : c.clauses.length ≤ kn ∧ kn ≤ 9223372036854775807) (hU : IntsIn w.cell? (.slice ua V.length un) V) (HA : Hid (AscI V ∧ ∀ i ∈ V, 0 ≤ i ∧ i < (c.clauses.length : Int))) (hul : V.length ≤ 20) (hF : OwnR W0 w.heap.size 57 6 (.slice fa2 fm fc) Lf)
    (hbL : Blk W0 w.heap.size [.slice none 0 0, .slice none 0 0, .slice fa2 fm fc] 34) (hb : Below w.heap.size w W0) (hs : w.heap.size < W0.heap.size)
    (Q0 : Exit → Act → World → Prop) (u0 u1 u2 u3 u4 u6 u7 u8 u9 u10 u12 u14 u16 u17 u18 u19 u20 u21 u22 u23 u24 u25 u26 u27 u28 u29 u30 u31 u32 u33 u34 u35 u36 u37 u38 u39 u40 u41 u42 u43 u44 u45 u46 u47 u48 u49 u50 u51 u52 u53 u54 u55 u56 u57 u58 u59 u60 u61 u62 u63 u64 u65 u66 u67 u68 u69 u70 u71 u72 u73 u74 u75 u76 u77 u78 u79 u80 u81 u82 u83 u84 u85 u86 u87 u88 u89 u90 u91 u92 u93 u94 u95 u96 u97 u98 u99 u100 u101 u102 u103 u104 u105 u106 u107 u108 u109 u110 u111 u112 u113 u114 u115 u116 u117 u118 u119 u120 u121 u122 u123 u124 u125 u126 u127 u128 u129 u130 u131 u132 u133 u134 u135 u136 u137 u138 u139 u140 u141 u142 u143 u144 u145 u146 u147 u148 u149 u150 u151 u152 u153 u154 u155 u156 u157 u158 u159 u160 u161 u162 u163 u164 u165 u166 u167 u168 u169 u170 u171 u172 u173 u174 u175 u176 u177 u178 u179 u180 u181 u182 u183 u184 u185 u186 u187 u188 u189 u190 u191 u192 u193 u194 u195 u196 u197 u198 u199 u200 u201 u202 u203 u204 u205 u206 u207 u208 u209 u210 u211 u212 u213 u214 u215 u216 u217 u218 u219 u220 u221 u222 u223 u224 u225 u226 u227 u228 u229 u230 u231 : Value)
    (hexit : ∀ (t4 t15 t101 t102 t103 t104 t105 t106 t107 t108 t109 t110 t111 t112 t113 t114 t115 t116 t117 t118 t119 t120 t121 t122 t123 t124 t125 t126 t127 t128 t129 t130 t131 t132 t133 t134 t135 t136 t137 t138 t139 t140 t141 t142 t143 t144 t145 t146 t147 t148 t149 t150 : Value) (wr : World) (lv : Value), ClausesOwn wr A w.heap.size lv (lessC c U V).clauses → OwnR wr w.heap.size 57 6 (.slice fa2 fm fc) Lf → Blk wr w.heap.size [lv, .slice none 0 0, .slice fa2 fm fc] 34 → Below w.heap.size w wr → w.heap.size < wr.heap.size →
      Q0 (.exit 2) ⟨#[u0, u1, u2, u3, t4, .pointer (some ⟨cb, 0, none⟩), u6, u7, u8, u9, u10, .slice ua V.length un, u12, .pointer (some ⟨w.heap.size, 0, none⟩), u14, t15, u16, u17, u18, u19, u20, u21, u22, u23, u24, u25, u26, u27, u28, u29, u30, u31, u32, u33, u34, u35, u36, u37, u38, u39, u40, u41, u42, u43, u44, u45, u46, u47, u48, u49, u50, u51, u52, u53, u54, u55, u56, u57, u58, u59, u60, u61, u62, u63, u64, u65, u66, u67, u68, u69, u70, u71, u72, u73, u74, u75, u76, u77, u78, u79, u80, u81, u82, u83, u84, u85, u86, u87, u88, u89, u90, u91, u92, u93, u94, u95, u96, u97, u98, u99, u100, t101, t102, t103, t104, t105, t106, t107, t108, t109, t110, t111, t112, t113, t114, t115, t116, t117, t118, t119, t120, t121, t122, t123, t124, t125, t126, t127, t128, t129, t130, t131, t132, t133, t134, t135, t136, t137, t138, t139, t140, t141, t142, t143, t144, t145, t146, t147, t148, t149, t150, u151, u152, u153, u154, u155, u156, u157, u158, u159, u160, u161, u162, u163, u164, u165, u166, u167, u168, u169, u170, u171, u172, u173, u174, u175, u176, u177, u178, u179, u180, u181, u182, u183, u184, u185, u186, u187, u188, u189, u190, u191, u192, u193, u194, u195, u196, u197, u198, u199, u200, u201, u202, u203, u204, u205, u206, u207, u208, u209, u210, u211, u212, u213, u214, u215, u216, u217, u218, u219, u220, u221, u222, u223, u224, u225, u226, u227, u228, u229, u230, u231], []⟩ wr) :
    Code.wp Try.prog (Code.loop leansLoop2) Q0 ⟨#[u0, u1, u2, u3, u4, .pointer (some ⟨cb, 0, none⟩), u6, u7, u8, u9, u10, .slice ua V.length un, u12, .pointer (some ⟨w.heap.size, 0, none⟩), u14, .int .i64 0, u16, u17, u18, u19, u20, u21, u22, u23, u24, u25, u26, u27, u28, u29, u30, u31, u32, u33, u34, u35, u36, u37, u38, u39, u40, u41, u42, u43, u44, u45, u46, u47, u48, u49, u50, u51, u52, u53, u54, u55, u56, u57, u58, u59, u60, u61, u62, u63, u64, u65, u66, u67, u68, u69, u70, u71, u72, u73, u74, u75, u76, u77, u78, u79, u80, u81, u82, u83, u84, u85, u86, u87, u88, u89, u90, u91, u92, u93, u94, u95, u96, u97, u98, u99, u100, u101, u102, u103, u104, u105, u106, u107, u108, u109, u110, u111, u112, u113, u114, u115, u116, u117, u118, u119, u120, u121, u122, u123, u124, u125, u126, u127, u128, u129, u130, u131, u132, u133, u134, u135, u136, u137, u138, u139, u140, u141, u142, u143, u144, u145, u146, u147, u148, u149, u150, u151, u152, u153, u154, u155, u156, u157, u158, u159, u160, u161, u162, u163, u164, u165, u166, u167, u168, u169, u170, u171, u172, u173, u174, u175, u176, u177, u178, u179, u180, u181, u182, u183, u184, u185, u186, u187, u188, u189, u190, u191, u192, u193, u194, u195, u196, u197, u198, u199, u200, u201, u202, u203, u204, u205, u206, u207, u208, u209, u210, u211, u212, u213, u214, u215, u216, u217, u218, u219, u220, u221, u222, u223, u224, u225, u226, u227, u228, u229, u230, u231], []⟩ W0 := by
  have HF := hide hcl
  have HU := hide hU
  have HE : Hid ((V.take V.length).map (fun i => c.clauses.getD i.toNat clause0) = (lessC c U V).clauses) := hide (by rw [List.take_length]; rfl)
  generalize (lessC c U V).clauses = LF at HE hexit
  obtain ⟨hkn1, hkn2⟩ := hkn
  clear hcl hU
  conv => arg 2; arg 1; whnf
  dsimp only
  go_loopw [15] (fun i wr => ∃ (k : Nat) (lv : Value), k ≤ V.length ∧ i = .int .i64 k ∧ ClausesOwn wr A w.heap.size lv ((V.take k).map fun i => c.clauses.getD i.toNat clause0) ∧ OwnR wr w.heap.size 57 6 (.slice fa2 fm fc) Lf ∧ Blk wr w.heap.size [lv, .slice none 0 0, .slice fa2 fm fc] 34 ∧ Below w.heap.size w wr ∧ w.heap.size < wr.heap.size) (fun i _ => V.length - (intOf i).toNat)
  case atStart => exact ⟨0, _, by omega, rfl, ClausesOwn.nil _ _ _, hF, hbL, hb, hs⟩
  case round =>
    obtain ⟨k, lv, hk, rfl, hown, hF, hbC, hbr, hsz⟩ := hrel
    by_cases hlt : k < V.length
    · have HK := hide hlt
      have hltI : (k : Int) < V.length := by omega
      obtain ⟨a', n', e', -, -, hcc⟩ := HU.out
      cases e'
      obtain ⟨ub, uo, rfl, hu⟩ := hcc k hlt
      have hx := HA.out.2 _ (getD_mem V k hlt (d := 0))
      have HTK := hide (take_map_succ (fun i => c.clauses.getD i.toNat clause0) V 0 hlt)
      have HPV : Hid (∀ j, k = j + 1 → w.cell? ⟨ub, uo + j, none⟩ = some (.int .i64 (V.getD j 0)) ∧ V.getD j 0 < V.getD k 0) := hide (fun j e => by
        subst e
        obtain ⟨b2, o2, e2, h2⟩ := hcc j (by omega)
        cases e2
        exact ⟨h2, by have := asc_at HA.out.1 (show 0 < j + 1 by omega) hlt; simpa using this⟩)
      generalize V.getD k 0 = xi at hu hx HTK HPV
      obtain ⟨n, rfl⟩ : ∃ n : Nat, xi = n := ⟨xi.toNat, by omega⟩
      have hn : n < c.clauses.length := by omega
      have hnI : (n : Int) < c.clauses.length := by omega
      have hn0 : decide ((n : Int) < 0) = false := decide_eq_false (by omega)
      have hnG : decide (c.clauses.length ≤ n) = false := decide_eq_false (by omega)
      obtain ⟨kb, na, nn, ba, bn, e, hni, hbi, hck⟩ := clauses_rec HF.out hn
      cases e
      rw [Int.toNat_natCast] at HTK
      generalize c.clauses.getD n clause0 = y at hck HTK hni hbi
      have y0 := hck 0 _ rfl
      have y1 := hck 1 _ rfl
      have y2 := hck 2 _ rfl
      have y3 := hck 3 _ rfl
      have y4 := hck 4 _ rfl
      have y5 := hck 5 _ rfl
      rw [Nat.add_zero] at y0
      have HNI := hide hni
      have HBI := hide hbi
      have bc0 := bC.cell 0 rfl
      have k0b := bwc (keep hbr hu)
      have k2b := bwc (keep hbr bc0)
      have hkk : (k : Int) ≤ 20 := by omega
      clear hck hcc hni hbi
      go_wp2_with fail
      go_cut [137] from 101 to 150 (fun s wx => s = .bool false ∧ Below wr.heap.size wr wx)
      case first =>
        rcases Nat.eq_zero_or_pos k with hk0 | hk0
        · have hk1 : decide ((0 : Int) < k) = false := decide_eq_false (by omega)
          have hk2 : decide (0 < k) = false := decide_eq_false (by omega)
          clear HPV hk0
          refine wp_region_bw (by kernel_rfl) (by kernel_rfl) ?_
          repeat (go_big_quiet_step (fail))
          refine wpQuiet_nil ?_
          rintro _ ⟨i, rfl⟩
          go_wp2_with fail
          go_meet
          exact ⟨rfl, i.h⟩
        · obtain ⟨j, ej⟩ : ∃ j, k = j + 1 := ⟨k - 1, by omega⟩
          obtain ⟨hpc, hpl⟩ := HPV.out j ej
          have kp := bwc (keep hbr hpc)
          generalize V.getD j 0 = xp at hpc hpl kp
          have hjl : j < V.length := by omega
          have hjlI : (j : Int) < V.length := by omega
          have hk1 : decide ((0 : Int) < k) = true := decide_eq_true (by omega)
          have hk2 : decide (0 < k) = true := decide_eq_true (by omega)
          have ekj : (k : Int) - 1 = j := by omega
          have hplI : decide ((n : Int) ≤ xp) = false := decide_eq_false (by omega)
          clear HPV ej hk0
          refine wp_region_bw (by kernel_rfl) (by kernel_rfl) ?_
          repeat (go_big_quiet_step (fail))
          refine wpQuiet_nil ?_
          rintro _ ⟨i, rfl⟩
          go_wp2_with fail
          go_meet
          exact ⟨rfl, i.h⟩
      case rest =>
        obtain ⟨rfl, hbx⟩ := hcut
        replace hbr := below2 hbr hbx
        replace hown := hown.later hbx
        replace hF := hF.later' hbx
        replace hbC := hbC.later hbx
        replace hsz : w.heap.size < wc.heap.size := Nat.lt_of_lt_of_le hsz hbx.size
        obtain ⟨Lr, hOR, hLl, hLs⟩ := hown
        obtain ⟨va, vc, e0⟩ := own_form hOR
        subst e0
        have bC1 := hbC
        have HLL := hide hLl
        have hln8 : Lr.length ≤ 20 := by rw [hLl, List.length_map, List.length_take]; omega
        clear HPV hbx hbC k0b k2b hLl
        go_wp2_with fail
        refine wp_region_inv [some 138, some 139, some 140, some 141, some 142, some 143, some 144, some 145, some 146, some 147, some 148, some 149, some 150, none] (fun L vs W => match vs with | [x0, x1, x2, x3, x4, x5, x6, x7, x8, x9, x10, x11, x12, x13] => (EffY (w.heap.size) 51 (w.heap.size) wc W ∧ (L 13 = false → Blk W (w.heap.size) [.slice va Lr.length vc, .slice none 0 0, .slice fa2 fm fc] 34) ∧ (L 11 = false → OwnR W (w.heap.size) 51 6 (.slice va Lr.length vc) Lr)) ∧ (L 0 = true → x0 = .pointer (some ⟨w.heap.size, 0, none⟩)) ∧ (L 1 = true → x1 = .slice va Lr.length vc) ∧ (L 2 = true → x2 = .pointer (some ⟨cb, 0, none⟩)) ∧ (L 3 = true → x3 = .slice (some ⟨kb, 0, none⟩) c.clauses.length kn) ∧ (L 4 = true → x4 = .slice (some ⟨ub, uo, none⟩) V.length un) ∧ (L 5 = true → x5 = .int .i64 k) ∧ (L 6 = true → x6 = .pointer (some ⟨ub, uo + k, none⟩)) ∧ (L 7 = true → x7 = .int .i64 n) ∧ (L 8 = true → x8 = .pointer (some ⟨kb, n * 6, none⟩)) ∧ (L 9 = true → x9 = .agg #[.int .i64 y.pub, .int .i64 y.sf, .int .i64 y.st, .slice na y.needs.length nn, .slice ba y.bars.length bn, .int .i64 y.gives]) ∧ (L 10 = true → (L 11 = false → ∃ b0 : Nat, x10 = .slice (some ⟨b0, 0, none⟩) 1 1 ∧ Blk W b0 [.int .i64 y.pub, .int .i64 y.sf, .int .i64 y.st, .slice na y.needs.length nn, .slice ba y.bars.length bn, .int .i64 y.gives] 51)) ∧ (L 11 = true → ∃ g1 c1, x11 = .slice (some ⟨g1, 0, none⟩) (Lr.length + 1) c1 ∧ OwnR W (w.heap.size) 51 6 x11 (Lr ++ [[.int .i64 y.pub, .int .i64 y.sf, .int .i64 y.st, .slice na y.needs.length nn, .slice ba y.bars.length bn, .int .i64 y.gives]])) ∧ (L 12 = true → x12 = .pointer (some ⟨w.heap.size, 0, none⟩)) ∧ (L 13 = true → (L 1 = true ∧ L 11 = true) ∧ ∃ g1 c1, x11 = .slice (some ⟨g1, 0, none⟩) (Lr.length + 1) c1 ∧ Blk W (w.heap.size) [x11, .slice none 0 0, .slice fa2 fm fc] 34) | _ => False) [_, _, _, _, _, _, _, _, _, _, _, _, _, undef] (by kernel_rfl) (by kernel_rfl) rfl (by simp only [puts, Act.put, List.setIfInBounds_toArray, List.set_cons_zero, List.set_cons_succ] <;> rfl) ?_ ?_ ?_
        · exact ⟨⟨EffY.of_below (Below.refl _ _).drew, fun _ => bC1.later (Below.refl _ _).drew, fun _ => hOR.later' (Below.refl _ _).drew⟩, (fun h => by cases h), (fun h => by cases h), (fun h => by cases h), (fun h => by cases h), (fun h => by cases h), (fun h => by cases h), (fun h => by cases h), (fun h => by cases h), (fun h => by cases h), (fun h => by cases h), (fun h => by cases h), (fun h => by cases h), (fun h => by cases h), (fun h => by cases h)⟩
        · refine ⟨?_, ?_, ?_, ?_, ?_, ?_, ?_, ?_, ?_, ?_, ?_, ?_, ?_, ?_, trivial⟩
          · intro L vs W hlen hL hD hI K hK
            obtain ⟨x0, x1, x2, x3, x4, x5, x6, x7, x8, x9, x10, x11, x12, x13, rfl⟩ := len14 hlen
            have hG := hI.1
            replace hI := hI.2
            have f0 := hide hI.1
            replace hI := hI.2
            have f1 := hide hI.1
            replace hI := hI.2
            have f2 := hide hI.1
            replace hI := hI.2
            have f3 := hide hI.1
            replace hI := hI.2
            have f4 := hide hI.1
            replace hI := hI.2
            have f5 := hide hI.1
            replace hI := hI.2
            have f6 := hide hI.1
            replace hI := hI.2
            have f7 := hide hI.1
            replace hI := hI.2
            have f8 := hide hI.1
            replace hI := hI.2
            have f9 := hide hI.1
            replace hI := hI.2
            have f10 := hide hI.1
            replace hI := hI.2
            have f11 := hide hI.1
            replace hI := hI.2
            have f12 := hide hI.1
            replace hI := hI.2
            have f13 := hide hI
            clear hI
            have r00 := hG.1.size
            have hLow := keeps_low_effY hG.1 (Nat.le_refl _) (Nat.le_refl _) hbr
            try simp only [puts, Act.put, List.setIfInBounds_toArray, List.set_cons_zero, List.set_cons_succ]
            try go_simp
            exact hK.out _ _ _ (by simp only [puts, Act.put, List.setIfInBounds_toArray, List.set_cons_zero, List.set_cons_succ] <;> rfl) ⟨hG, (fun _ => rfl), (fun h => f1.out h), (fun h => f2.out h), (fun h => f3.out h), (fun h => f4.out h), (fun h => f5.out h), (fun h => f6.out h), (fun h => f7.out h), (fun h => f8.out h), (fun h => f9.out h), (fun h => f10.out h), (fun h => f11.out h), (fun h => f12.out h), (fun h => f13.out h)⟩
          · intro L vs W hlen hL hD hI K hK
            obtain ⟨x0, x1, x2, x3, x4, x5, x6, x7, x8, x9, x10, x11, x12, x13, rfl⟩ := len14 hlen
            have hG := hI.1
            replace hI := hI.2
            have f0 := hide hI.1
            replace hI := hI.2
            have f1 := hide hI.1
            replace hI := hI.2
            have f2 := hide hI.1
            replace hI := hI.2
            have f3 := hide hI.1
            replace hI := hI.2
            have f4 := hide hI.1
            replace hI := hI.2
            have f5 := hide hI.1
            replace hI := hI.2
            have f6 := hide hI.1
            replace hI := hI.2
            have f7 := hide hI.1
            replace hI := hI.2
            have f8 := hide hI.1
            replace hI := hI.2
            have f9 := hide hI.1
            replace hI := hI.2
            have f10 := hide hI.1
            replace hI := hI.2
            have f11 := hide hI.1
            replace hI := hI.2
            have f12 := hide hI.1
            replace hI := hI.2
            have f13 := hide hI
            clear hI
            have r00 := hG.1.size
            have hLow := keeps_low_effY hG.1 (Nat.le_refl _) (Nat.le_refl _) hbr
            obtain rfl := f0.out (hD.on 0 (by kernel_rfl))
            try simp only [puts, Act.put, List.setIfInBounds_toArray, List.set_cons_zero, List.set_cons_succ]
            have hst : L 13 = false := Bool.eq_false_iff.2 (fun h => absurd ((f13.out h).1.1.symm.trans hL) (by decide))
            have r0 := (hG.2.1 hst).cell 0 rfl
            go_simp
            exact hK.out _ _ _ (by simp only [puts, Act.put, List.setIfInBounds_toArray, List.set_cons_zero, List.set_cons_succ] <;> rfl) ⟨hG, (fun h => f0.out h), (fun _ => rfl), (fun h => f2.out h), (fun h => f3.out h), (fun h => f4.out h), (fun h => f5.out h), (fun h => f6.out h), (fun h => f7.out h), (fun h => f8.out h), (fun h => f9.out h), (fun h => f10.out h), (fun h => f11.out h), (fun h => f12.out h), (fun h => (fun h => ⟨⟨rfl, h.1.2⟩, h.2⟩) (f13.out h))⟩
          · intro L vs W hlen hL hD hI K hK
            obtain ⟨x0, x1, x2, x3, x4, x5, x6, x7, x8, x9, x10, x11, x12, x13, rfl⟩ := len14 hlen
            have hG := hI.1
            replace hI := hI.2
            have f0 := hide hI.1
            replace hI := hI.2
            have f1 := hide hI.1
            replace hI := hI.2
            have f2 := hide hI.1
            replace hI := hI.2
            have f3 := hide hI.1
            replace hI := hI.2
            have f4 := hide hI.1
            replace hI := hI.2
            have f5 := hide hI.1
            replace hI := hI.2
            have f6 := hide hI.1
            replace hI := hI.2
            have f7 := hide hI.1
            replace hI := hI.2
            have f8 := hide hI.1
            replace hI := hI.2
            have f9 := hide hI.1
            replace hI := hI.2
            have f10 := hide hI.1
            replace hI := hI.2
            have f11 := hide hI.1
            replace hI := hI.2
            have f12 := hide hI.1
            replace hI := hI.2
            have f13 := hide hI
            clear hI
            have r00 := hG.1.size
            have hLow := keeps_low_effY hG.1 (Nat.le_refl _) (Nat.le_refl _) hbr
            try simp only [puts, Act.put, List.setIfInBounds_toArray, List.set_cons_zero, List.set_cons_succ]
            try go_simp
            exact hK.out _ _ _ (by simp only [puts, Act.put, List.setIfInBounds_toArray, List.set_cons_zero, List.set_cons_succ] <;> rfl) ⟨hG, (fun h => f0.out h), (fun h => f1.out h), (fun _ => rfl), (fun h => f3.out h), (fun h => f4.out h), (fun h => f5.out h), (fun h => f6.out h), (fun h => f7.out h), (fun h => f8.out h), (fun h => f9.out h), (fun h => f10.out h), (fun h => f11.out h), (fun h => f12.out h), (fun h => f13.out h)⟩
          · intro L vs W hlen hL hD hI K hK
            obtain ⟨x0, x1, x2, x3, x4, x5, x6, x7, x8, x9, x10, x11, x12, x13, rfl⟩ := len14 hlen
            have hG := hI.1
            replace hI := hI.2
            have f0 := hide hI.1
            replace hI := hI.2
            have f1 := hide hI.1
            replace hI := hI.2
            have f2 := hide hI.1
            replace hI := hI.2
            have f3 := hide hI.1
            replace hI := hI.2
            have f4 := hide hI.1
            replace hI := hI.2
            have f5 := hide hI.1
            replace hI := hI.2
            have f6 := hide hI.1
            replace hI := hI.2
            have f7 := hide hI.1
            replace hI := hI.2
            have f8 := hide hI.1
            replace hI := hI.2
            have f9 := hide hI.1
            replace hI := hI.2
            have f10 := hide hI.1
            replace hI := hI.2
            have f11 := hide hI.1
            replace hI := hI.2
            have f12 := hide hI.1
            replace hI := hI.2
            have f13 := hide hI
            clear hI
            have r00 := hG.1.size
            have hLow := keeps_low_effY hG.1 (Nat.le_refl _) (Nat.le_refl _) hbr
            obtain rfl := f2.out (hD.on 2 (by kernel_rfl))
            try simp only [puts, Act.put, List.setIfInBounds_toArray, List.set_cons_zero, List.set_cons_succ]
            have q0 := keep hLow bc0
            go_simp
            exact hK.out _ _ _ (by simp only [puts, Act.put, List.setIfInBounds_toArray, List.set_cons_zero, List.set_cons_succ] <;> rfl) ⟨hG, (fun h => f0.out h), (fun h => f1.out h), (fun h => f2.out h), (fun _ => rfl), (fun h => f4.out h), (fun h => f5.out h), (fun h => f6.out h), (fun h => f7.out h), (fun h => f8.out h), (fun h => f9.out h), (fun h => f10.out h), (fun h => f11.out h), (fun h => f12.out h), (fun h => f13.out h)⟩
          · intro L vs W hlen hL hD hI K hK
            obtain ⟨x0, x1, x2, x3, x4, x5, x6, x7, x8, x9, x10, x11, x12, x13, rfl⟩ := len14 hlen
            have hG := hI.1
            replace hI := hI.2
            have f0 := hide hI.1
            replace hI := hI.2
            have f1 := hide hI.1
            replace hI := hI.2
            have f2 := hide hI.1
            replace hI := hI.2
            have f3 := hide hI.1
            replace hI := hI.2
            have f4 := hide hI.1
            replace hI := hI.2
            have f5 := hide hI.1
            replace hI := hI.2
            have f6 := hide hI.1
            replace hI := hI.2
            have f7 := hide hI.1
            replace hI := hI.2
            have f8 := hide hI.1
            replace hI := hI.2
            have f9 := hide hI.1
            replace hI := hI.2
            have f10 := hide hI.1
            replace hI := hI.2
            have f11 := hide hI.1
            replace hI := hI.2
            have f12 := hide hI.1
            replace hI := hI.2
            have f13 := hide hI
            clear hI
            have r00 := hG.1.size
            have hLow := keeps_low_effY hG.1 (Nat.le_refl _) (Nat.le_refl _) hbr
            try simp only [puts, Act.put, List.setIfInBounds_toArray, List.set_cons_zero, List.set_cons_succ]
            try go_simp
            exact hK.out _ _ _ (by simp only [puts, Act.put, List.setIfInBounds_toArray, List.set_cons_zero, List.set_cons_succ] <;> rfl) ⟨hG, (fun h => f0.out h), (fun h => f1.out h), (fun h => f2.out h), (fun h => f3.out h), (fun _ => rfl), (fun h => f5.out h), (fun h => f6.out h), (fun h => f7.out h), (fun h => f8.out h), (fun h => f9.out h), (fun h => f10.out h), (fun h => f11.out h), (fun h => f12.out h), (fun h => f13.out h)⟩
          · intro L vs W hlen hL hD hI K hK
            obtain ⟨x0, x1, x2, x3, x4, x5, x6, x7, x8, x9, x10, x11, x12, x13, rfl⟩ := len14 hlen
            have hG := hI.1
            replace hI := hI.2
            have f0 := hide hI.1
            replace hI := hI.2
            have f1 := hide hI.1
            replace hI := hI.2
            have f2 := hide hI.1
            replace hI := hI.2
            have f3 := hide hI.1
            replace hI := hI.2
            have f4 := hide hI.1
            replace hI := hI.2
            have f5 := hide hI.1
            replace hI := hI.2
            have f6 := hide hI.1
            replace hI := hI.2
            have f7 := hide hI.1
            replace hI := hI.2
            have f8 := hide hI.1
            replace hI := hI.2
            have f9 := hide hI.1
            replace hI := hI.2
            have f10 := hide hI.1
            replace hI := hI.2
            have f11 := hide hI.1
            replace hI := hI.2
            have f12 := hide hI.1
            replace hI := hI.2
            have f13 := hide hI
            clear hI
            have r00 := hG.1.size
            have hLow := keeps_low_effY hG.1 (Nat.le_refl _) (Nat.le_refl _) hbr
            try simp only [puts, Act.put, List.setIfInBounds_toArray, List.set_cons_zero, List.set_cons_succ]
            try go_simp
            exact hK.out _ _ _ (by simp only [puts, Act.put, List.setIfInBounds_toArray, List.set_cons_zero, List.set_cons_succ] <;> rfl) ⟨hG, (fun h => f0.out h), (fun h => f1.out h), (fun h => f2.out h), (fun h => f3.out h), (fun h => f4.out h), (fun _ => rfl), (fun h => f6.out h), (fun h => f7.out h), (fun h => f8.out h), (fun h => f9.out h), (fun h => f10.out h), (fun h => f11.out h), (fun h => f12.out h), (fun h => f13.out h)⟩
          · intro L vs W hlen hL hD hI K hK
            obtain ⟨x0, x1, x2, x3, x4, x5, x6, x7, x8, x9, x10, x11, x12, x13, rfl⟩ := len14 hlen
            have hG := hI.1
            replace hI := hI.2
            have f0 := hide hI.1
            replace hI := hI.2
            have f1 := hide hI.1
            replace hI := hI.2
            have f2 := hide hI.1
            replace hI := hI.2
            have f3 := hide hI.1
            replace hI := hI.2
            have f4 := hide hI.1
            replace hI := hI.2
            have f5 := hide hI.1
            replace hI := hI.2
            have f6 := hide hI.1
            replace hI := hI.2
            have f7 := hide hI.1
            replace hI := hI.2
            have f8 := hide hI.1
            replace hI := hI.2
            have f9 := hide hI.1
            replace hI := hI.2
            have f10 := hide hI.1
            replace hI := hI.2
            have f11 := hide hI.1
            replace hI := hI.2
            have f12 := hide hI.1
            replace hI := hI.2
            have f13 := hide hI
            clear hI
            have r00 := hG.1.size
            have hLow := keeps_low_effY hG.1 (Nat.le_refl _) (Nat.le_refl _) hbr
            obtain rfl := f4.out (hD.on 4 (by kernel_rfl))
            obtain rfl := f5.out (hD.on 5 (by kernel_rfl))
            try simp only [puts, Act.put, List.setIfInBounds_toArray, List.set_cons_zero, List.set_cons_succ]
            try go_simp
            exact hK.out _ _ _ (by simp only [puts, Act.put, List.setIfInBounds_toArray, List.set_cons_zero, List.set_cons_succ] <;> rfl) ⟨hG, (fun h => f0.out h), (fun h => f1.out h), (fun h => f2.out h), (fun h => f3.out h), (fun h => f4.out h), (fun h => f5.out h), (fun _ => rfl), (fun h => f7.out h), (fun h => f8.out h), (fun h => f9.out h), (fun h => f10.out h), (fun h => f11.out h), (fun h => f12.out h), (fun h => f13.out h)⟩
          · intro L vs W hlen hL hD hI K hK
            obtain ⟨x0, x1, x2, x3, x4, x5, x6, x7, x8, x9, x10, x11, x12, x13, rfl⟩ := len14 hlen
            have hG := hI.1
            replace hI := hI.2
            have f0 := hide hI.1
            replace hI := hI.2
            have f1 := hide hI.1
            replace hI := hI.2
            have f2 := hide hI.1
            replace hI := hI.2
            have f3 := hide hI.1
            replace hI := hI.2
            have f4 := hide hI.1
            replace hI := hI.2
            have f5 := hide hI.1
            replace hI := hI.2
            have f6 := hide hI.1
            replace hI := hI.2
            have f7 := hide hI.1
            replace hI := hI.2
            have f8 := hide hI.1
            replace hI := hI.2
            have f9 := hide hI.1
            replace hI := hI.2
            have f10 := hide hI.1
            replace hI := hI.2
            have f11 := hide hI.1
            replace hI := hI.2
            have f12 := hide hI.1
            replace hI := hI.2
            have f13 := hide hI
            clear hI
            have r00 := hG.1.size
            have hLow := keeps_low_effY hG.1 (Nat.le_refl _) (Nat.le_refl _) hbr
            obtain rfl := f6.out (hD.on 6 (by kernel_rfl))
            try simp only [puts, Act.put, List.setIfInBounds_toArray, List.set_cons_zero, List.set_cons_succ]
            have q0 := keep hLow hu
            go_simp
            exact hK.out _ _ _ (by simp only [puts, Act.put, List.setIfInBounds_toArray, List.set_cons_zero, List.set_cons_succ] <;> rfl) ⟨hG, (fun h => f0.out h), (fun h => f1.out h), (fun h => f2.out h), (fun h => f3.out h), (fun h => f4.out h), (fun h => f5.out h), (fun h => f6.out h), (fun _ => rfl), (fun h => f8.out h), (fun h => f9.out h), (fun h => f10.out h), (fun h => f11.out h), (fun h => f12.out h), (fun h => f13.out h)⟩
          · intro L vs W hlen hL hD hI K hK
            obtain ⟨x0, x1, x2, x3, x4, x5, x6, x7, x8, x9, x10, x11, x12, x13, rfl⟩ := len14 hlen
            have hG := hI.1
            replace hI := hI.2
            have f0 := hide hI.1
            replace hI := hI.2
            have f1 := hide hI.1
            replace hI := hI.2
            have f2 := hide hI.1
            replace hI := hI.2
            have f3 := hide hI.1
            replace hI := hI.2
            have f4 := hide hI.1
            replace hI := hI.2
            have f5 := hide hI.1
            replace hI := hI.2
            have f6 := hide hI.1
            replace hI := hI.2
            have f7 := hide hI.1
            replace hI := hI.2
            have f8 := hide hI.1
            replace hI := hI.2
            have f9 := hide hI.1
            replace hI := hI.2
            have f10 := hide hI.1
            replace hI := hI.2
            have f11 := hide hI.1
            replace hI := hI.2
            have f12 := hide hI.1
            replace hI := hI.2
            have f13 := hide hI
            clear hI
            have r00 := hG.1.size
            have hLow := keeps_low_effY hG.1 (Nat.le_refl _) (Nat.le_refl _) hbr
            obtain rfl := f3.out (hD.on 3 (by kernel_rfl))
            obtain rfl := f7.out (hD.on 7 (by kernel_rfl))
            try simp only [puts, Act.put, List.setIfInBounds_toArray, List.set_cons_zero, List.set_cons_succ]
            try go_simp
            exact hK.out _ _ _ (by simp only [puts, Act.put, List.setIfInBounds_toArray, List.set_cons_zero, List.set_cons_succ] <;> rfl) ⟨hG, (fun h => f0.out h), (fun h => f1.out h), (fun h => f2.out h), (fun h => f3.out h), (fun h => f4.out h), (fun h => f5.out h), (fun h => f6.out h), (fun h => f7.out h), (fun _ => rfl), (fun h => f9.out h), (fun h => f10.out h), (fun h => f11.out h), (fun h => f12.out h), (fun h => f13.out h)⟩
          · intro L vs W hlen hL hD hI K hK
            obtain ⟨x0, x1, x2, x3, x4, x5, x6, x7, x8, x9, x10, x11, x12, x13, rfl⟩ := len14 hlen
            have hG := hI.1
            replace hI := hI.2
            have f0 := hide hI.1
            replace hI := hI.2
            have f1 := hide hI.1
            replace hI := hI.2
            have f2 := hide hI.1
            replace hI := hI.2
            have f3 := hide hI.1
            replace hI := hI.2
            have f4 := hide hI.1
            replace hI := hI.2
            have f5 := hide hI.1
            replace hI := hI.2
            have f6 := hide hI.1
            replace hI := hI.2
            have f7 := hide hI.1
            replace hI := hI.2
            have f8 := hide hI.1
            replace hI := hI.2
            have f9 := hide hI.1
            replace hI := hI.2
            have f10 := hide hI.1
            replace hI := hI.2
            have f11 := hide hI.1
            replace hI := hI.2
            have f12 := hide hI.1
            replace hI := hI.2
            have f13 := hide hI
            clear hI
            have r00 := hG.1.size
            have hLow := keeps_low_effY hG.1 (Nat.le_refl _) (Nat.le_refl _) hbr
            obtain rfl := f8.out (hD.on 8 (by kernel_rfl))
            try simp only [puts, Act.put, List.setIfInBounds_toArray, List.set_cons_zero, List.set_cons_succ]
            have q0 := keep hLow y0
            have q1 := keep hLow y1
            have q2 := keep hLow y2
            have q3 := keep hLow y3
            have q4 := keep hLow y4
            have q5 := keep hLow y5
            go_simp
            exact hK.out _ _ _ (by simp only [puts, Act.put, List.setIfInBounds_toArray, List.set_cons_zero, List.set_cons_succ] <;> rfl) ⟨hG, (fun h => f0.out h), (fun h => f1.out h), (fun h => f2.out h), (fun h => f3.out h), (fun h => f4.out h), (fun h => f5.out h), (fun h => f6.out h), (fun h => f7.out h), (fun h => f8.out h), (fun _ => rfl), (fun h => f10.out h), (fun h => f11.out h), (fun h => f12.out h), (fun h => f13.out h)⟩
          · intro L vs W hlen hL hD hI K hK
            obtain ⟨x0, x1, x2, x3, x4, x5, x6, x7, x8, x9, x10, x11, x12, x13, rfl⟩ := len14 hlen
            have hG := hI.1
            replace hI := hI.2
            have f0 := hide hI.1
            replace hI := hI.2
            have f1 := hide hI.1
            replace hI := hI.2
            have f2 := hide hI.1
            replace hI := hI.2
            have f3 := hide hI.1
            replace hI := hI.2
            have f4 := hide hI.1
            replace hI := hI.2
            have f5 := hide hI.1
            replace hI := hI.2
            have f6 := hide hI.1
            replace hI := hI.2
            have f7 := hide hI.1
            replace hI := hI.2
            have f8 := hide hI.1
            replace hI := hI.2
            have f9 := hide hI.1
            replace hI := hI.2
            have f10 := hide hI.1
            replace hI := hI.2
            have f11 := hide hI.1
            replace hI := hI.2
            have f12 := hide hI.1
            replace hI := hI.2
            have f13 := hide hI
            clear hI
            have r00 := hG.1.size
            have hLow := keeps_low_effY hG.1 (Nat.le_refl _) (Nat.le_refl _) hbr
            obtain rfl := f9.out (hD.on 9 (by kernel_rfl))
            try simp only [puts, Act.put, List.setIfInBounds_toArray, List.set_cons_zero, List.set_cons_succ]
            go_simp
            generalize hW' : World.alloc W _ = W'
            have hb : Below W.heap.size W W' := by rw [← hW']; exact bal W _
            exact hK.out _ _ _ (by simp only [puts, Act.put, List.setIfInBounds_toArray, List.set_cons_zero, List.set_cons_succ] <;> rfl) ⟨⟨hG.1.then hb, fun h => (hG.2.1 h).later hb, fun h => (hG.2.2 h).later' hb⟩, (fun h => f0.out h), (fun h => f1.out h), (fun h => f2.out h), (fun h => f3.out h), (fun h => f4.out h), (fun h => f5.out h), (fun h => f6.out h), (fun h => f7.out h), (fun h => f8.out h), (fun h => f9.out h), (fun _ => fun _ => ⟨W.heap.size, rfl, by rw [← hW']; exact Blk.newA W _ rfl⟩), (fun h => (fun h => let ⟨g1, c1, e, ho⟩ := h; ⟨g1, c1, e, ho.later' hb⟩) (f11.out h)), (fun h => f12.out h), (fun h => (fun h => ⟨h.1, let ⟨g1, c1, e, hk⟩ := h.2; ⟨g1, c1, e, hk.later hb⟩⟩) (f13.out h))⟩
          · intro L vs W hlen hL hD hI K hK
            obtain ⟨x0, x1, x2, x3, x4, x5, x6, x7, x8, x9, x10, x11, x12, x13, rfl⟩ := len14 hlen
            have hG := hI.1
            replace hI := hI.2
            have f0 := hide hI.1
            replace hI := hI.2
            have f1 := hide hI.1
            replace hI := hI.2
            have f2 := hide hI.1
            replace hI := hI.2
            have f3 := hide hI.1
            replace hI := hI.2
            have f4 := hide hI.1
            replace hI := hI.2
            have f5 := hide hI.1
            replace hI := hI.2
            have f6 := hide hI.1
            replace hI := hI.2
            have f7 := hide hI.1
            replace hI := hI.2
            have f8 := hide hI.1
            replace hI := hI.2
            have f9 := hide hI.1
            replace hI := hI.2
            have f10 := hide hI.1
            replace hI := hI.2
            have f11 := hide hI.1
            replace hI := hI.2
            have f12 := hide hI.1
            replace hI := hI.2
            have f13 := hide hI
            clear hI
            have r00 := hG.1.size
            have hLow := keeps_low_effY hG.1 (Nat.le_refl _) (Nat.le_refl _) hbr
            obtain rfl := f1.out (hD.on 1 (by kernel_rfl))
            have g10 := f10.out (hD.on 10 (by kernel_rfl))
            try simp only [puts, Act.put, List.setIfInBounds_toArray, List.set_cons_zero, List.set_cons_succ]
            obtain ⟨b0, rfl, hB0⟩ := g10 hL
            refine step_one infoClause rfl (by decide) Try.underlying30 rfl _ _ rfl (w.heap.size) _ Lr rfl (hG.2.2 hL) b0 _ rfl hB0 rfl (clauseC_one (x := y)) (by omega) (by omega) (by omega) ?_
            intro g1 c1 W' hO' hE'
            have hb : True := trivial
            exact hK.out _ _ _ (by simp only [puts, Act.put, List.setIfInBounds_toArray, List.set_cons_zero, List.set_cons_succ] <;> rfl) ⟨⟨hG.1.app hE', fun h => hE'.blk (hG.2.1 h) (by decide), fun h => (by cases h)⟩, (fun h => f0.out h), (fun h => f1.out h), (fun h => f2.out h), (fun h => f3.out h), (fun h => f4.out h), (fun h => f5.out h), (fun h => f6.out h), (fun h => f7.out h), (fun h => f8.out h), (fun h => f9.out h), (fun h => (fun h => (fun h21 => by cases h21)) (f10.out h)), (fun _ => ⟨g1, c1, rfl, hO'⟩), (fun h => f12.out h), (fun h => (fun h => absurd (h.1.2.symm.trans hL) (by decide)) (f13.out h))⟩
          · intro L vs W hlen hL hD hI K hK
            obtain ⟨x0, x1, x2, x3, x4, x5, x6, x7, x8, x9, x10, x11, x12, x13, rfl⟩ := len14 hlen
            have hG := hI.1
            replace hI := hI.2
            have f0 := hide hI.1
            replace hI := hI.2
            have f1 := hide hI.1
            replace hI := hI.2
            have f2 := hide hI.1
            replace hI := hI.2
            have f3 := hide hI.1
            replace hI := hI.2
            have f4 := hide hI.1
            replace hI := hI.2
            have f5 := hide hI.1
            replace hI := hI.2
            have f6 := hide hI.1
            replace hI := hI.2
            have f7 := hide hI.1
            replace hI := hI.2
            have f8 := hide hI.1
            replace hI := hI.2
            have f9 := hide hI.1
            replace hI := hI.2
            have f10 := hide hI.1
            replace hI := hI.2
            have f11 := hide hI.1
            replace hI := hI.2
            have f12 := hide hI.1
            replace hI := hI.2
            have f13 := hide hI
            clear hI
            have r00 := hG.1.size
            have hLow := keeps_low_effY hG.1 (Nat.le_refl _) (Nat.le_refl _) hbr
            try simp only [puts, Act.put, List.setIfInBounds_toArray, List.set_cons_zero, List.set_cons_succ]
            try go_simp
            exact hK.out _ _ _ (by simp only [puts, Act.put, List.setIfInBounds_toArray, List.set_cons_zero, List.set_cons_succ] <;> rfl) ⟨hG, (fun h => f0.out h), (fun h => f1.out h), (fun h => f2.out h), (fun h => f3.out h), (fun h => f4.out h), (fun h => f5.out h), (fun h => f6.out h), (fun h => f7.out h), (fun h => f8.out h), (fun h => f9.out h), (fun h => f10.out h), (fun h => f11.out h), (fun _ => rfl), (fun h => f13.out h)⟩
          · intro L vs W hlen hL hD hI K hK
            obtain ⟨x0, x1, x2, x3, x4, x5, x6, x7, x8, x9, x10, x11, x12, x13, rfl⟩ := len14 hlen
            have hG := hI.1
            replace hI := hI.2
            have f0 := hide hI.1
            replace hI := hI.2
            have f1 := hide hI.1
            replace hI := hI.2
            have f2 := hide hI.1
            replace hI := hI.2
            have f3 := hide hI.1
            replace hI := hI.2
            have f4 := hide hI.1
            replace hI := hI.2
            have f5 := hide hI.1
            replace hI := hI.2
            have f6 := hide hI.1
            replace hI := hI.2
            have f7 := hide hI.1
            replace hI := hI.2
            have f8 := hide hI.1
            replace hI := hI.2
            have f9 := hide hI.1
            replace hI := hI.2
            have f10 := hide hI.1
            replace hI := hI.2
            have f11 := hide hI.1
            replace hI := hI.2
            have f12 := hide hI.1
            replace hI := hI.2
            have f13 := hide hI
            clear hI
            have r00 := hG.1.size
            have hLow := keeps_low_effY hG.1 (Nat.le_refl _) (Nat.le_refl _) hbr
            obtain rfl := f1.out (hD.on 1 (by kernel_rfl))
            have g11 := f11.out (hD.on 11 (by kernel_rfl))
            obtain rfl := f12.out (hD.on 12 (by kernel_rfl))
            try simp only [puts, Act.put, List.setIfInBounds_toArray, List.set_cons_zero, List.set_cons_succ]
            obtain ⟨g1, c1, rfl, hO1⟩ := g11
            have bC0 := hG.2.1 hL
            have z0 := bC0.frozen 0
            have z1 := bC0.cell 0 rfl
            go_simp
            have hb : True := trivial
            exact hK.out _ undef _ (by simp only [puts, Act.put, List.setIfInBounds_toArray, List.set_cons_zero, List.set_cons_succ] <;> rfl) ⟨⟨hG.1.set 0 _, fun h => (by cases h), fun h => absurd (h.symm.trans (hD.on 11 (by kernel_rfl))) (by decide)⟩, (fun h => f0.out h), (fun h => f1.out h), (fun h => f2.out h), (fun h => f3.out h), (fun h => f4.out h), (fun h => f5.out h), (fun h => f6.out h), (fun h => f7.out h), (fun h => f8.out h), (fun h => f9.out h), (fun h => (fun h => (fun h21 => absurd (h21.symm.trans (hD.on 11 (by kernel_rfl))) (by decide))) (f10.out h)), (fun h => (fun h => let ⟨g2, c2, e, ho⟩ := h; ⟨g2, c2, e, ho.setO bC0 (by decide) _⟩) (f11.out h)), (fun h => f12.out h), (fun _ => ⟨⟨hD.on 1 (by kernel_rfl), hD.on 11 (by kernel_rfl)⟩, g1, c1, rfl, bC0.set 0 _⟩)⟩
        intro L vs W hlen hall hI
        obtain ⟨x0, x1, x2, x3, x4, x5, x6, x7, x8, x9, x10, x11, x12, x13, rfl⟩ := len14 hlen
        have hG := hI.1
        replace hI := hI.2
        have f0 := hide hI.1
        replace hI := hI.2
        have f1 := hide hI.1
        replace hI := hI.2
        have f2 := hide hI.1
        replace hI := hI.2
        have f3 := hide hI.1
        replace hI := hI.2
        have f4 := hide hI.1
        replace hI := hI.2
        have f5 := hide hI.1
        replace hI := hI.2
        have f6 := hide hI.1
        replace hI := hI.2
        have f7 := hide hI.1
        replace hI := hI.2
        have f8 := hide hI.1
        replace hI := hI.2
        have f9 := hide hI.1
        replace hI := hI.2
        have f10 := hide hI.1
        replace hI := hI.2
        have f11 := hide hI.1
        replace hI := hI.2
        have f12 := hide hI.1
        replace hI := hI.2
        have f13 := hide hI
        clear hI
        obtain rfl := f0.out (hall 0 (by decide))
        obtain rfl := f1.out (hall 1 (by decide))
        obtain rfl := f2.out (hall 2 (by decide))
        obtain rfl := f3.out (hall 3 (by decide))
        obtain rfl := f4.out (hall 4 (by decide))
        obtain rfl := f5.out (hall 5 (by decide))
        obtain rfl := f6.out (hall 6 (by decide))
        obtain rfl := f7.out (hall 7 (by decide))
        obtain rfl := f8.out (hall 8 (by decide))
        obtain rfl := f9.out (hall 9 (by decide))
        have g10 := f10.out (hall 10 (by decide))
        have g11 := f11.out (hall 11 (by decide))
        obtain rfl := f12.out (hall 12 (by decide))
        have g13 := f13.out (hall 13 (by decide))
        have hal := hide hall
        clear hall f0 f1 f2 f3 f4 f5 f6 f7 f8 f9 f10 f11 f12 f13
        try simp only [puts, Act.put, List.setIfInBounds_toArray, List.set_cons_zero, List.set_cons_succ]
        obtain ⟨g1, c1, e21, hO21⟩ := g11
        obtain ⟨-, g2, c2, e22, hC23⟩ := g13
        have HB2 := hide (keeps_low_effY hG.1 (Nat.le_refl _) (Nat.le_refl _) hbr)
        have HS2 : Hid (w.heap.size < W.heap.size) := hide (Nat.lt_of_lt_of_le hsz hG.1.size)
        have HF2 := hide (hF.kept hG.1 bC1 (by decide) (by decide))
        have HOR := hide (clauses_app (x := y) HLL.out hLs hG.1 bC1 (by decide) (by decide) (HNI.out.keeps (keeps_frmY_below HB2.out)) (HBI.out.keeps (keeps_frmY_below HB2.out)) hO21)
        have HC2 := hide hC23
        clear hO21 hC23 hG hOR bC1 hal hbr hF hLs
        subst e21
        clear e22
        go_wp2_with fail
        go_roundw
        case rel => exact ⟨k + 1, _, by have := HK.out; omega, by go_num, by rw [HTK.out]; exact HOR.out, HF2.out, HC2.out, HB2.out, HS2.out⟩
        case measure => have := HK.out; simp [intOf]; omega
    · obtain rfl : k = V.length := by omega
      have hown' := hown
      rw [HE.out] at hown'
      have HO := hide hown'
      have hC9 := hbC
      obtain ⟨va, vc, e0⟩ := hown'.form
      clear hown hown'
      subst e0
      go_wp2_with fail
      exact hexit _ _ _ _ _ _ _ _ _ _ _ _ _ _ _ _ _ _ _ _ _ _ _ _ _ _ _ _ _ _ _ _ _ _ _ _ _ _ _ _ _ _ _ _ _ _ _ _ _ _ _ _ wr _ HO.out hF hC9 hbr hsz
set_option maxRecDepth 100000 in
set_option maxHeartbeats 4000000 in
theorem leans_loop3 (w W0 : World) (c : CodeD) (U V : List Int) (cb A : Nat) (cv fv : Value) (ra ua ca2 fa2 : Option Addr) (rn un cm cc fm fc : Nat) (Lf : List (List Value)) (Lc : List ClauseD) (bC : Blk w cb [cv, .slice ra c.repeals.length rn, fv] 34) (hre : RepealsIn w.cell? (.slice ra c.repeals.length rn) c.repeals)
    (hU : IntsIn w.cell? (.slice ua V.length un) V) (hrl : c.repeals.length ≤ 20) (hF : OwnR W0 w.heap.size 57 6 (.slice fa2 fm fc) Lf) (hcl : ClausesOwn W0 A w.heap.size (.slice ca2 cm cc) Lc)
    (hbL : Blk W0 w.heap.size [.slice ca2 cm cc, .slice none 0 0, .slice fa2 fm fc] 34) (hb : Below w.heap.size w W0) (hs : w.heap.size < W0.heap.size)
    (Q0 : Exit → Act → World → Prop) (u0 u1 u2 u3 u4 u6 u7 u8 u9 u10 u12 u14 u15 u17 u18 u19 u20 u21 u22 u23 u24 u25 u26 u27 u28 u29 u30 u31 u32 u33 u34 u35 u36 u37 u38 u39 u40 u41 u42 u43 u44 u45 u46 u47 u48 u49 u50 u51 u52 u53 u54 u55 u56 u57 u58 u59 u60 u61 u62 u63 u64 u65 u66 u67 u68 u69 u70 u71 u72 u73 u74 u75 u76 u77 u78 u79 u80 u81 u82 u83 u84 u85 u86 u87 u88 u89 u90 u91 u92 u93 u94 u95 u96 u97 u98 u99 u100 u101 u102 u103 u104 u105 u106 u107 u108 u109 u110 u111 u112 u113 u114 u115 u116 u117 u118 u119 u120 u121 u122 u123 u124 u125 u126 u127 u128 u129 u130 u131 u132 u133 u134 u135 u136 u137 u138 u139 u140 u141 u142 u143 u144 u145 u146 u147 u148 u149 u150 u151 u152 u153 u154 u155 u156 u157 u158 u159 u160 u161 u162 u163 u164 u165 u166 u167 u168 u169 u170 u171 u172 u173 u174 u175 u176 u177 u178 u179 u180 u181 u182 u183 u184 u185 u186 u187 u188 u189 u190 u191 u192 u193 u194 u195 u196 u197 u198 u199 u200 u201 u202 u203 u204 u205 u206 u207 u208 u209 u210 u211 u212 u213 u214 u215 u216 u217 u218 u219 u220 u221 u222 u223 u224 u225 u226 u227 u228 u229 u230 u231 : Value)
    (hexit : ∀ (t16 t17 t151 t152 t153 t154 t155 t156 t157 t158 t159 t160 t161 t162 t163 t164 t165 t166 t167 t168 t169 t170 t171 t172 t173 t174 t175 t176 t177 t178 t179 t180 t181 t182 t183 t184 t185 t186 : Value) (wr : World) (lv : Value), OwnR wr w.heap.size 55 3 lv ((lessC c U V).repeals.map repealC) → ClausesOwn wr A w.heap.size (.slice ca2 cm cc) Lc → OwnR wr w.heap.size 57 6 (.slice fa2 fm fc) Lf → Blk wr w.heap.size [.slice ca2 cm cc, lv, .slice fa2 fm fc] 34 → Below w.heap.size w wr → w.heap.size < wr.heap.size →
      Q0 (.exit 4) ⟨#[u0, u1, u2, u3, u4, .pointer (some ⟨cb, 0, none⟩), u6, u7, u8, u9, u10, .slice ua V.length un, u12, .pointer (some ⟨w.heap.size, 0, none⟩), u14, u15, t16, t17, u18, u19, u20, u21, u22, u23, u24, u25, u26, u27, u28, u29, u30, u31, u32, u33, u34, u35, u36, u37, u38, u39, u40, u41, u42, u43, u44, u45, u46, u47, u48, u49, u50, u51, u52, u53, u54, u55, u56, u57, u58, u59, u60, u61, u62, u63, u64, u65, u66, u67, u68, u69, u70, u71, u72, u73, u74, u75, u76, u77, u78, u79, u80, u81, u82, u83, u84, u85, u86, u87, u88, u89, u90, u91, u92, u93, u94, u95, u96, u97, u98, u99, u100, u101, u102, u103, u104, u105, u106, u107, u108, u109, u110, u111, u112, u113, u114, u115, u116, u117, u118, u119, u120, u121, u122, u123, u124, u125, u126, u127, u128, u129, u130, u131, u132, u133, u134, u135, u136, u137, u138, u139, u140, u141, u142, u143, u144, u145, u146, u147, u148, u149, u150, t151, t152, t153, t154, t155, t156, t157, t158, t159, t160, t161, t162, t163, t164, t165, t166, t167, t168, t169, t170, t171, t172, t173, t174, t175, t176, t177, t178, t179, t180, t181, t182, t183, t184, t185, t186, u187, u188, u189, u190, u191, u192, u193, u194, u195, u196, u197, u198, u199, u200, u201, u202, u203, u204, u205, u206, u207, u208, u209, u210, u211, u212, u213, u214, u215, u216, u217, u218, u219, u220, u221, u222, u223, u224, u225, u226, u227, u228, u229, u230, u231], []⟩ wr) :
    Code.wp Try.prog (Code.loop leansLoop3) Q0 ⟨#[u0, u1, u2, u3, u4, .pointer (some ⟨cb, 0, none⟩), u6, u7, u8, u9, u10, .slice ua V.length un, u12, .pointer (some ⟨w.heap.size, 0, none⟩), u14, u15, .int .i64 0, u17, u18, u19, u20, u21, u22, u23, u24, u25, u26, u27, u28, u29, u30, u31, u32, u33, u34, u35, u36, u37, u38, u39, u40, u41, u42, u43, u44, u45, u46, u47, u48, u49, u50, u51, u52, u53, u54, u55, u56, u57, u58, u59, u60, u61, u62, u63, u64, u65, u66, u67, u68, u69, u70, u71, u72, u73, u74, u75, u76, u77, u78, u79, u80, u81, u82, u83, u84, u85, u86, u87, u88, u89, u90, u91, u92, u93, u94, u95, u96, u97, u98, u99, u100, u101, u102, u103, u104, u105, u106, u107, u108, u109, u110, u111, u112, u113, u114, u115, u116, u117, u118, u119, u120, u121, u122, u123, u124, u125, u126, u127, u128, u129, u130, u131, u132, u133, u134, u135, u136, u137, u138, u139, u140, u141, u142, u143, u144, u145, u146, u147, u148, u149, u150, u151, u152, u153, u154, u155, u156, u157, u158, u159, u160, u161, u162, u163, u164, u165, u166, u167, u168, u169, u170, u171, u172, u173, u174, u175, u176, u177, u178, u179, u180, u181, u182, u183, u184, u185, u186, u187, u188, u189, u190, u191, u192, u193, u194, u195, u196, u197, u198, u199, u200, u201, u202, u203, u204, u205, u206, u207, u208, u209, u210, u211, u212, u213, u214, u215, u216, u217, u218, u219, u220, u221, u222, u223, u224, u225, u226, u227, u228, u229, u230, u231], []⟩ W0 := by
  have HF := hide hre
  have HU := hide hU
  have HE := hide (lessR_all c U V)
  generalize (lessC c U V).repeals = LF at HE hexit
  clear hre hU
  conv => arg 2; arg 1; whnf
  dsimp only
  go_loopw [16] (fun i wr => ∃ (k : Nat) (lv : Value), k ≤ c.repeals.length ∧ i = .int .i64 k ∧ OwnR wr w.heap.size 55 3 lv ((lessR c V k).map repealC) ∧ ClausesOwn wr A w.heap.size (.slice ca2 cm cc) Lc ∧ OwnR wr w.heap.size 57 6 (.slice fa2 fm fc) Lf ∧ Blk wr w.heap.size [.slice ca2 cm cc, lv, .slice fa2 fm fc] 34 ∧ Below w.heap.size w wr ∧ w.heap.size < wr.heap.size) (fun i _ => c.repeals.length - (intOf i).toNat)
  case atStart => exact ⟨0, _, by omega, rfl, OwnR.nil _ _ _ _, hcl, hF, hbL, hb, hs⟩
  case round =>
    obtain ⟨k, lv, hk, rfl, hown, hcl, hF, hbC, hbr, hsz⟩ := hrel
    obtain ⟨va, vc, e0⟩ := own_form hown
    have bc1 := bC.cell 1 rfl
    have k1 := keep hbr bc1
    by_cases hlt : k < c.repeals.length
    · have HK := hide hlt
      have hltI : (k : Int) < c.repeals.length := by omega
      obtain ⟨rb, ro, e, hck⟩ := HF.out.cell hlt
      cases e
      have HTK := hide (lessR_succ c V hlt)
      have HLN : Hid (((lessR c V k).map repealC).length ≤ 20) := hide (by rw [List.length_map]; have := lessR_len c V k; omega)
      generalize c.repeals.getD k repeal0 = y at hck HTK
      have y0 := hck 0 _ rfl
      have y1 := hck 1 _ rfl
      have y2 := hck 2 _ rfl
      rw [Nat.add_zero] at y0
      have z0 := keep hbr y0
      have HIX := hide (indexl_any V y.clause _ wr (IntsAt.below hbr HU.out))
      generalize idxI V y.clause = KI at HTK HIX
      subst e0
      generalize hLr : (lessR c V k).map repealC = Lr at *
      have HLr := hide hLr
      have hln8 : Lr.length ≤ 20 := HLN.out
      clear hLr hck
      go_wp2_with fail
      refine HIX.out.mono ?_
      rintro e w2 ⟨rfl, hb2⟩
      replace hbr := below2 hbr hb2
      replace hcl := hcl.later hb2
      replace hF := hF.later' hb2
      have bC1 := hbC.later hb2
      have hOR := hown.later' hb2
      replace hsz : w.heap.size < w2.heap.size := Nat.lt_of_lt_of_le hsz hb2.size
      clear hown hbC k1 z0 HIX hb2
      by_cases hK : 0 ≤ KI
      · rw [if_pos hK] at HTK
        go_wp2_with fail
        refine wp_region_inv [some 168, some 169, some 170, some 171, some 172, some 173, some 174, some 175, some 176, some 177, some 178, some 179, some 180, some 181, some 182, some 183, some 184, some 185, some 186, none] (fun L vs W => match vs with | [x0, x1, x2, x3, x4, x5, x6, x7, x8, x9, x10, x11, x12, x13, x14, x15, x16, x17, x18, x19] => (EffY (w.heap.size) 55 (w.heap.size) w2 W ∧ (L 19 = false → Blk W (w.heap.size) [.slice ca2 cm cc, .slice va Lr.length vc, .slice fa2 fm fc] 34) ∧ (L 17 = false → OwnR W (w.heap.size) 55 3 (.slice va Lr.length vc) Lr)) ∧ (L 0 = true → x0 = .pointer (some ⟨w.heap.size, 1, none⟩)) ∧ (L 1 = true → x1 = .slice va Lr.length vc) ∧ (L 2 = true → x2 = .int .i64 KI) ∧ (L 3 = true → x3 = .pointer (some ⟨cb, 1, none⟩)) ∧ (L 4 = true → x4 = .slice (some ⟨rb, ro, none⟩) c.repeals.length rn) ∧ (L 5 = true → x5 = .int .i64 k) ∧ (L 6 = true → x6 = .pointer (some ⟨rb, ro + k * 3, none⟩)) ∧ (L 7 = true → x7 = .pointer (some ⟨rb, ro + k * 3 + 1, none⟩)) ∧ (L 8 = true → x8 = .int .i64 y.pub) ∧ (L 9 = true → x9 = .pointer (some ⟨cb, 1, none⟩)) ∧ (L 10 = true → x10 = .slice (some ⟨rb, ro, none⟩) c.repeals.length rn) ∧ (L 11 = true → x11 = .int .i64 k) ∧ (L 12 = true → x12 = .pointer (some ⟨rb, ro + k * 3, none⟩)) ∧ (L 13 = true → x13 = .pointer (some ⟨rb, ro + k * 3 + 2, none⟩)) ∧ (L 14 = true → x14 = .int .i64 y.from_) ∧ (L 15 = true → x15 = .agg #[.int .i64 KI, .int .i64 y.pub, .int .i64 y.from_]) ∧ (L 16 = true → (L 17 = false → ∃ b0 : Nat, x16 = .slice (some ⟨b0, 0, none⟩) 1 1 ∧ Blk W b0 [.int .i64 KI, .int .i64 y.pub, .int .i64 y.from_] 55)) ∧ (L 17 = true → ∃ g1 c1, x17 = .slice (some ⟨g1, 0, none⟩) (Lr.length + 1) c1 ∧ OwnR W (w.heap.size) 55 3 x17 (Lr ++ [[.int .i64 KI, .int .i64 y.pub, .int .i64 y.from_]])) ∧ (L 18 = true → x18 = .pointer (some ⟨w.heap.size, 1, none⟩)) ∧ (L 19 = true → (L 1 = true ∧ L 17 = true) ∧ ∃ g1 c1, x17 = .slice (some ⟨g1, 0, none⟩) (Lr.length + 1) c1 ∧ Blk W (w.heap.size) [.slice ca2 cm cc, x17, .slice fa2 fm fc] 34) | _ => False) [_, _, _, _, _, _, _, _, _, _, _, _, _, _, _, _, _, _, _, undef] (by kernel_rfl) (by kernel_rfl) rfl (by simp only [puts, Act.put, List.setIfInBounds_toArray, List.set_cons_zero, List.set_cons_succ] <;> rfl) ?_ ?_ ?_
        · exact ⟨⟨EffY.of_below (Below.refl _ _).drew, fun _ => bC1.later (Below.refl _ _).drew, fun _ => hOR.later' (Below.refl _ _).drew⟩, (fun h => by cases h), (fun h => by cases h), (fun h => by cases h), (fun h => by cases h), (fun h => by cases h), (fun h => by cases h), (fun h => by cases h), (fun h => by cases h), (fun h => by cases h), (fun h => by cases h), (fun h => by cases h), (fun h => by cases h), (fun h => by cases h), (fun h => by cases h), (fun h => by cases h), (fun h => by cases h), (fun h => by cases h), (fun h => by cases h), (fun h => by cases h), (fun h => by cases h)⟩
        · refine ⟨?_, ?_, ?_, ?_, ?_, ?_, ?_, ?_, ?_, ?_, ?_, ?_, ?_, ?_, ?_, ?_, ?_, ?_, ?_, ?_, trivial⟩
          · intro L vs W hlen hL hD hI K hK
            obtain ⟨x0, x1, x2, x3, x4, x5, x6, x7, x8, x9, x10, x11, x12, x13, x14, x15, x16, x17, x18, x19, rfl⟩ := len20 hlen
            have hG := hI.1
            replace hI := hI.2
            have f0 := hide hI.1
            replace hI := hI.2
            have f1 := hide hI.1
            replace hI := hI.2
            have f2 := hide hI.1
            replace hI := hI.2
            have f3 := hide hI.1
            replace hI := hI.2
            have f4 := hide hI.1
            replace hI := hI.2
            have f5 := hide hI.1
            replace hI := hI.2
            have f6 := hide hI.1
            replace hI := hI.2
            have f7 := hide hI.1
            replace hI := hI.2
            have f8 := hide hI.1
            replace hI := hI.2
            have f9 := hide hI.1
            replace hI := hI.2
            have f10 := hide hI.1
            replace hI := hI.2
            have f11 := hide hI.1
            replace hI := hI.2
            have f12 := hide hI.1
            replace hI := hI.2
            have f13 := hide hI.1
            replace hI := hI.2
            have f14 := hide hI.1
            replace hI := hI.2
            have f15 := hide hI.1
            replace hI := hI.2
            have f16 := hide hI.1
            replace hI := hI.2
            have f17 := hide hI.1
            replace hI := hI.2
            have f18 := hide hI.1
            replace hI := hI.2
            have f19 := hide hI
            clear hI
            have r00 := hG.1.size
            have hLow := keeps_low_effY hG.1 (Nat.le_refl _) (Nat.le_refl _) hbr
            try simp only [puts, Act.put, List.setIfInBounds_toArray, List.set_cons_zero, List.set_cons_succ]
            try go_simp
            exact hK.out _ _ _ (by simp only [puts, Act.put, List.setIfInBounds_toArray, List.set_cons_zero, List.set_cons_succ] <;> rfl) ⟨hG, (fun _ => rfl), (fun h => f1.out h), (fun h => f2.out h), (fun h => f3.out h), (fun h => f4.out h), (fun h => f5.out h), (fun h => f6.out h), (fun h => f7.out h), (fun h => f8.out h), (fun h => f9.out h), (fun h => f10.out h), (fun h => f11.out h), (fun h => f12.out h), (fun h => f13.out h), (fun h => f14.out h), (fun h => f15.out h), (fun h => f16.out h), (fun h => f17.out h), (fun h => f18.out h), (fun h => f19.out h)⟩
          · intro L vs W hlen hL hD hI K hK
            obtain ⟨x0, x1, x2, x3, x4, x5, x6, x7, x8, x9, x10, x11, x12, x13, x14, x15, x16, x17, x18, x19, rfl⟩ := len20 hlen
            have hG := hI.1
            replace hI := hI.2
            have f0 := hide hI.1
            replace hI := hI.2
            have f1 := hide hI.1
            replace hI := hI.2
            have f2 := hide hI.1
            replace hI := hI.2
            have f3 := hide hI.1
            replace hI := hI.2
            have f4 := hide hI.1
            replace hI := hI.2
            have f5 := hide hI.1
            replace hI := hI.2
            have f6 := hide hI.1
            replace hI := hI.2
            have f7 := hide hI.1
            replace hI := hI.2
            have f8 := hide hI.1
            replace hI := hI.2
            have f9 := hide hI.1
            replace hI := hI.2
            have f10 := hide hI.1
            replace hI := hI.2
            have f11 := hide hI.1
            replace hI := hI.2
            have f12 := hide hI.1
            replace hI := hI.2
            have f13 := hide hI.1
            replace hI := hI.2
            have f14 := hide hI.1
            replace hI := hI.2
            have f15 := hide hI.1
            replace hI := hI.2
            have f16 := hide hI.1
            replace hI := hI.2
            have f17 := hide hI.1
            replace hI := hI.2
            have f18 := hide hI.1
            replace hI := hI.2
            have f19 := hide hI
            clear hI
            have r00 := hG.1.size
            have hLow := keeps_low_effY hG.1 (Nat.le_refl _) (Nat.le_refl _) hbr
            obtain rfl := f0.out (hD.on 0 (by kernel_rfl))
            try simp only [puts, Act.put, List.setIfInBounds_toArray, List.set_cons_zero, List.set_cons_succ]
            have hst : L 19 = false := Bool.eq_false_iff.2 (fun h => absurd ((f19.out h).1.1.symm.trans hL) (by decide))
            have r0 := (hG.2.1 hst).cell 1 rfl
            go_simp
            exact hK.out _ _ _ (by simp only [puts, Act.put, List.setIfInBounds_toArray, List.set_cons_zero, List.set_cons_succ] <;> rfl) ⟨hG, (fun h => f0.out h), (fun _ => rfl), (fun h => f2.out h), (fun h => f3.out h), (fun h => f4.out h), (fun h => f5.out h), (fun h => f6.out h), (fun h => f7.out h), (fun h => f8.out h), (fun h => f9.out h), (fun h => f10.out h), (fun h => f11.out h), (fun h => f12.out h), (fun h => f13.out h), (fun h => f14.out h), (fun h => f15.out h), (fun h => f16.out h), (fun h => f17.out h), (fun h => f18.out h), (fun h => (fun h => ⟨⟨rfl, h.1.2⟩, h.2⟩) (f19.out h))⟩
          · intro L vs W hlen hL hD hI K hK
            obtain ⟨x0, x1, x2, x3, x4, x5, x6, x7, x8, x9, x10, x11, x12, x13, x14, x15, x16, x17, x18, x19, rfl⟩ := len20 hlen
            have hG := hI.1
            replace hI := hI.2
            have f0 := hide hI.1
            replace hI := hI.2
            have f1 := hide hI.1
            replace hI := hI.2
            have f2 := hide hI.1
            replace hI := hI.2
            have f3 := hide hI.1
            replace hI := hI.2
            have f4 := hide hI.1
            replace hI := hI.2
            have f5 := hide hI.1
            replace hI := hI.2
            have f6 := hide hI.1
            replace hI := hI.2
            have f7 := hide hI.1
            replace hI := hI.2
            have f8 := hide hI.1
            replace hI := hI.2
            have f9 := hide hI.1
            replace hI := hI.2
            have f10 := hide hI.1
            replace hI := hI.2
            have f11 := hide hI.1
            replace hI := hI.2
            have f12 := hide hI.1
            replace hI := hI.2
            have f13 := hide hI.1
            replace hI := hI.2
            have f14 := hide hI.1
            replace hI := hI.2
            have f15 := hide hI.1
            replace hI := hI.2
            have f16 := hide hI.1
            replace hI := hI.2
            have f17 := hide hI.1
            replace hI := hI.2
            have f18 := hide hI.1
            replace hI := hI.2
            have f19 := hide hI
            clear hI
            have r00 := hG.1.size
            have hLow := keeps_low_effY hG.1 (Nat.le_refl _) (Nat.le_refl _) hbr
            try simp only [puts, Act.put, List.setIfInBounds_toArray, List.set_cons_zero, List.set_cons_succ]
            try go_simp
            exact hK.out _ _ _ (by simp only [puts, Act.put, List.setIfInBounds_toArray, List.set_cons_zero, List.set_cons_succ] <;> rfl) ⟨hG, (fun h => f0.out h), (fun h => f1.out h), (fun _ => rfl), (fun h => f3.out h), (fun h => f4.out h), (fun h => f5.out h), (fun h => f6.out h), (fun h => f7.out h), (fun h => f8.out h), (fun h => f9.out h), (fun h => f10.out h), (fun h => f11.out h), (fun h => f12.out h), (fun h => f13.out h), (fun h => f14.out h), (fun h => f15.out h), (fun h => f16.out h), (fun h => f17.out h), (fun h => f18.out h), (fun h => f19.out h)⟩
          · intro L vs W hlen hL hD hI K hK
            obtain ⟨x0, x1, x2, x3, x4, x5, x6, x7, x8, x9, x10, x11, x12, x13, x14, x15, x16, x17, x18, x19, rfl⟩ := len20 hlen
            have hG := hI.1
            replace hI := hI.2
            have f0 := hide hI.1
            replace hI := hI.2
            have f1 := hide hI.1
            replace hI := hI.2
            have f2 := hide hI.1
            replace hI := hI.2
            have f3 := hide hI.1
            replace hI := hI.2
            have f4 := hide hI.1
            replace hI := hI.2
            have f5 := hide hI.1
            replace hI := hI.2
            have f6 := hide hI.1
            replace hI := hI.2
            have f7 := hide hI.1
            replace hI := hI.2
            have f8 := hide hI.1
            replace hI := hI.2
            have f9 := hide hI.1
            replace hI := hI.2
            have f10 := hide hI.1
            replace hI := hI.2
            have f11 := hide hI.1
            replace hI := hI.2
            have f12 := hide hI.1
            replace hI := hI.2
            have f13 := hide hI.1
            replace hI := hI.2
            have f14 := hide hI.1
            replace hI := hI.2
            have f15 := hide hI.1
            replace hI := hI.2
            have f16 := hide hI.1
            replace hI := hI.2
            have f17 := hide hI.1
            replace hI := hI.2
            have f18 := hide hI.1
            replace hI := hI.2
            have f19 := hide hI
            clear hI
            have r00 := hG.1.size
            have hLow := keeps_low_effY hG.1 (Nat.le_refl _) (Nat.le_refl _) hbr
            try simp only [puts, Act.put, List.setIfInBounds_toArray, List.set_cons_zero, List.set_cons_succ]
            try go_simp
            exact hK.out _ _ _ (by simp only [puts, Act.put, List.setIfInBounds_toArray, List.set_cons_zero, List.set_cons_succ] <;> rfl) ⟨hG, (fun h => f0.out h), (fun h => f1.out h), (fun h => f2.out h), (fun _ => rfl), (fun h => f4.out h), (fun h => f5.out h), (fun h => f6.out h), (fun h => f7.out h), (fun h => f8.out h), (fun h => f9.out h), (fun h => f10.out h), (fun h => f11.out h), (fun h => f12.out h), (fun h => f13.out h), (fun h => f14.out h), (fun h => f15.out h), (fun h => f16.out h), (fun h => f17.out h), (fun h => f18.out h), (fun h => f19.out h)⟩
          · intro L vs W hlen hL hD hI K hK
            obtain ⟨x0, x1, x2, x3, x4, x5, x6, x7, x8, x9, x10, x11, x12, x13, x14, x15, x16, x17, x18, x19, rfl⟩ := len20 hlen
            have hG := hI.1
            replace hI := hI.2
            have f0 := hide hI.1
            replace hI := hI.2
            have f1 := hide hI.1
            replace hI := hI.2
            have f2 := hide hI.1
            replace hI := hI.2
            have f3 := hide hI.1
            replace hI := hI.2
            have f4 := hide hI.1
            replace hI := hI.2
            have f5 := hide hI.1
            replace hI := hI.2
            have f6 := hide hI.1
            replace hI := hI.2
            have f7 := hide hI.1
            replace hI := hI.2
            have f8 := hide hI.1
            replace hI := hI.2
            have f9 := hide hI.1
            replace hI := hI.2
            have f10 := hide hI.1
            replace hI := hI.2
            have f11 := hide hI.1
            replace hI := hI.2
            have f12 := hide hI.1
            replace hI := hI.2
            have f13 := hide hI.1
            replace hI := hI.2
            have f14 := hide hI.1
            replace hI := hI.2
            have f15 := hide hI.1
            replace hI := hI.2
            have f16 := hide hI.1
            replace hI := hI.2
            have f17 := hide hI.1
            replace hI := hI.2
            have f18 := hide hI.1
            replace hI := hI.2
            have f19 := hide hI
            clear hI
            have r00 := hG.1.size
            have hLow := keeps_low_effY hG.1 (Nat.le_refl _) (Nat.le_refl _) hbr
            obtain rfl := f3.out (hD.on 3 (by kernel_rfl))
            try simp only [puts, Act.put, List.setIfInBounds_toArray, List.set_cons_zero, List.set_cons_succ]
            have q0 := keep hLow bc1
            go_simp
            exact hK.out _ _ _ (by simp only [puts, Act.put, List.setIfInBounds_toArray, List.set_cons_zero, List.set_cons_succ] <;> rfl) ⟨hG, (fun h => f0.out h), (fun h => f1.out h), (fun h => f2.out h), (fun h => f3.out h), (fun _ => rfl), (fun h => f5.out h), (fun h => f6.out h), (fun h => f7.out h), (fun h => f8.out h), (fun h => f9.out h), (fun h => f10.out h), (fun h => f11.out h), (fun h => f12.out h), (fun h => f13.out h), (fun h => f14.out h), (fun h => f15.out h), (fun h => f16.out h), (fun h => f17.out h), (fun h => f18.out h), (fun h => f19.out h)⟩
          · intro L vs W hlen hL hD hI K hK
            obtain ⟨x0, x1, x2, x3, x4, x5, x6, x7, x8, x9, x10, x11, x12, x13, x14, x15, x16, x17, x18, x19, rfl⟩ := len20 hlen
            have hG := hI.1
            replace hI := hI.2
            have f0 := hide hI.1
            replace hI := hI.2
            have f1 := hide hI.1
            replace hI := hI.2
            have f2 := hide hI.1
            replace hI := hI.2
            have f3 := hide hI.1
            replace hI := hI.2
            have f4 := hide hI.1
            replace hI := hI.2
            have f5 := hide hI.1
            replace hI := hI.2
            have f6 := hide hI.1
            replace hI := hI.2
            have f7 := hide hI.1
            replace hI := hI.2
            have f8 := hide hI.1
            replace hI := hI.2
            have f9 := hide hI.1
            replace hI := hI.2
            have f10 := hide hI.1
            replace hI := hI.2
            have f11 := hide hI.1
            replace hI := hI.2
            have f12 := hide hI.1
            replace hI := hI.2
            have f13 := hide hI.1
            replace hI := hI.2
            have f14 := hide hI.1
            replace hI := hI.2
            have f15 := hide hI.1
            replace hI := hI.2
            have f16 := hide hI.1
            replace hI := hI.2
            have f17 := hide hI.1
            replace hI := hI.2
            have f18 := hide hI.1
            replace hI := hI.2
            have f19 := hide hI
            clear hI
            have r00 := hG.1.size
            have hLow := keeps_low_effY hG.1 (Nat.le_refl _) (Nat.le_refl _) hbr
            try simp only [puts, Act.put, List.setIfInBounds_toArray, List.set_cons_zero, List.set_cons_succ]
            try go_simp
            exact hK.out _ _ _ (by simp only [puts, Act.put, List.setIfInBounds_toArray, List.set_cons_zero, List.set_cons_succ] <;> rfl) ⟨hG, (fun h => f0.out h), (fun h => f1.out h), (fun h => f2.out h), (fun h => f3.out h), (fun h => f4.out h), (fun _ => rfl), (fun h => f6.out h), (fun h => f7.out h), (fun h => f8.out h), (fun h => f9.out h), (fun h => f10.out h), (fun h => f11.out h), (fun h => f12.out h), (fun h => f13.out h), (fun h => f14.out h), (fun h => f15.out h), (fun h => f16.out h), (fun h => f17.out h), (fun h => f18.out h), (fun h => f19.out h)⟩
          · intro L vs W hlen hL hD hI K hK
            obtain ⟨x0, x1, x2, x3, x4, x5, x6, x7, x8, x9, x10, x11, x12, x13, x14, x15, x16, x17, x18, x19, rfl⟩ := len20 hlen
            have hG := hI.1
            replace hI := hI.2
            have f0 := hide hI.1
            replace hI := hI.2
            have f1 := hide hI.1
            replace hI := hI.2
            have f2 := hide hI.1
            replace hI := hI.2
            have f3 := hide hI.1
            replace hI := hI.2
            have f4 := hide hI.1
            replace hI := hI.2
            have f5 := hide hI.1
            replace hI := hI.2
            have f6 := hide hI.1
            replace hI := hI.2
            have f7 := hide hI.1
            replace hI := hI.2
            have f8 := hide hI.1
            replace hI := hI.2
            have f9 := hide hI.1
            replace hI := hI.2
            have f10 := hide hI.1
            replace hI := hI.2
            have f11 := hide hI.1
            replace hI := hI.2
            have f12 := hide hI.1
            replace hI := hI.2
            have f13 := hide hI.1
            replace hI := hI.2
            have f14 := hide hI.1
            replace hI := hI.2
            have f15 := hide hI.1
            replace hI := hI.2
            have f16 := hide hI.1
            replace hI := hI.2
            have f17 := hide hI.1
            replace hI := hI.2
            have f18 := hide hI.1
            replace hI := hI.2
            have f19 := hide hI
            clear hI
            have r00 := hG.1.size
            have hLow := keeps_low_effY hG.1 (Nat.le_refl _) (Nat.le_refl _) hbr
            obtain rfl := f4.out (hD.on 4 (by kernel_rfl))
            obtain rfl := f5.out (hD.on 5 (by kernel_rfl))
            try simp only [puts, Act.put, List.setIfInBounds_toArray, List.set_cons_zero, List.set_cons_succ]
            try go_simp
            exact hK.out _ _ _ (by simp only [puts, Act.put, List.setIfInBounds_toArray, List.set_cons_zero, List.set_cons_succ] <;> rfl) ⟨hG, (fun h => f0.out h), (fun h => f1.out h), (fun h => f2.out h), (fun h => f3.out h), (fun h => f4.out h), (fun h => f5.out h), (fun _ => rfl), (fun h => f7.out h), (fun h => f8.out h), (fun h => f9.out h), (fun h => f10.out h), (fun h => f11.out h), (fun h => f12.out h), (fun h => f13.out h), (fun h => f14.out h), (fun h => f15.out h), (fun h => f16.out h), (fun h => f17.out h), (fun h => f18.out h), (fun h => f19.out h)⟩
          · intro L vs W hlen hL hD hI K hK
            obtain ⟨x0, x1, x2, x3, x4, x5, x6, x7, x8, x9, x10, x11, x12, x13, x14, x15, x16, x17, x18, x19, rfl⟩ := len20 hlen
            have hG := hI.1
            replace hI := hI.2
            have f0 := hide hI.1
            replace hI := hI.2
            have f1 := hide hI.1
            replace hI := hI.2
            have f2 := hide hI.1
            replace hI := hI.2
            have f3 := hide hI.1
            replace hI := hI.2
            have f4 := hide hI.1
            replace hI := hI.2
            have f5 := hide hI.1
            replace hI := hI.2
            have f6 := hide hI.1
            replace hI := hI.2
            have f7 := hide hI.1
            replace hI := hI.2
            have f8 := hide hI.1
            replace hI := hI.2
            have f9 := hide hI.1
            replace hI := hI.2
            have f10 := hide hI.1
            replace hI := hI.2
            have f11 := hide hI.1
            replace hI := hI.2
            have f12 := hide hI.1
            replace hI := hI.2
            have f13 := hide hI.1
            replace hI := hI.2
            have f14 := hide hI.1
            replace hI := hI.2
            have f15 := hide hI.1
            replace hI := hI.2
            have f16 := hide hI.1
            replace hI := hI.2
            have f17 := hide hI.1
            replace hI := hI.2
            have f18 := hide hI.1
            replace hI := hI.2
            have f19 := hide hI
            clear hI
            have r00 := hG.1.size
            have hLow := keeps_low_effY hG.1 (Nat.le_refl _) (Nat.le_refl _) hbr
            obtain rfl := f6.out (hD.on 6 (by kernel_rfl))
            try simp only [puts, Act.put, List.setIfInBounds_toArray, List.set_cons_zero, List.set_cons_succ]
            try go_simp
            exact hK.out _ _ _ (by simp only [puts, Act.put, List.setIfInBounds_toArray, List.set_cons_zero, List.set_cons_succ] <;> rfl) ⟨hG, (fun h => f0.out h), (fun h => f1.out h), (fun h => f2.out h), (fun h => f3.out h), (fun h => f4.out h), (fun h => f5.out h), (fun h => f6.out h), (fun _ => rfl), (fun h => f8.out h), (fun h => f9.out h), (fun h => f10.out h), (fun h => f11.out h), (fun h => f12.out h), (fun h => f13.out h), (fun h => f14.out h), (fun h => f15.out h), (fun h => f16.out h), (fun h => f17.out h), (fun h => f18.out h), (fun h => f19.out h)⟩
          · intro L vs W hlen hL hD hI K hK
            obtain ⟨x0, x1, x2, x3, x4, x5, x6, x7, x8, x9, x10, x11, x12, x13, x14, x15, x16, x17, x18, x19, rfl⟩ := len20 hlen
            have hG := hI.1
            replace hI := hI.2
            have f0 := hide hI.1
            replace hI := hI.2
            have f1 := hide hI.1
            replace hI := hI.2
            have f2 := hide hI.1
            replace hI := hI.2
            have f3 := hide hI.1
            replace hI := hI.2
            have f4 := hide hI.1
            replace hI := hI.2
            have f5 := hide hI.1
            replace hI := hI.2
            have f6 := hide hI.1
            replace hI := hI.2
            have f7 := hide hI.1
            replace hI := hI.2
            have f8 := hide hI.1
            replace hI := hI.2
            have f9 := hide hI.1
            replace hI := hI.2
            have f10 := hide hI.1
            replace hI := hI.2
            have f11 := hide hI.1
            replace hI := hI.2
            have f12 := hide hI.1
            replace hI := hI.2
            have f13 := hide hI.1
            replace hI := hI.2
            have f14 := hide hI.1
            replace hI := hI.2
            have f15 := hide hI.1
            replace hI := hI.2
            have f16 := hide hI.1
            replace hI := hI.2
            have f17 := hide hI.1
            replace hI := hI.2
            have f18 := hide hI.1
            replace hI := hI.2
            have f19 := hide hI
            clear hI
            have r00 := hG.1.size
            have hLow := keeps_low_effY hG.1 (Nat.le_refl _) (Nat.le_refl _) hbr
            obtain rfl := f7.out (hD.on 7 (by kernel_rfl))
            try simp only [puts, Act.put, List.setIfInBounds_toArray, List.set_cons_zero, List.set_cons_succ]
            have q0 := keep hLow y1
            go_simp
            exact hK.out _ _ _ (by simp only [puts, Act.put, List.setIfInBounds_toArray, List.set_cons_zero, List.set_cons_succ] <;> rfl) ⟨hG, (fun h => f0.out h), (fun h => f1.out h), (fun h => f2.out h), (fun h => f3.out h), (fun h => f4.out h), (fun h => f5.out h), (fun h => f6.out h), (fun h => f7.out h), (fun _ => rfl), (fun h => f9.out h), (fun h => f10.out h), (fun h => f11.out h), (fun h => f12.out h), (fun h => f13.out h), (fun h => f14.out h), (fun h => f15.out h), (fun h => f16.out h), (fun h => f17.out h), (fun h => f18.out h), (fun h => f19.out h)⟩
          · intro L vs W hlen hL hD hI K hK
            obtain ⟨x0, x1, x2, x3, x4, x5, x6, x7, x8, x9, x10, x11, x12, x13, x14, x15, x16, x17, x18, x19, rfl⟩ := len20 hlen
            have hG := hI.1
            replace hI := hI.2
            have f0 := hide hI.1
            replace hI := hI.2
            have f1 := hide hI.1
            replace hI := hI.2
            have f2 := hide hI.1
            replace hI := hI.2
            have f3 := hide hI.1
            replace hI := hI.2
            have f4 := hide hI.1
            replace hI := hI.2
            have f5 := hide hI.1
            replace hI := hI.2
            have f6 := hide hI.1
            replace hI := hI.2
            have f7 := hide hI.1
            replace hI := hI.2
            have f8 := hide hI.1
            replace hI := hI.2
            have f9 := hide hI.1
            replace hI := hI.2
            have f10 := hide hI.1
            replace hI := hI.2
            have f11 := hide hI.1
            replace hI := hI.2
            have f12 := hide hI.1
            replace hI := hI.2
            have f13 := hide hI.1
            replace hI := hI.2
            have f14 := hide hI.1
            replace hI := hI.2
            have f15 := hide hI.1
            replace hI := hI.2
            have f16 := hide hI.1
            replace hI := hI.2
            have f17 := hide hI.1
            replace hI := hI.2
            have f18 := hide hI.1
            replace hI := hI.2
            have f19 := hide hI
            clear hI
            have r00 := hG.1.size
            have hLow := keeps_low_effY hG.1 (Nat.le_refl _) (Nat.le_refl _) hbr
            try simp only [puts, Act.put, List.setIfInBounds_toArray, List.set_cons_zero, List.set_cons_succ]
            try go_simp
            exact hK.out _ _ _ (by simp only [puts, Act.put, List.setIfInBounds_toArray, List.set_cons_zero, List.set_cons_succ] <;> rfl) ⟨hG, (fun h => f0.out h), (fun h => f1.out h), (fun h => f2.out h), (fun h => f3.out h), (fun h => f4.out h), (fun h => f5.out h), (fun h => f6.out h), (fun h => f7.out h), (fun h => f8.out h), (fun _ => rfl), (fun h => f10.out h), (fun h => f11.out h), (fun h => f12.out h), (fun h => f13.out h), (fun h => f14.out h), (fun h => f15.out h), (fun h => f16.out h), (fun h => f17.out h), (fun h => f18.out h), (fun h => f19.out h)⟩
          · intro L vs W hlen hL hD hI K hK
            obtain ⟨x0, x1, x2, x3, x4, x5, x6, x7, x8, x9, x10, x11, x12, x13, x14, x15, x16, x17, x18, x19, rfl⟩ := len20 hlen
            have hG := hI.1
            replace hI := hI.2
            have f0 := hide hI.1
            replace hI := hI.2
            have f1 := hide hI.1
            replace hI := hI.2
            have f2 := hide hI.1
            replace hI := hI.2
            have f3 := hide hI.1
            replace hI := hI.2
            have f4 := hide hI.1
            replace hI := hI.2
            have f5 := hide hI.1
            replace hI := hI.2
            have f6 := hide hI.1
            replace hI := hI.2
            have f7 := hide hI.1
            replace hI := hI.2
            have f8 := hide hI.1
            replace hI := hI.2
            have f9 := hide hI.1
            replace hI := hI.2
            have f10 := hide hI.1
            replace hI := hI.2
            have f11 := hide hI.1
            replace hI := hI.2
            have f12 := hide hI.1
            replace hI := hI.2
            have f13 := hide hI.1
            replace hI := hI.2
            have f14 := hide hI.1
            replace hI := hI.2
            have f15 := hide hI.1
            replace hI := hI.2
            have f16 := hide hI.1
            replace hI := hI.2
            have f17 := hide hI.1
            replace hI := hI.2
            have f18 := hide hI.1
            replace hI := hI.2
            have f19 := hide hI
            clear hI
            have r00 := hG.1.size
            have hLow := keeps_low_effY hG.1 (Nat.le_refl _) (Nat.le_refl _) hbr
            obtain rfl := f9.out (hD.on 9 (by kernel_rfl))
            try simp only [puts, Act.put, List.setIfInBounds_toArray, List.set_cons_zero, List.set_cons_succ]
            have q0 := keep hLow bc1
            go_simp
            exact hK.out _ _ _ (by simp only [puts, Act.put, List.setIfInBounds_toArray, List.set_cons_zero, List.set_cons_succ] <;> rfl) ⟨hG, (fun h => f0.out h), (fun h => f1.out h), (fun h => f2.out h), (fun h => f3.out h), (fun h => f4.out h), (fun h => f5.out h), (fun h => f6.out h), (fun h => f7.out h), (fun h => f8.out h), (fun h => f9.out h), (fun _ => rfl), (fun h => f11.out h), (fun h => f12.out h), (fun h => f13.out h), (fun h => f14.out h), (fun h => f15.out h), (fun h => f16.out h), (fun h => f17.out h), (fun h => f18.out h), (fun h => f19.out h)⟩
          · intro L vs W hlen hL hD hI K hK
            obtain ⟨x0, x1, x2, x3, x4, x5, x6, x7, x8, x9, x10, x11, x12, x13, x14, x15, x16, x17, x18, x19, rfl⟩ := len20 hlen
            have hG := hI.1
            replace hI := hI.2
            have f0 := hide hI.1
            replace hI := hI.2
            have f1 := hide hI.1
            replace hI := hI.2
            have f2 := hide hI.1
            replace hI := hI.2
            have f3 := hide hI.1
            replace hI := hI.2
            have f4 := hide hI.1
            replace hI := hI.2
            have f5 := hide hI.1
            replace hI := hI.2
            have f6 := hide hI.1
            replace hI := hI.2
            have f7 := hide hI.1
            replace hI := hI.2
            have f8 := hide hI.1
            replace hI := hI.2
            have f9 := hide hI.1
            replace hI := hI.2
            have f10 := hide hI.1
            replace hI := hI.2
            have f11 := hide hI.1
            replace hI := hI.2
            have f12 := hide hI.1
            replace hI := hI.2
            have f13 := hide hI.1
            replace hI := hI.2
            have f14 := hide hI.1
            replace hI := hI.2
            have f15 := hide hI.1
            replace hI := hI.2
            have f16 := hide hI.1
            replace hI := hI.2
            have f17 := hide hI.1
            replace hI := hI.2
            have f18 := hide hI.1
            replace hI := hI.2
            have f19 := hide hI
            clear hI
            have r00 := hG.1.size
            have hLow := keeps_low_effY hG.1 (Nat.le_refl _) (Nat.le_refl _) hbr
            try simp only [puts, Act.put, List.setIfInBounds_toArray, List.set_cons_zero, List.set_cons_succ]
            try go_simp
            exact hK.out _ _ _ (by simp only [puts, Act.put, List.setIfInBounds_toArray, List.set_cons_zero, List.set_cons_succ] <;> rfl) ⟨hG, (fun h => f0.out h), (fun h => f1.out h), (fun h => f2.out h), (fun h => f3.out h), (fun h => f4.out h), (fun h => f5.out h), (fun h => f6.out h), (fun h => f7.out h), (fun h => f8.out h), (fun h => f9.out h), (fun h => f10.out h), (fun _ => rfl), (fun h => f12.out h), (fun h => f13.out h), (fun h => f14.out h), (fun h => f15.out h), (fun h => f16.out h), (fun h => f17.out h), (fun h => f18.out h), (fun h => f19.out h)⟩
          · intro L vs W hlen hL hD hI K hK
            obtain ⟨x0, x1, x2, x3, x4, x5, x6, x7, x8, x9, x10, x11, x12, x13, x14, x15, x16, x17, x18, x19, rfl⟩ := len20 hlen
            have hG := hI.1
            replace hI := hI.2
            have f0 := hide hI.1
            replace hI := hI.2
            have f1 := hide hI.1
            replace hI := hI.2
            have f2 := hide hI.1
            replace hI := hI.2
            have f3 := hide hI.1
            replace hI := hI.2
            have f4 := hide hI.1
            replace hI := hI.2
            have f5 := hide hI.1
            replace hI := hI.2
            have f6 := hide hI.1
            replace hI := hI.2
            have f7 := hide hI.1
            replace hI := hI.2
            have f8 := hide hI.1
            replace hI := hI.2
            have f9 := hide hI.1
            replace hI := hI.2
            have f10 := hide hI.1
            replace hI := hI.2
            have f11 := hide hI.1
            replace hI := hI.2
            have f12 := hide hI.1
            replace hI := hI.2
            have f13 := hide hI.1
            replace hI := hI.2
            have f14 := hide hI.1
            replace hI := hI.2
            have f15 := hide hI.1
            replace hI := hI.2
            have f16 := hide hI.1
            replace hI := hI.2
            have f17 := hide hI.1
            replace hI := hI.2
            have f18 := hide hI.1
            replace hI := hI.2
            have f19 := hide hI
            clear hI
            have r00 := hG.1.size
            have hLow := keeps_low_effY hG.1 (Nat.le_refl _) (Nat.le_refl _) hbr
            obtain rfl := f10.out (hD.on 10 (by kernel_rfl))
            obtain rfl := f11.out (hD.on 11 (by kernel_rfl))
            try simp only [puts, Act.put, List.setIfInBounds_toArray, List.set_cons_zero, List.set_cons_succ]
            try go_simp
            exact hK.out _ _ _ (by simp only [puts, Act.put, List.setIfInBounds_toArray, List.set_cons_zero, List.set_cons_succ] <;> rfl) ⟨hG, (fun h => f0.out h), (fun h => f1.out h), (fun h => f2.out h), (fun h => f3.out h), (fun h => f4.out h), (fun h => f5.out h), (fun h => f6.out h), (fun h => f7.out h), (fun h => f8.out h), (fun h => f9.out h), (fun h => f10.out h), (fun h => f11.out h), (fun _ => rfl), (fun h => f13.out h), (fun h => f14.out h), (fun h => f15.out h), (fun h => f16.out h), (fun h => f17.out h), (fun h => f18.out h), (fun h => f19.out h)⟩
          · intro L vs W hlen hL hD hI K hK
            obtain ⟨x0, x1, x2, x3, x4, x5, x6, x7, x8, x9, x10, x11, x12, x13, x14, x15, x16, x17, x18, x19, rfl⟩ := len20 hlen
            have hG := hI.1
            replace hI := hI.2
            have f0 := hide hI.1
            replace hI := hI.2
            have f1 := hide hI.1
            replace hI := hI.2
            have f2 := hide hI.1
            replace hI := hI.2
            have f3 := hide hI.1
            replace hI := hI.2
            have f4 := hide hI.1
            replace hI := hI.2
            have f5 := hide hI.1
            replace hI := hI.2
            have f6 := hide hI.1
            replace hI := hI.2
            have f7 := hide hI.1
            replace hI := hI.2
            have f8 := hide hI.1
            replace hI := hI.2
            have f9 := hide hI.1
            replace hI := hI.2
            have f10 := hide hI.1
            replace hI := hI.2
            have f11 := hide hI.1
            replace hI := hI.2
            have f12 := hide hI.1
            replace hI := hI.2
            have f13 := hide hI.1
            replace hI := hI.2
            have f14 := hide hI.1
            replace hI := hI.2
            have f15 := hide hI.1
            replace hI := hI.2
            have f16 := hide hI.1
            replace hI := hI.2
            have f17 := hide hI.1
            replace hI := hI.2
            have f18 := hide hI.1
            replace hI := hI.2
            have f19 := hide hI
            clear hI
            have r00 := hG.1.size
            have hLow := keeps_low_effY hG.1 (Nat.le_refl _) (Nat.le_refl _) hbr
            obtain rfl := f12.out (hD.on 12 (by kernel_rfl))
            try simp only [puts, Act.put, List.setIfInBounds_toArray, List.set_cons_zero, List.set_cons_succ]
            try go_simp
            exact hK.out _ _ _ (by simp only [puts, Act.put, List.setIfInBounds_toArray, List.set_cons_zero, List.set_cons_succ] <;> rfl) ⟨hG, (fun h => f0.out h), (fun h => f1.out h), (fun h => f2.out h), (fun h => f3.out h), (fun h => f4.out h), (fun h => f5.out h), (fun h => f6.out h), (fun h => f7.out h), (fun h => f8.out h), (fun h => f9.out h), (fun h => f10.out h), (fun h => f11.out h), (fun h => f12.out h), (fun _ => rfl), (fun h => f14.out h), (fun h => f15.out h), (fun h => f16.out h), (fun h => f17.out h), (fun h => f18.out h), (fun h => f19.out h)⟩
          · intro L vs W hlen hL hD hI K hK
            obtain ⟨x0, x1, x2, x3, x4, x5, x6, x7, x8, x9, x10, x11, x12, x13, x14, x15, x16, x17, x18, x19, rfl⟩ := len20 hlen
            have hG := hI.1
            replace hI := hI.2
            have f0 := hide hI.1
            replace hI := hI.2
            have f1 := hide hI.1
            replace hI := hI.2
            have f2 := hide hI.1
            replace hI := hI.2
            have f3 := hide hI.1
            replace hI := hI.2
            have f4 := hide hI.1
            replace hI := hI.2
            have f5 := hide hI.1
            replace hI := hI.2
            have f6 := hide hI.1
            replace hI := hI.2
            have f7 := hide hI.1
            replace hI := hI.2
            have f8 := hide hI.1
            replace hI := hI.2
            have f9 := hide hI.1
            replace hI := hI.2
            have f10 := hide hI.1
            replace hI := hI.2
            have f11 := hide hI.1
            replace hI := hI.2
            have f12 := hide hI.1
            replace hI := hI.2
            have f13 := hide hI.1
            replace hI := hI.2
            have f14 := hide hI.1
            replace hI := hI.2
            have f15 := hide hI.1
            replace hI := hI.2
            have f16 := hide hI.1
            replace hI := hI.2
            have f17 := hide hI.1
            replace hI := hI.2
            have f18 := hide hI.1
            replace hI := hI.2
            have f19 := hide hI
            clear hI
            have r00 := hG.1.size
            have hLow := keeps_low_effY hG.1 (Nat.le_refl _) (Nat.le_refl _) hbr
            obtain rfl := f13.out (hD.on 13 (by kernel_rfl))
            try simp only [puts, Act.put, List.setIfInBounds_toArray, List.set_cons_zero, List.set_cons_succ]
            have q0 := keep hLow y2
            go_simp
            exact hK.out _ _ _ (by simp only [puts, Act.put, List.setIfInBounds_toArray, List.set_cons_zero, List.set_cons_succ] <;> rfl) ⟨hG, (fun h => f0.out h), (fun h => f1.out h), (fun h => f2.out h), (fun h => f3.out h), (fun h => f4.out h), (fun h => f5.out h), (fun h => f6.out h), (fun h => f7.out h), (fun h => f8.out h), (fun h => f9.out h), (fun h => f10.out h), (fun h => f11.out h), (fun h => f12.out h), (fun h => f13.out h), (fun _ => rfl), (fun h => f15.out h), (fun h => f16.out h), (fun h => f17.out h), (fun h => f18.out h), (fun h => f19.out h)⟩
          · intro L vs W hlen hL hD hI K hK
            obtain ⟨x0, x1, x2, x3, x4, x5, x6, x7, x8, x9, x10, x11, x12, x13, x14, x15, x16, x17, x18, x19, rfl⟩ := len20 hlen
            have hG := hI.1
            replace hI := hI.2
            have f0 := hide hI.1
            replace hI := hI.2
            have f1 := hide hI.1
            replace hI := hI.2
            have f2 := hide hI.1
            replace hI := hI.2
            have f3 := hide hI.1
            replace hI := hI.2
            have f4 := hide hI.1
            replace hI := hI.2
            have f5 := hide hI.1
            replace hI := hI.2
            have f6 := hide hI.1
            replace hI := hI.2
            have f7 := hide hI.1
            replace hI := hI.2
            have f8 := hide hI.1
            replace hI := hI.2
            have f9 := hide hI.1
            replace hI := hI.2
            have f10 := hide hI.1
            replace hI := hI.2
            have f11 := hide hI.1
            replace hI := hI.2
            have f12 := hide hI.1
            replace hI := hI.2
            have f13 := hide hI.1
            replace hI := hI.2
            have f14 := hide hI.1
            replace hI := hI.2
            have f15 := hide hI.1
            replace hI := hI.2
            have f16 := hide hI.1
            replace hI := hI.2
            have f17 := hide hI.1
            replace hI := hI.2
            have f18 := hide hI.1
            replace hI := hI.2
            have f19 := hide hI
            clear hI
            have r00 := hG.1.size
            have hLow := keeps_low_effY hG.1 (Nat.le_refl _) (Nat.le_refl _) hbr
            obtain rfl := f2.out (hD.on 2 (by kernel_rfl))
            obtain rfl := f8.out (hD.on 8 (by kernel_rfl))
            obtain rfl := f14.out (hD.on 14 (by kernel_rfl))
            try simp only [puts, Act.put, List.setIfInBounds_toArray, List.set_cons_zero, List.set_cons_succ]
            try go_simp
            exact hK.out _ _ _ (by simp only [puts, Act.put, List.setIfInBounds_toArray, List.set_cons_zero, List.set_cons_succ] <;> rfl) ⟨hG, (fun h => f0.out h), (fun h => f1.out h), (fun h => f2.out h), (fun h => f3.out h), (fun h => f4.out h), (fun h => f5.out h), (fun h => f6.out h), (fun h => f7.out h), (fun h => f8.out h), (fun h => f9.out h), (fun h => f10.out h), (fun h => f11.out h), (fun h => f12.out h), (fun h => f13.out h), (fun h => f14.out h), (fun _ => rfl), (fun h => f16.out h), (fun h => f17.out h), (fun h => f18.out h), (fun h => f19.out h)⟩
          · intro L vs W hlen hL hD hI K hK
            obtain ⟨x0, x1, x2, x3, x4, x5, x6, x7, x8, x9, x10, x11, x12, x13, x14, x15, x16, x17, x18, x19, rfl⟩ := len20 hlen
            have hG := hI.1
            replace hI := hI.2
            have f0 := hide hI.1
            replace hI := hI.2
            have f1 := hide hI.1
            replace hI := hI.2
            have f2 := hide hI.1
            replace hI := hI.2
            have f3 := hide hI.1
            replace hI := hI.2
            have f4 := hide hI.1
            replace hI := hI.2
            have f5 := hide hI.1
            replace hI := hI.2
            have f6 := hide hI.1
            replace hI := hI.2
            have f7 := hide hI.1
            replace hI := hI.2
            have f8 := hide hI.1
            replace hI := hI.2
            have f9 := hide hI.1
            replace hI := hI.2
            have f10 := hide hI.1
            replace hI := hI.2
            have f11 := hide hI.1
            replace hI := hI.2
            have f12 := hide hI.1
            replace hI := hI.2
            have f13 := hide hI.1
            replace hI := hI.2
            have f14 := hide hI.1
            replace hI := hI.2
            have f15 := hide hI.1
            replace hI := hI.2
            have f16 := hide hI.1
            replace hI := hI.2
            have f17 := hide hI.1
            replace hI := hI.2
            have f18 := hide hI.1
            replace hI := hI.2
            have f19 := hide hI
            clear hI
            have r00 := hG.1.size
            have hLow := keeps_low_effY hG.1 (Nat.le_refl _) (Nat.le_refl _) hbr
            obtain rfl := f15.out (hD.on 15 (by kernel_rfl))
            try simp only [puts, Act.put, List.setIfInBounds_toArray, List.set_cons_zero, List.set_cons_succ]
            go_simp
            generalize hW' : World.alloc W _ = W'
            have hb : Below W.heap.size W W' := by rw [← hW']; exact bal W _
            exact hK.out _ _ _ (by simp only [puts, Act.put, List.setIfInBounds_toArray, List.set_cons_zero, List.set_cons_succ] <;> rfl) ⟨⟨hG.1.then hb, fun h => (hG.2.1 h).later hb, fun h => (hG.2.2 h).later' hb⟩, (fun h => f0.out h), (fun h => f1.out h), (fun h => f2.out h), (fun h => f3.out h), (fun h => f4.out h), (fun h => f5.out h), (fun h => f6.out h), (fun h => f7.out h), (fun h => f8.out h), (fun h => f9.out h), (fun h => f10.out h), (fun h => f11.out h), (fun h => f12.out h), (fun h => f13.out h), (fun h => f14.out h), (fun h => f15.out h), (fun _ => fun _ => ⟨W.heap.size, rfl, by rw [← hW']; exact Blk.newA W _ rfl⟩), (fun h => (fun h => let ⟨g1, c1, e, ho⟩ := h; ⟨g1, c1, e, ho.later' hb⟩) (f17.out h)), (fun h => f18.out h), (fun h => (fun h => ⟨h.1, let ⟨g1, c1, e, hk⟩ := h.2; ⟨g1, c1, e, hk.later hb⟩⟩) (f19.out h))⟩
          · intro L vs W hlen hL hD hI K hK
            obtain ⟨x0, x1, x2, x3, x4, x5, x6, x7, x8, x9, x10, x11, x12, x13, x14, x15, x16, x17, x18, x19, rfl⟩ := len20 hlen
            have hG := hI.1
            replace hI := hI.2
            have f0 := hide hI.1
            replace hI := hI.2
            have f1 := hide hI.1
            replace hI := hI.2
            have f2 := hide hI.1
            replace hI := hI.2
            have f3 := hide hI.1
            replace hI := hI.2
            have f4 := hide hI.1
            replace hI := hI.2
            have f5 := hide hI.1
            replace hI := hI.2
            have f6 := hide hI.1
            replace hI := hI.2
            have f7 := hide hI.1
            replace hI := hI.2
            have f8 := hide hI.1
            replace hI := hI.2
            have f9 := hide hI.1
            replace hI := hI.2
            have f10 := hide hI.1
            replace hI := hI.2
            have f11 := hide hI.1
            replace hI := hI.2
            have f12 := hide hI.1
            replace hI := hI.2
            have f13 := hide hI.1
            replace hI := hI.2
            have f14 := hide hI.1
            replace hI := hI.2
            have f15 := hide hI.1
            replace hI := hI.2
            have f16 := hide hI.1
            replace hI := hI.2
            have f17 := hide hI.1
            replace hI := hI.2
            have f18 := hide hI.1
            replace hI := hI.2
            have f19 := hide hI
            clear hI
            have r00 := hG.1.size
            have hLow := keeps_low_effY hG.1 (Nat.le_refl _) (Nat.le_refl _) hbr
            obtain rfl := f1.out (hD.on 1 (by kernel_rfl))
            have g16 := f16.out (hD.on 16 (by kernel_rfl))
            try simp only [puts, Act.put, List.setIfInBounds_toArray, List.set_cons_zero, List.set_cons_succ]
            obtain ⟨b0, rfl, hB0⟩ := g16 hL
            refine step_one infoRepeal rfl (by decide) Try.underlying31 rfl _ _ rfl (w.heap.size) _ Lr rfl (hG.2.2 hL) b0 _ rfl hB0 rfl (repealC_one (x := ⟨KI, y.pub, y.from_⟩)) (by omega) (by omega) (by omega) ?_
            intro g1 c1 W' hO' hE'
            have hb : True := trivial
            exact hK.out _ _ _ (by simp only [puts, Act.put, List.setIfInBounds_toArray, List.set_cons_zero, List.set_cons_succ] <;> rfl) ⟨⟨hG.1.app hE', fun h => hE'.blk (hG.2.1 h) (by decide), fun h => (by cases h)⟩, (fun h => f0.out h), (fun h => f1.out h), (fun h => f2.out h), (fun h => f3.out h), (fun h => f4.out h), (fun h => f5.out h), (fun h => f6.out h), (fun h => f7.out h), (fun h => f8.out h), (fun h => f9.out h), (fun h => f10.out h), (fun h => f11.out h), (fun h => f12.out h), (fun h => f13.out h), (fun h => f14.out h), (fun h => f15.out h), (fun h => (fun h => (fun h21 => by cases h21)) (f16.out h)), (fun _ => ⟨g1, c1, rfl, hO'⟩), (fun h => f18.out h), (fun h => (fun h => absurd (h.1.2.symm.trans hL) (by decide)) (f19.out h))⟩
          · intro L vs W hlen hL hD hI K hK
            obtain ⟨x0, x1, x2, x3, x4, x5, x6, x7, x8, x9, x10, x11, x12, x13, x14, x15, x16, x17, x18, x19, rfl⟩ := len20 hlen
            have hG := hI.1
            replace hI := hI.2
            have f0 := hide hI.1
            replace hI := hI.2
            have f1 := hide hI.1
            replace hI := hI.2
            have f2 := hide hI.1
            replace hI := hI.2
            have f3 := hide hI.1
            replace hI := hI.2
            have f4 := hide hI.1
            replace hI := hI.2
            have f5 := hide hI.1
            replace hI := hI.2
            have f6 := hide hI.1
            replace hI := hI.2
            have f7 := hide hI.1
            replace hI := hI.2
            have f8 := hide hI.1
            replace hI := hI.2
            have f9 := hide hI.1
            replace hI := hI.2
            have f10 := hide hI.1
            replace hI := hI.2
            have f11 := hide hI.1
            replace hI := hI.2
            have f12 := hide hI.1
            replace hI := hI.2
            have f13 := hide hI.1
            replace hI := hI.2
            have f14 := hide hI.1
            replace hI := hI.2
            have f15 := hide hI.1
            replace hI := hI.2
            have f16 := hide hI.1
            replace hI := hI.2
            have f17 := hide hI.1
            replace hI := hI.2
            have f18 := hide hI.1
            replace hI := hI.2
            have f19 := hide hI
            clear hI
            have r00 := hG.1.size
            have hLow := keeps_low_effY hG.1 (Nat.le_refl _) (Nat.le_refl _) hbr
            try simp only [puts, Act.put, List.setIfInBounds_toArray, List.set_cons_zero, List.set_cons_succ]
            try go_simp
            exact hK.out _ _ _ (by simp only [puts, Act.put, List.setIfInBounds_toArray, List.set_cons_zero, List.set_cons_succ] <;> rfl) ⟨hG, (fun h => f0.out h), (fun h => f1.out h), (fun h => f2.out h), (fun h => f3.out h), (fun h => f4.out h), (fun h => f5.out h), (fun h => f6.out h), (fun h => f7.out h), (fun h => f8.out h), (fun h => f9.out h), (fun h => f10.out h), (fun h => f11.out h), (fun h => f12.out h), (fun h => f13.out h), (fun h => f14.out h), (fun h => f15.out h), (fun h => f16.out h), (fun h => f17.out h), (fun _ => rfl), (fun h => f19.out h)⟩
          · intro L vs W hlen hL hD hI K hK
            obtain ⟨x0, x1, x2, x3, x4, x5, x6, x7, x8, x9, x10, x11, x12, x13, x14, x15, x16, x17, x18, x19, rfl⟩ := len20 hlen
            have hG := hI.1
            replace hI := hI.2
            have f0 := hide hI.1
            replace hI := hI.2
            have f1 := hide hI.1
            replace hI := hI.2
            have f2 := hide hI.1
            replace hI := hI.2
            have f3 := hide hI.1
            replace hI := hI.2
            have f4 := hide hI.1
            replace hI := hI.2
            have f5 := hide hI.1
            replace hI := hI.2
            have f6 := hide hI.1
            replace hI := hI.2
            have f7 := hide hI.1
            replace hI := hI.2
            have f8 := hide hI.1
            replace hI := hI.2
            have f9 := hide hI.1
            replace hI := hI.2
            have f10 := hide hI.1
            replace hI := hI.2
            have f11 := hide hI.1
            replace hI := hI.2
            have f12 := hide hI.1
            replace hI := hI.2
            have f13 := hide hI.1
            replace hI := hI.2
            have f14 := hide hI.1
            replace hI := hI.2
            have f15 := hide hI.1
            replace hI := hI.2
            have f16 := hide hI.1
            replace hI := hI.2
            have f17 := hide hI.1
            replace hI := hI.2
            have f18 := hide hI.1
            replace hI := hI.2
            have f19 := hide hI
            clear hI
            have r00 := hG.1.size
            have hLow := keeps_low_effY hG.1 (Nat.le_refl _) (Nat.le_refl _) hbr
            obtain rfl := f1.out (hD.on 1 (by kernel_rfl))
            have g17 := f17.out (hD.on 17 (by kernel_rfl))
            obtain rfl := f18.out (hD.on 18 (by kernel_rfl))
            try simp only [puts, Act.put, List.setIfInBounds_toArray, List.set_cons_zero, List.set_cons_succ]
            obtain ⟨g1, c1, rfl, hO1⟩ := g17
            have bC0 := hG.2.1 hL
            have z0 := bC0.frozen 1
            have z1 := bC0.cell 1 rfl
            go_simp
            have hb : True := trivial
            exact hK.out _ undef _ (by simp only [puts, Act.put, List.setIfInBounds_toArray, List.set_cons_zero, List.set_cons_succ] <;> rfl) ⟨⟨hG.1.set 1 _, fun h => (by cases h), fun h => absurd (h.symm.trans (hD.on 17 (by kernel_rfl))) (by decide)⟩, (fun h => f0.out h), (fun h => f1.out h), (fun h => f2.out h), (fun h => f3.out h), (fun h => f4.out h), (fun h => f5.out h), (fun h => f6.out h), (fun h => f7.out h), (fun h => f8.out h), (fun h => f9.out h), (fun h => f10.out h), (fun h => f11.out h), (fun h => f12.out h), (fun h => f13.out h), (fun h => f14.out h), (fun h => f15.out h), (fun h => (fun h => (fun h21 => absurd (h21.symm.trans (hD.on 17 (by kernel_rfl))) (by decide))) (f16.out h)), (fun h => (fun h => let ⟨g2, c2, e, ho⟩ := h; ⟨g2, c2, e, ho.setO bC0 (by decide) _⟩) (f17.out h)), (fun h => f18.out h), (fun _ => ⟨⟨hD.on 1 (by kernel_rfl), hD.on 17 (by kernel_rfl)⟩, g1, c1, rfl, bC0.set 1 _⟩)⟩
        intro L vs W hlen hall hI
        obtain ⟨x0, x1, x2, x3, x4, x5, x6, x7, x8, x9, x10, x11, x12, x13, x14, x15, x16, x17, x18, x19, rfl⟩ := len20 hlen
        have hG := hI.1
        replace hI := hI.2
        have f0 := hide hI.1
        replace hI := hI.2
        have f1 := hide hI.1
        replace hI := hI.2
        have f2 := hide hI.1
        replace hI := hI.2
        have f3 := hide hI.1
        replace hI := hI.2
        have f4 := hide hI.1
        replace hI := hI.2
        have f5 := hide hI.1
        replace hI := hI.2
        have f6 := hide hI.1
        replace hI := hI.2
        have f7 := hide hI.1
        replace hI := hI.2
        have f8 := hide hI.1
        replace hI := hI.2
        have f9 := hide hI.1
        replace hI := hI.2
        have f10 := hide hI.1
        replace hI := hI.2
        have f11 := hide hI.1
        replace hI := hI.2
        have f12 := hide hI.1
        replace hI := hI.2
        have f13 := hide hI.1
        replace hI := hI.2
        have f14 := hide hI.1
        replace hI := hI.2
        have f15 := hide hI.1
        replace hI := hI.2
        have f16 := hide hI.1
        replace hI := hI.2
        have f17 := hide hI.1
        replace hI := hI.2
        have f18 := hide hI.1
        replace hI := hI.2
        have f19 := hide hI
        clear hI
        obtain rfl := f0.out (hall 0 (by decide))
        obtain rfl := f1.out (hall 1 (by decide))
        obtain rfl := f2.out (hall 2 (by decide))
        obtain rfl := f3.out (hall 3 (by decide))
        obtain rfl := f4.out (hall 4 (by decide))
        obtain rfl := f5.out (hall 5 (by decide))
        obtain rfl := f6.out (hall 6 (by decide))
        obtain rfl := f7.out (hall 7 (by decide))
        obtain rfl := f8.out (hall 8 (by decide))
        obtain rfl := f9.out (hall 9 (by decide))
        obtain rfl := f10.out (hall 10 (by decide))
        obtain rfl := f11.out (hall 11 (by decide))
        obtain rfl := f12.out (hall 12 (by decide))
        obtain rfl := f13.out (hall 13 (by decide))
        obtain rfl := f14.out (hall 14 (by decide))
        obtain rfl := f15.out (hall 15 (by decide))
        have g16 := f16.out (hall 16 (by decide))
        have g17 := f17.out (hall 17 (by decide))
        obtain rfl := f18.out (hall 18 (by decide))
        have g19 := f19.out (hall 19 (by decide))
        have hal := hide hall
        clear hall f0 f1 f2 f3 f4 f5 f6 f7 f8 f9 f10 f11 f12 f13 f14 f15 f16 f17 f18 f19
        try simp only [puts, Act.put, List.setIfInBounds_toArray, List.set_cons_zero, List.set_cons_succ]
        obtain ⟨g1, c1, e21, hO21⟩ := g17
        obtain ⟨-, g2, c2, e22, hC23⟩ := g19
        have HB2 := hide (keeps_low_effY hG.1 (Nat.le_refl _) (Nat.le_refl _) hbr)
        have HS2 : Hid (w.heap.size < W.heap.size) := hide (Nat.lt_of_lt_of_le hsz hG.1.size)
        have HF2 := hide (hF.kept hG.1 bC1 (by decide) (by decide))
        have HCL2 := hide (hcl.kept hG.1 bC1 (by decide) (by decide) (by decide) (by decide))
        have HC2 := hide hC23
        have HOR := hide hO21
        clear hO21 hC23 hG hOR bC1 hal hbr hF hcl
        subst e21
        clear e22
        go_wp2_with fail
        go_roundw
        case rel => exact ⟨k + 1, _, by have := HK.out; omega, by go_num, by rw [HTK.out, List.map_append, HLr.out]; exact HOR.out, HCL2.out, HF2.out, HC2.out, HB2.out, HS2.out⟩
        case measure => have := HK.out; simp [intOf]; omega
      · rw [if_neg hK] at HTK
        have hk9 : decide (0 ≤ KI) = false := decide_eq_false hK
        go_wp2_with fail
        go_roundw
        case rel => exact ⟨k + 1, _, by have := HK.out; omega, by go_num, by rw [HTK.out, HLr.out]; exact hOR, hcl, hF, bC1, hbr, hsz⟩
        case measure => have := HK.out; simp [intOf]; omega
    · obtain rfl : k = c.repeals.length := by omega
      have hown' := hown
      rw [HE.out] at hown'
      have HO := hide hown'
      have hC9 := hbC
      clear hown hown'
      subst e0
      go_wp2_with fail
      exact hexit _ _ _ _ _ _ _ _ _ _ _ _ _ _ _ _ _ _ _ _ _ _ _ _ _ _ _ _ _ _ _ _ _ _ _ _ _ _ wr _ HO.out hcl hF hC9 hbr hsz
end Go.Proofs.Ytdjldidfnddpmaa
/- The walk of StatuteLeans. Conditions: how the arguments lie in memory; that integers are of 64 bits. -/
namespace Go.Proofs.Ytdjldidfnddpmaa
open Go.RowKit
theorem findC_one1 {x : FindD} : ∀ u ∈ findC x, u.oneCell' = true := by
  intro u hu; simp only [findC, List.mem_cons, List.not_mem_nil, or_false] at hu; rcases hu with rfl | rfl | rfl | rfl <;> rfl
set_option maxRecDepth 100000 in
set_option maxHeartbeats 4000000 in
theorem leans_loop4 (W0 : World) (P : List FindD) (U V : List Int) (la ua va_ : Option Addr) (ln un vn : Nat) (hP : FindsIn W0.cell? (.slice la P.length ln) P) (hU : IntsIn W0.cell? (.slice ua U.length un) U) (hV : IntsIn W0.cell? (.slice va_ V.length vn) V) (hpl : P.length ≤ 20)
    (Q0 : Exit → Act → World → Prop) (u0 u1 u2 u3 u4 u5 u6 u7 u9 u12 u13 u14 u15 u16 u17 u20 u21 u22 u23 u24 u25 u26 u27 u28 u29 u30 u31 u32 u33 u34 u35 u36 u37 u38 u39 u40 u41 u42 u43 u44 u45 u46 u47 u48 u49 u50 u51 u52 u53 u54 u55 u56 u57 u58 u59 u60 u61 u62 u63 u64 u65 u66 u67 u68 u69 u70 u71 u72 u73 u74 u75 u76 u77 u78 u79 u80 u81 u82 u83 u84 u85 u86 u87 u88 u89 u90 u91 u92 u93 u94 u95 u96 u97 u98 u99 u100 u101 u102 u103 u104 u105 u106 u107 u108 u109 u110 u111 u112 u113 u114 u115 u116 u117 u118 u119 u120 u121 u122 u123 u124 u125 u126 u127 u128 u129 u130 u131 u132 u133 u134 u135 u136 u137 u138 u139 u140 u141 u142 u143 u144 u145 u146 u147 u148 u149 u150 u151 u152 u153 u154 u155 u156 u157 u158 u159 u160 u161 u162 u163 u164 u165 u166 u167 u168 u169 u170 u171 u172 u173 u174 u175 u176 u177 u178 u179 u180 u181 u182 u183 u184 u185 u186 u187 u188 u189 u190 u191 u192 u193 u194 u195 u196 u197 u198 u199 u200 u201 u202 u203 u204 u205 u206 u207 u208 u209 u210 u211 u212 u213 u214 u215 u216 u217 u218 u219 u220 u221 u222 u223 u224 u225 u226 u227 u228 u229 u230 u231 : Value)
    (hexit : ∀ (t19 t20 t187 t188 t189 t190 t191 t192 t193 t194 t195 t196 t197 t198 t199 t200 t201 t202 t203 t204 t205 t206 t207 t208 t209 t210 : Value) (wr : World) (ma : Option Addr) (mm mc : Nat), OwnR wr W0.heap.size 63 4 (.slice ma mm mc) ((P.map (movedF U V)).map findC) → Below W0.heap.size W0 wr →
      Q0 (.exit 6) ⟨#[u0, u1, u2, u3, u4, u5, u6, u7, .slice la P.length ln, u9, .slice ua U.length un, .slice va_ V.length vn, u12, u13, u14, u15, u16, u17, .slice ma mm mc, t19, t20, u21, u22, u23, u24, u25, u26, u27, u28, u29, u30, u31, u32, u33, u34, u35, u36, u37, u38, u39, u40, u41, u42, u43, u44, u45, u46, u47, u48, u49, u50, u51, u52, u53, u54, u55, u56, u57, u58, u59, u60, u61, u62, u63, u64, u65, u66, u67, u68, u69, u70, u71, u72, u73, u74, u75, u76, u77, u78, u79, u80, u81, u82, u83, u84, u85, u86, u87, u88, u89, u90, u91, u92, u93, u94, u95, u96, u97, u98, u99, u100, u101, u102, u103, u104, u105, u106, u107, u108, u109, u110, u111, u112, u113, u114, u115, u116, u117, u118, u119, u120, u121, u122, u123, u124, u125, u126, u127, u128, u129, u130, u131, u132, u133, u134, u135, u136, u137, u138, u139, u140, u141, u142, u143, u144, u145, u146, u147, u148, u149, u150, u151, u152, u153, u154, u155, u156, u157, u158, u159, u160, u161, u162, u163, u164, u165, u166, u167, u168, u169, u170, u171, u172, u173, u174, u175, u176, u177, u178, u179, u180, u181, u182, u183, u184, u185, u186, t187, t188, t189, t190, t191, t192, t193, t194, t195, t196, t197, t198, t199, t200, t201, t202, t203, t204, t205, t206, t207, t208, t209, t210, u211, u212, u213, u214, u215, u216, u217, u218, u219, u220, u221, u222, u223, u224, u225, u226, u227, u228, u229, u230, u231], []⟩ wr) :
    Code.wp Try.prog (Code.loop leansLoop4) Q0 ⟨#[u0, u1, u2, u3, u4, u5, u6, u7, .slice la P.length ln, u9, .slice ua U.length un, .slice va_ V.length vn, u12, u13, u14, u15, u16, u17, .slice none 0 0, .int .i64 0, u20, u21, u22, u23, u24, u25, u26, u27, u28, u29, u30, u31, u32, u33, u34, u35, u36, u37, u38, u39, u40, u41, u42, u43, u44, u45, u46, u47, u48, u49, u50, u51, u52, u53, u54, u55, u56, u57, u58, u59, u60, u61, u62, u63, u64, u65, u66, u67, u68, u69, u70, u71, u72, u73, u74, u75, u76, u77, u78, u79, u80, u81, u82, u83, u84, u85, u86, u87, u88, u89, u90, u91, u92, u93, u94, u95, u96, u97, u98, u99, u100, u101, u102, u103, u104, u105, u106, u107, u108, u109, u110, u111, u112, u113, u114, u115, u116, u117, u118, u119, u120, u121, u122, u123, u124, u125, u126, u127, u128, u129, u130, u131, u132, u133, u134, u135, u136, u137, u138, u139, u140, u141, u142, u143, u144, u145, u146, u147, u148, u149, u150, u151, u152, u153, u154, u155, u156, u157, u158, u159, u160, u161, u162, u163, u164, u165, u166, u167, u168, u169, u170, u171, u172, u173, u174, u175, u176, u177, u178, u179, u180, u181, u182, u183, u184, u185, u186, u187, u188, u189, u190, u191, u192, u193, u194, u195, u196, u197, u198, u199, u200, u201, u202, u203, u204, u205, u206, u207, u208, u209, u210, u211, u212, u213, u214, u215, u216, u217, u218, u219, u220, u221, u222, u223, u224, u225, u226, u227, u228, u229, u230, u231], []⟩ W0 := by
  have HP := hide hP
  have HU := hide hU
  have HV := hide hV
  have HE : Hid ((P.take P.length).map (movedF U V) = P.map (movedF U V)) := hide (by rw [List.take_length])
  generalize P.map (movedF U V) = MV at HE hexit
  clear hP hU hV
  conv => arg 2; arg 1; whnf
  dsimp only
  go_loopw [18, 19] (fun mv i wr => ∃ k : Nat, k ≤ P.length ∧ i = .int .i64 k ∧ OwnR wr W0.heap.size 63 4 mv (((P.take k).map (movedF U V)).map findC) ∧ Below W0.heap.size W0 wr) (fun _ i _ => P.length - (intOf i).toNat)
  case atStart => exact ⟨0, by omega, rfl, OwnR.nil _ _ _ _, Below.refl _ _⟩
  case round =>
    obtain ⟨k, hk, rfl, hown, hbr⟩ := hrel
    obtain ⟨ma, mc, e0⟩ := own_form hown
    by_cases hlt : k < P.length
    · have HK := hide hlt
      have hltI : (k : Int) < P.length := by omega
      obtain ⟨b, o, e, hck⟩ := (HP.out.below hbr).cell hlt
      cases e
      have HTK := hide (take_map_succ (movedF U V) P find0 hlt)
      have HLN : Hid ((((P.take k).map (movedF U V)).map findC).length ≤ 20) := hide (by rw [List.length_map, List.length_map, List.length_take]; omega)
      generalize P.getD k find0 = y at hck HTK
      have c0 := hck 0 _ rfl
      have c1 := hck 1 _ rfl
      have c2 := hck 2 _ rfl
      have c3 := hck 3 _ rfl
      rw [Nat.add_zero] at c0
      have HIU := hide (fun W (hb : Below W0.heap.size W0 W) => indexl_any U y.fact _ W (IntsAt.below hb HU.out))
      have HIV := hide (fun W (hb : Below W0.heap.size W0 W) => indexl_any V y.clause _ W (IntsAt.below hb HV.out))
      have HMV : Hid (movedF U V y = ⟨y.says, y.holds, idxI U y.fact, idxI V y.clause⟩) := hide rfl
      generalize movedF U V y = YY at HMV HTK
      generalize idxI U y.fact = KU at *
      generalize idxI V y.clause = KV at *
      subst e0
      generalize hLr : ((P.take k).map (movedF U V)).map findC = Lr at *
      have HLr := hide hLr
      have hln8 : Lr.length ≤ 20 := HLN.out
      clear hLr hck
      go_wp2_with fail
      generalize hY1 : World.alloc wr _ = Y1
      have zY1 : Y1.heap.size = wr.heap.size + 1 := by rw [← hY1]; simp
      have bY1 : Below wr.heap.size wr Y1 := by rw [← hY1]; exact bal wr _
      have bY : Blk Y1 (wr.heap.size) (findC y) 63 := by rw [← hY1]; exact Blk.newA wr _ (by first | rfl | simp)
      have Yb := bY1
      have Yz := zY1
      clear hY1 zY1 bY1
      have y0 := bY.cell 0 rfl
      have y1 := bY.cell 1 rfl
      have y2 := bY.cell 2 rfl
      have y3 := bY.cell 3 rfl
      clear c0 c1 c2 c3
      go_wp2_with fail
      refine (HIU.out _ (below2 hbr Yb)).mono ?_
      rintro e w2 ⟨rfl, hb2⟩
      have bY2 := bY.later hb2
      have z3 := bY2.cell 3 rfl
      have z2 := bY2.cell 2 rfl
      have zf := bY2.frozen 2
      clear y0 y1 y2 y3
      go_wp2_with fail
      generalize hW2 : World.setCell w2 _ _ = W2
      have bY3 : Blk W2 wr.heap.size [.int .i64 y.says, .bool y.holds, .int .i64 KU, .int .i64 y.clause] 63 := by rw [← hW2]; exact bY2.set 2 _
      have hb3 : Below wr.heap.size wr W2 := by rw [← hW2]; exact (below2 Yb hb2).setCell (p := ⟨wr.heap.size, 2, none⟩) (Nat.le_refl _) _
      clear hW2 z3 z2 zf hb2 Yb bY2
      refine (HIV.out _ (below2 hbr hb3)).mono ?_
      rintro e w3 ⟨rfl, hb4⟩
      have bY4 := bY3.later hb4
      have z3 := bY4.cell 3 rfl
      have z0 := bY4.cell 0 rfl
      have z1 := bY4.cell 1 rfl
      have z2 := bY4.cell 2 rfl
      have zf := bY4.frozen 3
      have hb5 := below2 hb3 hb4
      clear hb3 hb4 bY3
      go_wp2_with (at_builtin; generalize hW4 : World.setCell w3 _ _ = W4; have zz : W4.heap.size = w3.heap.size := (by rw [← hW4]; simp [World.setCell]); have hb6 : Below wr.heap.size wr W4 := (by rw [← hW4]; exact hb5.setCell (p := ⟨wr.heap.size, 3, none⟩) (Nat.le_refl _) _); clear hW4; have hOW := hown.later' hb6; have hsW := hb6.size; have hsR := hbr.size; refine app_recE infoFind rfl (by decide) Try.underlying28 rfl _ _ rfl W0.heap.size _ Lr rfl hOW (findC ⟨y.says, y.holds, KU, KV⟩) rfl findC_one1 _ rfl zz.symm (by omega) (by omega) (by omega) ?_; intro v5 w5 hO5 hE5 hob5; obtain ⟨g5, c5, rfl⟩ := own_some hO5)
      have hEE : EffE W0.heap.size 63 W4 w5 := effE_of_grown hOW ⟨hE5.os, hE5.tape, hE5.output, hE5.size, fun b hb hn => hE5.block b hb hn⟩
      have hEY : EffY W0.heap.size 63 wr.heap.size wr w5 := (EffY.of_below hb6).app hEE
      have HBB := hide (keeps_low_effY hEY (Nat.le_refl _) hsR hbr)
      have HO5 := hide hO5
      clear hEE hEY hO5 hE5 hOW hown hb5 hb6 hbr
      go_roundw
      case rel => exact ⟨k + 1, by have := HK.out; omega, by go_num, by rw [HTK.out, HMV.out, List.map_append, HLr.out]; exact HO5.out, HBB.out⟩
      case measure => have := HK.out; simp [intOf]; omega
    · obtain rfl : k = P.length := by omega
      have hown' := hown
      rw [HE.out] at hown'
      have HO := hide hown'
      clear hown hown'
      subst e0
      generalize (List.map findC (List.map (movedF U V) (List.take P.length P))).length = mm at *
      go_wp2_with fail
      exact hexit _ _ _ _ _ _ _ _ _ _ _ _ _ _ _ _ _ _ _ _ _ _ _ _ _ _ wr _ _ _ HO.out hbr
set_option maxRecDepth 100000 in
set_option maxHeartbeats 4000000 in
theorem leans_any (x : NumsD) (xc xr xf : Value) (a0 a1 a2 a3 : Int) (w : World) (hx : NumsIn w.cell? xc xr xf x) (h64 : Nums64 x) (ha : i64B a0 ∧ i64B a1 ∧ i64B a2 ∧ i64B a3) :
    Calls Try.prog 5 #[.agg #[xc, xr, xf], .agg #[.int .i64 a0, .int .i64 a1, .int .i64 a2, .int .i64 a3]] w (Ret (.bool true) w) := by
  have HX := hide hx
  have H64 := hide h64
  obtain ⟨A0, A1, A2, A3⟩ := ha
  have HA0 := hide A0
  have HA1 := hide A1
  have HA2 := hide A2
  have HA3 := hide A3
  obtain ⟨⟨xca, xcn, rfl, -, -, -⟩, ⟨xra, xrn, rfl, -, -, -⟩, ⟨xfa, xfn, rfl, -, -, -⟩⟩ := id hx
  clear hx h64 A0 A1 A2 A3
  go_enter Try.func5, Try.ntmps5
  go_wp2_with fail
  generalize hX1 : World.alloc w _ = X1
  have zX1 : X1.heap.size = w.heap.size + 1 := by rw [← hX1]; simp
  have bX1 : Below w.heap.size w X1 := by rw [← hX1]; exact bal w _
  have bN_1 : Blk X1 (w.heap.size) [.slice xca x.clauses.length xcn, .slice xra x.repeals.length xrn, .slice xfa x.facts.length xfn] 25 := by rw [← hX1]; exact Blk.newA w _ (by first | rfl | simp)
  generalize hX2 : World.alloc X1 _ = X2
  have zX2 : X2.heap.size = w.heap.size + 1 + 1 := by rw [← hX2]; simp [zX1]
  have bX2 : Below X1.heap.size X1 X2 := by rw [← hX2]; exact bal X1 _
  have bA : Blk X2 (w.heap.size + 1) [.int .i64 a0, .int .i64 a1, .int .i64 a2, .int .i64 a3] 26 := by rw [← hX2, ← zX1]; exact Blk.newA X1 _ (by first | rfl | simp)
  have bN := bN_1.later bX2
  have Xb := below2 (bX1) bX2
  have Xz := zX2
  clear hX1 zX1 bX1 hX2 zX2 bX2 bN_1
  refine (sane31_any _).mono ?_
  rintro e w1 ⟨rfl, hb1⟩
  replace bN := bN.later hb1
  replace bA := bA.later hb1
  try replace hco := hco.later hb1
  have hw1 := below2 Xb hb1
  have n0 := bN.cell 0 rfl
  have n1 := bN.cell 1 rfl
  have n2 := bN.cell 2 rfl
  clear hb1 Xb Xz
  go_wp2_with fail
  refine (mader_any x _ _ _ w1 (HX.out.below hw1) H64.out).mono ?_
  rintro e w2 ⟨cv, rv, fv, B, rfl, hB1, hB2, hco, hb2⟩
  have hci : CodeIn w2.cell? cv rv fv (madeC x) := (hco.at (C := 0) (Nat.zero_le _) (Nat.zero_le _)).keeps (keeps_frm _ _)
  replace bA := bA.later hb2
  try replace hco := hco.later hb2
  have hw2 := below2 hw1 hb2
  obtain ⟨⟨ca, cn, rfl, -, -, -⟩, ⟨ra, rn, rfl, -, -, -⟩, ⟨fa, fn, rfl, -, -, -⟩⟩ := id hci
  clear n0 n1 n2 bN hw1 hb2
  have p0 := fun o => keep (bal w2 o) (bA.cell 0 rfl)
  have p1 := fun o => keep (bal w2 o) (bA.cell 1 rfl)
  have p2 := fun o => keep (bal w2 o) (bA.cell 2 rfl)
  have p3 := fun o => keep (bal w2 o) (bA.cell 3 rfl)
  have HV := hide (madeC_valid x)
  have HLN := hide (made_lens x)
  have HQ := hide (askF_ok a0 a1 a2 a3)
  go_wp2_with fail
  generalize hY1 : World.alloc w2 _ = Y1
  have zY1 : Y1.heap.size = w2.heap.size + 1 := by rw [← hY1]; simp
  have bY1 : Below w2.heap.size w2 Y1 := by rw [← hY1]; exact bal w2 _
  have bC : Blk Y1 (w2.heap.size) [.slice ca (madeC x).clauses.length cn, .slice ra (madeC x).repeals.length rn, .slice fa (madeC x).facts.length fn] 34 := by rw [← hY1]; exact Blk.newA w2 _ (by first | rfl | simp)
  have Yb := bY1
  have Yz := zY1
  clear hY1 zY1 bY1
  replace hci := hci.below Yb
  replace bA := bA.later Yb
  try replace hco := hco.later Yb
  have hw3 := below2 hw2 Yb
  clear hw2 Yb Yz
  refine (askr_any a0 a1 a2 a3 _ HA0.out HA1.out HA2.out HA3.out).mono ?_
  rintro e w3 ⟨rfl, hb3⟩
  replace hci := hci.below hb3
  replace bC := bC.later hb3
  replace hw3 := below2 hw3 hb3
  try replace hco := hco.later hb3
  clear p0 p1 p2 p3 hb3
  have c0 := fun o => keep (bal w3 o) (bC.cell 0 rfl)
  have c1 := fun o => keep (bal w3 o) (bC.cell 1 rfl)
  have c2 := fun o => keep (bal w3 o) (bC.cell 2 rfl)
  go_wp2_with fail
  generalize hZ1 : World.alloc w3 _ = Z1
  have zZ1 : Z1.heap.size = w3.heap.size + 1 := by rw [← hZ1]; simp
  have bZ1 : Below w3.heap.size w3 Z1 := by rw [← hZ1]; exact bal w3 _
  have bQ : Blk Z1 (w3.heap.size) (queryC (askF a0 a1 a2 a3)) 37 := by rw [← hZ1]; exact Blk.newA w3 _ (by first | rfl | simp)
  have Zb := bZ1
  have Zz := zZ1
  clear hZ1 zZ1 bZ1
  replace hci := hci.below Zb
  replace bC := bC.later Zb
  replace hw3 := below2 hw3 Zb
  try replace hco := hco.later Zb
  clear Zb Zz bA c0 c1 c2
  refine (decideS_any (madeC x) (askF a0 a1 a2 a3) _ _ _ _ hci).mono ?_
  rintro e w4 ⟨lv, rfl, hl, hb4⟩
  rw [HV.out, HQ.out] at hl ⊢
  have he0 : errS (madeC x) (askF a0 a1 a2 a3) = 0 := by unfold errS; rw [HV.out, HQ.out]; rfl
  rw [he0]
  simp only [Bool.and_self, Bool.true_and, if_true] at hl ⊢
  replace hci := hci.below hb4
  replace bC := bC.later hb4
  replace bQ := bQ.later hb4
  replace hw3 := below2 hw3 hb4
  try replace hco := hco.later hb4
  obtain ⟨la, ln, rfl, -⟩ := id hl
  replace hl := hl.at
  clear hb4 he0
  have HLW := leans_law HV.out HQ.out
  have HDP := decide_proves HV.out HQ.out
  have hub : usesB (madeC x) (askF a0 a1 a2 a3) (decideP (madeC x) (askF a0 a1 a2 a3)) = true := by
    unfold usesB
    cases h : answerB (madeC x) (askF a0 a1 a2 a3) <;> rw [h] at HDP <;> rw [HDP] <;> simp
  have HUS := usesS_any (madeC x) (askF a0 a1 a2 a3) _ _ _ _ (decideP (madeC x) (askF a0 a1 a2 a3)) _ hci hl
  rw [show usesFacts (madeC x) (askF a0 a1 a2 a3) (decideP (madeC x) (askF a0 a1 a2 a3)) = usesF (decideP (madeC x) (askF a0 a1 a2 a3)) by unfold usesFacts; rw [hub]; rfl, show usesClauses (madeC x) (askF a0 a1 a2 a3) (decideP (madeC x) (askF a0 a1 a2 a3)) = usesC (madeC x) (clausesF (madeC x) (askF a0 a1 a2 a3)) (decideP (madeC x) (askF a0 a1 a2 a3)) by unfold usesClauses; rw [hub]; rfl, show usesErr (madeC x) (askF a0 a1 a2 a3) (decideP (madeC x) (askF a0 a1 a2 a3)) = 0 by unfold usesErr; rw [hub]; rfl] at HUS
  dsimp only at HLW
  have hlens := HLN.out
  clear HDP hub HLN
  generalize usesF (decideP (madeC x) (askF a0 a1 a2 a3)) = U at *
  generalize usesC (madeC x) (clausesF (madeC x) (askF a0 a1 a2 a3)) (decideP (madeC x) (askF a0 a1 a2 a3)) = V at *
  generalize decideP (madeC x) (askF a0 a1 a2 a3) = P at *
  generalize answerB (madeC x) (askF a0 a1 a2 a3) = a at *
  generalize askF a0 a1 a2 a3 = q at *
  generalize madeC x = c at *
  obtain ⟨L1, L2, L3, L4, L5, L6, L7, hpl⟩ := HLW
  obtain ⟨hl1, hl2, hl3⟩ := hlens
  have hul : U.length ≤ 20 := by have := asc_len L4 L6; omega
  have hvl : V.length ≤ 20 := by have := asc_len L5 L7; omega
  have HAU := hide (And.intro L4 L6)
  have HAV := hide (And.intro L5 L7)
  have HL1 := hide L1
  have HL2 := hide L2
  have HL3 := hide L3
  clear L1 L2 L3 L4 L5 L6 L7
  have HUS' := hide HUS
  clear HUS
  have c0 := bC.cell 0 rfl
  have c1 := bC.cell 1 rfl
  have c2 := bC.cell 2 rfl
  have q0 := bQ.cell 0 rfl
  have q1 := bQ.cell 1 rfl
  have q2 := bQ.cell 2 rfl
  have q3 := bQ.cell 3 rfl
  go_wp2_with fail
  refine HUS'.out.mono ?_
  rintro e w5 ⟨uv, vv, rfl, hu, hv, hb5⟩
  replace hu := hu.at
  replace hv := hv.at
  obtain ⟨ua, un, rfl, -⟩ := id hu
  obtain ⟨va_, vn, rfl, -⟩ := id hv
  replace hl := hl.below hb5
  replace hci := hci.below hb5
  replace hco := hco.later hb5
  replace bC := bC.later hb5
  replace bQ := bQ.later hb5
  replace hw3 := below2 hw3 hb5
  clear c0 c1 c2 q0 q1 q2 q3 HUS' hb5
  go_wp2_with fail
  generalize hL1 : World.alloc w5 _ = L1
  have zL1 : L1.heap.size = w5.heap.size + 1 := by rw [← hL1]; simp
  have bL1 : Below w5.heap.size w5 L1 := by rw [← hL1]; exact bal w5 _
  have bL : Blk L1 (w5.heap.size) [.slice none 0 0, .slice none 0 0, .slice none 0 0] 34 := by rw [← hL1]; exact Blk.newA w5 _ (by first | rfl | simp)
  have Lb := bL1
  have Lz := zL1
  clear hL1 zL1 bL1
  have hsL : w5.heap.size < L1.heap.size := by rw [Lz]; omega
  refine leans_loop1 w5 L1 c U V w2.heap.size _ _ fa ua fn un bC hci.fa hu HAU hul bL Lb hsL _ _ _ _ _ _ _ _ _ _ _ _ _ _ _ _ _ _ _ _ _ _ _ _ _ _ _ _ _ _ _ _ _ _ _ _ _ _ _ _ _ _ _ _ _ _ _ _ _ _ _ _ _ _ _ _ _ _ _ _ _ _ _ _ _ _ _ _ _ _ _ _ _ _ _ _ _ _ _ _ _ _ _ _ _ _ _ _ _ _ _ _ _ _ _ _ _ _ _ _ _ _ _ _ _ _ _ _ _ _ _ _ _ _ _ _ _ _ _ _ _ _ _ _ _ _ _ _ _ _ _ _ _ _ _ _ _ _ _ _ _ _ _ _ _ _ _ _ _ _ _ _ _ _ _ _ _ _ _ _ _ _ _ _ _ _ _ _ _ _ _ _ _ _ _ _ _ _ _ _ _ _ _ _ _ _ _ _ _ _ _ _ _ _ _ _ _ _ _ _ _ _ _ _ _ _ _ _ _ _ _ _ _ _ _ _ _ _ _ _ _ _ _ _ _ _ _ _ _ ?_
  clear bL Lb Lz hsL
  intro t4 t14 t51 t52 t53 t54 t55 t56 t57 t58 t59 t60 t61 t62 t63 t64 t65 t66 t67 t68 t69 t70 t71 t72 t73 t74 t75 t76 t77 t78 t79 t80 t81 t82 t83 t84 t85 t86 t87 t88 t89 t90 t91 t92 t93 t94 t95 t96 t97 t98 t99 t100 wr lf hlf hbl hbr hsz
  obtain ⟨fa2, fc2, rfl⟩ := own_form hlf
  generalize (List.map factC (lessC c U V).facts).length = fm2 at *
  go_wp2_with fail
  have hkn : c.clauses.length ≤ cn ∧ cn ≤ 9223372036854775807 := by obtain ⟨a', n', e, h1, h2, -⟩ := hci.cl; cases e; exact ⟨h1, h2⟩
  refine leans_loop2 w5 wr c U V w2.heap.size w1.heap.size B _ _ ca va_ fa2 cn vn fm2 fc2 _ bC hco.cl hkn hv HAV hvl hlf hbl hbr hsz _ _ _ _ _ _ _ _ _ _ _ _ _ _ _ _ _ _ _ _ _ _ _ _ _ _ _ _ _ _ _ _ _ _ _ _ _ _ _ _ _ _ _ _ _ _ _ _ _ _ _ _ _ _ _ _ _ _ _ _ _ _ _ _ _ _ _ _ _ _ _ _ _ _ _ _ _ _ _ _ _ _ _ _ _ _ _ _ _ _ _ _ _ _ _ _ _ _ _ _ _ _ _ _ _ _ _ _ _ _ _ _ _ _ _ _ _ _ _ _ _ _ _ _ _ _ _ _ _ _ _ _ _ _ _ _ _ _ _ _ _ _ _ _ _ _ _ _ _ _ _ _ _ _ _ _ _ _ _ _ _ _ _ _ _ _ _ _ _ _ _ _ _ _ _ _ _ _ _ _ _ _ _ _ _ _ _ _ _ _ _ _ _ _ _ _ _ _ _ _ _ _ _ _ _ _ _ _ _ _ _ _ _ _ _ _ _ _ _ _ _ _ _ _ _ _ _ _ _ ?_
  clear hlf hbl hbr hsz
  intro t4 t15 t101 t102 t103 t104 t105 t106 t107 t108 t109 t110 t111 t112 t113 t114 t115 t116 t117 t118 t119 t120 t121 t122 t123 t124 t125 t126 t127 t128 t129 t130 t131 t132 t133 t134 t135 t136 t137 t138 t139 t140 t141 t142 t143 t144 t145 t146 t147 t148 t149 t150 wr2 lc hlc hlf hbl hbr hsz
  obtain ⟨ca2, cc2, rfl⟩ := hlc.form
  generalize hcm : (lessC c U V).clauses.length = cm2 at *
  have HCM := hide hcm
  clear hcm
  go_wp2_with fail
  refine leans_loop3 w5 wr2 c U V w2.heap.size w1.heap.size _ _ ra va_ ca2 fa2 rn vn cm2 cc2 fm2 fc2 _ _ bC hci.re hv (by omega) hlf hlc hbl hbr hsz _ _ _ _ _ _ _ _ _ _ _ _ _ _ _ _ _ _ _ _ _ _ _ _ _ _ _ _ _ _ _ _ _ _ _ _ _ _ _ _ _ _ _ _ _ _ _ _ _ _ _ _ _ _ _ _ _ _ _ _ _ _ _ _ _ _ _ _ _ _ _ _ _ _ _ _ _ _ _ _ _ _ _ _ _ _ _ _ _ _ _ _ _ _ _ _ _ _ _ _ _ _ _ _ _ _ _ _ _ _ _ _ _ _ _ _ _ _ _ _ _ _ _ _ _ _ _ _ _ _ _ _ _ _ _ _ _ _ _ _ _ _ _ _ _ _ _ _ _ _ _ _ _ _ _ _ _ _ _ _ _ _ _ _ _ _ _ _ _ _ _ _ _ _ _ _ _ _ _ _ _ _ _ _ _ _ _ _ _ _ _ _ _ _ _ _ _ _ _ _ _ _ _ _ _ _ _ _ _ _ _ _ _ _ _ _ _ _ _ _ _ _ _ _ _ _ _ _ _ ?_
  clear hlc hlf hbl hbr hsz
  intro t16 t17 t151 t152 t153 t154 t155 t156 t157 t158 t159 t160 t161 t162 t163 t164 t165 t166 t167 t168 t169 t170 t171 t172 t173 t174 t175 t176 t177 t178 t179 t180 t181 t182 t183 t184 t185 t186 wr3 lr hlr hlc hlf hbl hbr hsz
  obtain ⟨ra2, rc2, rfl⟩ := own_form hlr
  generalize (List.map repealC (lessC c U V).repeals).length = rm2 at *
  have HLCO := hide (CodeOwn.mk hlc hlr hlf)
  have HLC := hide hbl
  have HB3 := hide hbr
  have HBQ := hide bQ
  have HW3 := hide hw3
  have hl9 := hl.below hbr
  have hu9 := IntsAt.below hbr hu
  have hv9 := IntsAt.below hbr hv
  clear hlc hlr hlf hbl hbr hsz bC bQ hco hci hl hu hv hw3
  go_wp2_with fail
  refine leans_loop4 wr3 P U V _ _ _ _ _ _ hl9 hu9 hv9 hpl _ _ _ _ _ _ _ _ _ _ _ _ _ _ _ _ _ _ _ _ _ _ _ _ _ _ _ _ _ _ _ _ _ _ _ _ _ _ _ _ _ _ _ _ _ _ _ _ _ _ _ _ _ _ _ _ _ _ _ _ _ _ _ _ _ _ _ _ _ _ _ _ _ _ _ _ _ _ _ _ _ _ _ _ _ _ _ _ _ _ _ _ _ _ _ _ _ _ _ _ _ _ _ _ _ _ _ _ _ _ _ _ _ _ _ _ _ _ _ _ _ _ _ _ _ _ _ _ _ _ _ _ _ _ _ _ _ _ _ _ _ _ _ _ _ _ _ _ _ _ _ _ _ _ _ _ _ _ _ _ _ _ _ _ _ _ _ _ _ _ _ _ _ _ _ _ _ _ _ _ _ _ _ _ _ _ _ _ _ _ _ _ _ _ _ _ _ _ _ _ _ _ _ _ _ _ _ _ _ _ _ _ _ _ _ _ _ _ _ _ _ _ _ _ _ _ _ _ ?_
  clear hl9 hu9 hv9
  intro t19 t20 t187 t188 t189 t190 t191 t192 t193 t194 t195 t196 t197 t198 t199 t200 t201 t202 t203 t204 t205 t206 t207 t208 t209 t210 wr4 ma mm mc hmv hb4
  have hcd : CodeIn wr4.cell? _ _ _ (lessC c U V) := ((HLCO.out.later hb4).at (C := 0) (Nat.zero_le _) (Nat.zero_le _)).keeps (keeps_frm _ _)
  have hmf : FindsIn wr4.cell? (.slice ma mm mc) (P.map (movedF U V)) := (OwnFi.inF hmv (Nat.zero_le _)).at
  have hbl := HLC.out.later hb4
  have HHB := hide (below2 HB3.out hb4)
  have bQ4 := HBQ.out.later HHB.out
  have hw4 := below2 HW3.out HHB.out
  have HCD := hide hcd
  have HMF := hide hmf
  generalize lessC c U V = LC at *
  generalize P.map (movedF U V) = MV at *
  have l0 := hbl.cell 0 rfl
  have l1 := hbl.cell 1 rfl
  have l2 := hbl.cell 2 rfl
  have q0 := bQ4.cell 0 rfl
  have q1 := bQ4.cell 1 rfl
  have q2 := bQ4.cell 2 rfl
  have q3 := bQ4.cell 3 rfl
  clear hcd hmf hmv hb4
  go_wp2_with fail
  refine (decide_ok LC q _ _ _ _ HCD.out HL1.out HQ.out).mono ?_
  rintro e w6 ⟨la6, ln6, rfl, -, hb6⟩
  rw [HL2.out]
  generalize (decideP LC q).length = dl
  have hbl6 := hbl.later hb6
  have bQ6 := bQ4.later hb6
  have hw6 := below2 hw4 hb6
  have HCK := hide (checkS_any LC q _ _ _ _ a MV w6 (HCD.out.below hb6) (HMF.out.below hb6))
  rw [HL3.out] at HCK
  clear l0 l1 l2 q0 q1 q2 q3 hbl bQ4 hw4 hb6
  have l0 := hbl6.cell 0 rfl
  have l1 := hbl6.cell 1 rfl
  have l2 := hbl6.cell 2 rfl
  have q0 := bQ6.cell 0 rfl
  have q1 := bQ6.cell 1 rfl
  have q2 := bQ6.cell 2 rfl
  have q3 := bQ6.cell 3 rfl
  go_wp2_with fail
  refine HCK.out.mono ?_
  rintro e w7 ⟨rfl, hb7⟩
  have hw7 := below2 hw6 hb7
  go_wp2_with fail
  go_ret
  exact ⟨rfl, hw7⟩
end Go.Proofs.Ytdjldidfnddpmaa
/- Arguments of the laws of chapter 31, opened. No condition. -/
namespace Go.Proofs.Ytdjldidfnddpmaa
open Go.ChangeShapes Go.WideShapes Go.ChangeAt Go.RowKit

theorem Try.own : ownKnob Try.prog.godebug = none := by kernel_rfl
theorem Try.laidOut : laidOutB Try.prog = true := by kernel_rfl
theorem Try.cells3 : Try.prog.cellsOf 3 = 1 := by kernel_rfl
theorem Try.cells4 : Try.prog.cellsOf 4 = 1 := by kernel_rfl
theorem Try.cells73 : Try.prog.cellsOf 73 = 6 := by kernel_rfl
theorem Try.cells26 : Try.prog.cellsOf 26 = 4 := by kernel_rfl
theorem Try.cells76 : Try.prog.cellsOf 76 = 3 := by kernel_rfl
theorem Try.cells27 : Try.prog.cellsOf 27 = 2 := by kernel_rfl
set_option maxRecDepth 100000 in
theorem Try.cells25 : Try.prog.cellsOf 25 = 3 := by kernel_rfl
set_option maxRecDepth 100000 in
theorem Try.cells63 : Try.prog.cellsOf 63 = 4 := by kernel_rfl
theorem Try.cells22 : Try.prog.cellsOf 22 = 1 := by kernel_rfl
theorem Try.cells23 : Try.prog.cellsOf 23 = 1 := by kernel_rfl
theorem rec_slice {α : Type} {f : α → List Value} {d : α} {k : Nat} {Q : α → Prop} {c : Addr → Option Value} {v : Value} {l : List α} (h : SliceR k (fun cs x => cs = f x ∧ Q x) d c v l) : RecIn f d k c v l ∧ ∀ x ∈ l, Q x := by
  obtain ⟨a, n, h1, h2, h3, h4⟩ := h
  refine ⟨⟨a, n, h1, h2, h3, fun i hi => ?_⟩, fun x hx => ?_⟩
  · obtain ⟨b, o, cs, e, hl, ⟨rfl, -⟩, hc⟩ := h4 i hi
    refine ⟨b, o, e, fun j u hu => ?_⟩
    have hj : j < k := by rw [← hl]; exact (List.getElem?_eq_some_iff.1 hu).1
    rw [hc j hj]; exact hu
  · obtain ⟨i, hi, rfl⟩ := List.getElem_of_mem hx
    obtain ⟨b, o, cs, e, -, ⟨-, h5⟩, -⟩ := h4 i hi
    rwa [List.getD_eq_getElem?_getD, List.getElem?_eq_getElem hi] at h5
theorem trod_fldW {H : Type} {enc : TypeId × Value → H} {w : World} {base : Nat} {sp : Nat → Bool} {held : Bool} {P : Program} {fs : Array Field} {t : TypeId} {fuel : Nat} {cs : List Value} {x : DataW H × List MemPlace} (ht : P.underlying t = some (.struct fs)) (h : DataW.trod enc P w base sp held fuel t cs = some x) (i : Nat) (f : Field) (hf : fs[i]? = some f) :
    ∃ n y, DataW.trod enc P w base sp held n f.type ((cs.drop f.offset).take (P.cellsOf f.type)) = some y := by
  obtain ⟨xs, n, -, -, -, hlen, h1⟩ := DataW.trod_struct ht h
  have hi : i < fs.size := by
    rcases Array.getElem?_eq_some_iff.1 hf with ⟨hi, -⟩; exact hi
  exact ⟨n, xs[i], by rw [h1 i f hf, List.getElem?_eq_getElem (by omega)]⟩
theorem takeW {cs : List Value} {k : Nat} {v : Value} (h : (cs.drop k).take 1 = [v]) : cs[k]? = some v := by
  have : ((cs.drop k).take 1)[0]? = some v := by rw [h]; rfl
  rwa [List.getElem?_take_of_lt (by omega), List.getElem?_drop, Nat.add_zero] at this
section
variable {H : Type} {enc : TypeId × Value → H} {w : World} {base : Nat} {sp : Nat → Bool} {held : Bool}
set_option maxRecDepth 100000 in
theorem open_i64 {r : Reach} {b0 : Nat} {v : Value} {d : DataW H} {ps : List MemPlace} (hv : Value.okWide Try.prog w r b0 3 v) (h : DataW.Trod enc Try.prog w base sp held 3 v d ps) :
    ∃ x : Int, v = .int .i64 x ∧ i64B x := by
  obtain ⟨n, h1, -, -, h4⟩ := open_int Try.underlying3 hv h
  exact ⟨n, h1, bounds_i64 h4⟩
set_option maxRecDepth 100000 in
theorem open_four {r : Reach} {b0 : Nat} {v : Value} {d : DataW H} {ps : List MemPlace} (hv : Value.okWide Try.prog w r b0 26 v) (h : DataW.Trod enc Try.prog w base sp held 26 v d ps) :
    ∃ a b c e : Int, v = .agg #[.int .i64 a, .int .i64 b, .int .i64 c, .int .i64 e] ∧ i64B a ∧ i64B b ∧ i64B c ∧ i64B e := by
  obtain ⟨l, h1, rfl, h3⟩ := open_arr64 Try.underlying26 Try.underlying3 Try.cells3 Try.cells26 hv h
  match l, h1 with
  | [a, b, c, e], _ => exact ⟨a, b, c, e, rfl, h3 a (by simp), h3 b (by simp), h3 c (by simp), h3 e (by simp)⟩
set_option maxRecDepth 100000 in
theorem open_two {r : Reach} {b0 : Nat} {v : Value} {d : DataW H} {ps : List MemPlace} (hv : Value.okWide Try.prog w r b0 27 v) (h : DataW.Trod enc Try.prog w base sp held 27 v d ps) :
    ∃ a b : Int, v = .agg #[.int .i64 a, .int .i64 b] ∧ i64B a ∧ i64B b := by
  obtain ⟨l, h1, rfl, h3⟩ := open_arr64 Try.underlying27 Try.underlying3 Try.cells3 Try.cells27 hv h
  match l, h1 with
  | [a, b], _ => exact ⟨a, b, rfl, h3 a (by simp), h3 b (by simp)⟩
set_option maxRecDepth 100000 in
theorem trod_six {n : Nat} {y : DataW H × List MemPlace} {cs : List Value} (h : DataW.trod enc Try.prog w base sp held n 73 cs = some y) : ∃ x, cs = sixC x ∧ six64 x := by
  obtain ⟨l, h1, rfl, h3⟩ := trod_arr Try.underlying73 Try.underlying3 Try.cells3 Try.cells73 h
  match l, h1 with
  | [a, b, c, d, e, f], _ => exact ⟨⟨a, b, c, d, e, f⟩, rfl, h3 a (by simp), h3 b (by simp), h3 c (by simp), h3 d (by simp), h3 e (by simp), h3 f (by simp)⟩
set_option maxRecDepth 100000 in
theorem trod_tri {n : Nat} {y : DataW H × List MemPlace} {cs : List Value} (h : DataW.trod enc Try.prog w base sp held n 76 cs = some y) : ∃ x, cs = triC x ∧ tri64 x := by
  obtain ⟨l, h1, rfl, h3⟩ := trod_arr Try.underlying76 Try.underlying3 Try.cells3 Try.cells76 h
  match l, h1 with
  | [a, b, c], _ => exact ⟨(a, b, c), rfl, h3 a (by simp), h3 b (by simp), h3 c (by simp)⟩
set_option maxRecDepth 100000 in
theorem open_nums {r : Reach} {b0 : Nat} {v : Value} {d : DataW H} {ps : List MemPlace} (hv : Value.okWide Try.prog w r b0 25 v) (h : DataW.Trod enc Try.prog w base sp held 25 v d ps) :
    ∃ (x : NumsD) (xc xr xf : Value), v = .agg #[xc, xr, xf] ∧ NumsIn w.cell? xc xr xf x ∧ Nums64 x := by
  obtain ⟨cs, rfl, hsz⟩ : ∃ cs, v = .agg cs ∧ cs.size = Try.prog.cellsOf 25 := by
    simp only [Value.okWide, Try.underlying25] at hv
    obtain ⟨cs, h1, h2, -⟩ := hv
    exact ⟨cs, h1, h2⟩
  obtain ⟨m, hm⟩ := h
  rw [Try.cells25] at hsz
  obtain ⟨n0, y0, h0⟩ := trod_fldW Try.underlying25 hm 0 _ rfl
  obtain ⟨n1, y1, h1⟩ := trod_fldW Try.underlying25 hm 1 _ rfl
  obtain ⟨n2, y2, h2⟩ := trod_fldW Try.underlying25 hm 2 _ rfl
  obtain ⟨cv, cl, e0, hcs⟩ := trod_sliceR (R := fun cs x => cs = sixC x ∧ six64 x) six0 (by decide) Try.underlying22 Try.cells73 (fun n y cs hc hy => trod_six hy) h0
  obtain ⟨rv, rl, e1, hrs⟩ := trod_sliceR (R := fun cs x => cs = triC x ∧ tri64 x) (0, 0, 0) (by decide) Try.underlying23 Try.cells76 (fun n y cs hc hy => trod_tri hy) h1
  obtain ⟨fv, fl, e2, hfs⟩ := trod_sliceR (R := fun cs x => cs = sixC x ∧ six64 x) six0 (by decide) Try.underlying22 Try.cells73 (fun n y cs hc hy => trod_six hy) h2
  have g0 := takeW (by rw [← Try.cells22]; exact e0)
  have g1 := takeW (by rw [← Try.cells23]; exact e1)
  have g2 := takeW (by rw [← Try.cells22]; exact e2)
  obtain ⟨b0, b1, b2, hcs'⟩ : ∃ b0 b1 b2, cs.toList = [b0, b1, b2] := by
    match hh : cs.toList, (show cs.toList.length = 3 by simpa using hsz) with
    | [x, y, z], _ => exact ⟨_, _, _, rfl⟩
  simp only [Value.cells, hcs'] at g0 g1 g2
  simp at g0 g1 g2
  subst g0 g1 g2
  have k0 := rec_slice hcs
  have k1 := rec_slice hrs
  have k2 := rec_slice hfs
  refine ⟨⟨cl, rl, fl⟩, _, _, _, ?_, ⟨k0.1, k1.1, k2.1⟩, ⟨k0.2, k1.2, k2.2⟩⟩
  congr 1
  exact Array.ext' (by simpa using hcs')
set_option maxRecDepth 100000 in
theorem trod_find {n : Nat} {y : DataW H × List MemPlace} {cs : List Value} (hl : cs.length = 4) (h : DataW.trod enc Try.prog w base sp held n 63 cs = some y) : ∃ x, cs = findC x ∧ True := by
  obtain ⟨n0, y0, h0⟩ := trod_fldW Try.underlying63 h 0 _ rfl
  obtain ⟨n1, y1, h1⟩ := trod_fldW Try.underlying63 h 1 _ rfl
  obtain ⟨n2, y2, h2⟩ := trod_fldW Try.underlying63 h 2 _ rfl
  obtain ⟨n3, y3, h3⟩ := trod_fldW Try.underlying63 h 3 _ rfl
  obtain ⟨a0, e0, -⟩ := trod_i64 Try.underlying3 h0
  obtain ⟨a1, e1, -⟩ := DataW.trod_bool Try.underlying4 h1
  obtain ⟨a2, e2, -⟩ := trod_i64 Try.underlying3 h2
  obtain ⟨a3, e3, -⟩ := trod_i64 Try.underlying3 h3
  have g0 := takeW (by rw [← Try.cells3]; exact e0)
  have g1 := takeW (by rw [← Try.cells4]; exact e1)
  have g2 := takeW (by rw [← Try.cells3]; exact e2)
  have g3 := takeW (by rw [← Try.cells3]; exact e3)
  match cs, hl with
  | [b0, b1, b2, b3], _ =>
    simp at g0 g1 g2 g3
    subst g0 g1 g2 g3
    exact ⟨⟨a0, a1, a2, a3⟩, rfl, trivial⟩
set_option maxRecDepth 100000 in
theorem open_finds {r : Reach} {b0 : Nat} {v : Value} {d : DataW H} {ps : List MemPlace} (hv : Value.okWide Try.prog w r b0 28 v) (h : DataW.Trod enc Try.prog w base sp held 28 v d ps) : ∃ l, FindsIn w.cell? v l := by
  obtain ⟨l, hs⟩ := open_sliceR (R := fun cs x => cs = findC x ∧ True) find0 (by decide) Try.underlying28 Try.cells63 (fun n y cs hc hy => trod_find hc hy) hv h
  exact ⟨l, (rec_slice hs).1⟩
end
end Go.Proofs.Ytdjldidfnddpmaa
namespace Go.Proofs.Ytdjldidfnddpmaa
open Go.ChangeShapes Go.WideShapes Go.ChangeAt Go.RowKit

set_option maxRecDepth 100000 in
theorem leans_lifted (os : Os) (started : os.Started) (H : Type) (enc : TypeId × Value → H) :
    ReturnsInHanded {} Try.checked os 5 .any (Rows.statuteLeansSpec.pre6 enc Try.prog Try.f5 Rows.statuteLeansRow.domain false) (Rows.statuteLeansSpec.post enc Try.prog Try.f5 false true false false) := by
  refine returnsInHanded_of_change (C := Try.checked) Try.own started (by kernel_rfl) Try.func5
    (ChangeSpec.witness6 (enc := enc) (C := Try.checked) false ⟨#[], #[.agg #[.slice none 0 0, .slice none 0 0, .slice none 0 0], .agg #[.int .i64 0, .int .i64 0, .int .i64 0, .int .i64 0]], []⟩ 8 (by kernel_rfl) (by kernel_rfl) (by kernel_rfl) (by kernel_rfl)) ?_
  intro W base args ds gs before hval0 hW hcnd _
  have hval : ∀ (j : Nat) t v, Try.f5.params[j]? = some t → args[j]? = some v → Value.okWide Try.prog W .any base t v := hval0
  have hW' := hW
  obtain ⟨p, q, hA0, hV, rfl, hfz, hnd⟩ := hW
  have hA : DataW.TrodAll enc Try.prog W 0 (fun _ => true) true Try.f5.params.toList args.toList ds p := hA0
  rw [Try.params5] at hA hval
  obtain ⟨v0, as0, d0, ds0, p0, q0, e0, rfl, rfl, h0, hA⟩ := trodAll_cons hA
  obtain ⟨v1, as1, d1, ds1, p1, q1, rfl, rfl, rfl, h1, hA⟩ := trodAll_cons hA
  obtain ⟨rfl, rfl, rfl⟩ := trodAll_nil hA
  obtain rfl : args = #[v0, v1] := by cases args; simp_all
  obtain ⟨rfl, rfl⟩ := trodVars_none hV
  obtain ⟨x0, p0, q0, r0, rfl, b0, c0⟩ := open_nums (hval 0 25 v0 rfl rfl) h0
  obtain ⟨e1, f1, g1, k1, rfl, m1⟩ := open_four (hval 1 26 v1 rfl rfl) h1
  refine (leans_any x0 p0 q0 r0 e1 f1 g1 k1 W b0 c0 m1).mono fun e W' ⟨he, hb⟩ => ⟨_, he, ?_⟩
  exact post_law Try.laidOut (by kernel_rfl) rfl rfl Try.underlying4 rfl hW' hb
theorem leans_holds : Rows.StatuteLeansSaid :=
  OpenClaim.holds_of_wide 5 Try.f5 rfl rfl rfl rfl rfl rfl rfl ⟨rfl, rfl, rfl, rfl, rfl⟩ rfl rfl rfl rfl rfl (by kernel_rfl) Try.func5 (by kernel_rfl)
    (of_decide_eq_true (by kernel_rfl)) (by unfold Func.isWrapper; first | (rw [if_pos (by decide +kernel)]; kernel_rfl) | (rw [if_neg (by decide +kernel)]; exact ⟨rfl, rfl⟩))
    (fun os started H enc _ => leans_lifted os started H enc)
end Go.Proofs.Ytdjldidfnddpmaa
