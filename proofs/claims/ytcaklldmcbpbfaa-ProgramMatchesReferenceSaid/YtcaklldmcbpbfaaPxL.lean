/- The second loop of ProgramMatchesReference: a choice, as it is and put into bounds. Conditions: how the program and the choices lie in memory. -/
import Derived.Test.YtcaklldmcbpbfaaPxA
import Derived.Test.YtcaklldmcbpbfaaPw15
import Derived.Test.YtcaklldmcbpbfaaRegM
namespace Go.Proofs.Ytcaklldmcbpbfaa
open Go.RowKit

theorem len26 {α : Type} {vs : List α} (h : vs.length = 26) : ∃ x0 x1 x2 x3 x4 x5 x6 x7 x8 x9 x10 x11 x12 x13 x14 x15 x16 x17 x18 x19 x20 x21 x22 x23 x24 x25, vs = [x0, x1, x2, x3, x4, x5, x6, x7, x8, x9, x10, x11, x12, x13, x14, x15, x16, x17, x18, x19, x20, x21, x22, x23, x24, x25] := by
  match vs, h with
  | [x0, x1, x2, x3, x4, x5, x6, x7, x8, x9, x10, x11, x12, x13, x14, x15, x16, x17, x18, x19, x20, x21, x22, x23, x24, x25], _ => exact ⟨_, _, _, _, _, _, _, _, _, _, _, _, _, _, _, _, _, _, _, _, _, _, _, _, _, _, rfl⟩
/-- the loops of a code, the outer ones first -/
def loopsOf : Code → List Code
  | .loop c => c :: loopsOf c
  | .seq a b => loopsOf a ++ loopsOf b
  | .block _ c => loopsOf c
  | .scope c => loopsOf c
  | .cond _ a b => loopsOf a ++ loopsOf b
  | _ => []
noncomputable def matchLoop2 : Code := (Try.f3.body.bind fun c => (loopsOf c)[1]?).getD .skip
set_option linter.unusedSimpArgs false in
set_option maxRecDepth 100000 in
set_option maxHeartbeats 8000000 in
theorem match_loop2 (q : ProgD) (pa qa : Option Addr) (pc qc PB ZB : Nat) (y0 y1 : Int) (V4 : World) (bP7 : Blk V4 PB [.int .i64 q.vars, .slice pa q.rows.length pc, .slice qa q.gain.length qc] 29) (bZ : Blk V4 ZB [.int .i64 y0, .int .i64 y1] 3)
    (hqr : RowsAt V4 (.slice pa q.rows.length pc) q.rows) (hqg : IntsAt V4 (.slice qa q.gain.length qc) q.gain) (Q0 : Exit → Act → World → Prop) (u0 u1 u2 u3 u4 u5 u6 u7 u8 u9 u10 u11 u12 u13 u14 u15 u16 u17 u18 u19 u20 u21 u23 u24 u25 u26 u27 u28 u29 u30 u31 u32 u33 u34 u35 u36 u37 u38 u39 u40 u41 u42 u43 u44 u45 u46 u47 u48 u49 u50 u51 u52 u53 u54 u55 u56 u57 u58 u59 u60 u61 u62 u63 u64 u65 u66 u67 u68 u69 u70 u71 u72 u73 u74 u75 u76 u77 u78 u79 u80 u81 u82 u83 u84 u85 u86 u87 u88 u89 u90 u91 u92 u93 u94 u95 u96 u97 u98 u99 u100 u101 u102 u103 u104 u105 u106 u107 u108 u109 u110 u111 u112 u113 u114 u115 u116 u117 u118 u119 u120 u121 u122 u123 u124 u125 u126 u127 u128 u129 u130 u131 u132 u133 u134 u135 u136 u137 u138 u139 u140 u141 u142 u143 u144 u145 u146 u147 u148 u149 u150 u151 u152 u153 u154 u155 u159 u160 u161 u162 u163 u164 u165 u166 u167 u168 u169 u170 u171 u172 u173 u174 u175 u176 u177 u178 u179 u180 u181 u182 u183 u184 u185 u186 u187 u188 u189 u190 u191 u192 u193 u194 u195 u196 u197 u198 u199 u200 u201 u202 u203 u204 u205 u206 u207 u208 u209 u210 u211 u212 u213 u214 u215 u216 u217 u218 u219 u220 u221 u222 u223 u224 u225 u226 u227 u228 u229 u230 u231 u232 u233 u234 u235 u236 u237 u238 u239 u240 u241 u242 u243 u244 u245 u246 u247 u248 u249 u250 u251 u252 u253 u254 u255 u256 u257 u258 u259 u260 u261 u262 u263 : Value)
    (hexit : ∀ (t18 t32 t33 t159 t160 t161 t162 t163 t164 t165 t166 t167 t168 t169 t170 t171 t172 t173 t174 t175 t176 t177 t178 t179 t180 t181 t182 t183 t184 t185 t186 t187 t188 t189 t190 t191 t192 t193 t194 t195 t196 t197 t198 t199 t200 t201 t202 t203 t204 t205 t206 t207 t208 t209 t210 : Value) (wr : World), Below V4.heap.size V4 wr → Q0 (.exit 2) ⟨#[u0, u1, u2, u3, u4, u5, u6, u7, u8, u9, u10, u11, u12, u13, u14, u15, u16, u17, t18, u19, u20, u21, .pointer (some ⟨PB, 0, none⟩), u23, u24, u25, u26, u27, u28, u29, u30, u31, t32, t33, u34, u35, u36, u37, u38, u39, u40, u41, u42, u43, u44, u45, u46, u47, u48, u49, u50, u51, u52, u53, u54, u55, u56, u57, u58, u59, u60, u61, u62, u63, u64, u65, u66, u67, u68, u69, u70, u71, u72, u73, u74, u75, u76, u77, u78, u79, u80, u81, u82, u83, u84, u85, u86, u87, u88, u89, u90, u91, u92, u93, u94, u95, u96, u97, u98, u99, u100, u101, u102, u103, u104, u105, u106, u107, u108, u109, u110, u111, u112, u113, u114, u115, u116, u117, u118, u119, u120, u121, u122, u123, u124, u125, u126, u127, u128, u129, u130, u131, u132, u133, u134, u135, u136, u137, u138, u139, u140, u141, u142, u143, u144, u145, u146, u147, u148, u149, u150, u151, u152, u153, u154, u155, .slice (some ⟨ZB, 0, none⟩) 2 2, .int .i64 2, .int .i64 2, t159, t160, t161, t162, t163, t164, t165, t166, t167, t168, t169, t170, t171, t172, t173, t174, t175, t176, t177, t178, t179, t180, t181, t182, t183, t184, t185, t186, t187, t188, t189, t190, t191, t192, t193, t194, t195, t196, t197, t198, t199, t200, t201, t202, t203, t204, t205, t206, t207, t208, t209, t210, u211, u212, u213, u214, u215, u216, u217, u218, u219, u220, u221, u222, u223, u224, u225, u226, u227, u228, u229, u230, u231, u232, u233, u234, u235, u236, u237, u238, u239, u240, u241, u242, u243, u244, u245, u246, u247, u248, u249, u250, u251, u252, u253, u254, u255, u256, u257, u258, u259, u260, u261, u262, u263], []⟩ wr) :
    Code.wp Try.prog (Code.loop matchLoop2) Q0 ⟨#[u0, u1, u2, u3, u4, u5, u6, u7, u8, u9, u10, u11, u12, u13, u14, u15, u16, u17, u18, u19, u20, u21, .pointer (some ⟨PB, 0, none⟩), u23, u24, u25, u26, u27, u28, u29, u30, u31, u32, u33, u34, u35, u36, u37, u38, u39, u40, u41, u42, u43, u44, u45, u46, u47, u48, u49, u50, u51, u52, u53, u54, u55, u56, u57, u58, u59, u60, u61, u62, u63, u64, u65, u66, u67, u68, u69, u70, u71, u72, u73, u74, u75, u76, u77, u78, u79, u80, u81, u82, u83, u84, u85, u86, u87, u88, u89, u90, u91, u92, u93, u94, u95, u96, u97, u98, u99, u100, u101, u102, u103, u104, u105, u106, u107, u108, u109, u110, u111, u112, u113, u114, u115, u116, u117, u118, u119, u120, u121, u122, u123, u124, u125, u126, u127, u128, u129, u130, u131, u132, u133, u134, u135, u136, u137, u138, u139, u140, u141, u142, u143, u144, u145, u146, u147, u148, u149, u150, u151, u152, u153, u154, u155, .slice (some ⟨ZB, 0, none⟩) 2 2, .int .i64 2, .int .i64 0, u159, u160, u161, u162, u163, u164, u165, u166, u167, u168, u169, u170, u171, u172, u173, u174, u175, u176, u177, u178, u179, u180, u181, u182, u183, u184, u185, u186, u187, u188, u189, u190, u191, u192, u193, u194, u195, u196, u197, u198, u199, u200, u201, u202, u203, u204, u205, u206, u207, u208, u209, u210, u211, u212, u213, u214, u215, u216, u217, u218, u219, u220, u221, u222, u223, u224, u225, u226, u227, u228, u229, u230, u231, u232, u233, u234, u235, u236, u237, u238, u239, u240, u241, u242, u243, u244, u245, u246, u247, u248, u249, u250, u251, u252, u253, u254, u255, u256, u257, u258, u259, u260, u261, u262, u263], []⟩ V4 := by
  conv => arg 2; arg 1; whnf
  dsimp only
  have HX := hide hexit
  have HPC2 : Hid (∀ r, r < q.rows.length → ∃ b o cv, pa = some ⟨b, o, none⟩ ∧ RowAt V4 b (o + r * 6) cv (q.rows.getD r row0)) := hide (by obtain ⟨a, c, e, -, -, h⟩ := hqr; cases e; exact h)
  have HK1 := hide (fun (z : Int) (W : World) (hb : Below V4.heap.size V4 W) => keepsP_any q _ _ z W (hqr.below hb) (hqg.below hb))
  have HK2 := hide (fun (z : Int) (W : World) (hb : Below V4.heap.size V4 W) => keepsr_any q _ _ z W (hqr.below hb) (hqg.below hb))
  have HG1 := hide (fun (z : Int) (W : World) (hb : Below V4.heap.size V4 W) => gain_any q _ _ z W (hqr.below hb) (hqg.below hb))
  have HG2 := hide (fun (z : Int) (W : World) (hb : Below V4.heap.size V4 W) => gainr_any q _ _ z W (hqr.below hb) (hqg.below hb))
  have HB1 := hide (fun (z : Int) (W : World) (hb : Below V4.heap.size V4 W) => broken_any q _ _ z W (hqr.below hb) (hqg.below hb))
  have HB2 := hide (fun (z : Int) (W : World) (hb : Below V4.heap.size V4 W) => brokenr_any q _ _ z W (hqr.below hb) (hqg.below hb))
  have HZT : Hid (∀ i, i < 2 → ∃ z : Int, V4.cell? ⟨ZB, i, none⟩ = some (.int .i64 z)) := hide (fun i hi => by
    match i, hi with
    | 0, _ => exact ⟨y0, bZ.cell 0 rfl⟩
    | 1, _ => exact ⟨y1, bZ.cell 1 rfl⟩)
  have hqm : (q.rows.length : Int) ≤ 9223372036854775807 := by
    obtain ⟨a, c, e, h1, h2, -⟩ := hqr
    omega
  clear hexit bZ hqr hqg
  generalize keepsB q = KB at HK1 HK2
  generalize gainF q = GF at HG1 HG2
  generalize brokenF q = BF at HB1 HB2
  go_loopw [158] (fun i wr => ∃ j : Nat, j ≤ 2 ∧ i = .int .i64 j ∧ Below V4.heap.size V4 wr) (fun i _ => 2 - (intOf i).toNat)
  case atStart => exact ⟨0, by omega, rfl, Below.refl _ _⟩
  case round =>
    obtain ⟨j, hj, rfl, hbj⟩ := hrel
    by_cases hlj : j < 2
    · have hj3 : decide ((j : Int) < 2) = true := by simp; omega
      obtain ⟨z, y0⟩ := HZT.out j hlj
      replace y0 := keep hbj y0
      have bP8 := bP7.later hbj
      have HK1z := hide (HK1.out z)
      have HK2z := hide (HK2.out z)
      have HG1z := hide (HG1.out z)
      have HG2z := hide (HG2.out z)
      have HB1z := hide (HB1.out z)
      have HB2z := hide (HB2.out z)
      generalize KB z = kb' at HK1z HK2z
      generalize GF z = gz at HG1z HG2z
      generalize BF z = bz at HB1z HB2z
      have HIB : Hid (∀ (W : World) (v1 v2 : Value), IntsAt W v1 bz → IntsAt W v2 bz → Calls Try.prog 19 #[v1, v2] W (Ret (.bool true) W)) := hide (fun W v1 v2 h1 h2 => by
        have := ints_any bz bz v1 v2 W h1 h2
        rwa [show intsB bz bz = true by simp [intsB]] at this)
      have p0 := bP8.cell 0 rfl
      have p1 := bP8.cell 1 rfl
      have p2 := bP8.cell 2 rfl
      go_wp2_with fail
      refine wp_region_inv [some 162, some 163, some 164, some 165, some 166, some 167, some 168, some 169, some 170, some 171, some 172, some 173, some 174, some 175, some 176, some 177, some 178, some 179, some 180, some 181, some 182, some 183, some 184, some 185, some 186, some 187] (fun L vs W => match vs with | [x0, x1, x2, x3, x4, x5, x6, x7, x8, x9, x10, x11, x12, x13, x14, x15, x16, x17, x18, x19, x20, x21, x22, x23, x24, x25] => (Below wr.heap.size wr W) ∧ (L 0 = true → x0 = .agg #[.int .i64 q.vars, .slice pa q.rows.length pc, .slice qa q.gain.length qc]) ∧ (L 1 = true → x1 = .int .i64 z) ∧ (L 2 = true → x2 = .bool kb') ∧ (L 3 = true → x3 = .agg #[.int .i64 q.vars, .slice pa q.rows.length pc, .slice qa q.gain.length qc]) ∧ (L 4 = true → x4 = .int .i64 z) ∧ (L 5 = true → x5 = .bool kb') ∧ (L 6 = true → x6 = .bool false) ∧ (L 7 = true → x7 = .bool false) ∧ (L 8 = true → x8 = .agg #[.int .i64 q.vars, .slice pa q.rows.length pc, .slice qa q.gain.length qc]) ∧ (L 9 = true → x9 = .int .i64 z) ∧ (L 10 = true → x10 = .int .i64 gz) ∧ (L 11 = true → x11 = .agg #[.int .i64 q.vars, .slice pa q.rows.length pc, .slice qa q.gain.length qc]) ∧ (L 12 = true → x12 = .int .i64 z) ∧ (L 13 = true → x13 = .int .i64 gz) ∧ (L 14 = true → x14 = .bool false) ∧ (L 15 = true → x15 = .bool false) ∧ (L 16 = true → x16 = .bool false) ∧ (L 17 = true → x17 = .agg #[.int .i64 q.vars, .slice pa q.rows.length pc, .slice qa q.gain.length qc]) ∧ (L 18 = true → x18 = .int .i64 z) ∧ (L 19 = true → IntsAt W x19 bz) ∧ (L 20 = true → x20 = .agg #[.int .i64 q.vars, .slice pa q.rows.length pc, .slice qa q.gain.length qc]) ∧ (L 21 = true → x21 = .int .i64 z) ∧ (L 22 = true → IntsAt W x22 bz) ∧ (L 23 = true → x23 = .bool true) ∧ (L 24 = true → x24 = .bool false) ∧ (L 25 = true → x25 = .bool false) | _ => False) [_, _, _, _, _, _, _, _, _, _, _, _, _, _, _, _, _, _, _, _, _, _, _, _, _, _] (by kernel_rfl) (by kernel_rfl) rfl (by simp only [puts, Act.put, List.setIfInBounds_toArray, List.set_cons_zero, List.set_cons_succ] <;> rfl) ?_ ?_ ?_
      · exact ⟨(Below.refl _ _).drew, (fun h => by cases h), (fun h => by cases h), (fun h => by cases h), (fun h => by cases h), (fun h => by cases h), (fun h => by cases h), (fun h => by cases h), (fun h => by cases h), (fun h => by cases h), (fun h => by cases h), (fun h => by cases h), (fun h => by cases h), (fun h => by cases h), (fun h => by cases h), (fun h => by cases h), (fun h => by cases h), (fun h => by cases h), (fun h => by cases h), (fun h => by cases h), (fun h => by cases h), (fun h => by cases h), (fun h => by cases h), (fun h => by cases h), (fun h => by cases h), (fun h => by cases h), (fun h => by cases h)⟩
      · refine ⟨?_, ?_, ?_, ?_, ?_, ?_, ?_, ?_, ?_, ?_, ?_, ?_, ?_, ?_, ?_, ?_, ?_, ?_, ?_, ?_, ?_, ?_, ?_, ?_, ?_, ?_, trivial⟩
        · intro L vs W hlen hL hD hI K hK
          obtain ⟨x0, x1, x2, x3, x4, x5, x6, x7, x8, x9, x10, x11, x12, x13, x14, x15, x16, x17, x18, x19, x20, x21, x22, x23, x24, x25, rfl⟩ := len26 hlen
          have hG := hI.1
          replace hI := hI.2
          have f0 := hide hI.1
          replace hI := hI.2
          have f1 := hide hI.1
          replace hI := hI.2
          have f2 := hide hI.1
          replace hI := hI.2
          have f3 := hide hI.1
          replace hI := hI.2
          have f4 := hide hI.1
          replace hI := hI.2
          have f5 := hide hI.1
          replace hI := hI.2
          have f6 := hide hI.1
          replace hI := hI.2
          have f7 := hide hI.1
          replace hI := hI.2
          have f8 := hide hI.1
          replace hI := hI.2
          have f9 := hide hI.1
          replace hI := hI.2
          have f10 := hide hI.1
          replace hI := hI.2
          have f11 := hide hI.1
          replace hI := hI.2
          have f12 := hide hI.1
          replace hI := hI.2
          have f13 := hide hI.1
          replace hI := hI.2
          have f14 := hide hI.1
          replace hI := hI.2
          have f15 := hide hI.1
          replace hI := hI.2
          have f16 := hide hI.1
          replace hI := hI.2
          have f17 := hide hI.1
          replace hI := hI.2
          have f18 := hide hI.1
          replace hI := hI.2
          have f19 := hide hI.1
          replace hI := hI.2
          have f20 := hide hI.1
          replace hI := hI.2
          have f21 := hide hI.1
          replace hI := hI.2
          have f22 := hide hI.1
          replace hI := hI.2
          have f23 := hide hI.1
          replace hI := hI.2
          have f24 := hide hI.1
          replace hI := hI.2
          have f25 := hide hI
          clear hI
          have p0 := keep hG p0
          have p1 := keep hG p1
          have p2 := keep hG p2
          try simp only [puts, Act.put, List.setIfInBounds_toArray, List.set_cons_zero, List.set_cons_succ]
          try go_simp
          exact hK.out _ _ _ (by simp only [puts, Act.put, List.setIfInBounds_toArray, List.set_cons_zero, List.set_cons_succ] <;> rfl) ⟨hG, (fun _ => rfl), (fun h => f1.out h), (fun h => f2.out h), (fun h => f3.out h), (fun h => f4.out h), (fun h => f5.out h), (fun h => f6.out h), (fun h => f7.out h), (fun h => f8.out h), (fun h => f9.out h), (fun h => f10.out h), (fun h => f11.out h), (fun h => f12.out h), (fun h => f13.out h), (fun h => f14.out h), (fun h => f15.out h), (fun h => f16.out h), (fun h => f17.out h), (fun h => f18.out h), (fun h => f19.out h), (fun h => f20.out h), (fun h => f21.out h), (fun h => f22.out h), (fun h => f23.out h), (fun h => f24.out h), (fun h => f25.out h)⟩
        · intro L vs W hlen hL hD hI K hK
          obtain ⟨x0, x1, x2, x3, x4, x5, x6, x7, x8, x9, x10, x11, x12, x13, x14, x15, x16, x17, x18, x19, x20, x21, x22, x23, x24, x25, rfl⟩ := len26 hlen
          have hG := hI.1
          replace hI := hI.2
          have f0 := hide hI.1
          replace hI := hI.2
          have f1 := hide hI.1
          replace hI := hI.2
          have f2 := hide hI.1
          replace hI := hI.2
          have f3 := hide hI.1
          replace hI := hI.2
          have f4 := hide hI.1
          replace hI := hI.2
          have f5 := hide hI.1
          replace hI := hI.2
          have f6 := hide hI.1
          replace hI := hI.2
          have f7 := hide hI.1
          replace hI := hI.2
          have f8 := hide hI.1
          replace hI := hI.2
          have f9 := hide hI.1
          replace hI := hI.2
          have f10 := hide hI.1
          replace hI := hI.2
          have f11 := hide hI.1
          replace hI := hI.2
          have f12 := hide hI.1
          replace hI := hI.2
          have f13 := hide hI.1
          replace hI := hI.2
          have f14 := hide hI.1
          replace hI := hI.2
          have f15 := hide hI.1
          replace hI := hI.2
          have f16 := hide hI.1
          replace hI := hI.2
          have f17 := hide hI.1
          replace hI := hI.2
          have f18 := hide hI.1
          replace hI := hI.2
          have f19 := hide hI.1
          replace hI := hI.2
          have f20 := hide hI.1
          replace hI := hI.2
          have f21 := hide hI.1
          replace hI := hI.2
          have f22 := hide hI.1
          replace hI := hI.2
          have f23 := hide hI.1
          replace hI := hI.2
          have f24 := hide hI.1
          replace hI := hI.2
          have f25 := hide hI
          clear hI
          have p0 := keep hG p0
          have p1 := keep hG p1
          have p2 := keep hG p2
          try simp only [puts, Act.put, List.setIfInBounds_toArray, List.set_cons_zero, List.set_cons_succ]
          try go_simp
          exact hK.out _ _ _ (by simp only [puts, Act.put, List.setIfInBounds_toArray, List.set_cons_zero, List.set_cons_succ] <;> rfl) ⟨hG, (fun h => f0.out h), (fun _ => rfl), (fun h => f2.out h), (fun h => f3.out h), (fun h => f4.out h), (fun h => f5.out h), (fun h => f6.out h), (fun h => f7.out h), (fun h => f8.out h), (fun h => f9.out h), (fun h => f10.out h), (fun h => f11.out h), (fun h => f12.out h), (fun h => f13.out h), (fun h => f14.out h), (fun h => f15.out h), (fun h => f16.out h), (fun h => f17.out h), (fun h => f18.out h), (fun h => f19.out h), (fun h => f20.out h), (fun h => f21.out h), (fun h => f22.out h), (fun h => f23.out h), (fun h => f24.out h), (fun h => f25.out h)⟩
        · intro L vs W hlen hL hD hI K hK
          obtain ⟨x0, x1, x2, x3, x4, x5, x6, x7, x8, x9, x10, x11, x12, x13, x14, x15, x16, x17, x18, x19, x20, x21, x22, x23, x24, x25, rfl⟩ := len26 hlen
          have hG := hI.1
          replace hI := hI.2
          have f0 := hide hI.1
          replace hI := hI.2
          have f1 := hide hI.1
          replace hI := hI.2
          have f2 := hide hI.1
          replace hI := hI.2
          have f3 := hide hI.1
          replace hI := hI.2
          have f4 := hide hI.1
          replace hI := hI.2
          have f5 := hide hI.1
          replace hI := hI.2
          have f6 := hide hI.1
          replace hI := hI.2
          have f7 := hide hI.1
          replace hI := hI.2
          have f8 := hide hI.1
          replace hI := hI.2
          have f9 := hide hI.1
          replace hI := hI.2
          have f10 := hide hI.1
          replace hI := hI.2
          have f11 := hide hI.1
          replace hI := hI.2
          have f12 := hide hI.1
          replace hI := hI.2
          have f13 := hide hI.1
          replace hI := hI.2
          have f14 := hide hI.1
          replace hI := hI.2
          have f15 := hide hI.1
          replace hI := hI.2
          have f16 := hide hI.1
          replace hI := hI.2
          have f17 := hide hI.1
          replace hI := hI.2
          have f18 := hide hI.1
          replace hI := hI.2
          have f19 := hide hI.1
          replace hI := hI.2
          have f20 := hide hI.1
          replace hI := hI.2
          have f21 := hide hI.1
          replace hI := hI.2
          have f22 := hide hI.1
          replace hI := hI.2
          have f23 := hide hI.1
          replace hI := hI.2
          have f24 := hide hI.1
          replace hI := hI.2
          have f25 := hide hI
          clear hI
          have p0 := keep hG p0
          have p1 := keep hG p1
          have p2 := keep hG p2
          obtain rfl := f0.out (hD.on 0 (by kernel_rfl))
          obtain rfl := f1.out (hD.on 1 (by kernel_rfl))
          try simp only [puts, Act.put, List.setIfInBounds_toArray, List.set_cons_zero, List.set_cons_succ]
          try go_simp
          refine (HK1z.out _ (below2 hbj hG)).mono ?_
          rintro e W' ⟨rfl, hb⟩
          try go_simp
          exact hK.out _ _ _ (by simp only [puts, Act.put, List.setIfInBounds_toArray, List.set_cons_zero, List.set_cons_succ] <;> rfl) ⟨below2 hG hb, (fun h => f0.out h), (fun h => f1.out h), (fun _ => rfl), (fun h => f3.out h), (fun h => f4.out h), (fun h => f5.out h), (fun h => f6.out h), (fun h => f7.out h), (fun h => f8.out h), (fun h => f9.out h), (fun h => f10.out h), (fun h => f11.out h), (fun h => f12.out h), (fun h => f13.out h), (fun h => f14.out h), (fun h => f15.out h), (fun h => f16.out h), (fun h => f17.out h), (fun h => f18.out h), (fun h => (fun h => h.below hb) (f19.out h)), (fun h => f20.out h), (fun h => f21.out h), (fun h => (fun h => h.below hb) (f22.out h)), (fun h => f23.out h), (fun h => f24.out h), (fun h => f25.out h)⟩
        · intro L vs W hlen hL hD hI K hK
          obtain ⟨x0, x1, x2, x3, x4, x5, x6, x7, x8, x9, x10, x11, x12, x13, x14, x15, x16, x17, x18, x19, x20, x21, x22, x23, x24, x25, rfl⟩ := len26 hlen
          have hG := hI.1
          replace hI := hI.2
          have f0 := hide hI.1
          replace hI := hI.2
          have f1 := hide hI.1
          replace hI := hI.2
          have f2 := hide hI.1
          replace hI := hI.2
          have f3 := hide hI.1
          replace hI := hI.2
          have f4 := hide hI.1
          replace hI := hI.2
          have f5 := hide hI.1
          replace hI := hI.2
          have f6 := hide hI.1
          replace hI := hI.2
          have f7 := hide hI.1
          replace hI := hI.2
          have f8 := hide hI.1
          replace hI := hI.2
          have f9 := hide hI.1
          replace hI := hI.2
          have f10 := hide hI.1
          replace hI := hI.2
          have f11 := hide hI.1
          replace hI := hI.2
          have f12 := hide hI.1
          replace hI := hI.2
          have f13 := hide hI.1
          replace hI := hI.2
          have f14 := hide hI.1
          replace hI := hI.2
          have f15 := hide hI.1
          replace hI := hI.2
          have f16 := hide hI.1
          replace hI := hI.2
          have f17 := hide hI.1
          replace hI := hI.2
          have f18 := hide hI.1
          replace hI := hI.2
          have f19 := hide hI.1
          replace hI := hI.2
          have f20 := hide hI.1
          replace hI := hI.2
          have f21 := hide hI.1
          replace hI := hI.2
          have f22 := hide hI.1
          replace hI := hI.2
          have f23 := hide hI.1
          replace hI := hI.2
          have f24 := hide hI.1
          replace hI := hI.2
          have f25 := hide hI
          clear hI
          have p0 := keep hG p0
          have p1 := keep hG p1
          have p2 := keep hG p2
          try simp only [puts, Act.put, List.setIfInBounds_toArray, List.set_cons_zero, List.set_cons_succ]
          try go_simp
          exact hK.out _ _ _ (by simp only [puts, Act.put, List.setIfInBounds_toArray, List.set_cons_zero, List.set_cons_succ] <;> rfl) ⟨hG, (fun h => f0.out h), (fun h => f1.out h), (fun h => f2.out h), (fun _ => rfl), (fun h => f4.out h), (fun h => f5.out h), (fun h => f6.out h), (fun h => f7.out h), (fun h => f8.out h), (fun h => f9.out h), (fun h => f10.out h), (fun h => f11.out h), (fun h => f12.out h), (fun h => f13.out h), (fun h => f14.out h), (fun h => f15.out h), (fun h => f16.out h), (fun h => f17.out h), (fun h => f18.out h), (fun h => f19.out h), (fun h => f20.out h), (fun h => f21.out h), (fun h => f22.out h), (fun h => f23.out h), (fun h => f24.out h), (fun h => f25.out h)⟩
        · intro L vs W hlen hL hD hI K hK
          obtain ⟨x0, x1, x2, x3, x4, x5, x6, x7, x8, x9, x10, x11, x12, x13, x14, x15, x16, x17, x18, x19, x20, x21, x22, x23, x24, x25, rfl⟩ := len26 hlen
          have hG := hI.1
          replace hI := hI.2
          have f0 := hide hI.1
          replace hI := hI.2
          have f1 := hide hI.1
          replace hI := hI.2
          have f2 := hide hI.1
          replace hI := hI.2
          have f3 := hide hI.1
          replace hI := hI.2
          have f4 := hide hI.1
          replace hI := hI.2
          have f5 := hide hI.1
          replace hI := hI.2
          have f6 := hide hI.1
          replace hI := hI.2
          have f7 := hide hI.1
          replace hI := hI.2
          have f8 := hide hI.1
          replace hI := hI.2
          have f9 := hide hI.1
          replace hI := hI.2
          have f10 := hide hI.1
          replace hI := hI.2
          have f11 := hide hI.1
          replace hI := hI.2
          have f12 := hide hI.1
          replace hI := hI.2
          have f13 := hide hI.1
          replace hI := hI.2
          have f14 := hide hI.1
          replace hI := hI.2
          have f15 := hide hI.1
          replace hI := hI.2
          have f16 := hide hI.1
          replace hI := hI.2
          have f17 := hide hI.1
          replace hI := hI.2
          have f18 := hide hI.1
          replace hI := hI.2
          have f19 := hide hI.1
          replace hI := hI.2
          have f20 := hide hI.1
          replace hI := hI.2
          have f21 := hide hI.1
          replace hI := hI.2
          have f22 := hide hI.1
          replace hI := hI.2
          have f23 := hide hI.1
          replace hI := hI.2
          have f24 := hide hI.1
          replace hI := hI.2
          have f25 := hide hI
          clear hI
          have p0 := keep hG p0
          have p1 := keep hG p1
          have p2 := keep hG p2
          try simp only [puts, Act.put, List.setIfInBounds_toArray, List.set_cons_zero, List.set_cons_succ]
          try go_simp
          exact hK.out _ _ _ (by simp only [puts, Act.put, List.setIfInBounds_toArray, List.set_cons_zero, List.set_cons_succ] <;> rfl) ⟨hG, (fun h => f0.out h), (fun h => f1.out h), (fun h => f2.out h), (fun h => f3.out h), (fun _ => rfl), (fun h => f5.out h), (fun h => f6.out h), (fun h => f7.out h), (fun h => f8.out h), (fun h => f9.out h), (fun h => f10.out h), (fun h => f11.out h), (fun h => f12.out h), (fun h => f13.out h), (fun h => f14.out h), (fun h => f15.out h), (fun h => f16.out h), (fun h => f17.out h), (fun h => f18.out h), (fun h => f19.out h), (fun h => f20.out h), (fun h => f21.out h), (fun h => f22.out h), (fun h => f23.out h), (fun h => f24.out h), (fun h => f25.out h)⟩
        · intro L vs W hlen hL hD hI K hK
          obtain ⟨x0, x1, x2, x3, x4, x5, x6, x7, x8, x9, x10, x11, x12, x13, x14, x15, x16, x17, x18, x19, x20, x21, x22, x23, x24, x25, rfl⟩ := len26 hlen
          have hG := hI.1
          replace hI := hI.2
          have f0 := hide hI.1
          replace hI := hI.2
          have f1 := hide hI.1
          replace hI := hI.2
          have f2 := hide hI.1
          replace hI := hI.2
          have f3 := hide hI.1
          replace hI := hI.2
          have f4 := hide hI.1
          replace hI := hI.2
          have f5 := hide hI.1
          replace hI := hI.2
          have f6 := hide hI.1
          replace hI := hI.2
          have f7 := hide hI.1
          replace hI := hI.2
          have f8 := hide hI.1
          replace hI := hI.2
          have f9 := hide hI.1
          replace hI := hI.2
          have f10 := hide hI.1
          replace hI := hI.2
          have f11 := hide hI.1
          replace hI := hI.2
          have f12 := hide hI.1
          replace hI := hI.2
          have f13 := hide hI.1
          replace hI := hI.2
          have f14 := hide hI.1
          replace hI := hI.2
          have f15 := hide hI.1
          replace hI := hI.2
          have f16 := hide hI.1
          replace hI := hI.2
          have f17 := hide hI.1
          replace hI := hI.2
          have f18 := hide hI.1
          replace hI := hI.2
          have f19 := hide hI.1
          replace hI := hI.2
          have f20 := hide hI.1
          replace hI := hI.2
          have f21 := hide hI.1
          replace hI := hI.2
          have f22 := hide hI.1
          replace hI := hI.2
          have f23 := hide hI.1
          replace hI := hI.2
          have f24 := hide hI.1
          replace hI := hI.2
          have f25 := hide hI
          clear hI
          have p0 := keep hG p0
          have p1 := keep hG p1
          have p2 := keep hG p2
          obtain rfl := f3.out (hD.on 3 (by kernel_rfl))
          obtain rfl := f4.out (hD.on 4 (by kernel_rfl))
          try simp only [puts, Act.put, List.setIfInBounds_toArray, List.set_cons_zero, List.set_cons_succ]
          try go_simp
          refine (HK2z.out _ (below2 hbj hG)).mono ?_
          rintro e W' ⟨rfl, hb⟩
          try go_simp
          exact hK.out _ _ _ (by simp only [puts, Act.put, List.setIfInBounds_toArray, List.set_cons_zero, List.set_cons_succ] <;> rfl) ⟨below2 hG hb, (fun h => f0.out h), (fun h => f1.out h), (fun h => f2.out h), (fun h => f3.out h), (fun h => f4.out h), (fun _ => rfl), (fun h => f6.out h), (fun h => f7.out h), (fun h => f8.out h), (fun h => f9.out h), (fun h => f10.out h), (fun h => f11.out h), (fun h => f12.out h), (fun h => f13.out h), (fun h => f14.out h), (fun h => f15.out h), (fun h => f16.out h), (fun h => f17.out h), (fun h => f18.out h), (fun h => (fun h => h.below hb) (f19.out h)), (fun h => f20.out h), (fun h => f21.out h), (fun h => (fun h => h.below hb) (f22.out h)), (fun h => f23.out h), (fun h => f24.out h), (fun h => f25.out h)⟩
        · intro L vs W hlen hL hD hI K hK
          obtain ⟨x0, x1, x2, x3, x4, x5, x6, x7, x8, x9, x10, x11, x12, x13, x14, x15, x16, x17, x18, x19, x20, x21, x22, x23, x24, x25, rfl⟩ := len26 hlen
          have hG := hI.1
          replace hI := hI.2
          have f0 := hide hI.1
          replace hI := hI.2
          have f1 := hide hI.1
          replace hI := hI.2
          have f2 := hide hI.1
          replace hI := hI.2
          have f3 := hide hI.1
          replace hI := hI.2
          have f4 := hide hI.1
          replace hI := hI.2
          have f5 := hide hI.1
          replace hI := hI.2
          have f6 := hide hI.1
          replace hI := hI.2
          have f7 := hide hI.1
          replace hI := hI.2
          have f8 := hide hI.1
          replace hI := hI.2
          have f9 := hide hI.1
          replace hI := hI.2
          have f10 := hide hI.1
          replace hI := hI.2
          have f11 := hide hI.1
          replace hI := hI.2
          have f12 := hide hI.1
          replace hI := hI.2
          have f13 := hide hI.1
          replace hI := hI.2
          have f14 := hide hI.1
          replace hI := hI.2
          have f15 := hide hI.1
          replace hI := hI.2
          have f16 := hide hI.1
          replace hI := hI.2
          have f17 := hide hI.1
          replace hI := hI.2
          have f18 := hide hI.1
          replace hI := hI.2
          have f19 := hide hI.1
          replace hI := hI.2
          have f20 := hide hI.1
          replace hI := hI.2
          have f21 := hide hI.1
          replace hI := hI.2
          have f22 := hide hI.1
          replace hI := hI.2
          have f23 := hide hI.1
          replace hI := hI.2
          have f24 := hide hI.1
          replace hI := hI.2
          have f25 := hide hI
          clear hI
          have p0 := keep hG p0
          have p1 := keep hG p1
          have p2 := keep hG p2
          obtain rfl := f2.out (hD.on 2 (by kernel_rfl))
          obtain rfl := f5.out (hD.on 5 (by kernel_rfl))
          try simp only [puts, Act.put, List.setIfInBounds_toArray, List.set_cons_zero, List.set_cons_succ]
          try go_simp
          exact hK.out _ _ _ (by simp only [puts, Act.put, List.setIfInBounds_toArray, List.set_cons_zero, List.set_cons_succ] <;> rfl) ⟨hG, (fun h => f0.out h), (fun h => f1.out h), (fun h => f2.out h), (fun h => f3.out h), (fun h => f4.out h), (fun h => f5.out h), (fun _ => rfl), (fun h => f7.out h), (fun h => f8.out h), (fun h => f9.out h), (fun h => f10.out h), (fun h => f11.out h), (fun h => f12.out h), (fun h => f13.out h), (fun h => f14.out h), (fun h => f15.out h), (fun h => f16.out h), (fun h => f17.out h), (fun h => f18.out h), (fun h => f19.out h), (fun h => f20.out h), (fun h => f21.out h), (fun h => f22.out h), (fun h => f23.out h), (fun h => f24.out h), (fun h => f25.out h)⟩
        · intro L vs W hlen hL hD hI K hK
          obtain ⟨x0, x1, x2, x3, x4, x5, x6, x7, x8, x9, x10, x11, x12, x13, x14, x15, x16, x17, x18, x19, x20, x21, x22, x23, x24, x25, rfl⟩ := len26 hlen
          have hG := hI.1
          replace hI := hI.2
          have f0 := hide hI.1
          replace hI := hI.2
          have f1 := hide hI.1
          replace hI := hI.2
          have f2 := hide hI.1
          replace hI := hI.2
          have f3 := hide hI.1
          replace hI := hI.2
          have f4 := hide hI.1
          replace hI := hI.2
          have f5 := hide hI.1
          replace hI := hI.2
          have f6 := hide hI.1
          replace hI := hI.2
          have f7 := hide hI.1
          replace hI := hI.2
          have f8 := hide hI.1
          replace hI := hI.2
          have f9 := hide hI.1
          replace hI := hI.2
          have f10 := hide hI.1
          replace hI := hI.2
          have f11 := hide hI.1
          replace hI := hI.2
          have f12 := hide hI.1
          replace hI := hI.2
          have f13 := hide hI.1
          replace hI := hI.2
          have f14 := hide hI.1
          replace hI := hI.2
          have f15 := hide hI.1
          replace hI := hI.2
          have f16 := hide hI.1
          replace hI := hI.2
          have f17 := hide hI.1
          replace hI := hI.2
          have f18 := hide hI.1
          replace hI := hI.2
          have f19 := hide hI.1
          replace hI := hI.2
          have f20 := hide hI.1
          replace hI := hI.2
          have f21 := hide hI.1
          replace hI := hI.2
          have f22 := hide hI.1
          replace hI := hI.2
          have f23 := hide hI.1
          replace hI := hI.2
          have f24 := hide hI.1
          replace hI := hI.2
          have f25 := hide hI
          clear hI
          have p0 := keep hG p0
          have p1 := keep hG p1
          have p2 := keep hG p2
          obtain rfl := f6.out (hD.on 6 (by kernel_rfl))
          try simp only [puts, Act.put, List.setIfInBounds_toArray, List.set_cons_zero, List.set_cons_succ]
          try go_simp
          exact hK.out _ _ _ (by simp only [puts, Act.put, List.setIfInBounds_toArray, List.set_cons_zero, List.set_cons_succ] <;> rfl) ⟨hG, (fun h => f0.out h), (fun h => f1.out h), (fun h => f2.out h), (fun h => f3.out h), (fun h => f4.out h), (fun h => f5.out h), (fun h => f6.out h), (fun _ => rfl), (fun h => f8.out h), (fun h => f9.out h), (fun h => f10.out h), (fun h => f11.out h), (fun h => f12.out h), (fun h => f13.out h), (fun h => f14.out h), (fun h => f15.out h), (fun h => f16.out h), (fun h => f17.out h), (fun h => f18.out h), (fun h => f19.out h), (fun h => f20.out h), (fun h => f21.out h), (fun h => f22.out h), (fun h => f23.out h), (fun h => f24.out h), (fun h => f25.out h)⟩
        · intro L vs W hlen hL hD hI K hK
          obtain ⟨x0, x1, x2, x3, x4, x5, x6, x7, x8, x9, x10, x11, x12, x13, x14, x15, x16, x17, x18, x19, x20, x21, x22, x23, x24, x25, rfl⟩ := len26 hlen
          have hG := hI.1
          replace hI := hI.2
          have f0 := hide hI.1
          replace hI := hI.2
          have f1 := hide hI.1
          replace hI := hI.2
          have f2 := hide hI.1
          replace hI := hI.2
          have f3 := hide hI.1
          replace hI := hI.2
          have f4 := hide hI.1
          replace hI := hI.2
          have f5 := hide hI.1
          replace hI := hI.2
          have f6 := hide hI.1
          replace hI := hI.2
          have f7 := hide hI.1
          replace hI := hI.2
          have f8 := hide hI.1
          replace hI := hI.2
          have f9 := hide hI.1
          replace hI := hI.2
          have f10 := hide hI.1
          replace hI := hI.2
          have f11 := hide hI.1
          replace hI := hI.2
          have f12 := hide hI.1
          replace hI := hI.2
          have f13 := hide hI.1
          replace hI := hI.2
          have f14 := hide hI.1
          replace hI := hI.2
          have f15 := hide hI.1
          replace hI := hI.2
          have f16 := hide hI.1
          replace hI := hI.2
          have f17 := hide hI.1
          replace hI := hI.2
          have f18 := hide hI.1
          replace hI := hI.2
          have f19 := hide hI.1
          replace hI := hI.2
          have f20 := hide hI.1
          replace hI := hI.2
          have f21 := hide hI.1
          replace hI := hI.2
          have f22 := hide hI.1
          replace hI := hI.2
          have f23 := hide hI.1
          replace hI := hI.2
          have f24 := hide hI.1
          replace hI := hI.2
          have f25 := hide hI
          clear hI
          have p0 := keep hG p0
          have p1 := keep hG p1
          have p2 := keep hG p2
          obtain rfl := f7.out (hD.on 7 (by kernel_rfl))
          try simp only [puts, Act.put, List.setIfInBounds_toArray, List.set_cons_zero, List.set_cons_succ]
          try go_simp
          exact hK.out _ _ _ (by simp only [puts, Act.put, List.setIfInBounds_toArray, List.set_cons_zero, List.set_cons_succ] <;> rfl) ⟨hG, (fun h => f0.out h), (fun h => f1.out h), (fun h => f2.out h), (fun h => f3.out h), (fun h => f4.out h), (fun h => f5.out h), (fun h => f6.out h), (fun h => f7.out h), (fun _ => rfl), (fun h => f9.out h), (fun h => f10.out h), (fun h => f11.out h), (fun h => f12.out h), (fun h => f13.out h), (fun h => f14.out h), (fun h => f15.out h), (fun h => f16.out h), (fun h => f17.out h), (fun h => f18.out h), (fun h => f19.out h), (fun h => f20.out h), (fun h => f21.out h), (fun h => f22.out h), (fun h => f23.out h), (fun h => f24.out h), (fun h => f25.out h)⟩
        · intro L vs W hlen hL hD hI K hK
          obtain ⟨x0, x1, x2, x3, x4, x5, x6, x7, x8, x9, x10, x11, x12, x13, x14, x15, x16, x17, x18, x19, x20, x21, x22, x23, x24, x25, rfl⟩ := len26 hlen
          have hG := hI.1
          replace hI := hI.2
          have f0 := hide hI.1
          replace hI := hI.2
          have f1 := hide hI.1
          replace hI := hI.2
          have f2 := hide hI.1
          replace hI := hI.2
          have f3 := hide hI.1
          replace hI := hI.2
          have f4 := hide hI.1
          replace hI := hI.2
          have f5 := hide hI.1
          replace hI := hI.2
          have f6 := hide hI.1
          replace hI := hI.2
          have f7 := hide hI.1
          replace hI := hI.2
          have f8 := hide hI.1
          replace hI := hI.2
          have f9 := hide hI.1
          replace hI := hI.2
          have f10 := hide hI.1
          replace hI := hI.2
          have f11 := hide hI.1
          replace hI := hI.2
          have f12 := hide hI.1
          replace hI := hI.2
          have f13 := hide hI.1
          replace hI := hI.2
          have f14 := hide hI.1
          replace hI := hI.2
          have f15 := hide hI.1
          replace hI := hI.2
          have f16 := hide hI.1
          replace hI := hI.2
          have f17 := hide hI.1
          replace hI := hI.2
          have f18 := hide hI.1
          replace hI := hI.2
          have f19 := hide hI.1
          replace hI := hI.2
          have f20 := hide hI.1
          replace hI := hI.2
          have f21 := hide hI.1
          replace hI := hI.2
          have f22 := hide hI.1
          replace hI := hI.2
          have f23 := hide hI.1
          replace hI := hI.2
          have f24 := hide hI.1
          replace hI := hI.2
          have f25 := hide hI
          clear hI
          have p0 := keep hG p0
          have p1 := keep hG p1
          have p2 := keep hG p2
          obtain rfl := f7.out (hD.on 7 (by kernel_rfl))
          try simp only [puts, Act.put, List.setIfInBounds_toArray, List.set_cons_zero, List.set_cons_succ]
          try go_simp
          exact hK.out _ _ _ (by simp only [puts, Act.put, List.setIfInBounds_toArray, List.set_cons_zero, List.set_cons_succ] <;> rfl) ⟨hG, (fun h => f0.out h), (fun h => f1.out h), (fun h => f2.out h), (fun h => f3.out h), (fun h => f4.out h), (fun h => f5.out h), (fun h => f6.out h), (fun h => f7.out h), (fun h => f8.out h), (fun _ => rfl), (fun h => f10.out h), (fun h => f11.out h), (fun h => f12.out h), (fun h => f13.out h), (fun h => f14.out h), (fun h => f15.out h), (fun h => f16.out h), (fun h => f17.out h), (fun h => f18.out h), (fun h => f19.out h), (fun h => f20.out h), (fun h => f21.out h), (fun h => f22.out h), (fun h => f23.out h), (fun h => f24.out h), (fun h => f25.out h)⟩
        · intro L vs W hlen hL hD hI K hK
          obtain ⟨x0, x1, x2, x3, x4, x5, x6, x7, x8, x9, x10, x11, x12, x13, x14, x15, x16, x17, x18, x19, x20, x21, x22, x23, x24, x25, rfl⟩ := len26 hlen
          have hG := hI.1
          replace hI := hI.2
          have f0 := hide hI.1
          replace hI := hI.2
          have f1 := hide hI.1
          replace hI := hI.2
          have f2 := hide hI.1
          replace hI := hI.2
          have f3 := hide hI.1
          replace hI := hI.2
          have f4 := hide hI.1
          replace hI := hI.2
          have f5 := hide hI.1
          replace hI := hI.2
          have f6 := hide hI.1
          replace hI := hI.2
          have f7 := hide hI.1
          replace hI := hI.2
          have f8 := hide hI.1
          replace hI := hI.2
          have f9 := hide hI.1
          replace hI := hI.2
          have f10 := hide hI.1
          replace hI := hI.2
          have f11 := hide hI.1
          replace hI := hI.2
          have f12 := hide hI.1
          replace hI := hI.2
          have f13 := hide hI.1
          replace hI := hI.2
          have f14 := hide hI.1
          replace hI := hI.2
          have f15 := hide hI.1
          replace hI := hI.2
          have f16 := hide hI.1
          replace hI := hI.2
          have f17 := hide hI.1
          replace hI := hI.2
          have f18 := hide hI.1
          replace hI := hI.2
          have f19 := hide hI.1
          replace hI := hI.2
          have f20 := hide hI.1
          replace hI := hI.2
          have f21 := hide hI.1
          replace hI := hI.2
          have f22 := hide hI.1
          replace hI := hI.2
          have f23 := hide hI.1
          replace hI := hI.2
          have f24 := hide hI.1
          replace hI := hI.2
          have f25 := hide hI
          clear hI
          have p0 := keep hG p0
          have p1 := keep hG p1
          have p2 := keep hG p2
          obtain rfl := f7.out (hD.on 7 (by kernel_rfl))
          obtain rfl := f8.out (hD.on 8 (by kernel_rfl))
          obtain rfl := f9.out (hD.on 9 (by kernel_rfl))
          try simp only [puts, Act.put, List.setIfInBounds_toArray, List.set_cons_zero, List.set_cons_succ]
          try go_simp
          refine (HG1z.out _ (below2 hbj hG)).mono ?_
          rintro e W' ⟨rfl, hb⟩
          try go_simp
          exact hK.out _ _ _ (by simp only [puts, Act.put, List.setIfInBounds_toArray, List.set_cons_zero, List.set_cons_succ] <;> rfl) ⟨below2 hG hb, (fun h => f0.out h), (fun h => f1.out h), (fun h => f2.out h), (fun h => f3.out h), (fun h => f4.out h), (fun h => f5.out h), (fun h => f6.out h), (fun h => f7.out h), (fun h => f8.out h), (fun h => f9.out h), (fun _ => rfl), (fun h => f11.out h), (fun h => f12.out h), (fun h => f13.out h), (fun h => f14.out h), (fun h => f15.out h), (fun h => f16.out h), (fun h => f17.out h), (fun h => f18.out h), (fun h => (fun h => h.below hb) (f19.out h)), (fun h => f20.out h), (fun h => f21.out h), (fun h => (fun h => h.below hb) (f22.out h)), (fun h => f23.out h), (fun h => f24.out h), (fun h => f25.out h)⟩
        · intro L vs W hlen hL hD hI K hK
          obtain ⟨x0, x1, x2, x3, x4, x5, x6, x7, x8, x9, x10, x11, x12, x13, x14, x15, x16, x17, x18, x19, x20, x21, x22, x23, x24, x25, rfl⟩ := len26 hlen
          have hG := hI.1
          replace hI := hI.2
          have f0 := hide hI.1
          replace hI := hI.2
          have f1 := hide hI.1
          replace hI := hI.2
          have f2 := hide hI.1
          replace hI := hI.2
          have f3 := hide hI.1
          replace hI := hI.2
          have f4 := hide hI.1
          replace hI := hI.2
          have f5 := hide hI.1
          replace hI := hI.2
          have f6 := hide hI.1
          replace hI := hI.2
          have f7 := hide hI.1
          replace hI := hI.2
          have f8 := hide hI.1
          replace hI := hI.2
          have f9 := hide hI.1
          replace hI := hI.2
          have f10 := hide hI.1
          replace hI := hI.2
          have f11 := hide hI.1
          replace hI := hI.2
          have f12 := hide hI.1
          replace hI := hI.2
          have f13 := hide hI.1
          replace hI := hI.2
          have f14 := hide hI.1
          replace hI := hI.2
          have f15 := hide hI.1
          replace hI := hI.2
          have f16 := hide hI.1
          replace hI := hI.2
          have f17 := hide hI.1
          replace hI := hI.2
          have f18 := hide hI.1
          replace hI := hI.2
          have f19 := hide hI.1
          replace hI := hI.2
          have f20 := hide hI.1
          replace hI := hI.2
          have f21 := hide hI.1
          replace hI := hI.2
          have f22 := hide hI.1
          replace hI := hI.2
          have f23 := hide hI.1
          replace hI := hI.2
          have f24 := hide hI.1
          replace hI := hI.2
          have f25 := hide hI
          clear hI
          have p0 := keep hG p0
          have p1 := keep hG p1
          have p2 := keep hG p2
          obtain rfl := f7.out (hD.on 7 (by kernel_rfl))
          try simp only [puts, Act.put, List.setIfInBounds_toArray, List.set_cons_zero, List.set_cons_succ]
          try go_simp
          exact hK.out _ _ _ (by simp only [puts, Act.put, List.setIfInBounds_toArray, List.set_cons_zero, List.set_cons_succ] <;> rfl) ⟨hG, (fun h => f0.out h), (fun h => f1.out h), (fun h => f2.out h), (fun h => f3.out h), (fun h => f4.out h), (fun h => f5.out h), (fun h => f6.out h), (fun h => f7.out h), (fun h => f8.out h), (fun h => f9.out h), (fun h => f10.out h), (fun _ => rfl), (fun h => f12.out h), (fun h => f13.out h), (fun h => f14.out h), (fun h => f15.out h), (fun h => f16.out h), (fun h => f17.out h), (fun h => f18.out h), (fun h => f19.out h), (fun h => f20.out h), (fun h => f21.out h), (fun h => f22.out h), (fun h => f23.out h), (fun h => f24.out h), (fun h => f25.out h)⟩
        · intro L vs W hlen hL hD hI K hK
          obtain ⟨x0, x1, x2, x3, x4, x5, x6, x7, x8, x9, x10, x11, x12, x13, x14, x15, x16, x17, x18, x19, x20, x21, x22, x23, x24, x25, rfl⟩ := len26 hlen
          have hG := hI.1
          replace hI := hI.2
          have f0 := hide hI.1
          replace hI := hI.2
          have f1 := hide hI.1
          replace hI := hI.2
          have f2 := hide hI.1
          replace hI := hI.2
          have f3 := hide hI.1
          replace hI := hI.2
          have f4 := hide hI.1
          replace hI := hI.2
          have f5 := hide hI.1
          replace hI := hI.2
          have f6 := hide hI.1
          replace hI := hI.2
          have f7 := hide hI.1
          replace hI := hI.2
          have f8 := hide hI.1
          replace hI := hI.2
          have f9 := hide hI.1
          replace hI := hI.2
          have f10 := hide hI.1
          replace hI := hI.2
          have f11 := hide hI.1
          replace hI := hI.2
          have f12 := hide hI.1
          replace hI := hI.2
          have f13 := hide hI.1
          replace hI := hI.2
          have f14 := hide hI.1
          replace hI := hI.2
          have f15 := hide hI.1
          replace hI := hI.2
          have f16 := hide hI.1
          replace hI := hI.2
          have f17 := hide hI.1
          replace hI := hI.2
          have f18 := hide hI.1
          replace hI := hI.2
          have f19 := hide hI.1
          replace hI := hI.2
          have f20 := hide hI.1
          replace hI := hI.2
          have f21 := hide hI.1
          replace hI := hI.2
          have f22 := hide hI.1
          replace hI := hI.2
          have f23 := hide hI.1
          replace hI := hI.2
          have f24 := hide hI.1
          replace hI := hI.2
          have f25 := hide hI
          clear hI
          have p0 := keep hG p0
          have p1 := keep hG p1
          have p2 := keep hG p2
          obtain rfl := f7.out (hD.on 7 (by kernel_rfl))
          try simp only [puts, Act.put, List.setIfInBounds_toArray, List.set_cons_zero, List.set_cons_succ]
          try go_simp
          exact hK.out _ _ _ (by simp only [puts, Act.put, List.setIfInBounds_toArray, List.set_cons_zero, List.set_cons_succ] <;> rfl) ⟨hG, (fun h => f0.out h), (fun h => f1.out h), (fun h => f2.out h), (fun h => f3.out h), (fun h => f4.out h), (fun h => f5.out h), (fun h => f6.out h), (fun h => f7.out h), (fun h => f8.out h), (fun h => f9.out h), (fun h => f10.out h), (fun h => f11.out h), (fun _ => rfl), (fun h => f13.out h), (fun h => f14.out h), (fun h => f15.out h), (fun h => f16.out h), (fun h => f17.out h), (fun h => f18.out h), (fun h => f19.out h), (fun h => f20.out h), (fun h => f21.out h), (fun h => f22.out h), (fun h => f23.out h), (fun h => f24.out h), (fun h => f25.out h)⟩
        · intro L vs W hlen hL hD hI K hK
          obtain ⟨x0, x1, x2, x3, x4, x5, x6, x7, x8, x9, x10, x11, x12, x13, x14, x15, x16, x17, x18, x19, x20, x21, x22, x23, x24, x25, rfl⟩ := len26 hlen
          have hG := hI.1
          replace hI := hI.2
          have f0 := hide hI.1
          replace hI := hI.2
          have f1 := hide hI.1
          replace hI := hI.2
          have f2 := hide hI.1
          replace hI := hI.2
          have f3 := hide hI.1
          replace hI := hI.2
          have f4 := hide hI.1
          replace hI := hI.2
          have f5 := hide hI.1
          replace hI := hI.2
          have f6 := hide hI.1
          replace hI := hI.2
          have f7 := hide hI.1
          replace hI := hI.2
          have f8 := hide hI.1
          replace hI := hI.2
          have f9 := hide hI.1
          replace hI := hI.2
          have f10 := hide hI.1
          replace hI := hI.2
          have f11 := hide hI.1
          replace hI := hI.2
          have f12 := hide hI.1
          replace hI := hI.2
          have f13 := hide hI.1
          replace hI := hI.2
          have f14 := hide hI.1
          replace hI := hI.2
          have f15 := hide hI.1
          replace hI := hI.2
          have f16 := hide hI.1
          replace hI := hI.2
          have f17 := hide hI.1
          replace hI := hI.2
          have f18 := hide hI.1
          replace hI := hI.2
          have f19 := hide hI.1
          replace hI := hI.2
          have f20 := hide hI.1
          replace hI := hI.2
          have f21 := hide hI.1
          replace hI := hI.2
          have f22 := hide hI.1
          replace hI := hI.2
          have f23 := hide hI.1
          replace hI := hI.2
          have f24 := hide hI.1
          replace hI := hI.2
          have f25 := hide hI
          clear hI
          have p0 := keep hG p0
          have p1 := keep hG p1
          have p2 := keep hG p2
          obtain rfl := f7.out (hD.on 7 (by kernel_rfl))
          obtain rfl := f11.out (hD.on 11 (by kernel_rfl))
          obtain rfl := f12.out (hD.on 12 (by kernel_rfl))
          try simp only [puts, Act.put, List.setIfInBounds_toArray, List.set_cons_zero, List.set_cons_succ]
          try go_simp
          refine (HG2z.out _ (below2 hbj hG)).mono ?_
          rintro e W' ⟨rfl, hb⟩
          try go_simp
          exact hK.out _ _ _ (by simp only [puts, Act.put, List.setIfInBounds_toArray, List.set_cons_zero, List.set_cons_succ] <;> rfl) ⟨below2 hG hb, (fun h => f0.out h), (fun h => f1.out h), (fun h => f2.out h), (fun h => f3.out h), (fun h => f4.out h), (fun h => f5.out h), (fun h => f6.out h), (fun h => f7.out h), (fun h => f8.out h), (fun h => f9.out h), (fun h => f10.out h), (fun h => f11.out h), (fun h => f12.out h), (fun _ => rfl), (fun h => f14.out h), (fun h => f15.out h), (fun h => f16.out h), (fun h => f17.out h), (fun h => f18.out h), (fun h => (fun h => h.below hb) (f19.out h)), (fun h => f20.out h), (fun h => f21.out h), (fun h => (fun h => h.below hb) (f22.out h)), (fun h => f23.out h), (fun h => f24.out h), (fun h => f25.out h)⟩
        · intro L vs W hlen hL hD hI K hK
          obtain ⟨x0, x1, x2, x3, x4, x5, x6, x7, x8, x9, x10, x11, x12, x13, x14, x15, x16, x17, x18, x19, x20, x21, x22, x23, x24, x25, rfl⟩ := len26 hlen
          have hG := hI.1
          replace hI := hI.2
          have f0 := hide hI.1
          replace hI := hI.2
          have f1 := hide hI.1
          replace hI := hI.2
          have f2 := hide hI.1
          replace hI := hI.2
          have f3 := hide hI.1
          replace hI := hI.2
          have f4 := hide hI.1
          replace hI := hI.2
          have f5 := hide hI.1
          replace hI := hI.2
          have f6 := hide hI.1
          replace hI := hI.2
          have f7 := hide hI.1
          replace hI := hI.2
          have f8 := hide hI.1
          replace hI := hI.2
          have f9 := hide hI.1
          replace hI := hI.2
          have f10 := hide hI.1
          replace hI := hI.2
          have f11 := hide hI.1
          replace hI := hI.2
          have f12 := hide hI.1
          replace hI := hI.2
          have f13 := hide hI.1
          replace hI := hI.2
          have f14 := hide hI.1
          replace hI := hI.2
          have f15 := hide hI.1
          replace hI := hI.2
          have f16 := hide hI.1
          replace hI := hI.2
          have f17 := hide hI.1
          replace hI := hI.2
          have f18 := hide hI.1
          replace hI := hI.2
          have f19 := hide hI.1
          replace hI := hI.2
          have f20 := hide hI.1
          replace hI := hI.2
          have f21 := hide hI.1
          replace hI := hI.2
          have f22 := hide hI.1
          replace hI := hI.2
          have f23 := hide hI.1
          replace hI := hI.2
          have f24 := hide hI.1
          replace hI := hI.2
          have f25 := hide hI
          clear hI
          have p0 := keep hG p0
          have p1 := keep hG p1
          have p2 := keep hG p2
          obtain rfl := f7.out (hD.on 7 (by kernel_rfl))
          obtain rfl := f10.out (hD.on 10 (by kernel_rfl))
          obtain rfl := f13.out (hD.on 13 (by kernel_rfl))
          try simp only [puts, Act.put, List.setIfInBounds_toArray, List.set_cons_zero, List.set_cons_succ]
          try go_simp
          exact hK.out _ _ _ (by simp only [puts, Act.put, List.setIfInBounds_toArray, List.set_cons_zero, List.set_cons_succ] <;> rfl) ⟨hG, (fun h => f0.out h), (fun h => f1.out h), (fun h => f2.out h), (fun h => f3.out h), (fun h => f4.out h), (fun h => f5.out h), (fun h => f6.out h), (fun h => f7.out h), (fun h => f8.out h), (fun h => f9.out h), (fun h => f10.out h), (fun h => f11.out h), (fun h => f12.out h), (fun h => f13.out h), (fun _ => rfl), (fun h => f15.out h), (fun h => f16.out h), (fun h => f17.out h), (fun h => f18.out h), (fun h => f19.out h), (fun h => f20.out h), (fun h => f21.out h), (fun h => f22.out h), (fun h => f23.out h), (fun h => f24.out h), (fun h => f25.out h)⟩
        · intro L vs W hlen hL hD hI K hK
          obtain ⟨x0, x1, x2, x3, x4, x5, x6, x7, x8, x9, x10, x11, x12, x13, x14, x15, x16, x17, x18, x19, x20, x21, x22, x23, x24, x25, rfl⟩ := len26 hlen
          have hG := hI.1
          replace hI := hI.2
          have f0 := hide hI.1
          replace hI := hI.2
          have f1 := hide hI.1
          replace hI := hI.2
          have f2 := hide hI.1
          replace hI := hI.2
          have f3 := hide hI.1
          replace hI := hI.2
          have f4 := hide hI.1
          replace hI := hI.2
          have f5 := hide hI.1
          replace hI := hI.2
          have f6 := hide hI.1
          replace hI := hI.2
          have f7 := hide hI.1
          replace hI := hI.2
          have f8 := hide hI.1
          replace hI := hI.2
          have f9 := hide hI.1
          replace hI := hI.2
          have f10 := hide hI.1
          replace hI := hI.2
          have f11 := hide hI.1
          replace hI := hI.2
          have f12 := hide hI.1
          replace hI := hI.2
          have f13 := hide hI.1
          replace hI := hI.2
          have f14 := hide hI.1
          replace hI := hI.2
          have f15 := hide hI.1
          replace hI := hI.2
          have f16 := hide hI.1
          replace hI := hI.2
          have f17 := hide hI.1
          replace hI := hI.2
          have f18 := hide hI.1
          replace hI := hI.2
          have f19 := hide hI.1
          replace hI := hI.2
          have f20 := hide hI.1
          replace hI := hI.2
          have f21 := hide hI.1
          replace hI := hI.2
          have f22 := hide hI.1
          replace hI := hI.2
          have f23 := hide hI.1
          replace hI := hI.2
          have f24 := hide hI.1
          replace hI := hI.2
          have f25 := hide hI
          clear hI
          have p0 := keep hG p0
          have p1 := keep hG p1
          have p2 := keep hG p2
          obtain rfl := f7.out (hD.on 7 (by kernel_rfl))
          obtain rfl := f14.out (hD.on 14 (by kernel_rfl))
          try simp only [puts, Act.put, List.setIfInBounds_toArray, List.set_cons_zero, List.set_cons_succ]
          try go_simp
          exact hK.out _ _ _ (by simp only [puts, Act.put, List.setIfInBounds_toArray, List.set_cons_zero, List.set_cons_succ] <;> rfl) ⟨hG, (fun h => f0.out h), (fun h => f1.out h), (fun h => f2.out h), (fun h => f3.out h), (fun h => f4.out h), (fun h => f5.out h), (fun h => f6.out h), (fun h => f7.out h), (fun h => f8.out h), (fun h => f9.out h), (fun h => f10.out h), (fun h => f11.out h), (fun h => f12.out h), (fun h => f13.out h), (fun h => f14.out h), (fun _ => rfl), (fun h => f16.out h), (fun h => f17.out h), (fun h => f18.out h), (fun h => f19.out h), (fun h => f20.out h), (fun h => f21.out h), (fun h => f22.out h), (fun h => f23.out h), (fun h => f24.out h), (fun h => f25.out h)⟩
        · intro L vs W hlen hL hD hI K hK
          obtain ⟨x0, x1, x2, x3, x4, x5, x6, x7, x8, x9, x10, x11, x12, x13, x14, x15, x16, x17, x18, x19, x20, x21, x22, x23, x24, x25, rfl⟩ := len26 hlen
          have hG := hI.1
          replace hI := hI.2
          have f0 := hide hI.1
          replace hI := hI.2
          have f1 := hide hI.1
          replace hI := hI.2
          have f2 := hide hI.1
          replace hI := hI.2
          have f3 := hide hI.1
          replace hI := hI.2
          have f4 := hide hI.1
          replace hI := hI.2
          have f5 := hide hI.1
          replace hI := hI.2
          have f6 := hide hI.1
          replace hI := hI.2
          have f7 := hide hI.1
          replace hI := hI.2
          have f8 := hide hI.1
          replace hI := hI.2
          have f9 := hide hI.1
          replace hI := hI.2
          have f10 := hide hI.1
          replace hI := hI.2
          have f11 := hide hI.1
          replace hI := hI.2
          have f12 := hide hI.1
          replace hI := hI.2
          have f13 := hide hI.1
          replace hI := hI.2
          have f14 := hide hI.1
          replace hI := hI.2
          have f15 := hide hI.1
          replace hI := hI.2
          have f16 := hide hI.1
          replace hI := hI.2
          have f17 := hide hI.1
          replace hI := hI.2
          have f18 := hide hI.1
          replace hI := hI.2
          have f19 := hide hI.1
          replace hI := hI.2
          have f20 := hide hI.1
          replace hI := hI.2
          have f21 := hide hI.1
          replace hI := hI.2
          have f22 := hide hI.1
          replace hI := hI.2
          have f23 := hide hI.1
          replace hI := hI.2
          have f24 := hide hI.1
          replace hI := hI.2
          have f25 := hide hI
          clear hI
          have p0 := keep hG p0
          have p1 := keep hG p1
          have p2 := keep hG p2
          obtain rfl := f15.out (hD.on 15 (by kernel_rfl))
          try simp only [puts, Act.put, List.setIfInBounds_toArray, List.set_cons_zero, List.set_cons_succ]
          try go_simp
          exact hK.out _ _ _ (by simp only [puts, Act.put, List.setIfInBounds_toArray, List.set_cons_zero, List.set_cons_succ] <;> rfl) ⟨hG, (fun h => f0.out h), (fun h => f1.out h), (fun h => f2.out h), (fun h => f3.out h), (fun h => f4.out h), (fun h => f5.out h), (fun h => f6.out h), (fun h => f7.out h), (fun h => f8.out h), (fun h => f9.out h), (fun h => f10.out h), (fun h => f11.out h), (fun h => f12.out h), (fun h => f13.out h), (fun h => f14.out h), (fun h => f15.out h), (fun _ => rfl), (fun h => f17.out h), (fun h => f18.out h), (fun h => f19.out h), (fun h => f20.out h), (fun h => f21.out h), (fun h => f22.out h), (fun h => f23.out h), (fun h => f24.out h), (fun h => f25.out h)⟩
        · intro L vs W hlen hL hD hI K hK
          obtain ⟨x0, x1, x2, x3, x4, x5, x6, x7, x8, x9, x10, x11, x12, x13, x14, x15, x16, x17, x18, x19, x20, x21, x22, x23, x24, x25, rfl⟩ := len26 hlen
          have hG := hI.1
          replace hI := hI.2
          have f0 := hide hI.1
          replace hI := hI.2
          have f1 := hide hI.1
          replace hI := hI.2
          have f2 := hide hI.1
          replace hI := hI.2
          have f3 := hide hI.1
          replace hI := hI.2
          have f4 := hide hI.1
          replace hI := hI.2
          have f5 := hide hI.1
          replace hI := hI.2
          have f6 := hide hI.1
          replace hI := hI.2
          have f7 := hide hI.1
          replace hI := hI.2
          have f8 := hide hI.1
          replace hI := hI.2
          have f9 := hide hI.1
          replace hI := hI.2
          have f10 := hide hI.1
          replace hI := hI.2
          have f11 := hide hI.1
          replace hI := hI.2
          have f12 := hide hI.1
          replace hI := hI.2
          have f13 := hide hI.1
          replace hI := hI.2
          have f14 := hide hI.1
          replace hI := hI.2
          have f15 := hide hI.1
          replace hI := hI.2
          have f16 := hide hI.1
          replace hI := hI.2
          have f17 := hide hI.1
          replace hI := hI.2
          have f18 := hide hI.1
          replace hI := hI.2
          have f19 := hide hI.1
          replace hI := hI.2
          have f20 := hide hI.1
          replace hI := hI.2
          have f21 := hide hI.1
          replace hI := hI.2
          have f22 := hide hI.1
          replace hI := hI.2
          have f23 := hide hI.1
          replace hI := hI.2
          have f24 := hide hI.1
          replace hI := hI.2
          have f25 := hide hI
          clear hI
          have p0 := keep hG p0
          have p1 := keep hG p1
          have p2 := keep hG p2
          obtain rfl := f16.out (hD.on 16 (by kernel_rfl))
          try simp only [puts, Act.put, List.setIfInBounds_toArray, List.set_cons_zero, List.set_cons_succ]
          try go_simp
          exact hK.out _ _ _ (by simp only [puts, Act.put, List.setIfInBounds_toArray, List.set_cons_zero, List.set_cons_succ] <;> rfl) ⟨hG, (fun h => f0.out h), (fun h => f1.out h), (fun h => f2.out h), (fun h => f3.out h), (fun h => f4.out h), (fun h => f5.out h), (fun h => f6.out h), (fun h => f7.out h), (fun h => f8.out h), (fun h => f9.out h), (fun h => f10.out h), (fun h => f11.out h), (fun h => f12.out h), (fun h => f13.out h), (fun h => f14.out h), (fun h => f15.out h), (fun h => f16.out h), (fun _ => rfl), (fun h => f18.out h), (fun h => f19.out h), (fun h => f20.out h), (fun h => f21.out h), (fun h => f22.out h), (fun h => f23.out h), (fun h => f24.out h), (fun h => f25.out h)⟩
        · intro L vs W hlen hL hD hI K hK
          obtain ⟨x0, x1, x2, x3, x4, x5, x6, x7, x8, x9, x10, x11, x12, x13, x14, x15, x16, x17, x18, x19, x20, x21, x22, x23, x24, x25, rfl⟩ := len26 hlen
          have hG := hI.1
          replace hI := hI.2
          have f0 := hide hI.1
          replace hI := hI.2
          have f1 := hide hI.1
          replace hI := hI.2
          have f2 := hide hI.1
          replace hI := hI.2
          have f3 := hide hI.1
          replace hI := hI.2
          have f4 := hide hI.1
          replace hI := hI.2
          have f5 := hide hI.1
          replace hI := hI.2
          have f6 := hide hI.1
          replace hI := hI.2
          have f7 := hide hI.1
          replace hI := hI.2
          have f8 := hide hI.1
          replace hI := hI.2
          have f9 := hide hI.1
          replace hI := hI.2
          have f10 := hide hI.1
          replace hI := hI.2
          have f11 := hide hI.1
          replace hI := hI.2
          have f12 := hide hI.1
          replace hI := hI.2
          have f13 := hide hI.1
          replace hI := hI.2
          have f14 := hide hI.1
          replace hI := hI.2
          have f15 := hide hI.1
          replace hI := hI.2
          have f16 := hide hI.1
          replace hI := hI.2
          have f17 := hide hI.1
          replace hI := hI.2
          have f18 := hide hI.1
          replace hI := hI.2
          have f19 := hide hI.1
          replace hI := hI.2
          have f20 := hide hI.1
          replace hI := hI.2
          have f21 := hide hI.1
          replace hI := hI.2
          have f22 := hide hI.1
          replace hI := hI.2
          have f23 := hide hI.1
          replace hI := hI.2
          have f24 := hide hI.1
          replace hI := hI.2
          have f25 := hide hI
          clear hI
          have p0 := keep hG p0
          have p1 := keep hG p1
          have p2 := keep hG p2
          obtain rfl := f16.out (hD.on 16 (by kernel_rfl))
          try simp only [puts, Act.put, List.setIfInBounds_toArray, List.set_cons_zero, List.set_cons_succ]
          try go_simp
          exact hK.out _ _ _ (by simp only [puts, Act.put, List.setIfInBounds_toArray, List.set_cons_zero, List.set_cons_succ] <;> rfl) ⟨hG, (fun h => f0.out h), (fun h => f1.out h), (fun h => f2.out h), (fun h => f3.out h), (fun h => f4.out h), (fun h => f5.out h), (fun h => f6.out h), (fun h => f7.out h), (fun h => f8.out h), (fun h => f9.out h), (fun h => f10.out h), (fun h => f11.out h), (fun h => f12.out h), (fun h => f13.out h), (fun h => f14.out h), (fun h => f15.out h), (fun h => f16.out h), (fun h => f17.out h), (fun _ => rfl), (fun h => f19.out h), (fun h => f20.out h), (fun h => f21.out h), (fun h => f22.out h), (fun h => f23.out h), (fun h => f24.out h), (fun h => f25.out h)⟩
        · intro L vs W hlen hL hD hI K hK
          obtain ⟨x0, x1, x2, x3, x4, x5, x6, x7, x8, x9, x10, x11, x12, x13, x14, x15, x16, x17, x18, x19, x20, x21, x22, x23, x24, x25, rfl⟩ := len26 hlen
          have hG := hI.1
          replace hI := hI.2
          have f0 := hide hI.1
          replace hI := hI.2
          have f1 := hide hI.1
          replace hI := hI.2
          have f2 := hide hI.1
          replace hI := hI.2
          have f3 := hide hI.1
          replace hI := hI.2
          have f4 := hide hI.1
          replace hI := hI.2
          have f5 := hide hI.1
          replace hI := hI.2
          have f6 := hide hI.1
          replace hI := hI.2
          have f7 := hide hI.1
          replace hI := hI.2
          have f8 := hide hI.1
          replace hI := hI.2
          have f9 := hide hI.1
          replace hI := hI.2
          have f10 := hide hI.1
          replace hI := hI.2
          have f11 := hide hI.1
          replace hI := hI.2
          have f12 := hide hI.1
          replace hI := hI.2
          have f13 := hide hI.1
          replace hI := hI.2
          have f14 := hide hI.1
          replace hI := hI.2
          have f15 := hide hI.1
          replace hI := hI.2
          have f16 := hide hI.1
          replace hI := hI.2
          have f17 := hide hI.1
          replace hI := hI.2
          have f18 := hide hI.1
          replace hI := hI.2
          have f19 := hide hI.1
          replace hI := hI.2
          have f20 := hide hI.1
          replace hI := hI.2
          have f21 := hide hI.1
          replace hI := hI.2
          have f22 := hide hI.1
          replace hI := hI.2
          have f23 := hide hI.1
          replace hI := hI.2
          have f24 := hide hI.1
          replace hI := hI.2
          have f25 := hide hI
          clear hI
          have p0 := keep hG p0
          have p1 := keep hG p1
          have p2 := keep hG p2
          obtain rfl := f16.out (hD.on 16 (by kernel_rfl))
          obtain rfl := f17.out (hD.on 17 (by kernel_rfl))
          obtain rfl := f18.out (hD.on 18 (by kernel_rfl))
          try simp only [puts, Act.put, List.setIfInBounds_toArray, List.set_cons_zero, List.set_cons_succ]
          try go_simp
          refine (HB1z.out _ (below2 hbj hG)).mono ?_
          rintro e W' ⟨v1, rfl, hv1, hb⟩
          try go_simp
          exact hK.out _ _ _ (by simp only [puts, Act.put, List.setIfInBounds_toArray, List.set_cons_zero, List.set_cons_succ] <;> rfl) ⟨below2 hG hb, (fun h => f0.out h), (fun h => f1.out h), (fun h => f2.out h), (fun h => f3.out h), (fun h => f4.out h), (fun h => f5.out h), (fun h => f6.out h), (fun h => f7.out h), (fun h => f8.out h), (fun h => f9.out h), (fun h => f10.out h), (fun h => f11.out h), (fun h => f12.out h), (fun h => f13.out h), (fun h => f14.out h), (fun h => f15.out h), (fun h => f16.out h), (fun h => f17.out h), (fun h => f18.out h), (fun _ => hv1.keeps (keeps_frm _ _)), (fun h => f20.out h), (fun h => f21.out h), (fun h => (fun h => h.below hb) (f22.out h)), (fun h => f23.out h), (fun h => f24.out h), (fun h => f25.out h)⟩
        · intro L vs W hlen hL hD hI K hK
          obtain ⟨x0, x1, x2, x3, x4, x5, x6, x7, x8, x9, x10, x11, x12, x13, x14, x15, x16, x17, x18, x19, x20, x21, x22, x23, x24, x25, rfl⟩ := len26 hlen
          have hG := hI.1
          replace hI := hI.2
          have f0 := hide hI.1
          replace hI := hI.2
          have f1 := hide hI.1
          replace hI := hI.2
          have f2 := hide hI.1
          replace hI := hI.2
          have f3 := hide hI.1
          replace hI := hI.2
          have f4 := hide hI.1
          replace hI := hI.2
          have f5 := hide hI.1
          replace hI := hI.2
          have f6 := hide hI.1
          replace hI := hI.2
          have f7 := hide hI.1
          replace hI := hI.2
          have f8 := hide hI.1
          replace hI := hI.2
          have f9 := hide hI.1
          replace hI := hI.2
          have f10 := hide hI.1
          replace hI := hI.2
          have f11 := hide hI.1
          replace hI := hI.2
          have f12 := hide hI.1
          replace hI := hI.2
          have f13 := hide hI.1
          replace hI := hI.2
          have f14 := hide hI.1
          replace hI := hI.2
          have f15 := hide hI.1
          replace hI := hI.2
          have f16 := hide hI.1
          replace hI := hI.2
          have f17 := hide hI.1
          replace hI := hI.2
          have f18 := hide hI.1
          replace hI := hI.2
          have f19 := hide hI.1
          replace hI := hI.2
          have f20 := hide hI.1
          replace hI := hI.2
          have f21 := hide hI.1
          replace hI := hI.2
          have f22 := hide hI.1
          replace hI := hI.2
          have f23 := hide hI.1
          replace hI := hI.2
          have f24 := hide hI.1
          replace hI := hI.2
          have f25 := hide hI
          clear hI
          have p0 := keep hG p0
          have p1 := keep hG p1
          have p2 := keep hG p2
          obtain rfl := f16.out (hD.on 16 (by kernel_rfl))
          try simp only [puts, Act.put, List.setIfInBounds_toArray, List.set_cons_zero, List.set_cons_succ]
          try go_simp
          exact hK.out _ _ _ (by simp only [puts, Act.put, List.setIfInBounds_toArray, List.set_cons_zero, List.set_cons_succ] <;> rfl) ⟨hG, (fun h => f0.out h), (fun h => f1.out h), (fun h => f2.out h), (fun h => f3.out h), (fun h => f4.out h), (fun h => f5.out h), (fun h => f6.out h), (fun h => f7.out h), (fun h => f8.out h), (fun h => f9.out h), (fun h => f10.out h), (fun h => f11.out h), (fun h => f12.out h), (fun h => f13.out h), (fun h => f14.out h), (fun h => f15.out h), (fun h => f16.out h), (fun h => f17.out h), (fun h => f18.out h), (fun h => f19.out h), (fun _ => rfl), (fun h => f21.out h), (fun h => f22.out h), (fun h => f23.out h), (fun h => f24.out h), (fun h => f25.out h)⟩
        · intro L vs W hlen hL hD hI K hK
          obtain ⟨x0, x1, x2, x3, x4, x5, x6, x7, x8, x9, x10, x11, x12, x13, x14, x15, x16, x17, x18, x19, x20, x21, x22, x23, x24, x25, rfl⟩ := len26 hlen
          have hG := hI.1
          replace hI := hI.2
          have f0 := hide hI.1
          replace hI := hI.2
          have f1 := hide hI.1
          replace hI := hI.2
          have f2 := hide hI.1
          replace hI := hI.2
          have f3 := hide hI.1
          replace hI := hI.2
          have f4 := hide hI.1
          replace hI := hI.2
          have f5 := hide hI.1
          replace hI := hI.2
          have f6 := hide hI.1
          replace hI := hI.2
          have f7 := hide hI.1
          replace hI := hI.2
          have f8 := hide hI.1
          replace hI := hI.2
          have f9 := hide hI.1
          replace hI := hI.2
          have f10 := hide hI.1
          replace hI := hI.2
          have f11 := hide hI.1
          replace hI := hI.2
          have f12 := hide hI.1
          replace hI := hI.2
          have f13 := hide hI.1
          replace hI := hI.2
          have f14 := hide hI.1
          replace hI := hI.2
          have f15 := hide hI.1
          replace hI := hI.2
          have f16 := hide hI.1
          replace hI := hI.2
          have f17 := hide hI.1
          replace hI := hI.2
          have f18 := hide hI.1
          replace hI := hI.2
          have f19 := hide hI.1
          replace hI := hI.2
          have f20 := hide hI.1
          replace hI := hI.2
          have f21 := hide hI.1
          replace hI := hI.2
          have f22 := hide hI.1
          replace hI := hI.2
          have f23 := hide hI.1
          replace hI := hI.2
          have f24 := hide hI.1
          replace hI := hI.2
          have f25 := hide hI
          clear hI
          have p0 := keep hG p0
          have p1 := keep hG p1
          have p2 := keep hG p2
          obtain rfl := f16.out (hD.on 16 (by kernel_rfl))
          try simp only [puts, Act.put, List.setIfInBounds_toArray, List.set_cons_zero, List.set_cons_succ]
          try go_simp
          exact hK.out _ _ _ (by simp only [puts, Act.put, List.setIfInBounds_toArray, List.set_cons_zero, List.set_cons_succ] <;> rfl) ⟨hG, (fun h => f0.out h), (fun h => f1.out h), (fun h => f2.out h), (fun h => f3.out h), (fun h => f4.out h), (fun h => f5.out h), (fun h => f6.out h), (fun h => f7.out h), (fun h => f8.out h), (fun h => f9.out h), (fun h => f10.out h), (fun h => f11.out h), (fun h => f12.out h), (fun h => f13.out h), (fun h => f14.out h), (fun h => f15.out h), (fun h => f16.out h), (fun h => f17.out h), (fun h => f18.out h), (fun h => f19.out h), (fun h => f20.out h), (fun _ => rfl), (fun h => f22.out h), (fun h => f23.out h), (fun h => f24.out h), (fun h => f25.out h)⟩
        · intro L vs W hlen hL hD hI K hK
          obtain ⟨x0, x1, x2, x3, x4, x5, x6, x7, x8, x9, x10, x11, x12, x13, x14, x15, x16, x17, x18, x19, x20, x21, x22, x23, x24, x25, rfl⟩ := len26 hlen
          have hG := hI.1
          replace hI := hI.2
          have f0 := hide hI.1
          replace hI := hI.2
          have f1 := hide hI.1
          replace hI := hI.2
          have f2 := hide hI.1
          replace hI := hI.2
          have f3 := hide hI.1
          replace hI := hI.2
          have f4 := hide hI.1
          replace hI := hI.2
          have f5 := hide hI.1
          replace hI := hI.2
          have f6 := hide hI.1
          replace hI := hI.2
          have f7 := hide hI.1
          replace hI := hI.2
          have f8 := hide hI.1
          replace hI := hI.2
          have f9 := hide hI.1
          replace hI := hI.2
          have f10 := hide hI.1
          replace hI := hI.2
          have f11 := hide hI.1
          replace hI := hI.2
          have f12 := hide hI.1
          replace hI := hI.2
          have f13 := hide hI.1
          replace hI := hI.2
          have f14 := hide hI.1
          replace hI := hI.2
          have f15 := hide hI.1
          replace hI := hI.2
          have f16 := hide hI.1
          replace hI := hI.2
          have f17 := hide hI.1
          replace hI := hI.2
          have f18 := hide hI.1
          replace hI := hI.2
          have f19 := hide hI.1
          replace hI := hI.2
          have f20 := hide hI.1
          replace hI := hI.2
          have f21 := hide hI.1
          replace hI := hI.2
          have f22 := hide hI.1
          replace hI := hI.2
          have f23 := hide hI.1
          replace hI := hI.2
          have f24 := hide hI.1
          replace hI := hI.2
          have f25 := hide hI
          clear hI
          have p0 := keep hG p0
          have p1 := keep hG p1
          have p2 := keep hG p2
          obtain rfl := f16.out (hD.on 16 (by kernel_rfl))
          obtain rfl := f20.out (hD.on 20 (by kernel_rfl))
          obtain rfl := f21.out (hD.on 21 (by kernel_rfl))
          try simp only [puts, Act.put, List.setIfInBounds_toArray, List.set_cons_zero, List.set_cons_succ]
          try go_simp
          refine (HB2z.out _ (below2 hbj hG)).mono ?_
          rintro e W' ⟨v1, rfl, hv1, hb⟩
          try go_simp
          exact hK.out _ _ _ (by simp only [puts, Act.put, List.setIfInBounds_toArray, List.set_cons_zero, List.set_cons_succ] <;> rfl) ⟨below2 hG hb, (fun h => f0.out h), (fun h => f1.out h), (fun h => f2.out h), (fun h => f3.out h), (fun h => f4.out h), (fun h => f5.out h), (fun h => f6.out h), (fun h => f7.out h), (fun h => f8.out h), (fun h => f9.out h), (fun h => f10.out h), (fun h => f11.out h), (fun h => f12.out h), (fun h => f13.out h), (fun h => f14.out h), (fun h => f15.out h), (fun h => f16.out h), (fun h => f17.out h), (fun h => f18.out h), (fun h => (fun h => h.below hb) (f19.out h)), (fun h => f20.out h), (fun h => f21.out h), (fun _ => hv1.keeps (keeps_frm _ _)), (fun h => f23.out h), (fun h => f24.out h), (fun h => f25.out h)⟩
        · intro L vs W hlen hL hD hI K hK
          obtain ⟨x0, x1, x2, x3, x4, x5, x6, x7, x8, x9, x10, x11, x12, x13, x14, x15, x16, x17, x18, x19, x20, x21, x22, x23, x24, x25, rfl⟩ := len26 hlen
          have hG := hI.1
          replace hI := hI.2
          have f0 := hide hI.1
          replace hI := hI.2
          have f1 := hide hI.1
          replace hI := hI.2
          have f2 := hide hI.1
          replace hI := hI.2
          have f3 := hide hI.1
          replace hI := hI.2
          have f4 := hide hI.1
          replace hI := hI.2
          have f5 := hide hI.1
          replace hI := hI.2
          have f6 := hide hI.1
          replace hI := hI.2
          have f7 := hide hI.1
          replace hI := hI.2
          have f8 := hide hI.1
          replace hI := hI.2
          have f9 := hide hI.1
          replace hI := hI.2
          have f10 := hide hI.1
          replace hI := hI.2
          have f11 := hide hI.1
          replace hI := hI.2
          have f12 := hide hI.1
          replace hI := hI.2
          have f13 := hide hI.1
          replace hI := hI.2
          have f14 := hide hI.1
          replace hI := hI.2
          have f15 := hide hI.1
          replace hI := hI.2
          have f16 := hide hI.1
          replace hI := hI.2
          have f17 := hide hI.1
          replace hI := hI.2
          have f18 := hide hI.1
          replace hI := hI.2
          have f19 := hide hI.1
          replace hI := hI.2
          have f20 := hide hI.1
          replace hI := hI.2
          have f21 := hide hI.1
          replace hI := hI.2
          have f22 := hide hI.1
          replace hI := hI.2
          have f23 := hide hI.1
          replace hI := hI.2
          have f24 := hide hI.1
          replace hI := hI.2
          have f25 := hide hI
          clear hI
          have p0 := keep hG p0
          have p1 := keep hG p1
          have p2 := keep hG p2
          obtain rfl := f16.out (hD.on 16 (by kernel_rfl))
          have g19 := f19.out (hD.on 19 (by kernel_rfl))
          have g22 := f22.out (hD.on 22 (by kernel_rfl))
          try simp only [puts, Act.put, List.setIfInBounds_toArray, List.set_cons_zero, List.set_cons_succ]
          try go_simp
          refine (HIB.out _ _ _ g19 g22).mono ?_
          rintro e W' ⟨rfl, hb⟩
          try go_simp
          exact hK.out _ _ _ (by simp only [puts, Act.put, List.setIfInBounds_toArray, List.set_cons_zero, List.set_cons_succ] <;> rfl) ⟨below2 hG hb, (fun h => f0.out h), (fun h => f1.out h), (fun h => f2.out h), (fun h => f3.out h), (fun h => f4.out h), (fun h => f5.out h), (fun h => f6.out h), (fun h => f7.out h), (fun h => f8.out h), (fun h => f9.out h), (fun h => f10.out h), (fun h => f11.out h), (fun h => f12.out h), (fun h => f13.out h), (fun h => f14.out h), (fun h => f15.out h), (fun h => f16.out h), (fun h => f17.out h), (fun h => f18.out h), (fun h => (fun h => h.below hb) (f19.out h)), (fun h => f20.out h), (fun h => f21.out h), (fun h => (fun h => h.below hb) (f22.out h)), (fun _ => rfl), (fun h => f24.out h), (fun h => f25.out h)⟩
        · intro L vs W hlen hL hD hI K hK
          obtain ⟨x0, x1, x2, x3, x4, x5, x6, x7, x8, x9, x10, x11, x12, x13, x14, x15, x16, x17, x18, x19, x20, x21, x22, x23, x24, x25, rfl⟩ := len26 hlen
          have hG := hI.1
          replace hI := hI.2
          have f0 := hide hI.1
          replace hI := hI.2
          have f1 := hide hI.1
          replace hI := hI.2
          have f2 := hide hI.1
          replace hI := hI.2
          have f3 := hide hI.1
          replace hI := hI.2
          have f4 := hide hI.1
          replace hI := hI.2
          have f5 := hide hI.1
          replace hI := hI.2
          have f6 := hide hI.1
          replace hI := hI.2
          have f7 := hide hI.1
          replace hI := hI.2
          have f8 := hide hI.1
          replace hI := hI.2
          have f9 := hide hI.1
          replace hI := hI.2
          have f10 := hide hI.1
          replace hI := hI.2
          have f11 := hide hI.1
          replace hI := hI.2
          have f12 := hide hI.1
          replace hI := hI.2
          have f13 := hide hI.1
          replace hI := hI.2
          have f14 := hide hI.1
          replace hI := hI.2
          have f15 := hide hI.1
          replace hI := hI.2
          have f16 := hide hI.1
          replace hI := hI.2
          have f17 := hide hI.1
          replace hI := hI.2
          have f18 := hide hI.1
          replace hI := hI.2
          have f19 := hide hI.1
          replace hI := hI.2
          have f20 := hide hI.1
          replace hI := hI.2
          have f21 := hide hI.1
          replace hI := hI.2
          have f22 := hide hI.1
          replace hI := hI.2
          have f23 := hide hI.1
          replace hI := hI.2
          have f24 := hide hI.1
          replace hI := hI.2
          have f25 := hide hI
          clear hI
          have p0 := keep hG p0
          have p1 := keep hG p1
          have p2 := keep hG p2
          obtain rfl := f16.out (hD.on 16 (by kernel_rfl))
          obtain rfl := f23.out (hD.on 23 (by kernel_rfl))
          try simp only [puts, Act.put, List.setIfInBounds_toArray, List.set_cons_zero, List.set_cons_succ]
          try go_simp
          exact hK.out _ _ _ (by simp only [puts, Act.put, List.setIfInBounds_toArray, List.set_cons_zero, List.set_cons_succ] <;> rfl) ⟨hG, (fun h => f0.out h), (fun h => f1.out h), (fun h => f2.out h), (fun h => f3.out h), (fun h => f4.out h), (fun h => f5.out h), (fun h => f6.out h), (fun h => f7.out h), (fun h => f8.out h), (fun h => f9.out h), (fun h => f10.out h), (fun h => f11.out h), (fun h => f12.out h), (fun h => f13.out h), (fun h => f14.out h), (fun h => f15.out h), (fun h => f16.out h), (fun h => f17.out h), (fun h => f18.out h), (fun h => f19.out h), (fun h => f20.out h), (fun h => f21.out h), (fun h => f22.out h), (fun h => f23.out h), (fun _ => rfl), (fun h => f25.out h)⟩
        · intro L vs W hlen hL hD hI K hK
          obtain ⟨x0, x1, x2, x3, x4, x5, x6, x7, x8, x9, x10, x11, x12, x13, x14, x15, x16, x17, x18, x19, x20, x21, x22, x23, x24, x25, rfl⟩ := len26 hlen
          have hG := hI.1
          replace hI := hI.2
          have f0 := hide hI.1
          replace hI := hI.2
          have f1 := hide hI.1
          replace hI := hI.2
          have f2 := hide hI.1
          replace hI := hI.2
          have f3 := hide hI.1
          replace hI := hI.2
          have f4 := hide hI.1
          replace hI := hI.2
          have f5 := hide hI.1
          replace hI := hI.2
          have f6 := hide hI.1
          replace hI := hI.2
          have f7 := hide hI.1
          replace hI := hI.2
          have f8 := hide hI.1
          replace hI := hI.2
          have f9 := hide hI.1
          replace hI := hI.2
          have f10 := hide hI.1
          replace hI := hI.2
          have f11 := hide hI.1
          replace hI := hI.2
          have f12 := hide hI.1
          replace hI := hI.2
          have f13 := hide hI.1
          replace hI := hI.2
          have f14 := hide hI.1
          replace hI := hI.2
          have f15 := hide hI.1
          replace hI := hI.2
          have f16 := hide hI.1
          replace hI := hI.2
          have f17 := hide hI.1
          replace hI := hI.2
          have f18 := hide hI.1
          replace hI := hI.2
          have f19 := hide hI.1
          replace hI := hI.2
          have f20 := hide hI.1
          replace hI := hI.2
          have f21 := hide hI.1
          replace hI := hI.2
          have f22 := hide hI.1
          replace hI := hI.2
          have f23 := hide hI.1
          replace hI := hI.2
          have f24 := hide hI.1
          replace hI := hI.2
          have f25 := hide hI
          clear hI
          have p0 := keep hG p0
          have p1 := keep hG p1
          have p2 := keep hG p2
          obtain rfl := f16.out (hD.on 16 (by kernel_rfl))
          obtain rfl := f24.out (hD.on 24 (by kernel_rfl))
          try simp only [puts, Act.put, List.setIfInBounds_toArray, List.set_cons_zero, List.set_cons_succ]
          try go_simp
          exact hK.out _ _ _ (by simp only [puts, Act.put, List.setIfInBounds_toArray, List.set_cons_zero, List.set_cons_succ] <;> rfl) ⟨hG, (fun h => f0.out h), (fun h => f1.out h), (fun h => f2.out h), (fun h => f3.out h), (fun h => f4.out h), (fun h => f5.out h), (fun h => f6.out h), (fun h => f7.out h), (fun h => f8.out h), (fun h => f9.out h), (fun h => f10.out h), (fun h => f11.out h), (fun h => f12.out h), (fun h => f13.out h), (fun h => f14.out h), (fun h => f15.out h), (fun h => f16.out h), (fun h => f17.out h), (fun h => f18.out h), (fun h => f19.out h), (fun h => f20.out h), (fun h => f21.out h), (fun h => f22.out h), (fun h => f23.out h), (fun h => f24.out h), (fun _ => rfl)⟩
      intro L vs W hlen hall hI
      obtain ⟨x0, x1, x2, x3, x4, x5, x6, x7, x8, x9, x10, x11, x12, x13, x14, x15, x16, x17, x18, x19, x20, x21, x22, x23, x24, x25, rfl⟩ := len26 hlen
      have hG := hI.1
      replace hI := hI.2
      have f0 := hide hI.1
      replace hI := hI.2
      have f1 := hide hI.1
      replace hI := hI.2
      have f2 := hide hI.1
      replace hI := hI.2
      have f3 := hide hI.1
      replace hI := hI.2
      have f4 := hide hI.1
      replace hI := hI.2
      have f5 := hide hI.1
      replace hI := hI.2
      have f6 := hide hI.1
      replace hI := hI.2
      have f7 := hide hI.1
      replace hI := hI.2
      have f8 := hide hI.1
      replace hI := hI.2
      have f9 := hide hI.1
      replace hI := hI.2
      have f10 := hide hI.1
      replace hI := hI.2
      have f11 := hide hI.1
      replace hI := hI.2
      have f12 := hide hI.1
      replace hI := hI.2
      have f13 := hide hI.1
      replace hI := hI.2
      have f14 := hide hI.1
      replace hI := hI.2
      have f15 := hide hI.1
      replace hI := hI.2
      have f16 := hide hI.1
      replace hI := hI.2
      have f17 := hide hI.1
      replace hI := hI.2
      have f18 := hide hI.1
      replace hI := hI.2
      have f19 := hide hI.1
      replace hI := hI.2
      have f20 := hide hI.1
      replace hI := hI.2
      have f21 := hide hI.1
      replace hI := hI.2
      have f22 := hide hI.1
      replace hI := hI.2
      have f23 := hide hI.1
      replace hI := hI.2
      have f24 := hide hI.1
      replace hI := hI.2
      have f25 := hide hI
      clear hI
      obtain rfl := f0.out (hall 0 (by decide))
      obtain rfl := f1.out (hall 1 (by decide))
      obtain rfl := f2.out (hall 2 (by decide))
      obtain rfl := f3.out (hall 3 (by decide))
      obtain rfl := f4.out (hall 4 (by decide))
      obtain rfl := f5.out (hall 5 (by decide))
      obtain rfl := f6.out (hall 6 (by decide))
      obtain rfl := f7.out (hall 7 (by decide))
      obtain rfl := f8.out (hall 8 (by decide))
      obtain rfl := f9.out (hall 9 (by decide))
      obtain rfl := f10.out (hall 10 (by decide))
      obtain rfl := f11.out (hall 11 (by decide))
      obtain rfl := f12.out (hall 12 (by decide))
      obtain rfl := f13.out (hall 13 (by decide))
      obtain rfl := f14.out (hall 14 (by decide))
      obtain rfl := f15.out (hall 15 (by decide))
      obtain rfl := f16.out (hall 16 (by decide))
      obtain rfl := f17.out (hall 17 (by decide))
      obtain rfl := f18.out (hall 18 (by decide))
      have g19 := f19.out (hall 19 (by decide))
      obtain rfl := f20.out (hall 20 (by decide))
      obtain rfl := f21.out (hall 21 (by decide))
      have g22 := f22.out (hall 22 (by decide))
      obtain rfl := f23.out (hall 23 (by decide))
      obtain rfl := f24.out (hall 24 (by decide))
      obtain rfl := f25.out (hall 25 (by decide))
      have hal := hide hall
      clear hall f0 f1 f2 f3 f4 f5 f6 f7 f8 f9 f10 f11 f12 f13 f14 f15 f16 f17 f18 f19 f20 f21 f22 f23 f24 f25
      try simp only [puts, Act.put, List.setIfInBounds_toArray, List.set_cons_zero, List.set_cons_succ]
      obtain ⟨W8, hW8⟩ : ∃ Z, Z = W := ⟨_, rfl⟩
      subst hW8
      have hb48 := below2 hbj hG
      have bP9 := bP7.later hb48
      clear g19 g22 hal p0 p1 p2 HK1z HK2z HG1z HG2z HB1z HB2z HIB
      go_wp2_with fail
      go_loopw [33] (fun i wr => ∃ r : Nat, r ≤ q.rows.length ∧ i = .int .i64 r ∧ Below V4.heap.size V4 wr) (fun i _ => q.rows.length - (intOf i).toNat)
      case atStart => exact ⟨0, by omega, rfl, hb48⟩
      case round =>
        obtain ⟨r, hrr, rfl, hbr'⟩ := hrel
        have bPr := bP7.later hbr'
        have p1 := bPr.cell 1 rfl
        by_cases hlr : r < q.rows.length
        · have hrl : decide (r < q.rows.length) = true := by simpa using hlr
          obtain ⟨b, o, cv, rfl, hck⟩ := HPC2.out r hlr
          generalize q.rows.getD r row0 = x' at hck
          obtain ⟨e0, e1, e2, e3, e4, e5, e6⟩ := hck.below hbr'
          obtain ⟨ca, cc, rfl, -, -, -⟩ := id e6
          have HC1 := hide (fun (i : Bw wr.heap.size wr) => sum_any x' _ z i.W (IntsIn.keeps (keeps_of_below i.h) e6))
          have HC2 := hide (fun (i : Bw wr.heap.size wr) => sumr_any x' _ z i.W (IntsIn.keeps (keeps_of_below i.h) e6))
          generalize sumF x' z = sz at HC1 HC2
          have l1 := bwc p1
          have u0 := bwc e0
          have u1 := bwc e1
          have u2 := bwc e2
          have u3 := bwc e3
          have u4 := bwc e4
          have u5 := bwc e5
          clear hck
          go_wp2_with fail
          refine wp_region_bw (by kernel_rfl) (by kernel_rfl) ?_
          repeat (go_big_quiet_step (with_reducible first | exact quiet (HC1.out _) | exact quiet (HC2.out _)))
          refine wpQuiet_nil ?_
          rintro _ ⟨i, rfl⟩
          have hbi := below2 hbr' i.h
          go_wp2_with fail
          go_roundw
          case rel => exact ⟨r + 1, by omega, by go_num, hbi⟩
          case measure => simp [intOf]; omega
        · obtain rfl : r = q.rows.length := by omega
          go_wp2_with fail
          go_roundw
          case rel => exact ⟨j + 1, by omega, by go_num, hbr'⟩
          case measure => simp [intOf]; omega
    · obtain rfl : j = 2 := by omega
      go_wp2_with fail
      exact HX.out _ _ _ _ _ _ _ _ _ _ _ _ _ _ _ _ _ _ _ _ _ _ _ _ _ _ _ _ _ _ _ _ _ _ _ _ _ _ _ _ _ _ _ _ _ _ _ _ _ _ _ _ _ _ _ _ hbj
end Go.Proofs.Ytcaklldmcbpbfaa
