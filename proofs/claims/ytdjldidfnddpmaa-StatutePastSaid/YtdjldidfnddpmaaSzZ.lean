/- StatutePast: for every input the law returns true. No condition. -/
import Derived.Test.YtdjldidfnddpmaaSyB
import Derived.Test.YtdjldidfnddpmaaSxE
import Derived.Test.YtdjldidfnddpmaaWrap
import Derived.Test.YtdjldidfnddpmaaSwF
/- The walk of StatutePast: its third loop. Conditions: how the laws lie in memory. -/
namespace Go.Proofs.Ytdjldidfnddpmaa
open Go.RowKit
set_option maxRecDepth 100000 in
set_option maxHeartbeats 4000000 in
theorem past_loop3 (w W0 : World) (q : QueryD) (es fs : List FactD) (Lc : List ClauseD) (how n : Int) (B O eb qb : Nat) (ea ca ra fa : Option Addr) (en cm cc rm rc fm fc : Nat) (ec er : Value) (Lr0 : List (List Value)) (hBw : w.heap.size ≤ B) (hBO : B ≤ O) (hee : FactsIn w.cell? (.slice ea es.length en) es)
    (bE : Blk w eb [ec, er, .slice ea es.length en] 34) (bQ : Blk w qb (queryC q) 37) (hq : Hid ((0 ≤ q.day ∧ q.day ≤ 99) ∧ 0 ≤ q.known ∧ q.known ≤ 99)) (hh : Hid (i64B how)) (hn : Hid (i64B n)) (hel : es.length ≤ 8) (hfl : fs.length ≤ 8)
    (hF : OwnR W0 B 57 6 (.slice fa fm fc) (fs.map factC)) (hCl : ClausesOwn W0 0 B (.slice ca cm cc) Lc) (hX : OwnR W0 B 55 3 (.slice ra rm rc) Lr0) (hbW : Blk W0 O [.slice ca cm cc, .slice ra rm rc, .slice fa fm fc] 34) (hb : Below w.heap.size w W0) (hs : O < W0.heap.size)
    (Q0 : Exit → Act → World → Prop) (u0 u1 u2 u5 u6 u7 u8 u9 u10 u11 u12 u13 u17 u18 u19 u20 u22 u23 u24 u25 u26 u27 u28 u29 u30 u31 u32 u33 u34 u35 u36 u37 u38 u39 u40 u41 u42 u43 u44 u45 u46 u47 u48 u49 u50 u51 u52 u53 u54 u55 u56 u57 u58 u59 u60 u61 u62 u63 u64 u65 u66 u67 u68 u69 u70 u71 u72 u73 u74 u75 u76 u77 u78 u79 u80 u81 u82 u83 u84 u85 u86 u87 u88 u89 u90 u91 u92 u93 u94 u95 u96 u97 u98 u99 u100 u101 u102 u103 u104 u105 u106 u107 u108 u109 u110 u111 u112 u113 u114 u115 u116 u117 u118 u119 u120 u121 u122 u123 u124 u125 u126 u127 u128 u129 u130 u131 u132 u133 u134 u135 u136 u137 u138 u139 u140 u141 u142 u143 u144 u145 u146 u147 u148 u149 u150 u151 u152 u153 u154 u155 u156 u157 u158 u159 u160 u161 u162 u163 u164 u165 u166 u167 u168 u169 u170 u171 u172 u173 u174 u175 u176 u177 u178 u179 u180 u181 u182 u183 u184 u185 u186 u187 u188 u189 u190 u191 u192 u193 u194 u195 u196 u197 u198 u199 u200 u201 u202 u203 u204 u205 u206 u207 u208 u209 u210 u211 u212 u213 u214 u215 u216 u217 u218 u219 u220 u221 u222 u223 u224 u225 u226 u227 u228 u229 u230 u231 u232 u233 u234 u235 u236 u237 u238 u239 u240 : Value)
    (hexit : ∀ (t21 t22 t139 t140 t141 t142 t143 t144 t145 t146 t147 t148 t149 t150 t151 t152 t153 t154 t155 t156 t157 t158 t159 t160 t161 t162 t163 t164 t165 t166 t167 t168 t169 t170 t171 t172 t173 t174 t175 t176 t177 t178 t179 t180 t181 t182 t183 t184 t185 : Value) (wr : World) (lv : Value), OwnR wr B 57 6 lv ((fs ++ es.map (pastFact how n q)).map factC) → ClausesOwn wr 0 B (.slice ca cm cc) Lc → OwnR wr B 55 3 (.slice ra rm rc) Lr0 → Blk wr O [.slice ca cm cc, .slice ra rm rc, lv] 34 → Below w.heap.size w wr → O < wr.heap.size →
      Q0 (.exit 4) ⟨#[u0, u1, u2, .int .i64 how, .int .i64 n, u5, u6, u7, u8, u9, u10, u11, u12, u13, .pointer (some ⟨qb, 0, none⟩), .pointer (some ⟨eb, 0, none⟩), .pointer (some ⟨O, 0, none⟩), u17, u18, u19, u20, t21, t22, u23, u24, u25, u26, u27, u28, u29, u30, u31, u32, u33, u34, u35, u36, u37, u38, u39, u40, u41, u42, u43, u44, u45, u46, u47, u48, u49, u50, u51, u52, u53, u54, u55, u56, u57, u58, u59, u60, u61, u62, u63, u64, u65, u66, u67, u68, u69, u70, u71, u72, u73, u74, u75, u76, u77, u78, u79, u80, u81, u82, u83, u84, u85, u86, u87, u88, u89, u90, u91, u92, u93, u94, u95, u96, u97, u98, u99, u100, u101, u102, u103, u104, u105, u106, u107, u108, u109, u110, u111, u112, u113, u114, u115, u116, u117, u118, u119, u120, u121, u122, u123, u124, u125, u126, u127, u128, u129, u130, u131, u132, u133, u134, u135, u136, u137, u138, t139, t140, t141, t142, t143, t144, t145, t146, t147, t148, t149, t150, t151, t152, t153, t154, t155, t156, t157, t158, t159, t160, t161, t162, t163, t164, t165, t166, t167, t168, t169, t170, t171, t172, t173, t174, t175, t176, t177, t178, t179, t180, t181, t182, t183, t184, t185, u186, u187, u188, u189, u190, u191, u192, u193, u194, u195, u196, u197, u198, u199, u200, u201, u202, u203, u204, u205, u206, u207, u208, u209, u210, u211, u212, u213, u214, u215, u216, u217, u218, u219, u220, u221, u222, u223, u224, u225, u226, u227, u228, u229, u230, u231, u232, u233, u234, u235, u236, u237, u238, u239, u240], []⟩ wr) :
    Code.wp Try.prog (Code.loop pastLoop3) Q0 ⟨#[u0, u1, u2, .int .i64 how, .int .i64 n, u5, u6, u7, u8, u9, u10, u11, u12, u13, .pointer (some ⟨qb, 0, none⟩), .pointer (some ⟨eb, 0, none⟩), .pointer (some ⟨O, 0, none⟩), u17, u18, u19, u20, .int .i64 0, u22, u23, u24, u25, u26, u27, u28, u29, u30, u31, u32, u33, u34, u35, u36, u37, u38, u39, u40, u41, u42, u43, u44, u45, u46, u47, u48, u49, u50, u51, u52, u53, u54, u55, u56, u57, u58, u59, u60, u61, u62, u63, u64, u65, u66, u67, u68, u69, u70, u71, u72, u73, u74, u75, u76, u77, u78, u79, u80, u81, u82, u83, u84, u85, u86, u87, u88, u89, u90, u91, u92, u93, u94, u95, u96, u97, u98, u99, u100, u101, u102, u103, u104, u105, u106, u107, u108, u109, u110, u111, u112, u113, u114, u115, u116, u117, u118, u119, u120, u121, u122, u123, u124, u125, u126, u127, u128, u129, u130, u131, u132, u133, u134, u135, u136, u137, u138, u139, u140, u141, u142, u143, u144, u145, u146, u147, u148, u149, u150, u151, u152, u153, u154, u155, u156, u157, u158, u159, u160, u161, u162, u163, u164, u165, u166, u167, u168, u169, u170, u171, u172, u173, u174, u175, u176, u177, u178, u179, u180, u181, u182, u183, u184, u185, u186, u187, u188, u189, u190, u191, u192, u193, u194, u195, u196, u197, u198, u199, u200, u201, u202, u203, u204, u205, u206, u207, u208, u209, u210, u211, u212, u213, u214, u215, u216, u217, u218, u219, u220, u221, u222, u223, u224, u225, u226, u227, u228, u229, u230, u231, u232, u233, u234, u235, u236, u237, u238, u239, u240], []⟩ W0 := by
  have HEE := hide hee
  have HE : Hid (fs ++ (es.take es.length).map (pastFact how n q) = fs ++ es.map (pastFact how n q)) := hide (by rw [List.take_length])
  generalize fs ++ es.map (pastFact how n q) = LF at HE hexit
  obtain ⟨⟨hq1, hq2⟩, hq3, hq4⟩ := hq.out
  obtain ⟨hP0, hP1⟩ := pkF_bd (n := 50) (by decide) n
  clear hee
  conv => arg 2; arg 1; whnf
  dsimp only
  go_loopw [21] (fun i wr => ∃ (k : Nat) (lv : Value), k ≤ es.length ∧ i = .int .i64 k ∧ OwnR wr B 57 6 lv ((fs ++ (es.take k).map (pastFact how n q)).map factC) ∧ ClausesOwn wr 0 B (.slice ca cm cc) Lc ∧ OwnR wr B 55 3 (.slice ra rm rc) Lr0 ∧ Blk wr O [.slice ca cm cc, .slice ra rm rc, lv] 34 ∧ Below w.heap.size w wr ∧ O < wr.heap.size) (fun i _ => es.length - (intOf i).toNat)
  case atStart => exact ⟨0, _, Nat.zero_le _, rfl, by simpa using hF, hCl, hX, hbW, hb, hs⟩
  case round =>
    obtain ⟨k, lv, hk, rfl, hown, hCl, hX, hbW, hbr, hsz⟩ := hrel
    have be2 := keep hbr (bE.cell 2 rfl)
    obtain ⟨va, vc, e0⟩ := own_form hown
    by_cases hlt : k < es.length
    · have HK := hide hlt
      have hltI : (k : Int) < es.length := by omega
      obtain ⟨rb, ro, e, hck⟩ := (HEE.out.below hbr).cell hlt
      cases e
      have HTK := hide (take_map_succ (pastFact how n q) es fact0 hlt)
      have HLN : Hid (((fs ++ (es.take k).map (pastFact how n q)).map factC).length ≤ 16) := hide (by rw [List.length_map, List.length_append, List.length_map, List.length_take]; omega)
      generalize es.getD k fact0 = y at hck HTK
      have y0 := hck 0 _ rfl
      have y1 := hck 1 _ rfl
      have y2 := hck 2 _ rfl
      have y3 := hck 3 _ rfl
      have y4 := hck 4 _ rfl
      have y5 := hck 5 _ rfl
      rw [Nat.add_zero] at y0
      subst e0
      generalize hLr : (fs ++ (es.take k).map (pastFact how n q)).map factC = Lr at *
      have HLr := hide hLr
      have hln8 : Lr.length ≤ 16 := HLN.out
      have hOR := hown
      clear hLr hck hown
      have HPH := hide (fun W => pickl_any how 3 W hh.out.1 hh.out.2 (by decide) (by decide))
      have HP := hide (fun W => pickl_any n 50 W hn.out.1 hn.out.2 (by decide) (by decide))
      have HPC : Hid (pastFact how n q y = if pkF how 3 = 0 then { y with thing := 3 } else if pkF how 3 = 1 then { y with kf := q.known + 1, kt := q.known + 2 + pkF n 50 } else { y with sf := q.day + 1, st := q.day + 2 + pkF n 50 }) := hide rfl
      generalize pkF n 50 = P at HP HPC hP0 hP1
      generalize pkF how 3 = hw at HPH HPC
      have hqlt : qb < wr.heap.size := (bQ.later hbr).lt
      go_wp2_with fail
      generalize hY1 : World.alloc wr _ = Y1
      have zY1 : Y1.heap.size = wr.heap.size + 1 := by rw [← hY1]; simp
      have bY1 : Below wr.heap.size wr Y1 := by rw [← hY1]; exact bal wr _
      have bY : Blk Y1 (wr.heap.size) (factC y) 57 := by rw [← hY1]; exact Blk.newA wr _ (by first | rfl | simp)
      have Yb := bY1
      have Yz := zY1
      clear hY1 zY1 bY1
      refine (HPH.out _).mono ?_
      rintro e Y1 ⟨rfl, rfl⟩
      have hbQ1 := bQ.later (below2 hbr Yb)
      have Q2 := hbQ1.cell 2 rfl
      have Q3 := hbQ1.cell 3 rfl
      clear y0 y1 y2 y3 y4 y5 be2
      obtain ⟨WX, rfl⟩ : ∃ X, X = Y1 := ⟨_, rfl⟩
      have hbX := Yb
      have bYX := bY
      clear Yb bY Yz hbQ1 HPH
      by_cases h0 : hw = 0
      · subst h0
        rw [if_pos rfl] at HPC
        have HY := HPC
        clear Q2 Q3
        have f0 := bYX.frozen 0
        have f1 := bYX.cell 0 rfl
        have bY9 := bYX.set 0 (.int .i64 3)
        have hb9 : Below wr.heap.size wr (WX.setCell ⟨wr.heap.size, 0, none⟩ (.int .i64 3)) := hbX.setCell (p := ⟨wr.heap.size, 0, none⟩) (Nat.le_refl _) _
        have YY0 := bY9.cell 0 rfl
        have YY1 := bY9.cell 1 rfl
        have YY2 := bY9.cell 2 rfl
        have YY3 := bY9.cell 3 rfl
        have YY4 := bY9.cell 4 rfl
        have YY5 := bY9.cell 5 rfl
        have WW0 := (hbW.later hb9).cell 2 rfl
        have hsR := hbr.size
        go_wp2_with (at_builtin; generalize hWs : World.setCell WX _ _ = WS; have zz : WS.heap.size = WX.heap.size := (by rw [← hWs]; simp [World.setCell]); have bYF : Blk WS wr.heap.size (factC { y with thing := 3 }) 57 := (by rw [← hWs]; exact bY9); have hbF : Below wr.heap.size wr WS := (by rw [← hWs]; exact hb9); clear hWs; have hOW := hOR.later' hbF; have hsW := hbF.size; refine app_recE infoFact rfl (by decide) Try.underlying32 rfl _ _ rfl B _ Lr rfl hOW (factC { y with thing := 3 }) rfl factC_one _ rfl zz.symm (by omega) (by omega) (by omega) ?_; intro v3 w3 hO3 hE3 hob3; obtain ⟨g3', c3', rfl⟩ := own_some hO3; have hbC3 : Blk w3 O [.slice ca cm cc, .slice ra rm rc, .slice va Lr.length vc] 34 := (hbW.later hbF).eff hE3 (fun e => hOW.neT (hbW.later hbF) (by decide) e.symm); have r0 := hbC3.cell 2 rfl; have rf := hbC3.frozen 2)
        have hEE : EffE B 57 WS w3 := effE_of_grown hOW ⟨hE3.os, hE3.tape, hE3.output, hE3.size, fun b hb hn => hE3.block b hb hn⟩
        have hEY : EffY B 57 O wr (w3.setCell ⟨O, 2, none⟩ (.slice (some ⟨g3', 0, none⟩) (Lr.length + 1) c3')) := ((EffY.of_below hbF).app hEE).set 2 _
        have HB3 := hide (keeps_low_effY hEY hBw (by omega) hbr)
        have HOR3 := hide (OwnR.setO (j := 2) hO3 hbC3 (by decide) (.slice (some ⟨g3', 0, none⟩) (Lr.length + 1) c3'))
        have HCL := hide (hCl.kept hEY hbW (by decide) (by decide) (by decide) (by decide))
        have HX3 := hide (hX.kept hEY hbW (by decide) (by decide))
        have HC3 := hide (hbC3.set 2 (.slice (some ⟨g3', 0, none⟩) (Lr.length + 1) c3'))
        have HS3 := hide (Nat.lt_of_lt_of_le hsz hEY.size)
        clear hEE hEY hO3 hE3 hob3 hOW hbC3 hbW hCl hX hbr bYF hbF bYX hbX
        go_roundw
        case rel => exact ⟨k + 1, _, by have := HK.out; omega, by go_num, by rw [HTK.out, HY.out, ← List.append_assoc, List.map_append, HLr.out]; exact HOR3.out, HCL.out, HX3.out, HC3.out, HB3.out, HS3.out⟩
        case measure => have := HK.out; simp [intOf]; omega
      · have hw0 : (hw == 0) = false := by simp [h0]
        rw [if_neg h0] at HPC
        by_cases h1 : hw = 1
        · subst h1
          rw [if_pos rfl] at HPC
          have HY := HPC
          have ww1 : IntKind.i64.wrap (q.known + 1) = q.known + 1 := IntWalk.i64_in _ (by omega)
          have ww2 : IntKind.i64.wrap (q.known + 2) = q.known + 2 := IntWalk.i64_in _ (by omega)
          have ww3 : IntKind.i64.wrap (q.known + 2 + P) = q.known + 2 + P := IntWalk.i64_in _ (by omega)
          clear Q2 h0
          go_wp2_with fail
          refine wp_region_inv [some 169, some 170, some 171, some 172, some 173, some 174, some 175, some 176, some 177, some 178, some 179, none] (fun L vs W => match vs with | [x0, x1, x2, x3, x4, x5, x6, x7, x8, x9, x10, x11] => (BoxG wr WX (wr.heap.size) 57 [.int .i64 y.thing, .int .i64 y.says, .int .i64 y.sf, .int .i64 y.st, .int .i64 y.kf, .int .i64 y.kt] [.int .i64 y.thing, .int .i64 y.says, .int .i64 y.sf, .int .i64 y.st, .int .i64 (q.known + 1), .int .i64 (q.known + 2 + P)] (L 11) W) ∧ (L 0 = true → x0 = .pointer (some ⟨qb, 3, none⟩)) ∧ (L 1 = true → x1 = .int .i64 q.known) ∧ (L 2 = true → x2 = .int .i64 (q.known + 1)) ∧ (L 3 = true → x3 = .pointer (some ⟨qb, 3, none⟩)) ∧ (L 4 = true → x4 = .int .i64 q.known) ∧ (L 5 = true → x5 = .int .i64 (q.known + 2)) ∧ (L 6 = true → x6 = .int .i64 n) ∧ (L 7 = true → x7 = .int .i64 P) ∧ (L 8 = true → x8 = .int .i64 (q.known + 2 + P)) ∧ (L 9 = true → x9 = .agg #[.int .i64 (q.known + 1), .int .i64 (q.known + 2 + P)]) ∧ (L 10 = true → x10 = .pointer (some ⟨wr.heap.size, 4, none⟩)) ∧ (L 11 = true → True) | _ => False) [_, _, _, _, _, _, _, _, _, _, _, undef] (by kernel_rfl) (by kernel_rfl) rfl (by simp only [puts, Act.put, List.setIfInBounds_toArray, List.set_cons_zero, List.set_cons_succ] <;> rfl) ?_ ?_ ?_
          · exact ⟨BoxG.first hbX bYX, (fun h => by cases h), (fun h => by cases h), (fun h => by cases h), (fun h => by cases h), (fun h => by cases h), (fun h => by cases h), (fun h => by cases h), (fun h => by cases h), (fun h => by cases h), (fun h => by cases h), (fun h => by cases h), (fun h => by cases h)⟩
          · refine ⟨?_, ?_, ?_, ?_, ?_, ?_, ?_, ?_, ?_, ?_, ?_, ?_, trivial⟩
            · intro L vs W hlen hL hD hI K hK
              obtain ⟨x0, x1, x2, x3, x4, x5, x6, x7, x8, x9, x10, x11, rfl⟩ := len12 hlen
              have hG := hI.1
              replace hI := hI.2
              have f0 := hide hI.1
              replace hI := hI.2
              have f1 := hide hI.1
              replace hI := hI.2
              have f2 := hide hI.1
              replace hI := hI.2
              have f3 := hide hI.1
              replace hI := hI.2
              have f4 := hide hI.1
              replace hI := hI.2
              have f5 := hide hI.1
              replace hI := hI.2
              have f6 := hide hI.1
              replace hI := hI.2
              have f7 := hide hI.1
              replace hI := hI.2
              have f8 := hide hI.1
              replace hI := hI.2
              have f9 := hide hI.1
              replace hI := hI.2
              have f10 := hide hI.1
              replace hI := hI.2
              have f11 := hide hI
              clear hI
              try simp only [puts, Act.put, List.setIfInBounds_toArray, List.set_cons_zero, List.set_cons_succ]
              try go_simp
              exact hK.out _ _ _ (by simp only [puts, Act.put, List.setIfInBounds_toArray, List.set_cons_zero, List.set_cons_succ] <;> rfl) ⟨hG, (fun _ => rfl), (fun h => f1.out h), (fun h => f2.out h), (fun h => f3.out h), (fun h => f4.out h), (fun h => f5.out h), (fun h => f6.out h), (fun h => f7.out h), (fun h => f8.out h), (fun h => f9.out h), (fun h => f10.out h), (fun h => f11.out h)⟩
            · intro L vs W hlen hL hD hI K hK
              obtain ⟨x0, x1, x2, x3, x4, x5, x6, x7, x8, x9, x10, x11, rfl⟩ := len12 hlen
              have hG := hI.1
              replace hI := hI.2
              have f0 := hide hI.1
              replace hI := hI.2
              have f1 := hide hI.1
              replace hI := hI.2
              have f2 := hide hI.1
              replace hI := hI.2
              have f3 := hide hI.1
              replace hI := hI.2
              have f4 := hide hI.1
              replace hI := hI.2
              have f5 := hide hI.1
              replace hI := hI.2
              have f6 := hide hI.1
              replace hI := hI.2
              have f7 := hide hI.1
              replace hI := hI.2
              have f8 := hide hI.1
              replace hI := hI.2
              have f9 := hide hI.1
              replace hI := hI.2
              have f10 := hide hI.1
              replace hI := hI.2
              have f11 := hide hI
              clear hI
              obtain rfl := f0.out (hD.on 0 (by kernel_rfl))
              try simp only [puts, Act.put, List.setIfInBounds_toArray, List.set_cons_zero, List.set_cons_succ]
              have r0 := hG.cell (show qb ≠ wr.heap.size by omega) Q3
              go_simp
              exact hK.out _ _ _ (by simp only [puts, Act.put, List.setIfInBounds_toArray, List.set_cons_zero, List.set_cons_succ] <;> rfl) ⟨hG, (fun h => f0.out h), (fun _ => rfl), (fun h => f2.out h), (fun h => f3.out h), (fun h => f4.out h), (fun h => f5.out h), (fun h => f6.out h), (fun h => f7.out h), (fun h => f8.out h), (fun h => f9.out h), (fun h => f10.out h), (fun h => f11.out h)⟩
            · intro L vs W hlen hL hD hI K hK
              obtain ⟨x0, x1, x2, x3, x4, x5, x6, x7, x8, x9, x10, x11, rfl⟩ := len12 hlen
              have hG := hI.1
              replace hI := hI.2
              have f0 := hide hI.1
              replace hI := hI.2
              have f1 := hide hI.1
              replace hI := hI.2
              have f2 := hide hI.1
              replace hI := hI.2
              have f3 := hide hI.1
              replace hI := hI.2
              have f4 := hide hI.1
              replace hI := hI.2
              have f5 := hide hI.1
              replace hI := hI.2
              have f6 := hide hI.1
              replace hI := hI.2
              have f7 := hide hI.1
              replace hI := hI.2
              have f8 := hide hI.1
              replace hI := hI.2
              have f9 := hide hI.1
              replace hI := hI.2
              have f10 := hide hI.1
              replace hI := hI.2
              have f11 := hide hI
              clear hI
              obtain rfl := f1.out (hD.on 1 (by kernel_rfl))
              try simp only [puts, Act.put, List.setIfInBounds_toArray, List.set_cons_zero, List.set_cons_succ]
              try go_simp
              exact hK.out _ _ _ (by simp only [puts, Act.put, List.setIfInBounds_toArray, List.set_cons_zero, List.set_cons_succ] <;> rfl) ⟨hG, (fun h => f0.out h), (fun h => f1.out h), (fun _ => rfl), (fun h => f3.out h), (fun h => f4.out h), (fun h => f5.out h), (fun h => f6.out h), (fun h => f7.out h), (fun h => f8.out h), (fun h => f9.out h), (fun h => f10.out h), (fun h => f11.out h)⟩
            · intro L vs W hlen hL hD hI K hK
              obtain ⟨x0, x1, x2, x3, x4, x5, x6, x7, x8, x9, x10, x11, rfl⟩ := len12 hlen
              have hG := hI.1
              replace hI := hI.2
              have f0 := hide hI.1
              replace hI := hI.2
              have f1 := hide hI.1
              replace hI := hI.2
              have f2 := hide hI.1
              replace hI := hI.2
              have f3 := hide hI.1
              replace hI := hI.2
              have f4 := hide hI.1
              replace hI := hI.2
              have f5 := hide hI.1
              replace hI := hI.2
              have f6 := hide hI.1
              replace hI := hI.2
              have f7 := hide hI.1
              replace hI := hI.2
              have f8 := hide hI.1
              replace hI := hI.2
              have f9 := hide hI.1
              replace hI := hI.2
              have f10 := hide hI.1
              replace hI := hI.2
              have f11 := hide hI
              clear hI
              try simp only [puts, Act.put, List.setIfInBounds_toArray, List.set_cons_zero, List.set_cons_succ]
              try go_simp
              exact hK.out _ _ _ (by simp only [puts, Act.put, List.setIfInBounds_toArray, List.set_cons_zero, List.set_cons_succ] <;> rfl) ⟨hG, (fun h => f0.out h), (fun h => f1.out h), (fun h => f2.out h), (fun _ => rfl), (fun h => f4.out h), (fun h => f5.out h), (fun h => f6.out h), (fun h => f7.out h), (fun h => f8.out h), (fun h => f9.out h), (fun h => f10.out h), (fun h => f11.out h)⟩
            · intro L vs W hlen hL hD hI K hK
              obtain ⟨x0, x1, x2, x3, x4, x5, x6, x7, x8, x9, x10, x11, rfl⟩ := len12 hlen
              have hG := hI.1
              replace hI := hI.2
              have f0 := hide hI.1
              replace hI := hI.2
              have f1 := hide hI.1
              replace hI := hI.2
              have f2 := hide hI.1
              replace hI := hI.2
              have f3 := hide hI.1
              replace hI := hI.2
              have f4 := hide hI.1
              replace hI := hI.2
              have f5 := hide hI.1
              replace hI := hI.2
              have f6 := hide hI.1
              replace hI := hI.2
              have f7 := hide hI.1
              replace hI := hI.2
              have f8 := hide hI.1
              replace hI := hI.2
              have f9 := hide hI.1
              replace hI := hI.2
              have f10 := hide hI.1
              replace hI := hI.2
              have f11 := hide hI
              clear hI
              obtain rfl := f3.out (hD.on 3 (by kernel_rfl))
              try simp only [puts, Act.put, List.setIfInBounds_toArray, List.set_cons_zero, List.set_cons_succ]
              have r0 := hG.cell (show qb ≠ wr.heap.size by omega) Q3
              go_simp
              exact hK.out _ _ _ (by simp only [puts, Act.put, List.setIfInBounds_toArray, List.set_cons_zero, List.set_cons_succ] <;> rfl) ⟨hG, (fun h => f0.out h), (fun h => f1.out h), (fun h => f2.out h), (fun h => f3.out h), (fun _ => rfl), (fun h => f5.out h), (fun h => f6.out h), (fun h => f7.out h), (fun h => f8.out h), (fun h => f9.out h), (fun h => f10.out h), (fun h => f11.out h)⟩
            · intro L vs W hlen hL hD hI K hK
              obtain ⟨x0, x1, x2, x3, x4, x5, x6, x7, x8, x9, x10, x11, rfl⟩ := len12 hlen
              have hG := hI.1
              replace hI := hI.2
              have f0 := hide hI.1
              replace hI := hI.2
              have f1 := hide hI.1
              replace hI := hI.2
              have f2 := hide hI.1
              replace hI := hI.2
              have f3 := hide hI.1
              replace hI := hI.2
              have f4 := hide hI.1
              replace hI := hI.2
              have f5 := hide hI.1
              replace hI := hI.2
              have f6 := hide hI.1
              replace hI := hI.2
              have f7 := hide hI.1
              replace hI := hI.2
              have f8 := hide hI.1
              replace hI := hI.2
              have f9 := hide hI.1
              replace hI := hI.2
              have f10 := hide hI.1
              replace hI := hI.2
              have f11 := hide hI
              clear hI
              obtain rfl := f4.out (hD.on 4 (by kernel_rfl))
              try simp only [puts, Act.put, List.setIfInBounds_toArray, List.set_cons_zero, List.set_cons_succ]
              try go_simp
              exact hK.out _ _ _ (by simp only [puts, Act.put, List.setIfInBounds_toArray, List.set_cons_zero, List.set_cons_succ] <;> rfl) ⟨hG, (fun h => f0.out h), (fun h => f1.out h), (fun h => f2.out h), (fun h => f3.out h), (fun h => f4.out h), (fun _ => rfl), (fun h => f6.out h), (fun h => f7.out h), (fun h => f8.out h), (fun h => f9.out h), (fun h => f10.out h), (fun h => f11.out h)⟩
            · intro L vs W hlen hL hD hI K hK
              obtain ⟨x0, x1, x2, x3, x4, x5, x6, x7, x8, x9, x10, x11, rfl⟩ := len12 hlen
              have hG := hI.1
              replace hI := hI.2
              have f0 := hide hI.1
              replace hI := hI.2
              have f1 := hide hI.1
              replace hI := hI.2
              have f2 := hide hI.1
              replace hI := hI.2
              have f3 := hide hI.1
              replace hI := hI.2
              have f4 := hide hI.1
              replace hI := hI.2
              have f5 := hide hI.1
              replace hI := hI.2
              have f6 := hide hI.1
              replace hI := hI.2
              have f7 := hide hI.1
              replace hI := hI.2
              have f8 := hide hI.1
              replace hI := hI.2
              have f9 := hide hI.1
              replace hI := hI.2
              have f10 := hide hI.1
              replace hI := hI.2
              have f11 := hide hI
              clear hI
              try simp only [puts, Act.put, List.setIfInBounds_toArray, List.set_cons_zero, List.set_cons_succ]
              try go_simp
              exact hK.out _ _ _ (by simp only [puts, Act.put, List.setIfInBounds_toArray, List.set_cons_zero, List.set_cons_succ] <;> rfl) ⟨hG, (fun h => f0.out h), (fun h => f1.out h), (fun h => f2.out h), (fun h => f3.out h), (fun h => f4.out h), (fun h => f5.out h), (fun _ => rfl), (fun h => f7.out h), (fun h => f8.out h), (fun h => f9.out h), (fun h => f10.out h), (fun h => f11.out h)⟩
            · intro L vs W hlen hL hD hI K hK
              obtain ⟨x0, x1, x2, x3, x4, x5, x6, x7, x8, x9, x10, x11, rfl⟩ := len12 hlen
              have hG := hI.1
              replace hI := hI.2
              have f0 := hide hI.1
              replace hI := hI.2
              have f1 := hide hI.1
              replace hI := hI.2
              have f2 := hide hI.1
              replace hI := hI.2
              have f3 := hide hI.1
              replace hI := hI.2
              have f4 := hide hI.1
              replace hI := hI.2
              have f5 := hide hI.1
              replace hI := hI.2
              have f6 := hide hI.1
              replace hI := hI.2
              have f7 := hide hI.1
              replace hI := hI.2
              have f8 := hide hI.1
              replace hI := hI.2
              have f9 := hide hI.1
              replace hI := hI.2
              have f10 := hide hI.1
              replace hI := hI.2
              have f11 := hide hI
              clear hI
              obtain rfl := f6.out (hD.on 6 (by kernel_rfl))
              try simp only [puts, Act.put, List.setIfInBounds_toArray, List.set_cons_zero, List.set_cons_succ]
              try go_simp
              refine (HP.out _).mono ?_
              rintro e W' ⟨rfl, rfl⟩
              try go_simp
              exact hK.out _ _ _ (by simp only [puts, Act.put, List.setIfInBounds_toArray, List.set_cons_zero, List.set_cons_succ] <;> rfl) ⟨hG, (fun h => f0.out h), (fun h => f1.out h), (fun h => f2.out h), (fun h => f3.out h), (fun h => f4.out h), (fun h => f5.out h), (fun h => f6.out h), (fun _ => rfl), (fun h => f8.out h), (fun h => f9.out h), (fun h => f10.out h), (fun h => f11.out h)⟩
            · intro L vs W hlen hL hD hI K hK
              obtain ⟨x0, x1, x2, x3, x4, x5, x6, x7, x8, x9, x10, x11, rfl⟩ := len12 hlen
              have hG := hI.1
              replace hI := hI.2
              have f0 := hide hI.1
              replace hI := hI.2
              have f1 := hide hI.1
              replace hI := hI.2
              have f2 := hide hI.1
              replace hI := hI.2
              have f3 := hide hI.1
              replace hI := hI.2
              have f4 := hide hI.1
              replace hI := hI.2
              have f5 := hide hI.1
              replace hI := hI.2
              have f6 := hide hI.1
              replace hI := hI.2
              have f7 := hide hI.1
              replace hI := hI.2
              have f8 := hide hI.1
              replace hI := hI.2
              have f9 := hide hI.1
              replace hI := hI.2
              have f10 := hide hI.1
              replace hI := hI.2
              have f11 := hide hI
              clear hI
              obtain rfl := f5.out (hD.on 5 (by kernel_rfl))
              obtain rfl := f7.out (hD.on 7 (by kernel_rfl))
              try simp only [puts, Act.put, List.setIfInBounds_toArray, List.set_cons_zero, List.set_cons_succ]
              try go_simp
              exact hK.out _ _ _ (by simp only [puts, Act.put, List.setIfInBounds_toArray, List.set_cons_zero, List.set_cons_succ] <;> rfl) ⟨hG, (fun h => f0.out h), (fun h => f1.out h), (fun h => f2.out h), (fun h => f3.out h), (fun h => f4.out h), (fun h => f5.out h), (fun h => f6.out h), (fun h => f7.out h), (fun _ => rfl), (fun h => f9.out h), (fun h => f10.out h), (fun h => f11.out h)⟩
            · intro L vs W hlen hL hD hI K hK
              obtain ⟨x0, x1, x2, x3, x4, x5, x6, x7, x8, x9, x10, x11, rfl⟩ := len12 hlen
              have hG := hI.1
              replace hI := hI.2
              have f0 := hide hI.1
              replace hI := hI.2
              have f1 := hide hI.1
              replace hI := hI.2
              have f2 := hide hI.1
              replace hI := hI.2
              have f3 := hide hI.1
              replace hI := hI.2
              have f4 := hide hI.1
              replace hI := hI.2
              have f5 := hide hI.1
              replace hI := hI.2
              have f6 := hide hI.1
              replace hI := hI.2
              have f7 := hide hI.1
              replace hI := hI.2
              have f8 := hide hI.1
              replace hI := hI.2
              have f9 := hide hI.1
              replace hI := hI.2
              have f10 := hide hI.1
              replace hI := hI.2
              have f11 := hide hI
              clear hI
              obtain rfl := f2.out (hD.on 2 (by kernel_rfl))
              obtain rfl := f8.out (hD.on 8 (by kernel_rfl))
              try simp only [puts, Act.put, List.setIfInBounds_toArray, List.set_cons_zero, List.set_cons_succ]
              try go_simp
              exact hK.out _ _ _ (by simp only [puts, Act.put, List.setIfInBounds_toArray, List.set_cons_zero, List.set_cons_succ] <;> rfl) ⟨hG, (fun h => f0.out h), (fun h => f1.out h), (fun h => f2.out h), (fun h => f3.out h), (fun h => f4.out h), (fun h => f5.out h), (fun h => f6.out h), (fun h => f7.out h), (fun h => f8.out h), (fun _ => rfl), (fun h => f10.out h), (fun h => f11.out h)⟩
            · intro L vs W hlen hL hD hI K hK
              obtain ⟨x0, x1, x2, x3, x4, x5, x6, x7, x8, x9, x10, x11, rfl⟩ := len12 hlen
              have hG := hI.1
              replace hI := hI.2
              have f0 := hide hI.1
              replace hI := hI.2
              have f1 := hide hI.1
              replace hI := hI.2
              have f2 := hide hI.1
              replace hI := hI.2
              have f3 := hide hI.1
              replace hI := hI.2
              have f4 := hide hI.1
              replace hI := hI.2
              have f5 := hide hI.1
              replace hI := hI.2
              have f6 := hide hI.1
              replace hI := hI.2
              have f7 := hide hI.1
              replace hI := hI.2
              have f8 := hide hI.1
              replace hI := hI.2
              have f9 := hide hI.1
              replace hI := hI.2
              have f10 := hide hI.1
              replace hI := hI.2
              have f11 := hide hI
              clear hI
              try simp only [puts, Act.put, List.setIfInBounds_toArray, List.set_cons_zero, List.set_cons_succ]
              try go_simp
              exact hK.out _ _ _ (by simp only [puts, Act.put, List.setIfInBounds_toArray, List.set_cons_zero, List.set_cons_succ] <;> rfl) ⟨hG, (fun h => f0.out h), (fun h => f1.out h), (fun h => f2.out h), (fun h => f3.out h), (fun h => f4.out h), (fun h => f5.out h), (fun h => f6.out h), (fun h => f7.out h), (fun h => f8.out h), (fun h => f9.out h), (fun _ => rfl), (fun h => f11.out h)⟩
            · intro L vs W hlen hL hD hI K hK
              obtain ⟨x0, x1, x2, x3, x4, x5, x6, x7, x8, x9, x10, x11, rfl⟩ := len12 hlen
              have hG := hI.1
              replace hI := hI.2
              have f0 := hide hI.1
              replace hI := hI.2
              have f1 := hide hI.1
              replace hI := hI.2
              have f2 := hide hI.1
              replace hI := hI.2
              have f3 := hide hI.1
              replace hI := hI.2
              have f4 := hide hI.1
              replace hI := hI.2
              have f5 := hide hI.1
              replace hI := hI.2
              have f6 := hide hI.1
              replace hI := hI.2
              have f7 := hide hI.1
              replace hI := hI.2
              have f8 := hide hI.1
              replace hI := hI.2
              have f9 := hide hI.1
              replace hI := hI.2
              have f10 := hide hI.1
              replace hI := hI.2
              have f11 := hide hI
              clear hI
              obtain rfl := f9.out (hD.on 9 (by kernel_rfl))
              obtain rfl := f10.out (hD.on 10 (by kernel_rfl))
              try simp only [puts, Act.put, List.setIfInBounds_toArray, List.set_cons_zero, List.set_cons_succ]
              rw [hL] at hG
              have z0 := hG.box.frozen 4
              have z1 := hG.box.cell 4 rfl
              have z2 := hG.box.frozen 5
              have z3 := hG.box.cell 5 rfl
              go_simp
              have hb := Below.refl W.heap.size W
              exact hK.out _ undef _ (by simp only [puts, Act.put, List.setIfInBounds_toArray, List.set_cons_zero, List.set_cons_succ] <;> rfl) ⟨hG.put2At (by omega) 4 _ _ rfl, (fun h => f0.out h), (fun h => f1.out h), (fun h => f2.out h), (fun h => f3.out h), (fun h => f4.out h), (fun h => f5.out h), (fun h => f6.out h), (fun h => f7.out h), (fun h => f8.out h), (fun h => f9.out h), (fun h => f10.out h), (fun _ => trivial)⟩
          intro L vs W hlen hall hI
          obtain ⟨x0, x1, x2, x3, x4, x5, x6, x7, x8, x9, x10, x11, rfl⟩ := len12 hlen
          have hG := hI.1
          replace hI := hI.2
          have f0 := hide hI.1
          replace hI := hI.2
          have f1 := hide hI.1
          replace hI := hI.2
          have f2 := hide hI.1
          replace hI := hI.2
          have f3 := hide hI.1
          replace hI := hI.2
          have f4 := hide hI.1
          replace hI := hI.2
          have f5 := hide hI.1
          replace hI := hI.2
          have f6 := hide hI.1
          replace hI := hI.2
          have f7 := hide hI.1
          replace hI := hI.2
          have f8 := hide hI.1
          replace hI := hI.2
          have f9 := hide hI.1
          replace hI := hI.2
          have f10 := hide hI.1
          replace hI := hI.2
          have f11 := hide hI
          clear hI
          obtain rfl := f0.out (hall 0 (by decide))
          obtain rfl := f1.out (hall 1 (by decide))
          obtain rfl := f2.out (hall 2 (by decide))
          obtain rfl := f3.out (hall 3 (by decide))
          obtain rfl := f4.out (hall 4 (by decide))
          obtain rfl := f5.out (hall 5 (by decide))
          obtain rfl := f6.out (hall 6 (by decide))
          obtain rfl := f7.out (hall 7 (by decide))
          obtain rfl := f8.out (hall 8 (by decide))
          obtain rfl := f9.out (hall 9 (by decide))
          obtain rfl := f10.out (hall 10 (by decide))
          have hal := hide hall
          clear hall f0 f1 f2 f3 f4 f5 f6 f7 f8 f9 f10 f11
          try simp only [puts, Act.put, List.setIfInBounds_toArray, List.set_cons_zero, List.set_cons_succ]
          rw [hal.out 11 (by decide)] at hG
          have bYF := hG.done
          have hbF := hG.hb
          clear hG hal hbX bYX ww1 ww2 ww3 Q3
          have YY0 := bYF.cell 0 rfl
          have YY1 := bYF.cell 1 rfl
          have YY2 := bYF.cell 2 rfl
          have YY3 := bYF.cell 3 rfl
          have YY4 := bYF.cell 4 rfl
          have YY5 := bYF.cell 5 rfl
          have WW0 := (hbW.later hbF).cell 2 rfl
          have hOW := hOR.later' hbF
          have hsW := hbF.size
          have hsR := hbr.size
          go_wp2_with (at_builtin; refine app_recE infoFact rfl (by decide) Try.underlying32 rfl _ _ rfl B _ Lr rfl hOW (factC { y with kf := q.known + 1, kt := q.known + 2 + P }) rfl factC_one _ rfl rfl (by omega) (by omega) (by omega) ?_; intro v3 w3 hO3 hE3 hob3; obtain ⟨g3', c3', rfl⟩ := own_some hO3; have hbC3 : Blk w3 O [.slice ca cm cc, .slice ra rm rc, .slice va Lr.length vc] 34 := (hbW.later hbF).eff hE3 (fun e => hOW.neT (hbW.later hbF) (by decide) e.symm); have r0 := hbC3.cell 2 rfl; have rf := hbC3.frozen 2)
          have hEE : EffE B 57 W w3 := effE_of_grown hOW ⟨hE3.os, hE3.tape, hE3.output, hE3.size, fun b hb hn => hE3.block b hb hn⟩
          have hEY : EffY B 57 O wr (w3.setCell ⟨O, 2, none⟩ (.slice (some ⟨g3', 0, none⟩) (Lr.length + 1) c3')) := ((EffY.of_below hbF).app hEE).set 2 _
          have HB3 := hide (keeps_low_effY hEY hBw (by omega) hbr)
          have HOR3 := hide (OwnR.setO (j := 2) hO3 hbC3 (by decide) (.slice (some ⟨g3', 0, none⟩) (Lr.length + 1) c3'))
          have HCL := hide (hCl.kept hEY hbW (by decide) (by decide) (by decide) (by decide))
          have HX3 := hide (hX.kept hEY hbW (by decide) (by decide))
          have HC3 := hide (hbC3.set 2 (.slice (some ⟨g3', 0, none⟩) (Lr.length + 1) c3'))
          have HS3 := hide (Nat.lt_of_lt_of_le hsz hEY.size)
          clear hEE hEY hO3 hE3 hob3 hOW hbC3 hbW hCl hX hbr bYF hbF
          go_roundw
          case rel => exact ⟨k + 1, _, by have := HK.out; omega, by go_num, by rw [HTK.out, HY.out, ← List.append_assoc, List.map_append, HLr.out]; exact HOR3.out, HCL.out, HX3.out, HC3.out, HB3.out, HS3.out⟩
          case measure => have := HK.out; simp [intOf]; omega
        · have hw1 : (hw == 1) = false := by simp [h1]
          rw [if_neg h1] at HPC
          have HY := HPC
          have ww1 : IntKind.i64.wrap (q.day + 1) = q.day + 1 := IntWalk.i64_in _ (by omega)
          have ww2 : IntKind.i64.wrap (q.day + 2) = q.day + 2 := IntWalk.i64_in _ (by omega)
          have ww3 : IntKind.i64.wrap (q.day + 2 + P) = q.day + 2 + P := IntWalk.i64_in _ (by omega)
          clear Q3 h0 h1
          go_wp2_with fail
          refine wp_region_inv [some 153, some 154, some 155, some 156, some 157, some 158, some 159, some 160, some 161, some 162, some 163, none] (fun L vs W => match vs with | [x0, x1, x2, x3, x4, x5, x6, x7, x8, x9, x10, x11] => (BoxG wr WX (wr.heap.size) 57 [.int .i64 y.thing, .int .i64 y.says, .int .i64 y.sf, .int .i64 y.st, .int .i64 y.kf, .int .i64 y.kt] [.int .i64 y.thing, .int .i64 y.says, .int .i64 (q.day + 1), .int .i64 (q.day + 2 + P), .int .i64 y.kf, .int .i64 y.kt] (L 11) W) ∧ (L 0 = true → x0 = .pointer (some ⟨qb, 2, none⟩)) ∧ (L 1 = true → x1 = .int .i64 q.day) ∧ (L 2 = true → x2 = .int .i64 (q.day + 1)) ∧ (L 3 = true → x3 = .pointer (some ⟨qb, 2, none⟩)) ∧ (L 4 = true → x4 = .int .i64 q.day) ∧ (L 5 = true → x5 = .int .i64 (q.day + 2)) ∧ (L 6 = true → x6 = .int .i64 n) ∧ (L 7 = true → x7 = .int .i64 P) ∧ (L 8 = true → x8 = .int .i64 (q.day + 2 + P)) ∧ (L 9 = true → x9 = .agg #[.int .i64 (q.day + 1), .int .i64 (q.day + 2 + P)]) ∧ (L 10 = true → x10 = .pointer (some ⟨wr.heap.size, 2, none⟩)) ∧ (L 11 = true → True) | _ => False) [_, _, _, _, _, _, _, _, _, _, _, undef] (by kernel_rfl) (by kernel_rfl) rfl (by simp only [puts, Act.put, List.setIfInBounds_toArray, List.set_cons_zero, List.set_cons_succ] <;> rfl) ?_ ?_ ?_
          · exact ⟨BoxG.first hbX bYX, (fun h => by cases h), (fun h => by cases h), (fun h => by cases h), (fun h => by cases h), (fun h => by cases h), (fun h => by cases h), (fun h => by cases h), (fun h => by cases h), (fun h => by cases h), (fun h => by cases h), (fun h => by cases h), (fun h => by cases h)⟩
          · refine ⟨?_, ?_, ?_, ?_, ?_, ?_, ?_, ?_, ?_, ?_, ?_, ?_, trivial⟩
            · intro L vs W hlen hL hD hI K hK
              obtain ⟨x0, x1, x2, x3, x4, x5, x6, x7, x8, x9, x10, x11, rfl⟩ := len12 hlen
              have hG := hI.1
              replace hI := hI.2
              have f0 := hide hI.1
              replace hI := hI.2
              have f1 := hide hI.1
              replace hI := hI.2
              have f2 := hide hI.1
              replace hI := hI.2
              have f3 := hide hI.1
              replace hI := hI.2
              have f4 := hide hI.1
              replace hI := hI.2
              have f5 := hide hI.1
              replace hI := hI.2
              have f6 := hide hI.1
              replace hI := hI.2
              have f7 := hide hI.1
              replace hI := hI.2
              have f8 := hide hI.1
              replace hI := hI.2
              have f9 := hide hI.1
              replace hI := hI.2
              have f10 := hide hI.1
              replace hI := hI.2
              have f11 := hide hI
              clear hI
              try simp only [puts, Act.put, List.setIfInBounds_toArray, List.set_cons_zero, List.set_cons_succ]
              try go_simp
              exact hK.out _ _ _ (by simp only [puts, Act.put, List.setIfInBounds_toArray, List.set_cons_zero, List.set_cons_succ] <;> rfl) ⟨hG, (fun _ => rfl), (fun h => f1.out h), (fun h => f2.out h), (fun h => f3.out h), (fun h => f4.out h), (fun h => f5.out h), (fun h => f6.out h), (fun h => f7.out h), (fun h => f8.out h), (fun h => f9.out h), (fun h => f10.out h), (fun h => f11.out h)⟩
            · intro L vs W hlen hL hD hI K hK
              obtain ⟨x0, x1, x2, x3, x4, x5, x6, x7, x8, x9, x10, x11, rfl⟩ := len12 hlen
              have hG := hI.1
              replace hI := hI.2
              have f0 := hide hI.1
              replace hI := hI.2
              have f1 := hide hI.1
              replace hI := hI.2
              have f2 := hide hI.1
              replace hI := hI.2
              have f3 := hide hI.1
              replace hI := hI.2
              have f4 := hide hI.1
              replace hI := hI.2
              have f5 := hide hI.1
              replace hI := hI.2
              have f6 := hide hI.1
              replace hI := hI.2
              have f7 := hide hI.1
              replace hI := hI.2
              have f8 := hide hI.1
              replace hI := hI.2
              have f9 := hide hI.1
              replace hI := hI.2
              have f10 := hide hI.1
              replace hI := hI.2
              have f11 := hide hI
              clear hI
              obtain rfl := f0.out (hD.on 0 (by kernel_rfl))
              try simp only [puts, Act.put, List.setIfInBounds_toArray, List.set_cons_zero, List.set_cons_succ]
              have r0 := hG.cell (show qb ≠ wr.heap.size by omega) Q2
              go_simp
              exact hK.out _ _ _ (by simp only [puts, Act.put, List.setIfInBounds_toArray, List.set_cons_zero, List.set_cons_succ] <;> rfl) ⟨hG, (fun h => f0.out h), (fun _ => rfl), (fun h => f2.out h), (fun h => f3.out h), (fun h => f4.out h), (fun h => f5.out h), (fun h => f6.out h), (fun h => f7.out h), (fun h => f8.out h), (fun h => f9.out h), (fun h => f10.out h), (fun h => f11.out h)⟩
            · intro L vs W hlen hL hD hI K hK
              obtain ⟨x0, x1, x2, x3, x4, x5, x6, x7, x8, x9, x10, x11, rfl⟩ := len12 hlen
              have hG := hI.1
              replace hI := hI.2
              have f0 := hide hI.1
              replace hI := hI.2
              have f1 := hide hI.1
              replace hI := hI.2
              have f2 := hide hI.1
              replace hI := hI.2
              have f3 := hide hI.1
              replace hI := hI.2
              have f4 := hide hI.1
              replace hI := hI.2
              have f5 := hide hI.1
              replace hI := hI.2
              have f6 := hide hI.1
              replace hI := hI.2
              have f7 := hide hI.1
              replace hI := hI.2
              have f8 := hide hI.1
              replace hI := hI.2
              have f9 := hide hI.1
              replace hI := hI.2
              have f10 := hide hI.1
              replace hI := hI.2
              have f11 := hide hI
              clear hI
              obtain rfl := f1.out (hD.on 1 (by kernel_rfl))
              try simp only [puts, Act.put, List.setIfInBounds_toArray, List.set_cons_zero, List.set_cons_succ]
              try go_simp
              exact hK.out _ _ _ (by simp only [puts, Act.put, List.setIfInBounds_toArray, List.set_cons_zero, List.set_cons_succ] <;> rfl) ⟨hG, (fun h => f0.out h), (fun h => f1.out h), (fun _ => rfl), (fun h => f3.out h), (fun h => f4.out h), (fun h => f5.out h), (fun h => f6.out h), (fun h => f7.out h), (fun h => f8.out h), (fun h => f9.out h), (fun h => f10.out h), (fun h => f11.out h)⟩
            · intro L vs W hlen hL hD hI K hK
              obtain ⟨x0, x1, x2, x3, x4, x5, x6, x7, x8, x9, x10, x11, rfl⟩ := len12 hlen
              have hG := hI.1
              replace hI := hI.2
              have f0 := hide hI.1
              replace hI := hI.2
              have f1 := hide hI.1
              replace hI := hI.2
              have f2 := hide hI.1
              replace hI := hI.2
              have f3 := hide hI.1
              replace hI := hI.2
              have f4 := hide hI.1
              replace hI := hI.2
              have f5 := hide hI.1
              replace hI := hI.2
              have f6 := hide hI.1
              replace hI := hI.2
              have f7 := hide hI.1
              replace hI := hI.2
              have f8 := hide hI.1
              replace hI := hI.2
              have f9 := hide hI.1
              replace hI := hI.2
              have f10 := hide hI.1
              replace hI := hI.2
              have f11 := hide hI
              clear hI
              try simp only [puts, Act.put, List.setIfInBounds_toArray, List.set_cons_zero, List.set_cons_succ]
              try go_simp
              exact hK.out _ _ _ (by simp only [puts, Act.put, List.setIfInBounds_toArray, List.set_cons_zero, List.set_cons_succ] <;> rfl) ⟨hG, (fun h => f0.out h), (fun h => f1.out h), (fun h => f2.out h), (fun _ => rfl), (fun h => f4.out h), (fun h => f5.out h), (fun h => f6.out h), (fun h => f7.out h), (fun h => f8.out h), (fun h => f9.out h), (fun h => f10.out h), (fun h => f11.out h)⟩
            · intro L vs W hlen hL hD hI K hK
              obtain ⟨x0, x1, x2, x3, x4, x5, x6, x7, x8, x9, x10, x11, rfl⟩ := len12 hlen
              have hG := hI.1
              replace hI := hI.2
              have f0 := hide hI.1
              replace hI := hI.2
              have f1 := hide hI.1
              replace hI := hI.2
              have f2 := hide hI.1
              replace hI := hI.2
              have f3 := hide hI.1
              replace hI := hI.2
              have f4 := hide hI.1
              replace hI := hI.2
              have f5 := hide hI.1
              replace hI := hI.2
              have f6 := hide hI.1
              replace hI := hI.2
              have f7 := hide hI.1
              replace hI := hI.2
              have f8 := hide hI.1
              replace hI := hI.2
              have f9 := hide hI.1
              replace hI := hI.2
              have f10 := hide hI.1
              replace hI := hI.2
              have f11 := hide hI
              clear hI
              obtain rfl := f3.out (hD.on 3 (by kernel_rfl))
              try simp only [puts, Act.put, List.setIfInBounds_toArray, List.set_cons_zero, List.set_cons_succ]
              have r0 := hG.cell (show qb ≠ wr.heap.size by omega) Q2
              go_simp
              exact hK.out _ _ _ (by simp only [puts, Act.put, List.setIfInBounds_toArray, List.set_cons_zero, List.set_cons_succ] <;> rfl) ⟨hG, (fun h => f0.out h), (fun h => f1.out h), (fun h => f2.out h), (fun h => f3.out h), (fun _ => rfl), (fun h => f5.out h), (fun h => f6.out h), (fun h => f7.out h), (fun h => f8.out h), (fun h => f9.out h), (fun h => f10.out h), (fun h => f11.out h)⟩
            · intro L vs W hlen hL hD hI K hK
              obtain ⟨x0, x1, x2, x3, x4, x5, x6, x7, x8, x9, x10, x11, rfl⟩ := len12 hlen
              have hG := hI.1
              replace hI := hI.2
              have f0 := hide hI.1
              replace hI := hI.2
              have f1 := hide hI.1
              replace hI := hI.2
              have f2 := hide hI.1
              replace hI := hI.2
              have f3 := hide hI.1
              replace hI := hI.2
              have f4 := hide hI.1
              replace hI := hI.2
              have f5 := hide hI.1
              replace hI := hI.2
              have f6 := hide hI.1
              replace hI := hI.2
              have f7 := hide hI.1
              replace hI := hI.2
              have f8 := hide hI.1
              replace hI := hI.2
              have f9 := hide hI.1
              replace hI := hI.2
              have f10 := hide hI.1
              replace hI := hI.2
              have f11 := hide hI
              clear hI
              obtain rfl := f4.out (hD.on 4 (by kernel_rfl))
              try simp only [puts, Act.put, List.setIfInBounds_toArray, List.set_cons_zero, List.set_cons_succ]
              try go_simp
              exact hK.out _ _ _ (by simp only [puts, Act.put, List.setIfInBounds_toArray, List.set_cons_zero, List.set_cons_succ] <;> rfl) ⟨hG, (fun h => f0.out h), (fun h => f1.out h), (fun h => f2.out h), (fun h => f3.out h), (fun h => f4.out h), (fun _ => rfl), (fun h => f6.out h), (fun h => f7.out h), (fun h => f8.out h), (fun h => f9.out h), (fun h => f10.out h), (fun h => f11.out h)⟩
            · intro L vs W hlen hL hD hI K hK
              obtain ⟨x0, x1, x2, x3, x4, x5, x6, x7, x8, x9, x10, x11, rfl⟩ := len12 hlen
              have hG := hI.1
              replace hI := hI.2
              have f0 := hide hI.1
              replace hI := hI.2
              have f1 := hide hI.1
              replace hI := hI.2
              have f2 := hide hI.1
              replace hI := hI.2
              have f3 := hide hI.1
              replace hI := hI.2
              have f4 := hide hI.1
              replace hI := hI.2
              have f5 := hide hI.1
              replace hI := hI.2
              have f6 := hide hI.1
              replace hI := hI.2
              have f7 := hide hI.1
              replace hI := hI.2
              have f8 := hide hI.1
              replace hI := hI.2
              have f9 := hide hI.1
              replace hI := hI.2
              have f10 := hide hI.1
              replace hI := hI.2
              have f11 := hide hI
              clear hI
              try simp only [puts, Act.put, List.setIfInBounds_toArray, List.set_cons_zero, List.set_cons_succ]
              try go_simp
              exact hK.out _ _ _ (by simp only [puts, Act.put, List.setIfInBounds_toArray, List.set_cons_zero, List.set_cons_succ] <;> rfl) ⟨hG, (fun h => f0.out h), (fun h => f1.out h), (fun h => f2.out h), (fun h => f3.out h), (fun h => f4.out h), (fun h => f5.out h), (fun _ => rfl), (fun h => f7.out h), (fun h => f8.out h), (fun h => f9.out h), (fun h => f10.out h), (fun h => f11.out h)⟩
            · intro L vs W hlen hL hD hI K hK
              obtain ⟨x0, x1, x2, x3, x4, x5, x6, x7, x8, x9, x10, x11, rfl⟩ := len12 hlen
              have hG := hI.1
              replace hI := hI.2
              have f0 := hide hI.1
              replace hI := hI.2
              have f1 := hide hI.1
              replace hI := hI.2
              have f2 := hide hI.1
              replace hI := hI.2
              have f3 := hide hI.1
              replace hI := hI.2
              have f4 := hide hI.1
              replace hI := hI.2
              have f5 := hide hI.1
              replace hI := hI.2
              have f6 := hide hI.1
              replace hI := hI.2
              have f7 := hide hI.1
              replace hI := hI.2
              have f8 := hide hI.1
              replace hI := hI.2
              have f9 := hide hI.1
              replace hI := hI.2
              have f10 := hide hI.1
              replace hI := hI.2
              have f11 := hide hI
              clear hI
              obtain rfl := f6.out (hD.on 6 (by kernel_rfl))
              try simp only [puts, Act.put, List.setIfInBounds_toArray, List.set_cons_zero, List.set_cons_succ]
              try go_simp
              refine (HP.out _).mono ?_
              rintro e W' ⟨rfl, rfl⟩
              try go_simp
              exact hK.out _ _ _ (by simp only [puts, Act.put, List.setIfInBounds_toArray, List.set_cons_zero, List.set_cons_succ] <;> rfl) ⟨hG, (fun h => f0.out h), (fun h => f1.out h), (fun h => f2.out h), (fun h => f3.out h), (fun h => f4.out h), (fun h => f5.out h), (fun h => f6.out h), (fun _ => rfl), (fun h => f8.out h), (fun h => f9.out h), (fun h => f10.out h), (fun h => f11.out h)⟩
            · intro L vs W hlen hL hD hI K hK
              obtain ⟨x0, x1, x2, x3, x4, x5, x6, x7, x8, x9, x10, x11, rfl⟩ := len12 hlen
              have hG := hI.1
              replace hI := hI.2
              have f0 := hide hI.1
              replace hI := hI.2
              have f1 := hide hI.1
              replace hI := hI.2
              have f2 := hide hI.1
              replace hI := hI.2
              have f3 := hide hI.1
              replace hI := hI.2
              have f4 := hide hI.1
              replace hI := hI.2
              have f5 := hide hI.1
              replace hI := hI.2
              have f6 := hide hI.1
              replace hI := hI.2
              have f7 := hide hI.1
              replace hI := hI.2
              have f8 := hide hI.1
              replace hI := hI.2
              have f9 := hide hI.1
              replace hI := hI.2
              have f10 := hide hI.1
              replace hI := hI.2
              have f11 := hide hI
              clear hI
              obtain rfl := f5.out (hD.on 5 (by kernel_rfl))
              obtain rfl := f7.out (hD.on 7 (by kernel_rfl))
              try simp only [puts, Act.put, List.setIfInBounds_toArray, List.set_cons_zero, List.set_cons_succ]
              try go_simp
              exact hK.out _ _ _ (by simp only [puts, Act.put, List.setIfInBounds_toArray, List.set_cons_zero, List.set_cons_succ] <;> rfl) ⟨hG, (fun h => f0.out h), (fun h => f1.out h), (fun h => f2.out h), (fun h => f3.out h), (fun h => f4.out h), (fun h => f5.out h), (fun h => f6.out h), (fun h => f7.out h), (fun _ => rfl), (fun h => f9.out h), (fun h => f10.out h), (fun h => f11.out h)⟩
            · intro L vs W hlen hL hD hI K hK
              obtain ⟨x0, x1, x2, x3, x4, x5, x6, x7, x8, x9, x10, x11, rfl⟩ := len12 hlen
              have hG := hI.1
              replace hI := hI.2
              have f0 := hide hI.1
              replace hI := hI.2
              have f1 := hide hI.1
              replace hI := hI.2
              have f2 := hide hI.1
              replace hI := hI.2
              have f3 := hide hI.1
              replace hI := hI.2
              have f4 := hide hI.1
              replace hI := hI.2
              have f5 := hide hI.1
              replace hI := hI.2
              have f6 := hide hI.1
              replace hI := hI.2
              have f7 := hide hI.1
              replace hI := hI.2
              have f8 := hide hI.1
              replace hI := hI.2
              have f9 := hide hI.1
              replace hI := hI.2
              have f10 := hide hI.1
              replace hI := hI.2
              have f11 := hide hI
              clear hI
              obtain rfl := f2.out (hD.on 2 (by kernel_rfl))
              obtain rfl := f8.out (hD.on 8 (by kernel_rfl))
              try simp only [puts, Act.put, List.setIfInBounds_toArray, List.set_cons_zero, List.set_cons_succ]
              try go_simp
              exact hK.out _ _ _ (by simp only [puts, Act.put, List.setIfInBounds_toArray, List.set_cons_zero, List.set_cons_succ] <;> rfl) ⟨hG, (fun h => f0.out h), (fun h => f1.out h), (fun h => f2.out h), (fun h => f3.out h), (fun h => f4.out h), (fun h => f5.out h), (fun h => f6.out h), (fun h => f7.out h), (fun h => f8.out h), (fun _ => rfl), (fun h => f10.out h), (fun h => f11.out h)⟩
            · intro L vs W hlen hL hD hI K hK
              obtain ⟨x0, x1, x2, x3, x4, x5, x6, x7, x8, x9, x10, x11, rfl⟩ := len12 hlen
              have hG := hI.1
              replace hI := hI.2
              have f0 := hide hI.1
              replace hI := hI.2
              have f1 := hide hI.1
              replace hI := hI.2
              have f2 := hide hI.1
              replace hI := hI.2
              have f3 := hide hI.1
              replace hI := hI.2
              have f4 := hide hI.1
              replace hI := hI.2
              have f5 := hide hI.1
              replace hI := hI.2
              have f6 := hide hI.1
              replace hI := hI.2
              have f7 := hide hI.1
              replace hI := hI.2
              have f8 := hide hI.1
              replace hI := hI.2
              have f9 := hide hI.1
              replace hI := hI.2
              have f10 := hide hI.1
              replace hI := hI.2
              have f11 := hide hI
              clear hI
              try simp only [puts, Act.put, List.setIfInBounds_toArray, List.set_cons_zero, List.set_cons_succ]
              try go_simp
              exact hK.out _ _ _ (by simp only [puts, Act.put, List.setIfInBounds_toArray, List.set_cons_zero, List.set_cons_succ] <;> rfl) ⟨hG, (fun h => f0.out h), (fun h => f1.out h), (fun h => f2.out h), (fun h => f3.out h), (fun h => f4.out h), (fun h => f5.out h), (fun h => f6.out h), (fun h => f7.out h), (fun h => f8.out h), (fun h => f9.out h), (fun _ => rfl), (fun h => f11.out h)⟩
            · intro L vs W hlen hL hD hI K hK
              obtain ⟨x0, x1, x2, x3, x4, x5, x6, x7, x8, x9, x10, x11, rfl⟩ := len12 hlen
              have hG := hI.1
              replace hI := hI.2
              have f0 := hide hI.1
              replace hI := hI.2
              have f1 := hide hI.1
              replace hI := hI.2
              have f2 := hide hI.1
              replace hI := hI.2
              have f3 := hide hI.1
              replace hI := hI.2
              have f4 := hide hI.1
              replace hI := hI.2
              have f5 := hide hI.1
              replace hI := hI.2
              have f6 := hide hI.1
              replace hI := hI.2
              have f7 := hide hI.1
              replace hI := hI.2
              have f8 := hide hI.1
              replace hI := hI.2
              have f9 := hide hI.1
              replace hI := hI.2
              have f10 := hide hI.1
              replace hI := hI.2
              have f11 := hide hI
              clear hI
              obtain rfl := f9.out (hD.on 9 (by kernel_rfl))
              obtain rfl := f10.out (hD.on 10 (by kernel_rfl))
              try simp only [puts, Act.put, List.setIfInBounds_toArray, List.set_cons_zero, List.set_cons_succ]
              rw [hL] at hG
              have z0 := hG.box.frozen 2
              have z1 := hG.box.cell 2 rfl
              have z2 := hG.box.frozen 3
              have z3 := hG.box.cell 3 rfl
              go_simp
              have hb := Below.refl W.heap.size W
              exact hK.out _ undef _ (by simp only [puts, Act.put, List.setIfInBounds_toArray, List.set_cons_zero, List.set_cons_succ] <;> rfl) ⟨hG.put2At (by omega) 2 _ _ rfl, (fun h => f0.out h), (fun h => f1.out h), (fun h => f2.out h), (fun h => f3.out h), (fun h => f4.out h), (fun h => f5.out h), (fun h => f6.out h), (fun h => f7.out h), (fun h => f8.out h), (fun h => f9.out h), (fun h => f10.out h), (fun _ => trivial)⟩
          intro L vs W hlen hall hI
          obtain ⟨x0, x1, x2, x3, x4, x5, x6, x7, x8, x9, x10, x11, rfl⟩ := len12 hlen
          have hG := hI.1
          replace hI := hI.2
          have f0 := hide hI.1
          replace hI := hI.2
          have f1 := hide hI.1
          replace hI := hI.2
          have f2 := hide hI.1
          replace hI := hI.2
          have f3 := hide hI.1
          replace hI := hI.2
          have f4 := hide hI.1
          replace hI := hI.2
          have f5 := hide hI.1
          replace hI := hI.2
          have f6 := hide hI.1
          replace hI := hI.2
          have f7 := hide hI.1
          replace hI := hI.2
          have f8 := hide hI.1
          replace hI := hI.2
          have f9 := hide hI.1
          replace hI := hI.2
          have f10 := hide hI.1
          replace hI := hI.2
          have f11 := hide hI
          clear hI
          obtain rfl := f0.out (hall 0 (by decide))
          obtain rfl := f1.out (hall 1 (by decide))
          obtain rfl := f2.out (hall 2 (by decide))
          obtain rfl := f3.out (hall 3 (by decide))
          obtain rfl := f4.out (hall 4 (by decide))
          obtain rfl := f5.out (hall 5 (by decide))
          obtain rfl := f6.out (hall 6 (by decide))
          obtain rfl := f7.out (hall 7 (by decide))
          obtain rfl := f8.out (hall 8 (by decide))
          obtain rfl := f9.out (hall 9 (by decide))
          obtain rfl := f10.out (hall 10 (by decide))
          have hal := hide hall
          clear hall f0 f1 f2 f3 f4 f5 f6 f7 f8 f9 f10 f11
          try simp only [puts, Act.put, List.setIfInBounds_toArray, List.set_cons_zero, List.set_cons_succ]
          rw [hal.out 11 (by decide)] at hG
          have bYF := hG.done
          have hbF := hG.hb
          clear hG hal hbX bYX ww1 ww2 ww3 Q2
          have YY0 := bYF.cell 0 rfl
          have YY1 := bYF.cell 1 rfl
          have YY2 := bYF.cell 2 rfl
          have YY3 := bYF.cell 3 rfl
          have YY4 := bYF.cell 4 rfl
          have YY5 := bYF.cell 5 rfl
          have WW0 := (hbW.later hbF).cell 2 rfl
          have hOW := hOR.later' hbF
          have hsW := hbF.size
          have hsR := hbr.size
          go_wp2_with (at_builtin; refine app_recE infoFact rfl (by decide) Try.underlying32 rfl _ _ rfl B _ Lr rfl hOW (factC { y with sf := q.day + 1, st := q.day + 2 + P }) rfl factC_one _ rfl rfl (by omega) (by omega) (by omega) ?_; intro v3 w3 hO3 hE3 hob3; obtain ⟨g3', c3', rfl⟩ := own_some hO3; have hbC3 : Blk w3 O [.slice ca cm cc, .slice ra rm rc, .slice va Lr.length vc] 34 := (hbW.later hbF).eff hE3 (fun e => hOW.neT (hbW.later hbF) (by decide) e.symm); have r0 := hbC3.cell 2 rfl; have rf := hbC3.frozen 2)
          have hEE : EffE B 57 W w3 := effE_of_grown hOW ⟨hE3.os, hE3.tape, hE3.output, hE3.size, fun b hb hn => hE3.block b hb hn⟩
          have hEY : EffY B 57 O wr (w3.setCell ⟨O, 2, none⟩ (.slice (some ⟨g3', 0, none⟩) (Lr.length + 1) c3')) := ((EffY.of_below hbF).app hEE).set 2 _
          have HB3 := hide (keeps_low_effY hEY hBw (by omega) hbr)
          have HOR3 := hide (OwnR.setO (j := 2) hO3 hbC3 (by decide) (.slice (some ⟨g3', 0, none⟩) (Lr.length + 1) c3'))
          have HCL := hide (hCl.kept hEY hbW (by decide) (by decide) (by decide) (by decide))
          have HX3 := hide (hX.kept hEY hbW (by decide) (by decide))
          have HC3 := hide (hbC3.set 2 (.slice (some ⟨g3', 0, none⟩) (Lr.length + 1) c3'))
          have HS3 := hide (Nat.lt_of_lt_of_le hsz hEY.size)
          clear hEE hEY hO3 hE3 hob3 hOW hbC3 hbW hCl hX hbr bYF hbF
          go_roundw
          case rel => exact ⟨k + 1, _, by have := HK.out; omega, by go_num, by rw [HTK.out, HY.out, ← List.append_assoc, List.map_append, HLr.out]; exact HOR3.out, HCL.out, HX3.out, HC3.out, HB3.out, HS3.out⟩
          case measure => have := HK.out; simp [intOf]; omega
    · obtain rfl : k = es.length := by omega
      have hown' := hown
      rw [HE.out] at hown'
      have HO := hide hown'
      clear hown hown'
      subst e0
      generalize (List.map factC (fs ++ List.map (pastFact how n q) (List.take es.length es))).length = mm at *
      go_wp2_with fail
      exact hexit _ _ _ _ _ _ _ _ _ _ _ _ _ _ _ _ _ _ _ _ _ _ _ _ _ _ _ _ _ _ _ _ _ _ _ _ _ _ _ _ _ _ _ _ _ _ _ _ _ wr _ HO.out hCl hX hbW hbr hsz
end Go.Proofs.Ytdjldidfnddpmaa
/- The walk of StatutePast. Conditions: how the arguments lie in memory; that integers are of 64 bits. -/
namespace Go.Proofs.Ytdjldidfnddpmaa
open Go.RowKit
set_option maxRecDepth 100000 in
set_option maxHeartbeats 4000000 in
theorem past_any (x : NumsD) (xc xr xf : Value) (a0 a1 a2 a3 : Int) (z : NumsD) (zc zr zf : Value) (how n at_ : Int) (w : World) (hx : NumsIn w.cell? xc xr xf x) (h64 : Nums64 x) (ha : i64B a0 ∧ i64B a1 ∧ i64B a2 ∧ i64B a3) (hz : NumsIn w.cell? zc zr zf z) (hz64 : Nums64 z) (hh : i64B how) (hn : i64B n) (hat : i64B at_) :
    Calls Try.prog 4 #[.agg #[xc, xr, xf], .agg #[.int .i64 a0, .int .i64 a1, .int .i64 a2, .int .i64 a3], .agg #[zc, zr, zf], .int .i64 how, .int .i64 n, .int .i64 at_] w (Ret (.bool true) w) := by
  have HZ := hide hz
  have HZ64 := hide hz64
  have HH := hide hh
  have HN := hide hn
  have HAT := hide hat
  obtain ⟨⟨zca, zcn, rfl, -, -, -⟩, ⟨zra, zrn, rfl, -, -, -⟩, ⟨zfa, zfn, rfl, -, -, -⟩⟩ := id hz
  clear hz hz64 hh hn hat
  have HX := hide hx
  have H64 := hide h64
  obtain ⟨A0, A1, A2, A3⟩ := ha
  have HA0 := hide A0
  have HA1 := hide A1
  have HA2 := hide A2
  have HA3 := hide A3
  obtain ⟨⟨xca, xcn, rfl, -, -, -⟩, ⟨xra, xrn, rfl, -, -, -⟩, ⟨xfa, xfn, rfl, -, -, -⟩⟩ := id hx
  clear hx h64 A0 A1 A2 A3
  go_enter Try.func4, Try.ntmps4
  go_wp2_with fail
  generalize hX1 : World.alloc w _ = X1
  have zX1 : X1.heap.size = w.heap.size + 1 := by rw [← hX1]; simp
  have bX1 : Below w.heap.size w X1 := by rw [← hX1]; exact bal w _
  have bN_1 : Blk X1 (w.heap.size) [.slice xca x.clauses.length xcn, .slice xra x.repeals.length xrn, .slice xfa x.facts.length xfn] 25 := by rw [← hX1]; exact Blk.newA w _ (by first | rfl | simp)
  generalize hX2 : World.alloc X1 _ = X2
  have zX2 : X2.heap.size = w.heap.size + 1 + 1 := by rw [← hX2]; simp [zX1]
  have bX2 : Below X1.heap.size X1 X2 := by rw [← hX2]; exact bal X1 _
  have bA_2 : Blk X2 (w.heap.size + 1) [.int .i64 a0, .int .i64 a1, .int .i64 a2, .int .i64 a3] 26 := by rw [← hX2, ← zX1]; exact Blk.newA X1 _ (by first | rfl | simp)
  have bN_2 := bN_1.later bX2
  generalize hX3 : World.alloc X2 _ = X3
  have zX3 : X3.heap.size = w.heap.size + 1 + 1 + 1 := by rw [← hX3]; simp [zX2]
  have bX3 : Below X2.heap.size X2 X3 := by rw [← hX3]; exact bal X2 _
  have bM : Blk X3 (w.heap.size + 1 + 1) [.slice zca z.clauses.length zcn, .slice zra z.repeals.length zrn, .slice zfa z.facts.length zfn] 25 := by rw [← hX3, ← zX2]; exact Blk.newA X2 _ (by first | rfl | simp)
  have bN := bN_2.later bX3
  have bA := bA_2.later bX3
  have Xb := below2 (below2 (bX1) bX2) bX3
  have Xz := zX3
  clear hX1 zX1 bX1 hX2 zX2 bX2 hX3 zX3 bX3 bN_1 bN_2 bA_2
  refine (sane31_any _).mono ?_
  rintro e w1 ⟨rfl, hb1⟩
  replace bN := bN.later hb1
  replace bA := bA.later hb1
  replace bM := bM.later hb1
  try replace hco := hco.later hb1
  have hw1 := below2 Xb hb1
  have n0 := bN.cell 0 rfl
  have n1 := bN.cell 1 rfl
  have n2 := bN.cell 2 rfl
  clear hb1 Xb Xz
  go_wp2_with fail
  refine (mader_any x _ _ _ w1 (HX.out.below hw1) H64.out).mono ?_
  rintro e w2 ⟨cv, rv, fv, B, rfl, hB1, hB2, hco, hb2⟩
  have hci : CodeIn w2.cell? cv rv fv (madeC x) := (hco.at (C := 0) (Nat.zero_le _) (Nat.zero_le _)).keeps (keeps_frm _ _)
  replace bA := bA.later hb2
  replace bM := bM.later hb2
  try replace hco := hco.later hb2
  have hw2 := below2 hw1 hb2
  obtain ⟨⟨ca, cn, rfl, -, -, -⟩, ⟨ra, rn, rfl, -, -, -⟩, ⟨fa, fn, rfl, -, -, -⟩⟩ := id hci
  clear n0 n1 n2 bN hw1 hb2
  have p0 := fun o => keep (bal w2 o) (bA.cell 0 rfl)
  have p1 := fun o => keep (bal w2 o) (bA.cell 1 rfl)
  have p2 := fun o => keep (bal w2 o) (bA.cell 2 rfl)
  have p3 := fun o => keep (bal w2 o) (bA.cell 3 rfl)
  have HV := hide (madeC_valid x)
  have HLN := hide (made_lens x)
  have HQ := hide (askF_ok a0 a1 a2 a3)
  go_wp2_with fail
  generalize hY1 : World.alloc w2 _ = Y1
  have zY1 : Y1.heap.size = w2.heap.size + 1 := by rw [← hY1]; simp
  have bY1 : Below w2.heap.size w2 Y1 := by rw [← hY1]; exact bal w2 _
  have bC : Blk Y1 (w2.heap.size) [.slice ca (madeC x).clauses.length cn, .slice ra (madeC x).repeals.length rn, .slice fa (madeC x).facts.length fn] 34 := by rw [← hY1]; exact Blk.newA w2 _ (by first | rfl | simp)
  have Yb := bY1
  have Yz := zY1
  clear hY1 zY1 bY1
  replace hci := hci.below Yb
  replace bA := bA.later Yb
  replace bM := bM.later Yb
  try replace hco := hco.later Yb
  have hw3 := below2 hw2 Yb
  clear hw2 Yb Yz
  refine (askr_any a0 a1 a2 a3 _ HA0.out HA1.out HA2.out HA3.out).mono ?_
  rintro e w3 ⟨rfl, hb3⟩
  replace hci := hci.below hb3
  replace bC := bC.later hb3
  replace hw3 := below2 hw3 hb3
  replace bM := bM.later hb3
  try replace hco := hco.later hb3
  clear p0 p1 p2 p3 hb3
  have c0 := fun o => keep (bal w3 o) (bC.cell 0 rfl)
  have c1 := fun o => keep (bal w3 o) (bC.cell 1 rfl)
  have c2 := fun o => keep (bal w3 o) (bC.cell 2 rfl)
  have n0 := fun o => keep (bal w3 o) (bM.cell 0 rfl)
  have n1 := fun o => keep (bal w3 o) (bM.cell 1 rfl)
  have n2 := fun o => keep (bal w3 o) (bM.cell 2 rfl)
  go_wp2_with fail
  generalize hZ1 : World.alloc w3 _ = Z1
  have zZ1 : Z1.heap.size = w3.heap.size + 1 := by rw [← hZ1]; simp
  have bZ1 : Below w3.heap.size w3 Z1 := by rw [← hZ1]; exact bal w3 _
  have bQ : Blk Z1 (w3.heap.size) (queryC (askF a0 a1 a2 a3)) 37 := by rw [← hZ1]; exact Blk.newA w3 _ (by first | rfl | simp)
  have Zb := bZ1
  have Zz := zZ1
  clear hZ1 zZ1 bZ1
  replace hci := hci.below Zb
  replace bC := bC.later Zb
  replace hw3 := below2 hw3 Zb
  replace bM := bM.later Zb
  try replace hco := hco.later Zb
  clear Zb Zz bA c0 c1 c2
  refine (mader_any z _ _ _ Z1 (HZ.out.below hw3) HZ64.out).mono ?_
  rintro e w4 ⟨ec, er, ef, BE, rfl, hBE1, hBE2, hce, hb4⟩
  have hcie : CodeIn w4.cell? ec er ef (madeC z) := (hce.at (C := 0) (Nat.zero_le _) (Nat.zero_le _)).keeps (keeps_frm _ _)
  obtain ⟨⟨eca, ecn, rfl, -, -, -⟩, ⟨era, ern, rfl, -, -, -⟩, ⟨efa, efn, rfl, -, -, -⟩⟩ := id hcie
  replace hci := hci.below hb4
  replace hco := hco.later hb4
  replace bC := bC.later hb4
  replace bQ := bQ.later hb4
  replace hw3 := below2 hw3 hb4
  clear n0 n1 n2 bM hb4
  have c0 := fun o => keep (bal w4 o) (bC.cell 0 rfl)
  have c1 := fun o => keep (bal w4 o) (bC.cell 1 rfl)
  have c2 := fun o => keep (bal w4 o) (bC.cell 2 rfl)
  go_wp2_with fail
  generalize hE1 : World.alloc w4 _ = E1
  have zE1 : E1.heap.size = w4.heap.size + 1 := by rw [← hE1]; simp
  have bE1 : Below w4.heap.size w4 E1 := by rw [← hE1]; exact bal w4 _
  have bE : Blk E1 (w4.heap.size) [.slice eca (madeC z).clauses.length ecn, .slice era (madeC z).repeals.length ern, .slice efa (madeC z).facts.length efn] 34 := by rw [← hE1]; exact Blk.newA w4 _ (by first | rfl | simp)
  have Eb := bE1
  have Ez := zE1
  clear hE1 zE1 bE1
  replace hci := hci.below Eb
  replace hco := hco.later Eb
  replace bC := bC.later Eb
  replace bQ := bQ.later Eb
  replace hw3 := below2 hw3 Eb
  replace hce := hce.later Eb
  replace hcie := hcie.below Eb
  clear Eb Ez c0 c1 c2
  have hlens := HLN.out
  have hlenz := made_lens z
  have HLAW := hide (past_law how n at_ x z a0 a1 a2 a3)
  have HDP := hide (decide_proves HV.out HQ.out)
  have hqb := askF_bd a0 a1 a2 a3
  have HQB : Hid ((0 ≤ (askF a0 a1 a2 a3).day ∧ (askF a0 a1 a2 a3).day ≤ 99) ∧ 0 ≤ (askF a0 a1 a2 a3).known ∧ (askF a0 a1 a2 a3).known ≤ 99) := hide ⟨hqb.2.2.1, hqb.2.2.2⟩
  have HMT : Hid (∀ z ∈ (madeC x).clauses, z.needs.length ≤ 3 ∧ z.bars.length ≤ 3) := hide (fun z hz => by
    obtain ⟨y, -, rfl⟩ := List.mem_map.1 hz
    exact ⟨bitsK_len _ _, bitsK_len _ _⟩)
  have hpl : (decideP (madeC x) (askF a0 a1 a2 a3)).length ≤ 20 := by
    have h := HDP.out
    simp only [checkB, Bool.and_eq_true] at h
    exact proves_len h.2
  clear hqb HLN
  generalize askF a0 a1 a2 a3 = q at *
  generalize madeC x = c at *
  generalize madeC z = ez at *
  obtain ⟨hl1, hl2, hl3⟩ := hlens
  obtain ⟨hz1, hz2, hz3⟩ := hlenz
  have c0 := bC.cell 0 rfl
  have c1 := bC.cell 1 rfl
  have c2 := bC.cell 2 rfl
  refine (copyr_any c _ _ _ _ hci (by omega) (by omega) (by omega) (fun z hz => by have := HMT.out z hz; omega)).mono ?_
  rintro e w6 ⟨lc, lr, lf, B, rfl, hB1, hB2, hco2, hb6⟩
  obtain ⟨⟨lca, lcn, rfl, -, -, -⟩, ⟨lra, lrn, rfl, -, -, -⟩, ⟨lfa, lfn, rfl, -, -, -⟩⟩ := id (hco2.at (C := 0) (Nat.zero_le _) (Nat.zero_le _))
  clear c0 c1 c2 HMT
  go_wp2_with fail
  generalize hV1 : World.alloc w6 _ = V1
  have zV1 : V1.heap.size = w6.heap.size + 1 := by rw [← hV1]; simp
  have bV1 : Below w6.heap.size w6 V1 := by rw [← hV1]; exact bal w6 _
  have bW : Blk V1 (w6.heap.size) [.slice lca c.clauses.length lcn, .slice lra c.repeals.length lrn, .slice lfa c.facts.length lfn] 34 := by rw [← hV1]; exact Blk.newA w6 _ (by first | rfl | simp)
  have Vb := bV1
  have Vz := zV1
  clear hV1 zV1 bV1
  have hsV : w6.heap.size < V1.heap.size := by rw [Vz]; omega
  have hbV := below2 hb6 Vb
  have hcV := hco2.later Vb
  clear hco2 hb6 Vb Vz
  refine past_loop1 E1 V1 q ez.clauses c.clauses how n B w6.heap.size Z1.heap.size BE w4.heap.size w3.heap.size eca lca lra lfa ecn lcn _ lrn _ lfn _ _ _ _ hB1 hB2 hce.cl bE bQ HQB HH HN hz1 hl1 (hcV.cl.low (Nat.zero_le _)) hcV.re hcV.fa bW hbV hsV _ _ _ _ _ _ _ _ _ _ _ _ _ _ _ _ _ _ _ _ _ _ _ _ _ _ _ _ _ _ _ _ _ _ _ _ _ _ _ _ _ _ _ _ _ _ _ _ _ _ _ _ _ _ _ _ _ _ _ _ _ _ _ _ _ _ _ _ _ _ _ _ _ _ _ _ _ _ _ _ _ _ _ _ _ _ _ _ _ _ _ _ _ _ _ _ _ _ _ _ _ _ _ _ _ _ _ _ _ _ _ _ _ _ _ _ _ _ _ _ _ _ _ _ _ _ _ _ _ _ _ _ _ _ _ _ _ _ _ _ _ _ _ _ _ _ _ _ _ _ _ _ _ _ _ _ _ _ _ _ _ _ _ _ _ _ _ _ _ _ _ _ _ _ _ _ _ _ _ _ _ _ _ _ _ _ _ _ _ _ _ _ _ _ _ _ _ _ _ _ _ _ _ _ _ _ _ _ _ _ _ _ _ _ _ _ _ _ _ _ _ _ _ _ _ _ _ _ _ _ _ _ _ _ _ _ ?_
  clear hcV bW hbV hsV
  intro t17 t18 t41 t42 t43 t44 t45 t46 t47 t48 t49 t50 t51 t52 t53 t54 t55 t56 t57 t58 t59 t60 t61 t62 t63 t64 t65 t66 t67 t68 t69 t70 t71 t72 t73 t74 t75 t76 t77 t78 t79 t80 t81 t82 t83 t84 wr lv hcl hre hfa hbl hbr hsz
  obtain ⟨lca2, lcn2, rfl⟩ := hcl.form
  generalize hcm : (c.clauses ++ ez.clauses.map (pastClause how n q)).length = cm2 at *
  have HCM := hide hcm
  clear hcm
  go_wp2_with fail
  refine past_loop2 E1 wr q ez.repeals c.repeals _ how n at_ B w6.heap.size w4.heap.size w3.heap.size w2.heap.size c.clauses.length cn _ era lca2 lra lfa ern cm2 lcn2 lrn _ lfn _ _ _ _ _ hB1 hB2 hcie.re bE bC bQ HQB HH HN HAT hz2 hl2 hl1 _ hre hcl hfa hbl hbr hsz _ _ _ _ _ _ _ _ _ _ _ _ _ _ _ _ _ _ _ _ _ _ _ _ _ _ _ _ _ _ _ _ _ _ _ _ _ _ _ _ _ _ _ _ _ _ _ _ _ _ _ _ _ _ _ _ _ _ _ _ _ _ _ _ _ _ _ _ _ _ _ _ _ _ _ _ _ _ _ _ _ _ _ _ _ _ _ _ _ _ _ _ _ _ _ _ _ _ _ _ _ _ _ _ _ _ _ _ _ _ _ _ _ _ _ _ _ _ _ _ _ _ _ _ _ _ _ _ _ _ _ _ _ _ _ _ _ _ _ _ _ _ _ _ _ _ _ _ _ _ _ _ _ _ _ _ _ _ _ _ _ _ _ _ _ _ _ _ _ _ _ _ _ _ _ _ _ _ _ _ _ _ _ _ _ _ _ _ _ _ _ _ _ _ _ _ _ _ _ _ _ _ _ _ _ _ _ _ _ _ _ _ _ _ _ _ _ _ _ _ _ _ _ _ _ _ _ _ _ _ _ _ _ _ ?_
  clear hcl hre hfa hbl hbr hsz
  intro t19 t20 t85 t86 t87 t88 t89 t90 t91 t92 t93 t94 t95 t96 t97 t98 t99 t100 t101 t102 t103 t104 t105 t106 t107 t108 t109 t110 t111 t112 t113 t114 t115 t116 t117 t118 t119 t120 t121 t122 t123 t124 t125 t126 t127 t128 t129 t130 t131 t132 t133 t134 t135 t136 t137 t138 wr2 lv2 hre hcl hfa hbl hbr hsz
  obtain ⟨lra2, lrn2, rfl⟩ := own_form hre
  generalize hrm : (List.map repealC (c.repeals ++ (if c.clauses.length = 0 then [] else ez.repeals.map (pastRepeal how n at_ c.clauses.length q)))).length = rm2 at *
  have HRM := hide hrm
  clear hrm
  go_wp2_with fail
  refine past_loop3 E1 wr2 q ez.facts c.facts _ how n B w6.heap.size w4.heap.size w3.heap.size efa lca2 lra2 lfa efn cm2 lcn2 rm2 lrn2 _ lfn _ _ _ hB1 hB2 hcie.fa bE bQ HQB HH HN hz3 hl3 hfa hcl hre hbl hbr hsz _ _ _ _ _ _ _ _ _ _ _ _ _ _ _ _ _ _ _ _ _ _ _ _ _ _ _ _ _ _ _ _ _ _ _ _ _ _ _ _ _ _ _ _ _ _ _ _ _ _ _ _ _ _ _ _ _ _ _ _ _ _ _ _ _ _ _ _ _ _ _ _ _ _ _ _ _ _ _ _ _ _ _ _ _ _ _ _ _ _ _ _ _ _ _ _ _ _ _ _ _ _ _ _ _ _ _ _ _ _ _ _ _ _ _ _ _ _ _ _ _ _ _ _ _ _ _ _ _ _ _ _ _ _ _ _ _ _ _ _ _ _ _ _ _ _ _ _ _ _ _ _ _ _ _ _ _ _ _ _ _ _ _ _ _ _ _ _ _ _ _ _ _ _ _ _ _ _ _ _ _ _ _ _ _ _ _ _ _ _ _ _ _ _ _ _ _ _ _ _ _ _ _ _ _ _ _ _ _ _ _ _ _ _ _ _ _ _ _ _ _ _ _ _ _ _ _ _ _ _ _ _ _ _ _ _ ?_
  clear hcl hre hfa hbl hbr hsz
  intro t21 t22 t139 t140 t141 t142 t143 t144 t145 t146 t147 t148 t149 t150 t151 t152 t153 t154 t155 t156 t157 t158 t159 t160 t161 t162 t163 t164 t165 t166 t167 t168 t169 t170 t171 t172 t173 t174 t175 t176 t177 t178 t179 t180 t181 t182 t183 t184 t185 wr3 lv3 hfa hcl hre hbl hbr hsz
  obtain ⟨lfa2, lfn2, rfl⟩ := own_form hfa
  generalize hfm : (List.map factC (c.facts ++ ez.facts.map (pastFact how n q))).length = fm2 at *
  have HFM := hide hfm
  clear hfm
  have hpi : CodeIn wr3.cell? (.slice lca2 cm2 lcn2) (.slice lra2 rm2 lrn2) (.slice lfa2 fm2 lfn2) (pastC how n at_ q c ez) := ((CodeOwn.mk (c := pastC how n at_ q c ez) hcl hre hfa).at (C := 0) (Nat.zero_le _) (Nat.zero_le _)).keeps (keeps_frm _ _)
  obtain ⟨L1, L2, L3, L4⟩ := HLAW.out
  have HL1 := hide L1
  have HL2 := hide L2
  have HL3 := hide L3
  have HL4 := hide L4
  generalize pastC how n at_ q c ez = PC at *
  clear hcl hre hfa L1 L2 L3 L4 HLAW hce hcie bE hco
  replace hci := hci.below hbr
  replace bC := bC.later hbr
  replace bQ := bQ.later hbr
  replace hw3 := below2 hw3 hbr
  have HPI := hide hpi
  have HCI := hide hci
  clear hbr hsz hpi hci
  have c0 := bC.cell 0 rfl
  have c1 := bC.cell 1 rfl
  have c2 := bC.cell 2 rfl
  have q0 := bQ.cell 0 rfl
  have q1 := bQ.cell 1 rfl
  have q2 := bQ.cell 2 rfl
  have q3 := bQ.cell 3 rfl
  have l0 := hbl.cell 0 rfl
  have l1 := hbl.cell 1 rfl
  have l2 := hbl.cell 2 rfl
  go_wp2_with fail
  refine (decide_ok c q _ _ _ _ HCI.out HV.out HQ.out).mono ?_
  rintro e w7 ⟨la, ln, rfl, hl, hb7⟩
  have HPI7 := hide (HPI.out.below hb7)
  have HCI7 := hide (HCI.out.below hb7)
  replace bC := bC.later hb7
  replace bQ := bQ.later hb7
  replace hbl := hbl.later hb7
  replace hw3 := below2 hw3 hb7
  clear c0 c1 c2 q0 q1 q2 q3 l0 l1 l2 hb7 HPI HCI
  have c0 := bC.cell 0 rfl
  have c1 := bC.cell 1 rfl
  have c2 := bC.cell 2 rfl
  have q0 := bQ.cell 0 rfl
  have q1 := bQ.cell 1 rfl
  have q2 := bQ.cell 2 rfl
  have q3 := bQ.cell 3 rfl
  have l0 := hbl.cell 0 rfl
  have l1 := hbl.cell 1 rfl
  have l2 := hbl.cell 2 rfl
  go_wp2_with fail
  refine (decide_ok PC q _ _ _ _ HPI7.out HL1.out HQ.out).mono ?_
  rintro e w8 ⟨la2, ln2, rfl, hl8, hb8⟩
  rw [HL2.out]
  rw [HL3.out] at hl8 ⊢
  generalize decideP c q = P at *
  generalize answerB c q = a at *
  replace hl := hl.below hb8
  have HPI8 := hide (HPI7.out.below hb8)
  have HCI8 := hide (HCI7.out.below hb8)
  replace bC := bC.later hb8
  replace bQ := bQ.later hb8
  replace hbl := hbl.later hb8
  replace hw3 := below2 hw3 hb8
  clear c0 c1 c2 q0 q1 q2 q3 l0 l1 l2 hb8 HPI7 HCI7
  go_wp2_with fail
  refine (bent_any P _ how n at_ _ hl (by omega) HH.out HAT.out).mono ?_
  rintro e w9 ⟨bv, B1, rfl, hB1', hl1', hb⟩
  replace hB1' := hB1'.at
  obtain ⟨ba1, bn1, rfl, -⟩ := id hB1'
  replace hl := hl.below hb
  replace hl8 := hl8.below hb
  have HPI9 := hide (HPI8.out.below hb)
  have HCI9 := hide (HCI8.out.below hb)
  replace bC := bC.later hb
  replace bQ := bQ.later hb
  replace hbl := hbl.later hb
  replace hw3 := below2 hw3 hb
  clear hb HPI8 HCI8
  go_wp2_with fail
  generalize hU1 : World.alloc w9 _ = U1
  have zU1 : U1.heap.size = w9.heap.size + 1 := by rw [← hU1]; simp
  have bU1 : Below w9.heap.size w9 U1 := by rw [← hU1]; exact bal w9 _
  have bL : Blk U1 (w9.heap.size) [.slice la P.length ln, .slice la2 P.length ln2, .slice ba1 B1.length bn1] 28 := by rw [← hU1]; exact Blk.newA w9 _ (by first | rfl | simp)
  have Ub := bU1
  have Uz := zU1
  clear hU1 zU1 bU1
  have HL3s : Hid (∀ k, k < 3 → ∃ a m c l, [Value.slice la P.length ln, .slice la2 P.length ln2, .slice ba1 B1.length bn1][k]? = some (.slice a m c) ∧ FindsIn U1.cell? (.slice a m c) l) := hide fun k hk => by
    match k, hk with
    | 0, _ => exact ⟨_, _, _, _, rfl, hl.below Ub⟩
    | 1, _ => exact ⟨_, _, _, _, rfl, hl8.below Ub⟩
    | 2, _ => exact ⟨_, _, _, _, rfl, hB1'.below Ub⟩
  have HBL := hide bL
  have HOT := hide (hl8.below Ub)
  have HBC := hide (bC.later Ub)
  have HBQ := hide (bQ.later Ub)
  have HBW := hide (hbl.later Ub)
  have HCI := hide (HCI9.out.below Ub)
  have HPI := hide (HPI9.out.below Ub)
  have HW1 := hide (below2 hw3 Ub)
  clear bL bC bQ hbl hl hl8 hB1' Ub Uz hw3 HCI9 HPI9
  go_loopw [220] (fun i wr => ∃ k : Nat, k ≤ 3 ∧ i = .int .i64 k ∧ Below U1.heap.size U1 wr) (fun i _ => 3 - (intOf i).toNat)
  case atStart => exact ⟨0, by omega, rfl, Below.refl _ _⟩
  case round =>
    obtain ⟨k, hk, rfl, hbr⟩ := hrel
    by_cases hlt : k < 3
    · have HK := hide hlt
      obtain ⟨za, zm, zcc, zl, hz1, hz2⟩ := HL3s.out k hlt
      have z0 := (HBL.out.later hbr).cell k hz1
      have hkI : (k : Int) < 3 := by omega
      have c0 := bwc ((HBC.out.later hbr).cell 0 rfl)
      have c1 := bwc ((HBC.out.later hbr).cell 1 rfl)
      have c2 := bwc ((HBC.out.later hbr).cell 2 rfl)
      have q0 := bwc ((HBQ.out.later hbr).cell 0 rfl)
      have q1 := bwc ((HBQ.out.later hbr).cell 1 rfl)
      have q2 := bwc ((HBQ.out.later hbr).cell 2 rfl)
      have q3 := bwc ((HBQ.out.later hbr).cell 3 rfl)
      have l0 := bwc ((HBW.out.later hbr).cell 0 rfl)
      have l1 := bwc ((HBW.out.later hbr).cell 1 rfl)
      have l2 := bwc ((HBW.out.later hbr).cell 2 rfl)
      have HC1 := hide (fun W (hb : Below wr.heap.size wr W) => checkS_any c q _ _ _ _ a zl W (HCI.out.below (below2 hbr hb)) (hz2.below (below2 hbr hb)))
      have HC2 := hide (fun W (hb : Below wr.heap.size wr W) => checkS_any PC q _ _ _ _ a zl W (HPI.out.below (below2 hbr hb)) (hz2.below (below2 hbr hb)))
      rw [HL4.out] at HC2
      generalize checkB c q a zl = v at HC1 HC2
      have HB := hide hbr
      clear hz1 hz2 hbr
      go_wp2_with fail
      refine wp_region_bw (by kernel_rfl) (by kernel_rfl) ?_
      repeat (go_big_quiet_step ((go_at_call 12; first | (with_reducible exact quiet (HC1.out _ (Bw.h _))) | (with_reducible exact quiet (HC2.out _ (Bw.h _))))))
      refine wpQuiet_nil ?_
      rintro _ ⟨i, rfl⟩
      go_wp2_with fail
      go_roundw
      case rel => exact ⟨k + 1, by have := HK.out; omega, by go_num, below2 HB.out i.h⟩
      case measure => have := HK.out; simp [intOf]; omega
    · obtain rfl : k = 3 := by omega
      have c0 := (HBC.out.later hbr).cell 0 rfl
      have c1 := (HBC.out.later hbr).cell 1 rfl
      have c2 := (HBC.out.later hbr).cell 2 rfl
      have q0 := (HBQ.out.later hbr).cell 0 rfl
      have q1 := (HBQ.out.later hbr).cell 1 rfl
      have q2 := (HBQ.out.later hbr).cell 2 rfl
      have q3 := (HBQ.out.later hbr).cell 3 rfl
      have HCK := hide (checkS_any c q _ _ _ _ a P wr (HCI.out.below hbr) (HOT.out.below hbr))
      rw [HDP.out] at HCK
      have HB := hide (below2 HW1.out hbr)
      clear hbr
      go_wp2_with fail
      refine HCK.out.mono ?_
      rintro e w9 ⟨rfl, hb9⟩
      have hwf := below2 HB.out hb9
      go_wp2_with fail
      go_ret
      exact ⟨rfl, hwf⟩
end Go.Proofs.Ytdjldidfnddpmaa
/- Arguments of the laws of chapter 31, opened. No condition. -/
namespace Go.Proofs.Ytdjldidfnddpmaa
open Go.ChangeShapes Go.WideShapes Go.ChangeAt Go.RowKit

theorem Try.own : ownKnob Try.prog.godebug = none := by kernel_rfl
theorem Try.laidOut : laidOutB Try.prog = true := by kernel_rfl
theorem Try.cells3 : Try.prog.cellsOf 3 = 1 := by kernel_rfl
theorem Try.cells4 : Try.prog.cellsOf 4 = 1 := by kernel_rfl
theorem Try.cells73 : Try.prog.cellsOf 73 = 6 := by kernel_rfl
theorem Try.cells26 : Try.prog.cellsOf 26 = 4 := by kernel_rfl
theorem Try.cells76 : Try.prog.cellsOf 76 = 3 := by kernel_rfl
theorem Try.cells27 : Try.prog.cellsOf 27 = 2 := by kernel_rfl
set_option maxRecDepth 100000 in
theorem Try.cells25 : Try.prog.cellsOf 25 = 3 := by kernel_rfl
set_option maxRecDepth 100000 in
theorem Try.cells63 : Try.prog.cellsOf 63 = 4 := by kernel_rfl
theorem Try.cells22 : Try.prog.cellsOf 22 = 1 := by kernel_rfl
theorem Try.cells23 : Try.prog.cellsOf 23 = 1 := by kernel_rfl
theorem rec_slice {α : Type} {f : α → List Value} {d : α} {k : Nat} {Q : α → Prop} {c : Addr → Option Value} {v : Value} {l : List α} (h : SliceR k (fun cs x => cs = f x ∧ Q x) d c v l) : RecIn f d k c v l ∧ ∀ x ∈ l, Q x := by
  obtain ⟨a, n, h1, h2, h3, h4⟩ := h
  refine ⟨⟨a, n, h1, h2, h3, fun i hi => ?_⟩, fun x hx => ?_⟩
  · obtain ⟨b, o, cs, e, hl, ⟨rfl, -⟩, hc⟩ := h4 i hi
    refine ⟨b, o, e, fun j u hu => ?_⟩
    have hj : j < k := by rw [← hl]; exact (List.getElem?_eq_some_iff.1 hu).1
    rw [hc j hj]; exact hu
  · obtain ⟨i, hi, rfl⟩ := List.getElem_of_mem hx
    obtain ⟨b, o, cs, e, -, ⟨-, h5⟩, -⟩ := h4 i hi
    rwa [List.getD_eq_getElem?_getD, List.getElem?_eq_getElem hi] at h5
theorem trod_fldW {H : Type} {enc : TypeId × Value → H} {w : World} {base : Nat} {sp : Nat → Bool} {held : Bool} {P : Program} {fs : Array Field} {t : TypeId} {fuel : Nat} {cs : List Value} {x : DataW H × List MemPlace} (ht : P.underlying t = some (.struct fs)) (h : DataW.trod enc P w base sp held fuel t cs = some x) (i : Nat) (f : Field) (hf : fs[i]? = some f) :
    ∃ n y, DataW.trod enc P w base sp held n f.type ((cs.drop f.offset).take (P.cellsOf f.type)) = some y := by
  obtain ⟨xs, n, -, -, -, hlen, h1⟩ := DataW.trod_struct ht h
  have hi : i < fs.size := by
    rcases Array.getElem?_eq_some_iff.1 hf with ⟨hi, -⟩; exact hi
  exact ⟨n, xs[i], by rw [h1 i f hf, List.getElem?_eq_getElem (by omega)]⟩
theorem takeW {cs : List Value} {k : Nat} {v : Value} (h : (cs.drop k).take 1 = [v]) : cs[k]? = some v := by
  have : ((cs.drop k).take 1)[0]? = some v := by rw [h]; rfl
  rwa [List.getElem?_take_of_lt (by omega), List.getElem?_drop, Nat.add_zero] at this
section
variable {H : Type} {enc : TypeId × Value → H} {w : World} {base : Nat} {sp : Nat → Bool} {held : Bool}
set_option maxRecDepth 100000 in
theorem open_i64 {r : Reach} {b0 : Nat} {v : Value} {d : DataW H} {ps : List MemPlace} (hv : Value.okWide Try.prog w r b0 3 v) (h : DataW.Trod enc Try.prog w base sp held 3 v d ps) :
    ∃ x : Int, v = .int .i64 x ∧ i64B x := by
  obtain ⟨n, h1, -, -, h4⟩ := open_int Try.underlying3 hv h
  exact ⟨n, h1, bounds_i64 h4⟩
set_option maxRecDepth 100000 in
theorem open_four {r : Reach} {b0 : Nat} {v : Value} {d : DataW H} {ps : List MemPlace} (hv : Value.okWide Try.prog w r b0 26 v) (h : DataW.Trod enc Try.prog w base sp held 26 v d ps) :
    ∃ a b c e : Int, v = .agg #[.int .i64 a, .int .i64 b, .int .i64 c, .int .i64 e] ∧ i64B a ∧ i64B b ∧ i64B c ∧ i64B e := by
  obtain ⟨l, h1, rfl, h3⟩ := open_arr64 Try.underlying26 Try.underlying3 Try.cells3 Try.cells26 hv h
  match l, h1 with
  | [a, b, c, e], _ => exact ⟨a, b, c, e, rfl, h3 a (by simp), h3 b (by simp), h3 c (by simp), h3 e (by simp)⟩
set_option maxRecDepth 100000 in
theorem open_two {r : Reach} {b0 : Nat} {v : Value} {d : DataW H} {ps : List MemPlace} (hv : Value.okWide Try.prog w r b0 27 v) (h : DataW.Trod enc Try.prog w base sp held 27 v d ps) :
    ∃ a b : Int, v = .agg #[.int .i64 a, .int .i64 b] ∧ i64B a ∧ i64B b := by
  obtain ⟨l, h1, rfl, h3⟩ := open_arr64 Try.underlying27 Try.underlying3 Try.cells3 Try.cells27 hv h
  match l, h1 with
  | [a, b], _ => exact ⟨a, b, rfl, h3 a (by simp), h3 b (by simp)⟩
set_option maxRecDepth 100000 in
theorem trod_six {n : Nat} {y : DataW H × List MemPlace} {cs : List Value} (h : DataW.trod enc Try.prog w base sp held n 73 cs = some y) : ∃ x, cs = sixC x ∧ six64 x := by
  obtain ⟨l, h1, rfl, h3⟩ := trod_arr Try.underlying73 Try.underlying3 Try.cells3 Try.cells73 h
  match l, h1 with
  | [a, b, c, d, e, f], _ => exact ⟨⟨a, b, c, d, e, f⟩, rfl, h3 a (by simp), h3 b (by simp), h3 c (by simp), h3 d (by simp), h3 e (by simp), h3 f (by simp)⟩
set_option maxRecDepth 100000 in
theorem trod_tri {n : Nat} {y : DataW H × List MemPlace} {cs : List Value} (h : DataW.trod enc Try.prog w base sp held n 76 cs = some y) : ∃ x, cs = triC x ∧ tri64 x := by
  obtain ⟨l, h1, rfl, h3⟩ := trod_arr Try.underlying76 Try.underlying3 Try.cells3 Try.cells76 h
  match l, h1 with
  | [a, b, c], _ => exact ⟨(a, b, c), rfl, h3 a (by simp), h3 b (by simp), h3 c (by simp)⟩
set_option maxRecDepth 100000 in
theorem open_nums {r : Reach} {b0 : Nat} {v : Value} {d : DataW H} {ps : List MemPlace} (hv : Value.okWide Try.prog w r b0 25 v) (h : DataW.Trod enc Try.prog w base sp held 25 v d ps) :
    ∃ (x : NumsD) (xc xr xf : Value), v = .agg #[xc, xr, xf] ∧ NumsIn w.cell? xc xr xf x ∧ Nums64 x := by
  obtain ⟨cs, rfl, hsz⟩ : ∃ cs, v = .agg cs ∧ cs.size = Try.prog.cellsOf 25 := by
    simp only [Value.okWide, Try.underlying25] at hv
    obtain ⟨cs, h1, h2, -⟩ := hv
    exact ⟨cs, h1, h2⟩
  obtain ⟨m, hm⟩ := h
  rw [Try.cells25] at hsz
  obtain ⟨n0, y0, h0⟩ := trod_fldW Try.underlying25 hm 0 _ rfl
  obtain ⟨n1, y1, h1⟩ := trod_fldW Try.underlying25 hm 1 _ rfl
  obtain ⟨n2, y2, h2⟩ := trod_fldW Try.underlying25 hm 2 _ rfl
  obtain ⟨cv, cl, e0, hcs⟩ := trod_sliceR (R := fun cs x => cs = sixC x ∧ six64 x) six0 (by decide) Try.underlying22 Try.cells73 (fun n y cs hc hy => trod_six hy) h0
  obtain ⟨rv, rl, e1, hrs⟩ := trod_sliceR (R := fun cs x => cs = triC x ∧ tri64 x) (0, 0, 0) (by decide) Try.underlying23 Try.cells76 (fun n y cs hc hy => trod_tri hy) h1
  obtain ⟨fv, fl, e2, hfs⟩ := trod_sliceR (R := fun cs x => cs = sixC x ∧ six64 x) six0 (by decide) Try.underlying22 Try.cells73 (fun n y cs hc hy => trod_six hy) h2
  have g0 := takeW (by rw [← Try.cells22]; exact e0)
  have g1 := takeW (by rw [← Try.cells23]; exact e1)
  have g2 := takeW (by rw [← Try.cells22]; exact e2)
  obtain ⟨b0, b1, b2, hcs'⟩ : ∃ b0 b1 b2, cs.toList = [b0, b1, b2] := by
    match hh : cs.toList, (show cs.toList.length = 3 by simpa using hsz) with
    | [x, y, z], _ => exact ⟨_, _, _, rfl⟩
  simp only [Value.cells, hcs'] at g0 g1 g2
  simp at g0 g1 g2
  subst g0 g1 g2
  have k0 := rec_slice hcs
  have k1 := rec_slice hrs
  have k2 := rec_slice hfs
  refine ⟨⟨cl, rl, fl⟩, _, _, _, ?_, ⟨k0.1, k1.1, k2.1⟩, ⟨k0.2, k1.2, k2.2⟩⟩
  congr 1
  exact Array.ext' (by simpa using hcs')
set_option maxRecDepth 100000 in
theorem trod_find {n : Nat} {y : DataW H × List MemPlace} {cs : List Value} (hl : cs.length = 4) (h : DataW.trod enc Try.prog w base sp held n 63 cs = some y) : ∃ x, cs = findC x ∧ True := by
  obtain ⟨n0, y0, h0⟩ := trod_fldW Try.underlying63 h 0 _ rfl
  obtain ⟨n1, y1, h1⟩ := trod_fldW Try.underlying63 h 1 _ rfl
  obtain ⟨n2, y2, h2⟩ := trod_fldW Try.underlying63 h 2 _ rfl
  obtain ⟨n3, y3, h3⟩ := trod_fldW Try.underlying63 h 3 _ rfl
  obtain ⟨a0, e0, -⟩ := trod_i64 Try.underlying3 h0
  obtain ⟨a1, e1, -⟩ := DataW.trod_bool Try.underlying4 h1
  obtain ⟨a2, e2, -⟩ := trod_i64 Try.underlying3 h2
  obtain ⟨a3, e3, -⟩ := trod_i64 Try.underlying3 h3
  have g0 := takeW (by rw [← Try.cells3]; exact e0)
  have g1 := takeW (by rw [← Try.cells4]; exact e1)
  have g2 := takeW (by rw [← Try.cells3]; exact e2)
  have g3 := takeW (by rw [← Try.cells3]; exact e3)
  match cs, hl with
  | [b0, b1, b2, b3], _ =>
    simp at g0 g1 g2 g3
    subst g0 g1 g2 g3
    exact ⟨⟨a0, a1, a2, a3⟩, rfl, trivial⟩
set_option maxRecDepth 100000 in
theorem open_finds {r : Reach} {b0 : Nat} {v : Value} {d : DataW H} {ps : List MemPlace} (hv : Value.okWide Try.prog w r b0 28 v) (h : DataW.Trod enc Try.prog w base sp held 28 v d ps) : ∃ l, FindsIn w.cell? v l := by
  obtain ⟨l, hs⟩ := open_sliceR (R := fun cs x => cs = findC x ∧ True) find0 (by decide) Try.underlying28 Try.cells63 (fun n y cs hc hy => trod_find hc hy) hv h
  exact ⟨l, (rec_slice hs).1⟩
end
end Go.Proofs.Ytdjldidfnddpmaa
namespace Go.Proofs.Ytdjldidfnddpmaa
open Go.ChangeShapes Go.WideShapes Go.ChangeAt Go.RowKit

set_option maxRecDepth 100000 in
theorem past_lifted (os : Os) (started : os.Started) (H : Type) (enc : TypeId × Value → H) :
    ReturnsInHanded {} Try.checked os 4 .any (Rows.statutePastSpec.pre6 enc Try.prog Try.f4 Rows.statutePastRow.domain false) (Rows.statutePastSpec.post enc Try.prog Try.f4 false true false false) := by
  refine returnsInHanded_of_change (C := Try.checked) Try.own started (by kernel_rfl) Try.func4
    (ChangeSpec.witness6 (enc := enc) (C := Try.checked) false ⟨#[], #[.agg #[.slice none 0 0, .slice none 0 0, .slice none 0 0], .agg #[.int .i64 0, .int .i64 0, .int .i64 0, .int .i64 0], .agg #[.slice none 0 0, .slice none 0 0, .slice none 0 0], .int .i64 0, .int .i64 0, .int .i64 0], []⟩ 8 (by kernel_rfl) (by kernel_rfl) (by kernel_rfl) (by kernel_rfl)) ?_
  intro W base args ds gs before hval0 hW hcnd _
  have hval : ∀ (j : Nat) t v, Try.f4.params[j]? = some t → args[j]? = some v → Value.okWide Try.prog W .any base t v := hval0
  have hW' := hW
  obtain ⟨p, q, hA0, hV, rfl, hfz, hnd⟩ := hW
  have hA : DataW.TrodAll enc Try.prog W 0 (fun _ => true) true Try.f4.params.toList args.toList ds p := hA0
  rw [Try.params4] at hA hval
  obtain ⟨v0, as0, d0, ds0, p0, q0, e0, rfl, rfl, h0, hA⟩ := trodAll_cons hA
  obtain ⟨v1, as1, d1, ds1, p1, q1, rfl, rfl, rfl, h1, hA⟩ := trodAll_cons hA
  obtain ⟨v2, as2, d2, ds2, p2, q2, rfl, rfl, rfl, h2, hA⟩ := trodAll_cons hA
  obtain ⟨v3, as3, d3, ds3, p3, q3, rfl, rfl, rfl, h3, hA⟩ := trodAll_cons hA
  obtain ⟨v4, as4, d4, ds4, p4, q4, rfl, rfl, rfl, h4, hA⟩ := trodAll_cons hA
  obtain ⟨v5, as5, d5, ds5, p5, q5, rfl, rfl, rfl, h5, hA⟩ := trodAll_cons hA
  obtain ⟨rfl, rfl, rfl⟩ := trodAll_nil hA
  obtain rfl : args = #[v0, v1, v2, v3, v4, v5] := by cases args; simp_all
  obtain ⟨rfl, rfl⟩ := trodVars_none hV
  obtain ⟨x0, p0, q0, r0, rfl, b0, c0⟩ := open_nums (hval 0 25 v0 rfl rfl) h0
  obtain ⟨e1, f1, g1, k1, rfl, m1⟩ := open_four (hval 1 26 v1 rfl rfl) h1
  obtain ⟨x2, p2, q2, r2, rfl, b2, c2⟩ := open_nums (hval 2 25 v2 rfl rfl) h2
  obtain ⟨x3, rfl, b3⟩ := open_i64 (hval 3 3 v3 rfl rfl) h3
  obtain ⟨x4, rfl, b4⟩ := open_i64 (hval 4 3 v4 rfl rfl) h4
  obtain ⟨x5, rfl, b5⟩ := open_i64 (hval 5 3 v5 rfl rfl) h5
  refine (past_any x0 p0 q0 r0 e1 f1 g1 k1 x2 p2 q2 r2 x3 x4 x5 W b0 c0 m1 b2 c2 b3 b4 b5).mono fun e W' ⟨he, hb⟩ => ⟨_, he, ?_⟩
  exact post_law Try.laidOut (by kernel_rfl) rfl rfl Try.underlying4 rfl hW' hb
theorem past_holds : Rows.StatutePastSaid :=
  OpenClaim.holds_of_wide 4 Try.f4 rfl rfl rfl rfl rfl rfl rfl ⟨rfl, rfl, rfl, rfl, rfl⟩ rfl rfl rfl rfl rfl (by kernel_rfl) Try.func4 (by kernel_rfl)
    (of_decide_eq_true (by kernel_rfl)) (by unfold Func.isWrapper; first | (rw [if_pos (by decide +kernel)]; kernel_rfl) | (rw [if_neg (by decide +kernel)]; exact ⟨rfl, rfl⟩))
    (fun os started H enc _ => past_lifted os started H enc)
end Go.Proofs.Ytdjldidfnddpmaa
