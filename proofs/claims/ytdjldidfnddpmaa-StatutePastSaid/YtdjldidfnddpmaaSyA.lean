/- The walk of StatutePast: helpers, and its first loop. Conditions: how the laws lie in memory. -/
import Derived.Test.YtdjldidfnddpmaaSxJ
import Derived.Deep.DeepCutAuto
namespace Go.Proofs.Ytdjldidfnddpmaa
open Go.RowKit
theorem BoxG.put1 {w X : World} {R : Nat} {t : TypeId} {l0 l1 : List Value} {W : World} (h : BoxG w X R t l0 l1 false W) (hR : w.heap.size ≤ R) (j : Nat) (u : Value) (he : l0.set j u = l1) : BoxG w X R t l0 l1 true (W.setCell ⟨R, j, none⟩ u) := by
  subst he
  exact ⟨h.hb.setCell (p := ⟨R, j, none⟩) hR _, h.hE.trans (Eff.setCell _ _ _ _), h.box.set j u⟩
theorem BoxG.put2At {w X : World} {R : Nat} {t : TypeId} {l0 l1 : List Value} {W : World} (h : BoxG w X R t l0 l1 false W) (hR : w.heap.size ≤ R) (j : Nat) (u v : Value) (he : (l0.set j u).set (j + 1) v = l1) : BoxG w X R t l0 l1 true ((W.setCell ⟨R, j, none⟩ u).setCell ⟨R, j + 1, none⟩ v) := by
  subst he
  exact ⟨(h.hb.setCell (p := ⟨R, j, none⟩) hR _).setCell (p := ⟨R, j + 1, none⟩) hR _, (h.hE.trans (Eff.setCell _ _ _ _)).trans (Eff.setCell _ _ _ _), (h.box.set j u).set (j + 1) v⟩
theorem ClausesOwn.low {w : World} {A A' B : Nat} {v : Value} {l : List ClauseD} (h : ClausesOwn w A B v l) (hA : A' ≤ A) : ClausesOwn w A' B v l := by
  obtain ⟨L, h1, h2, h3⟩ := h
  exact ⟨L, h1, h2, fun i hi => let ⟨nv, bv, e, hn, hc⟩ := h3 i hi; ⟨nv, bv, e, hn.keeps (keeps_frmY_le _ _ hA), hc.keeps (keeps_frmY_le _ _ hA)⟩⟩
set_option maxRecDepth 100000 in
theorem hasq_any (f t d : Int) (w : World) : Calls Try.prog 16 #[.agg #[.int .i64 f, .int .i64 t], .int .i64 d] w (Ret (.bool (hasR f t d)) w) := by
  have HR : Hid (hasR f t d = (decide (f ≤ d) && decide (d < t))) := hide rfl
  generalize hasR f t d = R at HR ⊢
  go_enter Try.func16, Try.ntmps16
  by_cases h1 : f ≤ d
  · by_cases h2 : d < t
    · have HR' : Hid (R = true) := hide (by rw [HR.out]; simp [h1, h2])
      go_wp2_with fail
      go_ret
      exact ⟨by rw [HR'.out]; rfl, by first | exact Below.refl _ _ | exact bal w _⟩
    · have HR' : Hid (R = false) := hide (by rw [HR.out]; simp [h2])
      have h3 : decide (d < t) = false := decide_eq_false h2
      go_wp2_with fail
      go_ret
      exact ⟨by rw [HR'.out]; rfl, by first | exact Below.refl _ _ | exact bal w _⟩
  · have HR' : Hid (R = false) := hide (by rw [HR.out]; simp [h1])
    have h3 : decide (f ≤ d) = false := decide_eq_false h1
    go_wp2_with fail
    go_ret
    exact ⟨by rw [HR'.out]; rfl, by first | exact Below.refl _ _ | exact bal w _⟩
noncomputable def pastLoop1 : Code := (Try.f4.body.bind fun c => (loopsOf c)[0]?).getD .skip
noncomputable def pastLoop2 : Code := (Try.f4.body.bind fun c => (loopsOf c)[1]?).getD .skip
noncomputable def pastLoop3 : Code := (Try.f4.body.bind fun c => (loopsOf c)[2]?).getD .skip
set_option maxRecDepth 100000 in
set_option maxHeartbeats 4000000 in
theorem past_loop1 (w W0 : World) (q : QueryD) (es cs : List ClauseD) (how n : Int) (B O A' B' eb qb : Nat) (ea ca ra fa : Option Addr) (en cc rm rc fm fc : Nat) (er ef : Value) (Lr0 Lf0 : List (List Value)) (hBw : w.heap.size ≤ B) (hBO : B ≤ O) (hee : ClausesOwn w A' B' (.slice ea es.length en) es)
    (bE : Blk w eb [.slice ea es.length en, er, ef] 34) (bQ : Blk w qb (queryC q) 37) (hq : Hid ((0 ≤ q.day ∧ q.day ≤ 99) ∧ 0 ≤ q.known ∧ q.known ≤ 99)) (hh : Hid (i64B how)) (hn : Hid (i64B n)) (hel : es.length ≤ 8) (hcl : cs.length ≤ 8)
    (hC : ClausesOwn W0 0 B (.slice ca cs.length cc) cs) (hR : OwnR W0 B 55 3 (.slice ra rm rc) Lr0) (hF : OwnR W0 B 57 6 (.slice fa fm fc) Lf0) (hbW : Blk W0 O [.slice ca cs.length cc, .slice ra rm rc, .slice fa fm fc] 34) (hb : Below w.heap.size w W0) (hs : O < W0.heap.size)
    (Q0 : Exit → Act → World → Prop) (u0 u1 u2 u5 u6 u7 u8 u9 u10 u11 u12 u13 u18 u19 u20 u21 u22 u23 u24 u25 u26 u27 u28 u29 u30 u31 u32 u33 u34 u35 u36 u37 u38 u39 u40 u41 u42 u43 u44 u45 u46 u47 u48 u49 u50 u51 u52 u53 u54 u55 u56 u57 u58 u59 u60 u61 u62 u63 u64 u65 u66 u67 u68 u69 u70 u71 u72 u73 u74 u75 u76 u77 u78 u79 u80 u81 u82 u83 u84 u85 u86 u87 u88 u89 u90 u91 u92 u93 u94 u95 u96 u97 u98 u99 u100 u101 u102 u103 u104 u105 u106 u107 u108 u109 u110 u111 u112 u113 u114 u115 u116 u117 u118 u119 u120 u121 u122 u123 u124 u125 u126 u127 u128 u129 u130 u131 u132 u133 u134 u135 u136 u137 u138 u139 u140 u141 u142 u143 u144 u145 u146 u147 u148 u149 u150 u151 u152 u153 u154 u155 u156 u157 u158 u159 u160 u161 u162 u163 u164 u165 u166 u167 u168 u169 u170 u171 u172 u173 u174 u175 u176 u177 u178 u179 u180 u181 u182 u183 u184 u185 u186 u187 u188 u189 u190 u191 u192 u193 u194 u195 u196 u197 u198 u199 u200 u201 u202 u203 u204 u205 u206 u207 u208 u209 u210 u211 u212 u213 u214 u215 u216 u217 u218 u219 u220 u221 u222 u223 u224 u225 u226 u227 u228 u229 u230 u231 u232 u233 u234 u235 u236 u237 u238 u239 u240 : Value)
    (hexit : ∀ (t17 t18 t41 t42 t43 t44 t45 t46 t47 t48 t49 t50 t51 t52 t53 t54 t55 t56 t57 t58 t59 t60 t61 t62 t63 t64 t65 t66 t67 t68 t69 t70 t71 t72 t73 t74 t75 t76 t77 t78 t79 t80 t81 t82 t83 t84 : Value) (wr : World) (lv : Value), ClausesOwn wr 0 B lv (cs ++ es.map (pastClause how n q)) → OwnR wr B 55 3 (.slice ra rm rc) Lr0 → OwnR wr B 57 6 (.slice fa fm fc) Lf0 → Blk wr O [lv, .slice ra rm rc, .slice fa fm fc] 34 → Below w.heap.size w wr → O < wr.heap.size →
      Q0 (.exit 0) ⟨#[u0, u1, u2, .int .i64 how, .int .i64 n, u5, u6, u7, u8, u9, u10, u11, u12, u13, .pointer (some ⟨qb, 0, none⟩), .pointer (some ⟨eb, 0, none⟩), .pointer (some ⟨O, 0, none⟩), t17, t18, u19, u20, u21, u22, u23, u24, u25, u26, u27, u28, u29, u30, u31, u32, u33, u34, u35, u36, u37, u38, u39, u40, t41, t42, t43, t44, t45, t46, t47, t48, t49, t50, t51, t52, t53, t54, t55, t56, t57, t58, t59, t60, t61, t62, t63, t64, t65, t66, t67, t68, t69, t70, t71, t72, t73, t74, t75, t76, t77, t78, t79, t80, t81, t82, t83, t84, u85, u86, u87, u88, u89, u90, u91, u92, u93, u94, u95, u96, u97, u98, u99, u100, u101, u102, u103, u104, u105, u106, u107, u108, u109, u110, u111, u112, u113, u114, u115, u116, u117, u118, u119, u120, u121, u122, u123, u124, u125, u126, u127, u128, u129, u130, u131, u132, u133, u134, u135, u136, u137, u138, u139, u140, u141, u142, u143, u144, u145, u146, u147, u148, u149, u150, u151, u152, u153, u154, u155, u156, u157, u158, u159, u160, u161, u162, u163, u164, u165, u166, u167, u168, u169, u170, u171, u172, u173, u174, u175, u176, u177, u178, u179, u180, u181, u182, u183, u184, u185, u186, u187, u188, u189, u190, u191, u192, u193, u194, u195, u196, u197, u198, u199, u200, u201, u202, u203, u204, u205, u206, u207, u208, u209, u210, u211, u212, u213, u214, u215, u216, u217, u218, u219, u220, u221, u222, u223, u224, u225, u226, u227, u228, u229, u230, u231, u232, u233, u234, u235, u236, u237, u238, u239, u240], []⟩ wr) :
    Code.wp Try.prog (Code.loop pastLoop1) Q0 ⟨#[u0, u1, u2, .int .i64 how, .int .i64 n, u5, u6, u7, u8, u9, u10, u11, u12, u13, .pointer (some ⟨qb, 0, none⟩), .pointer (some ⟨eb, 0, none⟩), .pointer (some ⟨O, 0, none⟩), .int .i64 0, u18, u19, u20, u21, u22, u23, u24, u25, u26, u27, u28, u29, u30, u31, u32, u33, u34, u35, u36, u37, u38, u39, u40, u41, u42, u43, u44, u45, u46, u47, u48, u49, u50, u51, u52, u53, u54, u55, u56, u57, u58, u59, u60, u61, u62, u63, u64, u65, u66, u67, u68, u69, u70, u71, u72, u73, u74, u75, u76, u77, u78, u79, u80, u81, u82, u83, u84, u85, u86, u87, u88, u89, u90, u91, u92, u93, u94, u95, u96, u97, u98, u99, u100, u101, u102, u103, u104, u105, u106, u107, u108, u109, u110, u111, u112, u113, u114, u115, u116, u117, u118, u119, u120, u121, u122, u123, u124, u125, u126, u127, u128, u129, u130, u131, u132, u133, u134, u135, u136, u137, u138, u139, u140, u141, u142, u143, u144, u145, u146, u147, u148, u149, u150, u151, u152, u153, u154, u155, u156, u157, u158, u159, u160, u161, u162, u163, u164, u165, u166, u167, u168, u169, u170, u171, u172, u173, u174, u175, u176, u177, u178, u179, u180, u181, u182, u183, u184, u185, u186, u187, u188, u189, u190, u191, u192, u193, u194, u195, u196, u197, u198, u199, u200, u201, u202, u203, u204, u205, u206, u207, u208, u209, u210, u211, u212, u213, u214, u215, u216, u217, u218, u219, u220, u221, u222, u223, u224, u225, u226, u227, u228, u229, u230, u231, u232, u233, u234, u235, u236, u237, u238, u239, u240], []⟩ W0 := by
  have HEE := hide hee
  have HE : Hid (cs ++ (es.take es.length).map (pastClause how n q) = cs ++ es.map (pastClause how n q)) := hide (by rw [List.take_length])
  generalize cs ++ es.map (pastClause how n q) = LF at HE hexit
  obtain ⟨⟨hq1, hq2⟩, hq3, hq4⟩ := hq.out
  obtain ⟨hP0, hP1⟩ := pkF_bd (n := 50) (by decide) n
  clear hee
  conv => arg 2; arg 1; whnf
  dsimp only
  go_loopw [17] (fun i wr => ∃ (k : Nat) (lv : Value), k ≤ es.length ∧ i = .int .i64 k ∧ ClausesOwn wr 0 B lv (cs ++ (es.take k).map (pastClause how n q)) ∧ OwnR wr B 55 3 (.slice ra rm rc) Lr0 ∧ OwnR wr B 57 6 (.slice fa fm fc) Lf0 ∧ Blk wr O [lv, .slice ra rm rc, .slice fa fm fc] 34 ∧ Below w.heap.size w wr ∧ O < wr.heap.size) (fun i _ => es.length - (intOf i).toNat)
  case atStart => exact ⟨0, _, by omega, rfl, by simpa using hC, hR, hF, hbW, hb, hs⟩
  case round =>
    obtain ⟨k, lv, hk, rfl, hown, hR, hF, hbW, hbr, hsz⟩ := hrel
    have be0 := keep hbr (bE.cell 0 rfl)
    by_cases hlt : k < es.length
    · have HK := hide hlt
      have hltI : (k : Int) < es.length := by omega
      obtain ⟨kb, na, nn, ba, bn, e, hni, hbi, hck⟩ := clauses_rec HEE.out hlt
      cases e
      have HTK := hide (take_map_succ (pastClause how n q) es clause0 hlt)
      have HLN : Hid ((cs ++ (es.take k).map (pastClause how n q)).length ≤ 16) := hide (by rw [List.length_append, List.length_map, List.length_take]; omega)
      generalize es.getD k clause0 = y at hck HTK hni hbi
      have y0 := hck 0 _ rfl
      have y1 := hck 1 _ rfl
      have y2 := hck 2 _ rfl
      have y3 := hck 3 _ rfl
      have y4 := hck 4 _ rfl
      have y5 := hck 5 _ rfl
      rw [Nat.add_zero] at y0
      replace y0 := keep hbr y0
      replace y1 := keep hbr y1
      replace y2 := keep hbr y2
      replace y3 := keep hbr y3
      replace y4 := keep hbr y4
      replace y5 := keep hbr y5
      have HNI := hide hni
      have HBI := hide hbi
      obtain ⟨Lr, hOR, hLl, hLs⟩ := hown
      obtain ⟨va, vc, e0⟩ := own_form hOR
      subst e0
      have HLL := hide hLl
      have hln8 : Lr.length ≤ 16 := by rw [hLl]; exact HLN.out
      clear hLl
      have HPH := hide (fun W => pickl_any how 2 W hh.out.1 hh.out.2 (by decide) (by decide))
      have HP := hide (fun W => pickl_any n 50 W hn.out.1 hn.out.2 (by decide) (by decide))
      have HHAS := hide (fun W => hasq_any y.sf y.st q.day W)
      have HPC : Hid (pastClause how n q y = if pkF how 2 = 0 then { y with pub := q.known + 1 + pkF n 50 } else if hasR y.sf y.st q.day then { y with sf := q.day + 1, st := q.day + 2 + pkF n 50 } else y) := hide rfl
      generalize pkF n 50 = P at HP HPC hP0 hP1
      generalize pkF how 2 = hw at HPH HPC
      generalize hasR y.sf y.st q.day = hs at HPC HHAS
      have hqlt : qb < wr.heap.size := (bQ.later hbr).lt
      go_wp2_with fail
      generalize hY1 : World.alloc wr _ = Y1
      have zY1 : Y1.heap.size = wr.heap.size + 1 := by rw [← hY1]; simp
      have bY1 : Below wr.heap.size wr Y1 := by rw [← hY1]; exact bal wr _
      have bY : Blk Y1 (wr.heap.size) (clauseC y (.slice na y.needs.length nn) (.slice ba y.bars.length bn)) 51 := by rw [← hY1]; exact Blk.newA wr _ (by first | rfl | simp)
      have Yb := bY1
      have Yz := zY1
      clear hY1 zY1 bY1
      refine (HPH.out _).mono ?_
      rintro e Y1 ⟨rfl, rfl⟩
      have hbQ1 := bQ.later (below2 hbr Yb)
      have u1 := bY.cell 1 rfl
      have u2 := bY.cell 2 rfl
      have Q2 := hbQ1.cell 2 rfl
      have Q3 := hbQ1.cell 3 rfl
      clear y0 y1 y2 y3 y4 y5 hck be0
      by_cases h0 : hw = 0
      · subst h0
        rw [if_pos rfl] at HPC
        have HY := HPC
        obtain ⟨WX, rfl⟩ : ∃ X, X = Y1 := ⟨_, rfl⟩
        have hbX := Yb
        have bYX := bY
        have ww1 : IntKind.i64.wrap (q.known + 1) = q.known + 1 := IntWalk.i64_in _ (by omega)
        have ww2 : IntKind.i64.wrap (q.known + 1 + P) = q.known + 1 + P := IntWalk.i64_in _ (by omega)
        clear HHAS Yb bY Yz u1 u2 hbQ1 HPH
        go_wp2_with fail
        refine wp_region_inv [some 56, some 57, some 58, some 59, some 60, some 61, some 62, none] (fun L vs W => match vs with | [x0, x1, x2, x3, x4, x5, x6, x7] => (BoxG wr WX (wr.heap.size) 51 [.int .i64 y.pub, .int .i64 y.sf, .int .i64 y.st, .slice na y.needs.length nn, .slice ba y.bars.length bn, .int .i64 y.gives] [.int .i64 (q.known + 1 + P), .int .i64 y.sf, .int .i64 y.st, .slice na y.needs.length nn, .slice ba y.bars.length bn, .int .i64 y.gives] (L 7) W) ∧ (L 0 = true → x0 = .pointer (some ⟨qb, 3, none⟩)) ∧ (L 1 = true → x1 = .int .i64 q.known) ∧ (L 2 = true → x2 = .int .i64 (q.known + 1)) ∧ (L 3 = true → x3 = .int .i64 n) ∧ (L 4 = true → x4 = .int .i64 P) ∧ (L 5 = true → x5 = .int .i64 (q.known + 1 + P)) ∧ (L 6 = true → x6 = .pointer (some ⟨wr.heap.size, 0, none⟩)) ∧ (L 7 = true → True) | _ => False) [_, _, _, _, _, _, _, undef] (by kernel_rfl) (by kernel_rfl) rfl (by simp only [puts, Act.put, List.setIfInBounds_toArray, List.set_cons_zero, List.set_cons_succ] <;> rfl) ?_ ?_ ?_
        · exact ⟨BoxG.first hbX bYX, (fun h => by cases h), (fun h => by cases h), (fun h => by cases h), (fun h => by cases h), (fun h => by cases h), (fun h => by cases h), (fun h => by cases h), (fun h => by cases h)⟩
        · refine ⟨?_, ?_, ?_, ?_, ?_, ?_, ?_, ?_, trivial⟩
          · intro L vs W hlen hL hD hI K hK
            obtain ⟨x0, x1, x2, x3, x4, x5, x6, x7, rfl⟩ := len8 hlen
            have hG := hI.1
            replace hI := hI.2
            have f0 := hide hI.1
            replace hI := hI.2
            have f1 := hide hI.1
            replace hI := hI.2
            have f2 := hide hI.1
            replace hI := hI.2
            have f3 := hide hI.1
            replace hI := hI.2
            have f4 := hide hI.1
            replace hI := hI.2
            have f5 := hide hI.1
            replace hI := hI.2
            have f6 := hide hI.1
            replace hI := hI.2
            have f7 := hide hI
            clear hI
            try simp only [puts, Act.put, List.setIfInBounds_toArray, List.set_cons_zero, List.set_cons_succ]
            try go_simp
            exact hK.out _ _ _ (by simp only [puts, Act.put, List.setIfInBounds_toArray, List.set_cons_zero, List.set_cons_succ] <;> rfl) ⟨hG, (fun _ => rfl), (fun h => f1.out h), (fun h => f2.out h), (fun h => f3.out h), (fun h => f4.out h), (fun h => f5.out h), (fun h => f6.out h), (fun h => f7.out h)⟩
          · intro L vs W hlen hL hD hI K hK
            obtain ⟨x0, x1, x2, x3, x4, x5, x6, x7, rfl⟩ := len8 hlen
            have hG := hI.1
            replace hI := hI.2
            have f0 := hide hI.1
            replace hI := hI.2
            have f1 := hide hI.1
            replace hI := hI.2
            have f2 := hide hI.1
            replace hI := hI.2
            have f3 := hide hI.1
            replace hI := hI.2
            have f4 := hide hI.1
            replace hI := hI.2
            have f5 := hide hI.1
            replace hI := hI.2
            have f6 := hide hI.1
            replace hI := hI.2
            have f7 := hide hI
            clear hI
            obtain rfl := f0.out (hD.on 0 (by kernel_rfl))
            try simp only [puts, Act.put, List.setIfInBounds_toArray, List.set_cons_zero, List.set_cons_succ]
            have r0 := hG.cell (show qb ≠ wr.heap.size by omega) Q3
            go_simp
            exact hK.out _ _ _ (by simp only [puts, Act.put, List.setIfInBounds_toArray, List.set_cons_zero, List.set_cons_succ] <;> rfl) ⟨hG, (fun h => f0.out h), (fun _ => rfl), (fun h => f2.out h), (fun h => f3.out h), (fun h => f4.out h), (fun h => f5.out h), (fun h => f6.out h), (fun h => f7.out h)⟩
          · intro L vs W hlen hL hD hI K hK
            obtain ⟨x0, x1, x2, x3, x4, x5, x6, x7, rfl⟩ := len8 hlen
            have hG := hI.1
            replace hI := hI.2
            have f0 := hide hI.1
            replace hI := hI.2
            have f1 := hide hI.1
            replace hI := hI.2
            have f2 := hide hI.1
            replace hI := hI.2
            have f3 := hide hI.1
            replace hI := hI.2
            have f4 := hide hI.1
            replace hI := hI.2
            have f5 := hide hI.1
            replace hI := hI.2
            have f6 := hide hI.1
            replace hI := hI.2
            have f7 := hide hI
            clear hI
            obtain rfl := f1.out (hD.on 1 (by kernel_rfl))
            try simp only [puts, Act.put, List.setIfInBounds_toArray, List.set_cons_zero, List.set_cons_succ]
            try go_simp
            exact hK.out _ _ _ (by simp only [puts, Act.put, List.setIfInBounds_toArray, List.set_cons_zero, List.set_cons_succ] <;> rfl) ⟨hG, (fun h => f0.out h), (fun h => f1.out h), (fun _ => rfl), (fun h => f3.out h), (fun h => f4.out h), (fun h => f5.out h), (fun h => f6.out h), (fun h => f7.out h)⟩
          · intro L vs W hlen hL hD hI K hK
            obtain ⟨x0, x1, x2, x3, x4, x5, x6, x7, rfl⟩ := len8 hlen
            have hG := hI.1
            replace hI := hI.2
            have f0 := hide hI.1
            replace hI := hI.2
            have f1 := hide hI.1
            replace hI := hI.2
            have f2 := hide hI.1
            replace hI := hI.2
            have f3 := hide hI.1
            replace hI := hI.2
            have f4 := hide hI.1
            replace hI := hI.2
            have f5 := hide hI.1
            replace hI := hI.2
            have f6 := hide hI.1
            replace hI := hI.2
            have f7 := hide hI
            clear hI
            try simp only [puts, Act.put, List.setIfInBounds_toArray, List.set_cons_zero, List.set_cons_succ]
            try go_simp
            exact hK.out _ _ _ (by simp only [puts, Act.put, List.setIfInBounds_toArray, List.set_cons_zero, List.set_cons_succ] <;> rfl) ⟨hG, (fun h => f0.out h), (fun h => f1.out h), (fun h => f2.out h), (fun _ => rfl), (fun h => f4.out h), (fun h => f5.out h), (fun h => f6.out h), (fun h => f7.out h)⟩
          · intro L vs W hlen hL hD hI K hK
            obtain ⟨x0, x1, x2, x3, x4, x5, x6, x7, rfl⟩ := len8 hlen
            have hG := hI.1
            replace hI := hI.2
            have f0 := hide hI.1
            replace hI := hI.2
            have f1 := hide hI.1
            replace hI := hI.2
            have f2 := hide hI.1
            replace hI := hI.2
            have f3 := hide hI.1
            replace hI := hI.2
            have f4 := hide hI.1
            replace hI := hI.2
            have f5 := hide hI.1
            replace hI := hI.2
            have f6 := hide hI.1
            replace hI := hI.2
            have f7 := hide hI
            clear hI
            obtain rfl := f3.out (hD.on 3 (by kernel_rfl))
            try simp only [puts, Act.put, List.setIfInBounds_toArray, List.set_cons_zero, List.set_cons_succ]
            try go_simp
            refine (HP.out _).mono ?_
            rintro e W' ⟨rfl, rfl⟩
            try go_simp
            exact hK.out _ _ _ (by simp only [puts, Act.put, List.setIfInBounds_toArray, List.set_cons_zero, List.set_cons_succ] <;> rfl) ⟨hG, (fun h => f0.out h), (fun h => f1.out h), (fun h => f2.out h), (fun h => f3.out h), (fun _ => rfl), (fun h => f5.out h), (fun h => f6.out h), (fun h => f7.out h)⟩
          · intro L vs W hlen hL hD hI K hK
            obtain ⟨x0, x1, x2, x3, x4, x5, x6, x7, rfl⟩ := len8 hlen
            have hG := hI.1
            replace hI := hI.2
            have f0 := hide hI.1
            replace hI := hI.2
            have f1 := hide hI.1
            replace hI := hI.2
            have f2 := hide hI.1
            replace hI := hI.2
            have f3 := hide hI.1
            replace hI := hI.2
            have f4 := hide hI.1
            replace hI := hI.2
            have f5 := hide hI.1
            replace hI := hI.2
            have f6 := hide hI.1
            replace hI := hI.2
            have f7 := hide hI
            clear hI
            obtain rfl := f2.out (hD.on 2 (by kernel_rfl))
            obtain rfl := f4.out (hD.on 4 (by kernel_rfl))
            try simp only [puts, Act.put, List.setIfInBounds_toArray, List.set_cons_zero, List.set_cons_succ]
            try go_simp
            exact hK.out _ _ _ (by simp only [puts, Act.put, List.setIfInBounds_toArray, List.set_cons_zero, List.set_cons_succ] <;> rfl) ⟨hG, (fun h => f0.out h), (fun h => f1.out h), (fun h => f2.out h), (fun h => f3.out h), (fun h => f4.out h), (fun _ => rfl), (fun h => f6.out h), (fun h => f7.out h)⟩
          · intro L vs W hlen hL hD hI K hK
            obtain ⟨x0, x1, x2, x3, x4, x5, x6, x7, rfl⟩ := len8 hlen
            have hG := hI.1
            replace hI := hI.2
            have f0 := hide hI.1
            replace hI := hI.2
            have f1 := hide hI.1
            replace hI := hI.2
            have f2 := hide hI.1
            replace hI := hI.2
            have f3 := hide hI.1
            replace hI := hI.2
            have f4 := hide hI.1
            replace hI := hI.2
            have f5 := hide hI.1
            replace hI := hI.2
            have f6 := hide hI.1
            replace hI := hI.2
            have f7 := hide hI
            clear hI
            try simp only [puts, Act.put, List.setIfInBounds_toArray, List.set_cons_zero, List.set_cons_succ]
            try go_simp
            exact hK.out _ _ _ (by simp only [puts, Act.put, List.setIfInBounds_toArray, List.set_cons_zero, List.set_cons_succ] <;> rfl) ⟨hG, (fun h => f0.out h), (fun h => f1.out h), (fun h => f2.out h), (fun h => f3.out h), (fun h => f4.out h), (fun h => f5.out h), (fun _ => rfl), (fun h => f7.out h)⟩
          · intro L vs W hlen hL hD hI K hK
            obtain ⟨x0, x1, x2, x3, x4, x5, x6, x7, rfl⟩ := len8 hlen
            have hG := hI.1
            replace hI := hI.2
            have f0 := hide hI.1
            replace hI := hI.2
            have f1 := hide hI.1
            replace hI := hI.2
            have f2 := hide hI.1
            replace hI := hI.2
            have f3 := hide hI.1
            replace hI := hI.2
            have f4 := hide hI.1
            replace hI := hI.2
            have f5 := hide hI.1
            replace hI := hI.2
            have f6 := hide hI.1
            replace hI := hI.2
            have f7 := hide hI
            clear hI
            obtain rfl := f5.out (hD.on 5 (by kernel_rfl))
            obtain rfl := f6.out (hD.on 6 (by kernel_rfl))
            try simp only [puts, Act.put, List.setIfInBounds_toArray, List.set_cons_zero, List.set_cons_succ]
            rw [hL] at hG
            have z0 := hG.box.frozen 0
            have z1 := hG.box.cell 0 rfl
            go_simp
            have hb := Below.refl W.heap.size W
            exact hK.out _ undef _ (by simp only [puts, Act.put, List.setIfInBounds_toArray, List.set_cons_zero, List.set_cons_succ] <;> rfl) ⟨hG.put1 (by omega) 0 _ rfl, (fun h => f0.out h), (fun h => f1.out h), (fun h => f2.out h), (fun h => f3.out h), (fun h => f4.out h), (fun h => f5.out h), (fun h => f6.out h), (fun _ => trivial)⟩
        intro L vs W hlen hall hI
        obtain ⟨x0, x1, x2, x3, x4, x5, x6, x7, rfl⟩ := len8 hlen
        have hG := hI.1
        replace hI := hI.2
        have f0 := hide hI.1
        replace hI := hI.2
        have f1 := hide hI.1
        replace hI := hI.2
        have f2 := hide hI.1
        replace hI := hI.2
        have f3 := hide hI.1
        replace hI := hI.2
        have f4 := hide hI.1
        replace hI := hI.2
        have f5 := hide hI.1
        replace hI := hI.2
        have f6 := hide hI.1
        replace hI := hI.2
        have f7 := hide hI
        clear hI
        obtain rfl := f0.out (hall 0 (by decide))
        obtain rfl := f1.out (hall 1 (by decide))
        obtain rfl := f2.out (hall 2 (by decide))
        obtain rfl := f3.out (hall 3 (by decide))
        obtain rfl := f4.out (hall 4 (by decide))
        obtain rfl := f5.out (hall 5 (by decide))
        obtain rfl := f6.out (hall 6 (by decide))
        have hal := hide hall
        clear hall f0 f1 f2 f3 f4 f5 f6 f7
        try simp only [puts, Act.put, List.setIfInBounds_toArray, List.set_cons_zero, List.set_cons_succ]
        rw [hal.out 7 (by decide)] at hG
        have bYF := hG.done
        have hbF := hG.hb
        clear hG hal hbX bYX ww1 ww2 Q2 Q3
        have YY0 := bYF.cell 0 rfl
        have YY1 := bYF.cell 1 rfl
        have YY2 := bYF.cell 2 rfl
        have YY3 := bYF.cell 3 rfl
        have YY4 := bYF.cell 4 rfl
        have YY5 := bYF.cell 5 rfl
        have WW0 := (hbW.later hbF).cell 0 rfl
        have hOW := hOR.later' hbF
        have hsW := hbF.size
        have hsR := hbr.size
        go_wp2_with (at_builtin; refine app_recE infoClause rfl (by decide) Try.underlying30 rfl _ _ rfl B _ Lr rfl hOW (clauseC { y with pub := q.known + 1 + P } (.slice na y.needs.length nn) (.slice ba y.bars.length bn)) rfl clauseC_one _ rfl rfl (by omega) (by omega) (by omega) ?_; intro v3 w3 hO3 hE3 hob3; obtain ⟨g3', c3', rfl⟩ := own_some hO3; have hbC3 : Blk w3 O [.slice va Lr.length vc, .slice ra rm rc, .slice fa fm fc] 34 := (hbW.later hbF).eff hE3 (fun e => hOW.neT (hbW.later hbF) (by decide) e.symm); have r0 := hbC3.cell 0 rfl; have rf := hbC3.frozen 0)
        have hEE : EffE B 51 W w3 := effE_of_grown hOW ⟨hE3.os, hE3.tape, hE3.output, hE3.size, fun b hb hn => hE3.block b hb hn⟩
        have hEY : EffY B 51 O wr (w3.setCell ⟨O, 0, none⟩ (.slice (some ⟨g3', 0, none⟩) (Lr.length + 1) c3')) := ((EffY.of_below hbF).app hEE).set 0 _
        have HB3 := hide (keeps_low_effY hEY hBw (by omega) hbr)
        have HCL := hide (clauses_app (x := { y with pub := q.known + 1 + P }) HLL.out hLs hEY hbW (by decide) (by decide) ((HNI.out.keeps (keeps_frmY_le _ _ (Nat.zero_le _))).keeps (keeps_frmY_below HB3.out)) ((HBI.out.keeps (keeps_frmY_le _ _ (Nat.zero_le _))).keeps (keeps_frmY_below HB3.out)) (OwnR.setO hO3 hbC3 (by decide) _))
        have HR3 := hide (hR.kept hEY hbW (by decide) (by decide))
        have HF3 := hide (hF.kept hEY hbW (by decide) (by decide))
        have HC3 := hide (hbC3.set 0 (.slice (some ⟨g3', 0, none⟩) (Lr.length + 1) c3'))
        have HS3 := hide (Nat.lt_of_lt_of_le hsz hEY.size)
        clear hEE hEY hO3 hE3 hob3 hOW hbC3 hbW hLs hR hF hbr bYF hbF
        go_roundw
        case rel => exact ⟨k + 1, _, by have := HK.out; omega, by go_num, by rw [HTK.out, HY.out, ← List.append_assoc]; exact HCL.out, HR3.out, HF3.out, HC3.out, HB3.out, HS3.out⟩
        case measure => have := HK.out; simp [intOf]; omega
      · have hw0 : (hw == 0) = false := by simp [h0]
        rw [if_neg h0] at HPC
        clear h0
        go_wp2_with fail
        refine (HHAS.out _).mono ?_
        rintro e WX ⟨rfl, hb3⟩
        have hbX := below2 Yb hb3
        have bYX := bY.later hb3
        replace Q2 := (hbQ1.later hb3).cell 2 rfl
        clear u1 u2 Q3 hb3 Yb bY Yz HHAS HPH hbQ1
        cases hs
        · have HY : Hid (pastClause how n q y = y) := HPC
          have YY0 := bYX.cell 0 rfl
          have YY1 := bYX.cell 1 rfl
          have YY2 := bYX.cell 2 rfl
          have YY3 := bYX.cell 3 rfl
          have YY4 := bYX.cell 4 rfl
          have YY5 := bYX.cell 5 rfl
          have WW0 := (hbW.later hbX).cell 0 rfl
          have hOW := hOR.later' hbX
          have hsW := hbX.size
          have hsR := hbr.size
          go_wp2_with (at_builtin; refine app_recE infoClause rfl (by decide) Try.underlying30 rfl _ _ rfl B _ Lr rfl hOW (clauseC y (.slice na y.needs.length nn) (.slice ba y.bars.length bn)) rfl clauseC_one _ rfl rfl (by omega) (by omega) (by omega) ?_; intro v3 w3 hO3 hE3 hob3; obtain ⟨g3', c3', rfl⟩ := own_some hO3; have hbC3 : Blk w3 O [.slice va Lr.length vc, .slice ra rm rc, .slice fa fm fc] 34 := (hbW.later hbX).eff hE3 (fun e => hOW.neT (hbW.later hbX) (by decide) e.symm); have r0 := hbC3.cell 0 rfl; have rf := hbC3.frozen 0)
          have hEE : EffE B 51 WX w3 := effE_of_grown hOW ⟨hE3.os, hE3.tape, hE3.output, hE3.size, fun b hb hn => hE3.block b hb hn⟩
          have hEY : EffY B 51 O wr (w3.setCell ⟨O, 0, none⟩ (.slice (some ⟨g3', 0, none⟩) (Lr.length + 1) c3')) := ((EffY.of_below hbX).app hEE).set 0 _
          have HB3 := hide (keeps_low_effY hEY hBw (by omega) hbr)
          have HCL := hide (clauses_app (x := y) HLL.out hLs hEY hbW (by decide) (by decide) ((HNI.out.keeps (keeps_frmY_le _ _ (Nat.zero_le _))).keeps (keeps_frmY_below HB3.out)) ((HBI.out.keeps (keeps_frmY_le _ _ (Nat.zero_le _))).keeps (keeps_frmY_below HB3.out)) (OwnR.setO hO3 hbC3 (by decide) _))
          have HR3 := hide (hR.kept hEY hbW (by decide) (by decide))
          have HF3 := hide (hF.kept hEY hbW (by decide) (by decide))
          have HC3 := hide (hbC3.set 0 (.slice (some ⟨g3', 0, none⟩) (Lr.length + 1) c3'))
          have HS3 := hide (Nat.lt_of_lt_of_le hsz hEY.size)
          clear hEE hEY hO3 hE3 hob3 hOW hbC3 hbW hLs hR hF hbr bYX hbX
          go_roundw
          case rel => exact ⟨k + 1, _, by have := HK.out; omega, by go_num, by rw [HTK.out, HY.out, ← List.append_assoc]; exact HCL.out, HR3.out, HF3.out, HC3.out, HB3.out, HS3.out⟩
          case measure => have := HK.out; simp [intOf]; omega
        · have HY : Hid (pastClause how n q y = { y with sf := q.day + 1, st := q.day + 2 + P }) := HPC
          have ww1 : IntKind.i64.wrap (q.day + 1) = q.day + 1 := IntWalk.i64_in _ (by omega)
          have ww2 : IntKind.i64.wrap (q.day + 2) = q.day + 2 := IntWalk.i64_in _ (by omega)
          have ww3 : IntKind.i64.wrap (q.day + 2 + P) = q.day + 2 + P := IntWalk.i64_in _ (by omega)
          go_wp2_with fail
          refine wp_region_inv [some 68, some 69, some 70, some 71, some 72, some 73, some 74, some 75, some 76, some 77, some 78, none] (fun L vs W => match vs with | [x0, x1, x2, x3, x4, x5, x6, x7, x8, x9, x10, x11] => (BoxG wr WX (wr.heap.size) 51 [.int .i64 y.pub, .int .i64 y.sf, .int .i64 y.st, .slice na y.needs.length nn, .slice ba y.bars.length bn, .int .i64 y.gives] [.int .i64 y.pub, .int .i64 (q.day + 1), .int .i64 (q.day + 2 + P), .slice na y.needs.length nn, .slice ba y.bars.length bn, .int .i64 y.gives] (L 11) W) ∧ (L 0 = true → x0 = .pointer (some ⟨qb, 2, none⟩)) ∧ (L 1 = true → x1 = .int .i64 q.day) ∧ (L 2 = true → x2 = .int .i64 (q.day + 1)) ∧ (L 3 = true → x3 = .pointer (some ⟨qb, 2, none⟩)) ∧ (L 4 = true → x4 = .int .i64 q.day) ∧ (L 5 = true → x5 = .int .i64 (q.day + 2)) ∧ (L 6 = true → x6 = .int .i64 n) ∧ (L 7 = true → x7 = .int .i64 P) ∧ (L 8 = true → x8 = .int .i64 (q.day + 2 + P)) ∧ (L 9 = true → x9 = .agg #[.int .i64 (q.day + 1), .int .i64 (q.day + 2 + P)]) ∧ (L 10 = true → x10 = .pointer (some ⟨wr.heap.size, 1, none⟩)) ∧ (L 11 = true → True) | _ => False) [_, _, _, _, _, _, _, _, _, _, _, undef] (by kernel_rfl) (by kernel_rfl) rfl (by simp only [puts, Act.put, List.setIfInBounds_toArray, List.set_cons_zero, List.set_cons_succ] <;> rfl) ?_ ?_ ?_
          · exact ⟨BoxG.first hbX bYX, (fun h => by cases h), (fun h => by cases h), (fun h => by cases h), (fun h => by cases h), (fun h => by cases h), (fun h => by cases h), (fun h => by cases h), (fun h => by cases h), (fun h => by cases h), (fun h => by cases h), (fun h => by cases h), (fun h => by cases h)⟩
          · refine ⟨?_, ?_, ?_, ?_, ?_, ?_, ?_, ?_, ?_, ?_, ?_, ?_, trivial⟩
            · intro L vs W hlen hL hD hI K hK
              obtain ⟨x0, x1, x2, x3, x4, x5, x6, x7, x8, x9, x10, x11, rfl⟩ := len12 hlen
              have hG := hI.1
              replace hI := hI.2
              have f0 := hide hI.1
              replace hI := hI.2
              have f1 := hide hI.1
              replace hI := hI.2
              have f2 := hide hI.1
              replace hI := hI.2
              have f3 := hide hI.1
              replace hI := hI.2
              have f4 := hide hI.1
              replace hI := hI.2
              have f5 := hide hI.1
              replace hI := hI.2
              have f6 := hide hI.1
              replace hI := hI.2
              have f7 := hide hI.1
              replace hI := hI.2
              have f8 := hide hI.1
              replace hI := hI.2
              have f9 := hide hI.1
              replace hI := hI.2
              have f10 := hide hI.1
              replace hI := hI.2
              have f11 := hide hI
              clear hI
              try simp only [puts, Act.put, List.setIfInBounds_toArray, List.set_cons_zero, List.set_cons_succ]
              try go_simp
              exact hK.out _ _ _ (by simp only [puts, Act.put, List.setIfInBounds_toArray, List.set_cons_zero, List.set_cons_succ] <;> rfl) ⟨hG, (fun _ => rfl), (fun h => f1.out h), (fun h => f2.out h), (fun h => f3.out h), (fun h => f4.out h), (fun h => f5.out h), (fun h => f6.out h), (fun h => f7.out h), (fun h => f8.out h), (fun h => f9.out h), (fun h => f10.out h), (fun h => f11.out h)⟩
            · intro L vs W hlen hL hD hI K hK
              obtain ⟨x0, x1, x2, x3, x4, x5, x6, x7, x8, x9, x10, x11, rfl⟩ := len12 hlen
              have hG := hI.1
              replace hI := hI.2
              have f0 := hide hI.1
              replace hI := hI.2
              have f1 := hide hI.1
              replace hI := hI.2
              have f2 := hide hI.1
              replace hI := hI.2
              have f3 := hide hI.1
              replace hI := hI.2
              have f4 := hide hI.1
              replace hI := hI.2
              have f5 := hide hI.1
              replace hI := hI.2
              have f6 := hide hI.1
              replace hI := hI.2
              have f7 := hide hI.1
              replace hI := hI.2
              have f8 := hide hI.1
              replace hI := hI.2
              have f9 := hide hI.1
              replace hI := hI.2
              have f10 := hide hI.1
              replace hI := hI.2
              have f11 := hide hI
              clear hI
              obtain rfl := f0.out (hD.on 0 (by kernel_rfl))
              try simp only [puts, Act.put, List.setIfInBounds_toArray, List.set_cons_zero, List.set_cons_succ]
              have r0 := hG.cell (show qb ≠ wr.heap.size by omega) Q2
              go_simp
              exact hK.out _ _ _ (by simp only [puts, Act.put, List.setIfInBounds_toArray, List.set_cons_zero, List.set_cons_succ] <;> rfl) ⟨hG, (fun h => f0.out h), (fun _ => rfl), (fun h => f2.out h), (fun h => f3.out h), (fun h => f4.out h), (fun h => f5.out h), (fun h => f6.out h), (fun h => f7.out h), (fun h => f8.out h), (fun h => f9.out h), (fun h => f10.out h), (fun h => f11.out h)⟩
            · intro L vs W hlen hL hD hI K hK
              obtain ⟨x0, x1, x2, x3, x4, x5, x6, x7, x8, x9, x10, x11, rfl⟩ := len12 hlen
              have hG := hI.1
              replace hI := hI.2
              have f0 := hide hI.1
              replace hI := hI.2
              have f1 := hide hI.1
              replace hI := hI.2
              have f2 := hide hI.1
              replace hI := hI.2
              have f3 := hide hI.1
              replace hI := hI.2
              have f4 := hide hI.1
              replace hI := hI.2
              have f5 := hide hI.1
              replace hI := hI.2
              have f6 := hide hI.1
              replace hI := hI.2
              have f7 := hide hI.1
              replace hI := hI.2
              have f8 := hide hI.1
              replace hI := hI.2
              have f9 := hide hI.1
              replace hI := hI.2
              have f10 := hide hI.1
              replace hI := hI.2
              have f11 := hide hI
              clear hI
              obtain rfl := f1.out (hD.on 1 (by kernel_rfl))
              try simp only [puts, Act.put, List.setIfInBounds_toArray, List.set_cons_zero, List.set_cons_succ]
              try go_simp
              exact hK.out _ _ _ (by simp only [puts, Act.put, List.setIfInBounds_toArray, List.set_cons_zero, List.set_cons_succ] <;> rfl) ⟨hG, (fun h => f0.out h), (fun h => f1.out h), (fun _ => rfl), (fun h => f3.out h), (fun h => f4.out h), (fun h => f5.out h), (fun h => f6.out h), (fun h => f7.out h), (fun h => f8.out h), (fun h => f9.out h), (fun h => f10.out h), (fun h => f11.out h)⟩
            · intro L vs W hlen hL hD hI K hK
              obtain ⟨x0, x1, x2, x3, x4, x5, x6, x7, x8, x9, x10, x11, rfl⟩ := len12 hlen
              have hG := hI.1
              replace hI := hI.2
              have f0 := hide hI.1
              replace hI := hI.2
              have f1 := hide hI.1
              replace hI := hI.2
              have f2 := hide hI.1
              replace hI := hI.2
              have f3 := hide hI.1
              replace hI := hI.2
              have f4 := hide hI.1
              replace hI := hI.2
              have f5 := hide hI.1
              replace hI := hI.2
              have f6 := hide hI.1
              replace hI := hI.2
              have f7 := hide hI.1
              replace hI := hI.2
              have f8 := hide hI.1
              replace hI := hI.2
              have f9 := hide hI.1
              replace hI := hI.2
              have f10 := hide hI.1
              replace hI := hI.2
              have f11 := hide hI
              clear hI
              try simp only [puts, Act.put, List.setIfInBounds_toArray, List.set_cons_zero, List.set_cons_succ]
              try go_simp
              exact hK.out _ _ _ (by simp only [puts, Act.put, List.setIfInBounds_toArray, List.set_cons_zero, List.set_cons_succ] <;> rfl) ⟨hG, (fun h => f0.out h), (fun h => f1.out h), (fun h => f2.out h), (fun _ => rfl), (fun h => f4.out h), (fun h => f5.out h), (fun h => f6.out h), (fun h => f7.out h), (fun h => f8.out h), (fun h => f9.out h), (fun h => f10.out h), (fun h => f11.out h)⟩
            · intro L vs W hlen hL hD hI K hK
              obtain ⟨x0, x1, x2, x3, x4, x5, x6, x7, x8, x9, x10, x11, rfl⟩ := len12 hlen
              have hG := hI.1
              replace hI := hI.2
              have f0 := hide hI.1
              replace hI := hI.2
              have f1 := hide hI.1
              replace hI := hI.2
              have f2 := hide hI.1
              replace hI := hI.2
              have f3 := hide hI.1
              replace hI := hI.2
              have f4 := hide hI.1
              replace hI := hI.2
              have f5 := hide hI.1
              replace hI := hI.2
              have f6 := hide hI.1
              replace hI := hI.2
              have f7 := hide hI.1
              replace hI := hI.2
              have f8 := hide hI.1
              replace hI := hI.2
              have f9 := hide hI.1
              replace hI := hI.2
              have f10 := hide hI.1
              replace hI := hI.2
              have f11 := hide hI
              clear hI
              obtain rfl := f3.out (hD.on 3 (by kernel_rfl))
              try simp only [puts, Act.put, List.setIfInBounds_toArray, List.set_cons_zero, List.set_cons_succ]
              have r0 := hG.cell (show qb ≠ wr.heap.size by omega) Q2
              go_simp
              exact hK.out _ _ _ (by simp only [puts, Act.put, List.setIfInBounds_toArray, List.set_cons_zero, List.set_cons_succ] <;> rfl) ⟨hG, (fun h => f0.out h), (fun h => f1.out h), (fun h => f2.out h), (fun h => f3.out h), (fun _ => rfl), (fun h => f5.out h), (fun h => f6.out h), (fun h => f7.out h), (fun h => f8.out h), (fun h => f9.out h), (fun h => f10.out h), (fun h => f11.out h)⟩
            · intro L vs W hlen hL hD hI K hK
              obtain ⟨x0, x1, x2, x3, x4, x5, x6, x7, x8, x9, x10, x11, rfl⟩ := len12 hlen
              have hG := hI.1
              replace hI := hI.2
              have f0 := hide hI.1
              replace hI := hI.2
              have f1 := hide hI.1
              replace hI := hI.2
              have f2 := hide hI.1
              replace hI := hI.2
              have f3 := hide hI.1
              replace hI := hI.2
              have f4 := hide hI.1
              replace hI := hI.2
              have f5 := hide hI.1
              replace hI := hI.2
              have f6 := hide hI.1
              replace hI := hI.2
              have f7 := hide hI.1
              replace hI := hI.2
              have f8 := hide hI.1
              replace hI := hI.2
              have f9 := hide hI.1
              replace hI := hI.2
              have f10 := hide hI.1
              replace hI := hI.2
              have f11 := hide hI
              clear hI
              obtain rfl := f4.out (hD.on 4 (by kernel_rfl))
              try simp only [puts, Act.put, List.setIfInBounds_toArray, List.set_cons_zero, List.set_cons_succ]
              try go_simp
              exact hK.out _ _ _ (by simp only [puts, Act.put, List.setIfInBounds_toArray, List.set_cons_zero, List.set_cons_succ] <;> rfl) ⟨hG, (fun h => f0.out h), (fun h => f1.out h), (fun h => f2.out h), (fun h => f3.out h), (fun h => f4.out h), (fun _ => rfl), (fun h => f6.out h), (fun h => f7.out h), (fun h => f8.out h), (fun h => f9.out h), (fun h => f10.out h), (fun h => f11.out h)⟩
            · intro L vs W hlen hL hD hI K hK
              obtain ⟨x0, x1, x2, x3, x4, x5, x6, x7, x8, x9, x10, x11, rfl⟩ := len12 hlen
              have hG := hI.1
              replace hI := hI.2
              have f0 := hide hI.1
              replace hI := hI.2
              have f1 := hide hI.1
              replace hI := hI.2
              have f2 := hide hI.1
              replace hI := hI.2
              have f3 := hide hI.1
              replace hI := hI.2
              have f4 := hide hI.1
              replace hI := hI.2
              have f5 := hide hI.1
              replace hI := hI.2
              have f6 := hide hI.1
              replace hI := hI.2
              have f7 := hide hI.1
              replace hI := hI.2
              have f8 := hide hI.1
              replace hI := hI.2
              have f9 := hide hI.1
              replace hI := hI.2
              have f10 := hide hI.1
              replace hI := hI.2
              have f11 := hide hI
              clear hI
              try simp only [puts, Act.put, List.setIfInBounds_toArray, List.set_cons_zero, List.set_cons_succ]
              try go_simp
              exact hK.out _ _ _ (by simp only [puts, Act.put, List.setIfInBounds_toArray, List.set_cons_zero, List.set_cons_succ] <;> rfl) ⟨hG, (fun h => f0.out h), (fun h => f1.out h), (fun h => f2.out h), (fun h => f3.out h), (fun h => f4.out h), (fun h => f5.out h), (fun _ => rfl), (fun h => f7.out h), (fun h => f8.out h), (fun h => f9.out h), (fun h => f10.out h), (fun h => f11.out h)⟩
            · intro L vs W hlen hL hD hI K hK
              obtain ⟨x0, x1, x2, x3, x4, x5, x6, x7, x8, x9, x10, x11, rfl⟩ := len12 hlen
              have hG := hI.1
              replace hI := hI.2
              have f0 := hide hI.1
              replace hI := hI.2
              have f1 := hide hI.1
              replace hI := hI.2
              have f2 := hide hI.1
              replace hI := hI.2
              have f3 := hide hI.1
              replace hI := hI.2
              have f4 := hide hI.1
              replace hI := hI.2
              have f5 := hide hI.1
              replace hI := hI.2
              have f6 := hide hI.1
              replace hI := hI.2
              have f7 := hide hI.1
              replace hI := hI.2
              have f8 := hide hI.1
              replace hI := hI.2
              have f9 := hide hI.1
              replace hI := hI.2
              have f10 := hide hI.1
              replace hI := hI.2
              have f11 := hide hI
              clear hI
              obtain rfl := f6.out (hD.on 6 (by kernel_rfl))
              try simp only [puts, Act.put, List.setIfInBounds_toArray, List.set_cons_zero, List.set_cons_succ]
              try go_simp
              refine (HP.out _).mono ?_
              rintro e W' ⟨rfl, rfl⟩
              try go_simp
              exact hK.out _ _ _ (by simp only [puts, Act.put, List.setIfInBounds_toArray, List.set_cons_zero, List.set_cons_succ] <;> rfl) ⟨hG, (fun h => f0.out h), (fun h => f1.out h), (fun h => f2.out h), (fun h => f3.out h), (fun h => f4.out h), (fun h => f5.out h), (fun h => f6.out h), (fun _ => rfl), (fun h => f8.out h), (fun h => f9.out h), (fun h => f10.out h), (fun h => f11.out h)⟩
            · intro L vs W hlen hL hD hI K hK
              obtain ⟨x0, x1, x2, x3, x4, x5, x6, x7, x8, x9, x10, x11, rfl⟩ := len12 hlen
              have hG := hI.1
              replace hI := hI.2
              have f0 := hide hI.1
              replace hI := hI.2
              have f1 := hide hI.1
              replace hI := hI.2
              have f2 := hide hI.1
              replace hI := hI.2
              have f3 := hide hI.1
              replace hI := hI.2
              have f4 := hide hI.1
              replace hI := hI.2
              have f5 := hide hI.1
              replace hI := hI.2
              have f6 := hide hI.1
              replace hI := hI.2
              have f7 := hide hI.1
              replace hI := hI.2
              have f8 := hide hI.1
              replace hI := hI.2
              have f9 := hide hI.1
              replace hI := hI.2
              have f10 := hide hI.1
              replace hI := hI.2
              have f11 := hide hI
              clear hI
              obtain rfl := f5.out (hD.on 5 (by kernel_rfl))
              obtain rfl := f7.out (hD.on 7 (by kernel_rfl))
              try simp only [puts, Act.put, List.setIfInBounds_toArray, List.set_cons_zero, List.set_cons_succ]
              try go_simp
              exact hK.out _ _ _ (by simp only [puts, Act.put, List.setIfInBounds_toArray, List.set_cons_zero, List.set_cons_succ] <;> rfl) ⟨hG, (fun h => f0.out h), (fun h => f1.out h), (fun h => f2.out h), (fun h => f3.out h), (fun h => f4.out h), (fun h => f5.out h), (fun h => f6.out h), (fun h => f7.out h), (fun _ => rfl), (fun h => f9.out h), (fun h => f10.out h), (fun h => f11.out h)⟩
            · intro L vs W hlen hL hD hI K hK
              obtain ⟨x0, x1, x2, x3, x4, x5, x6, x7, x8, x9, x10, x11, rfl⟩ := len12 hlen
              have hG := hI.1
              replace hI := hI.2
              have f0 := hide hI.1
              replace hI := hI.2
              have f1 := hide hI.1
              replace hI := hI.2
              have f2 := hide hI.1
              replace hI := hI.2
              have f3 := hide hI.1
              replace hI := hI.2
              have f4 := hide hI.1
              replace hI := hI.2
              have f5 := hide hI.1
              replace hI := hI.2
              have f6 := hide hI.1
              replace hI := hI.2
              have f7 := hide hI.1
              replace hI := hI.2
              have f8 := hide hI.1
              replace hI := hI.2
              have f9 := hide hI.1
              replace hI := hI.2
              have f10 := hide hI.1
              replace hI := hI.2
              have f11 := hide hI
              clear hI
              obtain rfl := f2.out (hD.on 2 (by kernel_rfl))
              obtain rfl := f8.out (hD.on 8 (by kernel_rfl))
              try simp only [puts, Act.put, List.setIfInBounds_toArray, List.set_cons_zero, List.set_cons_succ]
              try go_simp
              exact hK.out _ _ _ (by simp only [puts, Act.put, List.setIfInBounds_toArray, List.set_cons_zero, List.set_cons_succ] <;> rfl) ⟨hG, (fun h => f0.out h), (fun h => f1.out h), (fun h => f2.out h), (fun h => f3.out h), (fun h => f4.out h), (fun h => f5.out h), (fun h => f6.out h), (fun h => f7.out h), (fun h => f8.out h), (fun _ => rfl), (fun h => f10.out h), (fun h => f11.out h)⟩
            · intro L vs W hlen hL hD hI K hK
              obtain ⟨x0, x1, x2, x3, x4, x5, x6, x7, x8, x9, x10, x11, rfl⟩ := len12 hlen
              have hG := hI.1
              replace hI := hI.2
              have f0 := hide hI.1
              replace hI := hI.2
              have f1 := hide hI.1
              replace hI := hI.2
              have f2 := hide hI.1
              replace hI := hI.2
              have f3 := hide hI.1
              replace hI := hI.2
              have f4 := hide hI.1
              replace hI := hI.2
              have f5 := hide hI.1
              replace hI := hI.2
              have f6 := hide hI.1
              replace hI := hI.2
              have f7 := hide hI.1
              replace hI := hI.2
              have f8 := hide hI.1
              replace hI := hI.2
              have f9 := hide hI.1
              replace hI := hI.2
              have f10 := hide hI.1
              replace hI := hI.2
              have f11 := hide hI
              clear hI
              try simp only [puts, Act.put, List.setIfInBounds_toArray, List.set_cons_zero, List.set_cons_succ]
              try go_simp
              exact hK.out _ _ _ (by simp only [puts, Act.put, List.setIfInBounds_toArray, List.set_cons_zero, List.set_cons_succ] <;> rfl) ⟨hG, (fun h => f0.out h), (fun h => f1.out h), (fun h => f2.out h), (fun h => f3.out h), (fun h => f4.out h), (fun h => f5.out h), (fun h => f6.out h), (fun h => f7.out h), (fun h => f8.out h), (fun h => f9.out h), (fun _ => rfl), (fun h => f11.out h)⟩
            · intro L vs W hlen hL hD hI K hK
              obtain ⟨x0, x1, x2, x3, x4, x5, x6, x7, x8, x9, x10, x11, rfl⟩ := len12 hlen
              have hG := hI.1
              replace hI := hI.2
              have f0 := hide hI.1
              replace hI := hI.2
              have f1 := hide hI.1
              replace hI := hI.2
              have f2 := hide hI.1
              replace hI := hI.2
              have f3 := hide hI.1
              replace hI := hI.2
              have f4 := hide hI.1
              replace hI := hI.2
              have f5 := hide hI.1
              replace hI := hI.2
              have f6 := hide hI.1
              replace hI := hI.2
              have f7 := hide hI.1
              replace hI := hI.2
              have f8 := hide hI.1
              replace hI := hI.2
              have f9 := hide hI.1
              replace hI := hI.2
              have f10 := hide hI.1
              replace hI := hI.2
              have f11 := hide hI
              clear hI
              obtain rfl := f9.out (hD.on 9 (by kernel_rfl))
              obtain rfl := f10.out (hD.on 10 (by kernel_rfl))
              try simp only [puts, Act.put, List.setIfInBounds_toArray, List.set_cons_zero, List.set_cons_succ]
              rw [hL] at hG
              have z0 := hG.box.frozen 1
              have z1 := hG.box.cell 1 rfl
              have z2 := hG.box.frozen 2
              have z3 := hG.box.cell 2 rfl
              go_simp
              have hb := Below.refl W.heap.size W
              exact hK.out _ undef _ (by simp only [puts, Act.put, List.setIfInBounds_toArray, List.set_cons_zero, List.set_cons_succ] <;> rfl) ⟨hG.put2At (by omega) 1 _ _ rfl, (fun h => f0.out h), (fun h => f1.out h), (fun h => f2.out h), (fun h => f3.out h), (fun h => f4.out h), (fun h => f5.out h), (fun h => f6.out h), (fun h => f7.out h), (fun h => f8.out h), (fun h => f9.out h), (fun h => f10.out h), (fun _ => trivial)⟩
          intro L vs W hlen hall hI
          obtain ⟨x0, x1, x2, x3, x4, x5, x6, x7, x8, x9, x10, x11, rfl⟩ := len12 hlen
          have hG := hI.1
          replace hI := hI.2
          have f0 := hide hI.1
          replace hI := hI.2
          have f1 := hide hI.1
          replace hI := hI.2
          have f2 := hide hI.1
          replace hI := hI.2
          have f3 := hide hI.1
          replace hI := hI.2
          have f4 := hide hI.1
          replace hI := hI.2
          have f5 := hide hI.1
          replace hI := hI.2
          have f6 := hide hI.1
          replace hI := hI.2
          have f7 := hide hI.1
          replace hI := hI.2
          have f8 := hide hI.1
          replace hI := hI.2
          have f9 := hide hI.1
          replace hI := hI.2
          have f10 := hide hI.1
          replace hI := hI.2
          have f11 := hide hI
          clear hI
          obtain rfl := f0.out (hall 0 (by decide))
          obtain rfl := f1.out (hall 1 (by decide))
          obtain rfl := f2.out (hall 2 (by decide))
          obtain rfl := f3.out (hall 3 (by decide))
          obtain rfl := f4.out (hall 4 (by decide))
          obtain rfl := f5.out (hall 5 (by decide))
          obtain rfl := f6.out (hall 6 (by decide))
          obtain rfl := f7.out (hall 7 (by decide))
          obtain rfl := f8.out (hall 8 (by decide))
          obtain rfl := f9.out (hall 9 (by decide))
          obtain rfl := f10.out (hall 10 (by decide))
          have hal := hide hall
          clear hall f0 f1 f2 f3 f4 f5 f6 f7 f8 f9 f10 f11
          try simp only [puts, Act.put, List.setIfInBounds_toArray, List.set_cons_zero, List.set_cons_succ]
          rw [hal.out 11 (by decide)] at hG
          have bYF := hG.done
          have hbF := hG.hb
          clear hG hal hbX bYX ww1 ww2 ww3 Q2
          have YY0 := bYF.cell 0 rfl
          have YY1 := bYF.cell 1 rfl
          have YY2 := bYF.cell 2 rfl
          have YY3 := bYF.cell 3 rfl
          have YY4 := bYF.cell 4 rfl
          have YY5 := bYF.cell 5 rfl
          have WW0 := (hbW.later hbF).cell 0 rfl
          have hOW := hOR.later' hbF
          have hsW := hbF.size
          have hsR := hbr.size
          go_wp2_with (at_builtin; refine app_recE infoClause rfl (by decide) Try.underlying30 rfl _ _ rfl B _ Lr rfl hOW (clauseC { y with sf := q.day + 1, st := q.day + 2 + P } (.slice na y.needs.length nn) (.slice ba y.bars.length bn)) rfl clauseC_one _ rfl rfl (by omega) (by omega) (by omega) ?_; intro v3 w3 hO3 hE3 hob3; obtain ⟨g3', c3', rfl⟩ := own_some hO3; have hbC3 : Blk w3 O [.slice va Lr.length vc, .slice ra rm rc, .slice fa fm fc] 34 := (hbW.later hbF).eff hE3 (fun e => hOW.neT (hbW.later hbF) (by decide) e.symm); have r0 := hbC3.cell 0 rfl; have rf := hbC3.frozen 0)
          have hEE : EffE B 51 W w3 := effE_of_grown hOW ⟨hE3.os, hE3.tape, hE3.output, hE3.size, fun b hb hn => hE3.block b hb hn⟩
          have hEY : EffY B 51 O wr (w3.setCell ⟨O, 0, none⟩ (.slice (some ⟨g3', 0, none⟩) (Lr.length + 1) c3')) := ((EffY.of_below hbF).app hEE).set 0 _
          have HB3 := hide (keeps_low_effY hEY hBw (by omega) hbr)
          have HCL := hide (clauses_app (x := { y with sf := q.day + 1, st := q.day + 2 + P }) HLL.out hLs hEY hbW (by decide) (by decide) ((HNI.out.keeps (keeps_frmY_le _ _ (Nat.zero_le _))).keeps (keeps_frmY_below HB3.out)) ((HBI.out.keeps (keeps_frmY_le _ _ (Nat.zero_le _))).keeps (keeps_frmY_below HB3.out)) (OwnR.setO hO3 hbC3 (by decide) _))
          have HR3 := hide (hR.kept hEY hbW (by decide) (by decide))
          have HF3 := hide (hF.kept hEY hbW (by decide) (by decide))
          have HC3 := hide (hbC3.set 0 (.slice (some ⟨g3', 0, none⟩) (Lr.length + 1) c3'))
          have HS3 := hide (Nat.lt_of_lt_of_le hsz hEY.size)
          clear hEE hEY hO3 hE3 hob3 hOW hbC3 hbW hLs hR hF hbr bYF hbF
          go_roundw
          case rel => exact ⟨k + 1, _, by have := HK.out; omega, by go_num, by rw [HTK.out, HY.out, ← List.append_assoc]; exact HCL.out, HR3.out, HF3.out, HC3.out, HB3.out, HS3.out⟩
          case measure => have := HK.out; simp [intOf]; omega
    · obtain rfl : k = es.length := by omega
      have hown' := hown
      rw [HE.out] at hown'
      have HO := hide hown'
      have hC9 := hbW
      obtain ⟨va, vc, e0⟩ := hown'.form
      clear hown hown'
      subst e0
      go_wp2_with fail
      exact hexit _ _ _ _ _ _ _ _ _ _ _ _ _ _ _ _ _ _ _ _ _ _ _ _ _ _ _ _ _ _ _ _ _ _ _ _ _ _ _ _ _ _ _ _ _ _ wr _ HO.out hR hF hC9 hbr hsz
end Go.Proofs.Ytdjldidfnddpmaa
