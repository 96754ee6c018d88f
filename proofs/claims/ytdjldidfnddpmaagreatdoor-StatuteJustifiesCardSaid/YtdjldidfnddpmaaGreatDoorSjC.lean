/- The walk of StatuteJustifies: its third loop (the rules of the clauses). Conditions: how valid laws and the lists lie in memory. -/
import Derived.Test.YtdjldidfnddpmaaGreatDoorSjB
import Derived.Test.YtdjldidfnddpmaaGreatDoorJuA
import Derived.Test.YtdjldidfnddpmaaGreatDoorJuC
import Derived.Deep.DeepCutAuto
/- Rules that a call itself makes; own laws of which the exceptions are left out; the plain law. No condition. -/
namespace Go.Proofs.YtdjldidfnddpmaaGreatDoor
open Go.RowKit
theorem infoRule : (Tryz.prog.info? 51).map (fun i => (i.zero, i.size, i.bytes)) = some (some (.agg #[.slice none 0 0, .int .i64 0]), 2, 32) := by kernel_rfl
theorem ruleC_one {a : Option Addr} {n c : Nat} {g : Int} : ∀ u ∈ [Value.slice a n c, Value.int .i64 g], u.oneCell' = true := by
  intro u hu; simp only [List.mem_cons, List.not_mem_nil, or_false] at hu; rcases hu with rfl | rfl <;> rfl
/-- rules of a call's own, from block B on, their numbers from block A on -/
def RulesOwn (w : World) (A B : Nat) (v : Value) (l : List RuleD) : Prop :=
  ∃ L, OwnR w B 51 2 v L ∧ L.length = l.length ∧ ∀ i, i < l.length → ∃ nv, L.getD i [] = [nv, .int .i64 (l.getD i rule0).gives] ∧ IntsIn (frmY A 3 w) nv (natsJ (l.getD i rule0).needs)
theorem RulesOwn.nil (w : World) (A B : Nat) : RulesOwn w A B (.slice none 0 0) [] := ⟨[], OwnR.nil _ _ _ _, rfl, fun i hi => by simp at hi⟩
theorem RulesOwn.later {w w' : World} {A B : Nat} {v : Value} {l : List RuleD} (h : RulesOwn w A B v l) (hb : Below w.heap.size w w') : RulesOwn w' A B v l := by
  obtain ⟨L, h1, h2, h3⟩ := h
  exact ⟨L, h1.later' hb, h2, fun i hi => let ⟨nv, e, hn⟩ := h3 i hi; ⟨nv, e, hn.keeps (keeps_frmY_below hb)⟩⟩
theorem RulesOwn.at {w : World} {A B C : Nat} {v : Value} {l : List RuleD} (h : RulesOwn w A B v l) (hA : C ≤ A) (hB : C ≤ B) : RulesIn (frm C w) v l := by
  obtain ⟨L, hOR, hl, hs⟩ := h
  rcases hOR.form with ⟨rfl, e2⟩ | ⟨g, c, cur, rfl, e1, e2, e3, e4⟩
  · rw [e2] at hl
    exact ⟨none, 0, by rw [← hl]; rfl, by rw [← hl]; simp, by omega, fun k hk => by rw [← hl] at hk; simp at hk⟩
  · refine ⟨some ⟨g, 0, none⟩, c, by rw [hl], by omega, by simpa [maxLen] using e4, fun k hk => ?_⟩
    obtain ⟨nv, e, hn⟩ := hs k hk
    have cc : ∀ (j : Nat) (u : Value), j < 2 → [nv, Value.int .i64 (l.getD k rule0).gives][j]? = some u → frm C w ⟨g, 0 + k * 2 + j, none⟩ = some u := fun j u hj hu => by
      rw [Nat.zero_add]; exact frm_pos (by omega) (hOR.cell k j (by omega) hj (by rw [e]; exact hu))
    exact ⟨g, 0, nv, rfl, cc 0 _ (by omega) rfl, cc 1 _ (by omega) rfl, (hn.keeps (keeps_frmY _ _ _)).keeps (keeps_frm_le _ hA)⟩
/-- a further rule -/
theorem rules_app {w' : World} {A B : Nat} {v' : Value} {l : List RuleD} {w : World} {B' O : Nat} {e tO : TypeId} {vs : List Value} {L : List (List Value)} {x : RuleD} {nv : Value} (hL : L.length = l.length)
    (h3 : ∀ i, i < l.length → ∃ nv, L.getD i [] = [nv, .int .i64 (l.getD i rule0).gives] ∧ IntsIn (frmY A 3 w) nv (natsJ (l.getD i rule0).needs))
    (hE : EffY B' e O w w') (hO : Blk w O vs tO) (h1 : tO ≠ 3) (h2 : 3 ≠ e)
    (hn : IntsIn (frmY A 3 w') nv (natsJ x.needs)) (h' : OwnR w' B 51 2 v' (L ++ [[nv, .int .i64 x.gives]])) : RulesOwn w' A B v' (l ++ [x]) := by
  have hk := keeps_frmY_effY (B' := A) hE hO h1 h2
  refine ⟨_, h', by simp [hL], fun i hi => ?_⟩
  rcases Nat.lt_or_ge i l.length with h1 | h1
  · obtain ⟨nv, e, hc⟩ := h3 i h1
    refine ⟨nv, ?_, ?_⟩
    · rw [getD_app_left _ _ _ _ (by rw [hL]; exact h1), getD_app_left _ _ _ _ h1]; exact e
    · rw [getD_app_left _ _ _ _ h1]; exact hc.keeps hk
  · have hi' : i = l.length := by simp at hi; omega
    subst hi'
    rw [getD_app_right _ _ _ _ (by rw [hL]; exact Nat.le_refl _), getD_app_right _ _ _ _ (Nat.le_refl _), hL, Nat.sub_self]
    exact ⟨nv, rfl, hn⟩
/-- laws without exceptions -/
def nobX (x : ClauseD) : ClauseD := { x with bars := [] }
def nobK (c : CodeD) (k : Nat) : CodeD := ⟨(c.clauses.take k).map nobX ++ c.clauses.drop k, c.repeals, c.facts⟩
def nobC (c : CodeD) : CodeD := ⟨c.clauses.map nobX, c.repeals, c.facts⟩
theorem nob_len {c : CodeD} {k : Nat} (h : k ≤ c.clauses.length) : (nobK c k).clauses.length = c.clauses.length := by
  simp only [nobK, List.length_append, List.length_map, List.length_take, List.length_drop]; omega
theorem nob_zero (c : CodeD) : nobK c 0 = c := rfl
theorem nob_all (c : CodeD) : nobK c c.clauses.length = nobC c := by simp [nobK, nobC]
theorem nob_step {c : CodeD} {k : Nat} (h : k < c.clauses.length) : (⟨(nobK c k).clauses.set k { (nobK c k).clauses.getD k clause0 with bars := [] }, (nobK c k).repeals, (nobK c k).facts⟩ : CodeD) = nobK c (k + 1) := by
  have hl : ((c.clauses.take k).map nobX).length = k := by rw [List.length_map, List.length_take]; omega
  have e : (nobK c k).clauses.getD k clause0 = c.clauses.getD k clause0 := by
    show ((c.clauses.take k).map nobX ++ c.clauses.drop k).getD k clause0 = _
    rw [getD_app_right _ _ _ _ (by rw [hl]; exact Nat.le_refl _), hl, Nat.sub_self, List.getD_eq_getElem?_getD, List.getElem?_drop, Nat.add_zero, List.getD_eq_getElem?_getD]
  rw [e]
  have e2 : (nobK c k).clauses.set k { c.clauses.getD k clause0 with bars := [] } = (nobK c (k + 1)).clauses := by
    show ((c.clauses.take k).map nobX ++ c.clauses.drop k).set k _ = (c.clauses.take (k + 1)).map nobX ++ c.clauses.drop (k + 1)
    rw [List.set_append_right _ _ (by rw [hl]; exact Nat.le_refl _), hl, Nat.sub_self, List.drop_eq_getElem_cons h, List.set_cons_zero, take_succ' c.clauses k clause0 h, List.map_append, List.append_assoc]
    rfl
  rw [e2]; rfl
theorem nob_get {c : CodeD} {i : Nat} (h : i < c.clauses.length) : (nobC c).clauses.getD i clause0 = nobX (c.clauses.getD i clause0) := by
  show (c.clauses.map nobX).getD i clause0 = _
  rw [List.getD_eq_getElem?_getD, List.getElem?_map, List.getElem?_eq_getElem h, List.getD_eq_getElem?_getD, List.getElem?_eq_getElem h]; rfl
theorem nob_valid {c : CodeD} (h : validC c = true) : validC (nobC c) = true := by
  simp only [validC, Bool.and_eq_true, List.all_eq_true, decide_eq_true_eq] at h ⊢
  obtain ⟨⟨⟨⟨⟨h1, h2⟩, h3⟩, h4⟩, h5⟩, h6⟩ := h
  refine ⟨⟨⟨⟨⟨by simpa [nobC] using h1, h2⟩, h3⟩, fun x hx => ?_⟩, fun x hx => ?_⟩, h6⟩
  · obtain ⟨y, hy, rfl⟩ := List.mem_map.1 hx
    have := h4 y hy
    simp only [clauseB, Bool.and_eq_true] at this ⊢
    exact ⟨this.1, by simp [nobX, termsB, ascF]⟩
  · have := h5 x hx
    simpa [nobC] using this
theorem keeps_own_set {w : World} {A B g n : Nat} {e t : TypeId} {k : Nat} {L : List (List Value)} (h : OwnR w B e k (.slice (some ⟨g, 0, none⟩) L.length n) L) (ht : e ≠ t) (j : Nat) (u : Value) : Keeps (frmY A t w) (frmY A t (w.setCell ⟨g, j, none⟩ u)) :=
  keeps_frmY_later fun b _ _ hk => Below.heap_setCell _ _ _ _ (by
    show b ≠ g
    rintro rfl
    rcases h.form with ⟨e1, -⟩ | ⟨g', c', cur, e1, -, e3, -⟩
    · cases e1
    · cases e1
      unfold typ at hk
      rw [e3] at hk
      simp at hk; exact ht hk)
theorem own_set_other {w : World} {B B' g n : Nat} {e t : TypeId} {k k' : Nat} {L L' : List (List Value)} {v : Value} (h : OwnR w B e k (.slice (some ⟨g, 0, none⟩) L.length n) L) (ht : e ≠ t) (h' : OwnR w B' t k' v L') (j : Nat) (u : Value) : OwnR (w.setCell ⟨g, j, none⟩ u) B' t k' v L' := by
  obtain ⟨⟨k1, k2⟩, k3⟩ := h'
  refine ⟨⟨k1, k2.imp id ?_⟩, k3⟩
  rintro ⟨g', cap, cur, e1, e2, e3, e4⟩
  refine ⟨g', cap, cur, e1, e2, ?_, e4⟩
  refine (Below.heap_setCell _ _ _ g' ?_).trans e3
  show g' ≠ g
  rintro rfl
  rcases h.form with ⟨e1, -⟩ | ⟨g2, c2, cur2, e5, e6, e7, -⟩
  · cases e1
  · cases e5
    rw [e3] at e7
    simp at e7; exact ht e7.2.symm
/-- own laws of which one clause loses its exceptions -/
theorem code_nil {w : World} {A B n : Nat} {a : Option Addr} {rv fv : Value} {c : CodeD} (h : CodeOwn w A B (.slice a c.clauses.length n) rv fv c) {k : Nat} (hk : k < c.clauses.length) :
    ∃ g, a = some ⟨g, 0, none⟩ ∧ B ≤ g ∧ g < w.heap.size ∧ (∃ u, w.cell? ⟨g, k * 6 + 4, none⟩ = some u) ∧ w.frozen? ⟨g, k * 6 + 4, none⟩ = false ∧ (∀ b vs t, Blk w b vs t → t ≠ 38 → b ≠ g) ∧
      CodeOwn (w.setCell ⟨g, k * 6 + 4, none⟩ (.slice none 0 0)) A B (.slice a c.clauses.length n) rv fv ⟨c.clauses.set k { c.clauses.getD k clause0 with bars := [] }, c.repeals, c.facts⟩ := by
  obtain ⟨⟨L, hOR, hl, hs⟩, hre, hfa⟩ := h
  rw [← hl] at hOR
  rcases hOR.form with ⟨e1, e2⟩ | ⟨g, c', cur, e1, e2, e3, -⟩
  · rw [e2] at hl; simp at hl; omega
  · cases e1
    refine ⟨g, rfl, e2, (Array.getElem?_eq_some_iff.1 e3).1, ?_, hOR.frozen _, fun b vs t hb ht => ?_, ⟨⟨L.set k ((L.getD k []).set 4 (.slice none 0 0)), ?_, ?_, ?_⟩, own_set_other hOR (by decide) hre _ _, own_set_other hOR (by decide) hfa _ _⟩⟩
    · obtain ⟨nv, bv, e, -⟩ := hs k hk
      exact ⟨bv, hOR.cell k 4 (by rw [hl]; exact hk) (by decide) (by rw [e]; rfl)⟩
    · rintro rfl
      rw [show w.heap[b]? = _ from hb] at e3
      simp at e3; exact ht e3.2
    · have := hOR.set k 4 (by rw [hl]; exact hk) (by decide) (.slice none 0 0)
      rw [← hl]
      exact this
    · rw [List.length_set, List.length_set, hl]
    · intro i hi
      rw [List.length_set] at hi
      by_cases e : i = k
      · subst e
        obtain ⟨nv, bv, e4, hn, -⟩ := hs i hi
        rw [setC_eq hi]
        refine ⟨nv, .slice none 0 0, ?_, hn.keeps (keeps_own_set hOR (by decide) _ _), IntsIn.nil _⟩
        rw [List.getD_eq_getElem?_getD, List.getElem?_set_self (by rw [hl]; exact hi), e4]; rfl
      · obtain ⟨nv, bv, e4, hn, hb⟩ := hs i hi
        have hx : (c.clauses.set k { c.clauses.getD k clause0 with bars := [] }).getD i clause0 = c.clauses.getD i clause0 := setC_ne _ e _ _
        refine ⟨nv, bv, ?_, ?_, ?_⟩
        · show _ = clauseC ((c.clauses.set k { c.clauses.getD k clause0 with bars := [] }).getD i clause0) nv bv
          rw [hx, List.getD_eq_getElem?_getD, List.getElem?_set_ne (Ne.symm e), ← List.getD_eq_getElem?_getD, e4]
        · show IntsIn _ _ ((c.clauses.set k { c.clauses.getD k clause0 with bars := [] }).getD i clause0).needs
          rw [hx]; exact hn.keeps (keeps_own_set hOR (by decide) _ _)
        · show IntsIn _ _ ((c.clauses.set k { c.clauses.getD k clause0 with bars := [] }).getD i clause0).bars
          rw [hx]; exact hb.keeps (keeps_own_set hOR (by decide) _ _)
end Go.Proofs.YtdjldidfnddpmaaGreatDoor
/- The walk of StatuteJustifies: its second loop (the rules of the facts). Conditions: how the lists lie in memory. -/
namespace Go.Proofs.YtdjldidfnddpmaaGreatDoor
open Go.RowKit
theorem one_inY {W : World} {b A : Nat} {k : Int} (hB : Blk W b [.int .i64 k] 3) (hA : A ≤ b) : IntsIn (frmY A 3 W) (.slice (some ⟨b, 0, none⟩) 1 1) [k] := by
  refine ⟨some ⟨b, 0, none⟩, 1, rfl, by simp, by omega, fun j hj => ⟨b, 0, rfl, ?_⟩⟩
  have e : j = 0 := by simp at hj; exact hj
  subst e
  have ht : typ 3 W b = true := by unfold typ; rw [show W.heap[b]? = _ from hB]; rfl
  unfold frmY
  rw [if_pos ⟨hA, ht⟩]
  exact hB.cell 0 rfl
/-- the rules of the first facts -/
def rulesK (c : CodeD) (F : List Nat) (k : Nat) : List RuleD := (List.range k).map fun k => ruleF F.length c k (F.getD k 0)
theorem rulesK_succ (c : CodeD) (F : List Nat) (k : Nat) : rulesK c F (k + 1) = rulesK c F k ++ [⟨[k], F.length + (c.facts.getD (F.getD k 0) fact0).says.toNat⟩] := by
  unfold rulesK; rw [List.range_succ, List.map_append]; rfl
theorem rulesK_len (c : CodeD) (F : List Nat) (k : Nat) : (rulesK c F k).length = k := by simp [rulesK]
noncomputable def justLoop2 : Code := (Tryz.f3.body.bind fun c => (loopsOf c)[1]?).getD .skip
noncomputable def justLoop3 : Code := (Tryz.f3.body.bind fun c => (loopsOf c)[2]?).getD .skip
noncomputable def justLoop4 : Code := (Tryz.f3.body.bind fun c => (loopsOf c)[3]?).getD .skip
set_option maxRecDepth 100000 in
set_option maxHeartbeats 4000000 in
theorem just_loop2 (w W0 : World) (c : CodeD) (F : List Nat) (cb : Nat) (cv rv : Value) (fa Fa : Option Addr) (fn Fn : Nat) (bC : Blk w cb [cv, rv, .slice fa c.facts.length fn] 32) (hfa : FactsIn w.cell? (.slice fa c.facts.length fn) c.facts)
    (hF : IntsIn w.cell? (.slice Fa F.length Fn) (intsN F)) (HA : Hid (∀ i ∈ F, i < c.facts.length ∧ 0 ≤ (c.facts.getD i fact0).says ∧ (c.facts.getD i fact0).says ≤ 19)) (hFl : F.length ≤ 8) (bT : Blk W0 w.heap.size [.int .i64 F.length, .int .i64 20, .slice none 0 0] 47) (hb : Below w.heap.size w W0) (hs : w.heap.size < W0.heap.size)
    (Q0 : Exit → Act → World → Prop) (u0 u1 u2 u3 u4 u6 u7 u9 u10 u13 u14 u15 u16 u17 u18 u19 u20 u21 u22 u23 u24 u25 u26 u27 u28 u29 u30 u31 u32 u33 u34 u35 u36 u37 u38 u39 u40 u41 u42 u43 u44 u45 u46 u47 u48 u49 u50 u51 u52 u53 u54 u55 u56 u57 u58 u59 u60 u61 u62 u63 u64 u65 u66 u67 u68 u69 u70 u71 u72 u73 u74 u75 u76 u77 u78 u79 u80 u81 u82 u83 u84 u85 u86 u87 u88 u89 u90 u91 u92 u93 u94 u95 u96 u97 u98 u99 u100 u101 u102 u103 u104 u105 u106 u107 u108 u109 u110 u111 u112 u113 u114 u115 u116 u117 u118 u119 u120 u121 u122 u123 u124 u125 u126 u127 u128 u129 u130 u131 u132 u133 u134 u135 u136 u137 u138 u139 u140 u141 u142 u143 u144 u145 u146 u147 u148 u149 u150 u151 u152 u153 u154 u155 u156 u157 u158 u159 u160 u161 u162 u163 u164 u165 u166 u167 u168 u169 u170 u171 u172 u173 u174 u175 u176 u177 u178 u179 u180 u181 u182 u183 u184 u185 u186 u187 u188 u189 u190 u191 u192 u193 u194 u195 u196 u197 u198 u199 u200 u201 u202 u203 u204 u205 u206 u207 u208 u209 u210 u211 u212 u213 u214 u215 u216 u217 : Value)
    (hexit : ∀ (t4 t12 t54 t55 t56 t57 t58 t59 t60 t61 t62 t63 t64 t65 t66 t67 t68 t69 t70 t71 t72 t73 t74 t75 t76 t77 t78 t79 t80 t81 t82 t83 t84 t85 t86 t87 t88 t89 t90 t91 t92 t93 t94 : Value) (wr : World) (lv : Value), RulesOwn wr w.heap.size w.heap.size lv (rulesK c F F.length) → Blk wr w.heap.size [.int .i64 F.length, .int .i64 20, lv] 47 → Below w.heap.size w wr → w.heap.size < wr.heap.size →
      Q0 (.exit 2) ⟨#[u0, u1, u2, u3, t4, .pointer (some ⟨cb, 0, none⟩), u6, u7, .slice Fa F.length Fn, u9, u10, .pointer (some ⟨w.heap.size, 0, none⟩), t12, u13, u14, u15, u16, u17, u18, u19, u20, u21, u22, u23, u24, u25, u26, u27, u28, u29, u30, u31, u32, u33, u34, u35, u36, u37, u38, u39, u40, u41, u42, u43, u44, u45, u46, u47, u48, u49, u50, u51, u52, u53, t54, t55, t56, t57, t58, t59, t60, t61, t62, t63, t64, t65, t66, t67, t68, t69, t70, t71, t72, t73, t74, t75, t76, t77, t78, t79, t80, t81, t82, t83, t84, t85, t86, t87, t88, t89, t90, t91, t92, t93, t94, u95, u96, u97, u98, u99, u100, u101, u102, u103, u104, u105, u106, u107, u108, u109, u110, u111, u112, u113, u114, u115, u116, u117, u118, u119, u120, u121, u122, u123, u124, u125, u126, u127, u128, u129, u130, u131, u132, u133, u134, u135, u136, u137, u138, u139, u140, u141, u142, u143, u144, u145, u146, u147, u148, u149, u150, u151, u152, u153, u154, u155, u156, u157, u158, u159, u160, u161, u162, u163, u164, u165, u166, u167, u168, u169, u170, u171, u172, u173, u174, u175, u176, u177, u178, u179, u180, u181, u182, u183, u184, u185, u186, u187, u188, u189, u190, u191, u192, u193, u194, u195, u196, u197, u198, u199, u200, u201, u202, u203, u204, u205, u206, u207, u208, u209, u210, u211, u212, u213, u214, u215, u216, u217], []⟩ wr) :
    Code.wp Tryz.prog (Code.loop justLoop2) Q0 ⟨#[u0, u1, u2, u3, u4, .pointer (some ⟨cb, 0, none⟩), u6, u7, .slice Fa F.length Fn, u9, u10, .pointer (some ⟨w.heap.size, 0, none⟩), .int .i64 0, u13, u14, u15, u16, u17, u18, u19, u20, u21, u22, u23, u24, u25, u26, u27, u28, u29, u30, u31, u32, u33, u34, u35, u36, u37, u38, u39, u40, u41, u42, u43, u44, u45, u46, u47, u48, u49, u50, u51, u52, u53, u54, u55, u56, u57, u58, u59, u60, u61, u62, u63, u64, u65, u66, u67, u68, u69, u70, u71, u72, u73, u74, u75, u76, u77, u78, u79, u80, u81, u82, u83, u84, u85, u86, u87, u88, u89, u90, u91, u92, u93, u94, u95, u96, u97, u98, u99, u100, u101, u102, u103, u104, u105, u106, u107, u108, u109, u110, u111, u112, u113, u114, u115, u116, u117, u118, u119, u120, u121, u122, u123, u124, u125, u126, u127, u128, u129, u130, u131, u132, u133, u134, u135, u136, u137, u138, u139, u140, u141, u142, u143, u144, u145, u146, u147, u148, u149, u150, u151, u152, u153, u154, u155, u156, u157, u158, u159, u160, u161, u162, u163, u164, u165, u166, u167, u168, u169, u170, u171, u172, u173, u174, u175, u176, u177, u178, u179, u180, u181, u182, u183, u184, u185, u186, u187, u188, u189, u190, u191, u192, u193, u194, u195, u196, u197, u198, u199, u200, u201, u202, u203, u204, u205, u206, u207, u208, u209, u210, u211, u212, u213, u214, u215, u216, u217], []⟩ W0 := by
  have HF := hide hF
  have HFA := hide hfa
  obtain ⟨FL, hFL⟩ : ∃ FL, F.length = FL := ⟨_, rfl⟩
  obtain ⟨fl, hfl⟩ : ∃ fl, c.facts.length = fl := ⟨_, rfl⟩
  have hnn : (intsN F).length = FL := by unfold intsN; rw [List.length_map, hFL]
  rw [hFL] at HF bT hexit hFl ⊢
  rw [hfl] at HFA bC
  have hflI : (fl : Int) ≤ 9223372036854775807 := by
    obtain ⟨a', n', e, h1, h2, -⟩ := hfa
    omega
  have HRK := hide (rulesK_succ c F)
  have HRL := hide (rulesK_len c F)
  have HR0 : Hid (rulesK c F 0 = []) := hide rfl
  have HFLh := hide hFL
  clear hfa hF hFL
  conv => arg 2; arg 1; whnf
  dsimp only
  go_loopw [12] (fun i wr => ∃ (k : Nat) (lv : Value), k ≤ FL ∧ i = .int .i64 k ∧ RulesOwn wr w.heap.size w.heap.size lv (rulesK c F k) ∧ Blk wr w.heap.size [.int .i64 FL, .int .i64 20, lv] 47 ∧ Below w.heap.size w wr ∧ w.heap.size < wr.heap.size) (fun i _ => FL - (intOf i).toNat)
  case atStart => exact ⟨0, _, by omega, rfl, by rw [HR0.out]; exact RulesOwn.nil _ _ _, bT, hb, hs⟩
  case round =>
    obtain ⟨k, lv, hk, rfl, hown, hbT, hbr, hsz⟩ := hrel
    by_cases hlt : k < FL
    · have HK := hide hlt
      have hltI : (k : Int) < FL := by omega
      obtain ⟨a', n', e', -, -, hcc⟩ := HF.out
      obtain ⟨rfl, -, rfl⟩ := Value.slice.inj e'
      obtain ⟨Fb, Fo, rfl, hu⟩ := hcc k (by omega)
      have hkF : k < F.length := by rw [HFLh.out]; exact hlt
      have hg : (intsN F).getD k 0 = ((F.getD k 0 : Nat) : Int) := by
        unfold intsN
        rw [List.getD_eq_getElem?_getD, List.getElem?_map, List.getElem?_eq_getElem hkF, List.getD_eq_getElem?_getD, List.getElem?_eq_getElem hkF]; rfl
      rw [hg] at hu
      have hx := HA.out _ (getD_mem F k hkF (d := 0))
      have HKS := hide (HRK.out k)
      rw [HFLh.out] at HKS
      generalize F.getD k 0 = n at hu hx HKS
      rw [hfl] at hx
      obtain ⟨hn, hs0, hs1⟩ := hx
      have hnI : (n : Int) < fl := by omega
      have hn0 : decide ((n : Int) < 0) = false := decide_eq_false (by omega)
      have hnG : decide (fl ≤ n) = false := decide_eq_false (by omega)
      obtain ⟨a2, n2, e2, -, -, hcf⟩ := HFA.out
      obtain ⟨rfl, -, rfl⟩ := Value.slice.inj e2
      obtain ⟨fb, fo, rfl, hck⟩ := hcf n (by rw [hfl]; exact hn)
      have y1 := hck 1 _ rfl
      obtain ⟨sy, hsy⟩ : ∃ sy : Nat, (c.facts.getD n fact0).says = sy := ⟨(c.facts.getD n fact0).says.toNat, by omega⟩
      rw [hsy] at y1 hs1
      rw [hsy, Int.toNat_natCast] at HKS
      obtain ⟨gg, hgg⟩ : ∃ gg, FL + sy = gg := ⟨_, rfl⟩
      rw [hgg] at HKS
      have eg : IntKind.i64.wrap ((FL : Int) + (sy : Int)) = (gg : Int) := by rw [IntWalk.i64_in _ ⟨by omega, by omega⟩]; omega
      have bc2 := bC.cell 2 rfl
      have k0b := bwc (keep hbr hu)
      have k2b := bwc (keep hbr bc2)
      have HY1 := hide y1
      have HS := hide (And.intro hgg (And.intro hs1 hsy))
      clear hck hcc hcf e' e2 hs0 hs1 hsy y1 hgg hg hkF hn
      go_wp2_with fail
      refine wp_region_bw (by kernel_rfl) (by kernel_rfl) ?_
      repeat (go_big_quiet_step (fail))
      refine wpQuiet_nil ?_
      rintro _ ⟨i, rfl⟩
      obtain ⟨V, hV⟩ : ∃ V, i.W = V := ⟨_, rfl⟩
      have hi := i.h
      rw [hV] at hi ⊢
      have hbV := below2 hbr hi
      have hszV := hi.size
      obtain ⟨Lr, hOR, hLl, hLs⟩ := hown.later hi
      obtain ⟨va, vc, rfl⟩ := own_form hOR
      have bC1 := hbT.later hi
      have hln8 : Lr.length ≤ 8 := by rw [hLl, HRL.out]; omega
      have HLS := hide hLs
      have HLL := hide hLl
      have y1 := HY1.out
      clear hLs hLl hbT k0b k2b hown hi hV
      go_wp2_with fail
      refine wp_region_inv [some 75, some 76, some 77, some 78, some 79, some 80, some 81, some 82, some 83, some 84, some 85, some 86, some 87, some 88, some 89, some 90, some 91, some 92, some 93, some 94, none] (fun L vs W => match vs with | [x0, x1, x2, x3, x4, x5, x6, x7, x8, x9, x10, x11, x12, x13, x14, x15, x16, x17, x18, x19, x20] => (EffY (w.heap.size) 51 (w.heap.size) V W ∧ (L 20 = false → Blk W (w.heap.size) [.int .i64 (FL : Nat), .int .i64 20, .slice va Lr.length vc] 47) ∧ (L 18 = false → OwnR W (w.heap.size) 51 2 (.slice va Lr.length vc) Lr)) ∧ (L 0 = true → x0 = .pointer (some ⟨w.heap.size, 2, none⟩)) ∧ (L 1 = true → x1 = .slice va Lr.length vc) ∧ (L 2 = true → x2 = .int .i64 (k : Nat)) ∧ (L 3 = true → ∃ b3 : Nat, x3 = .slice (some ⟨b3, 0, none⟩) 1 1 ∧ IntsIn (frmY w.heap.size 3 W) x3 [((k : Nat) : Int)]) ∧ (L 4 = true → x4 = .pointer (some ⟨w.heap.size, 0, none⟩)) ∧ (L 5 = true → x5 = .int .i64 (FL : Nat)) ∧ (L 6 = true → x6 = .pointer (some ⟨cb, 2, none⟩)) ∧ (L 7 = true → x7 = .slice (some ⟨fb, fo, none⟩) fl fn) ∧ (L 8 = true → x8 = .slice (some ⟨Fb, Fo, none⟩) FL Fn) ∧ (L 9 = true → x9 = .int .i64 (k : Nat)) ∧ (L 10 = true → x10 = .pointer (some ⟨Fb, Fo + k, none⟩)) ∧ (L 11 = true → x11 = .int .i64 (n : Nat)) ∧ (L 12 = true → x12 = .pointer (some ⟨fb, fo + n * 6, none⟩)) ∧ (L 13 = true → x13 = .pointer (some ⟨fb, fo + n * 6 + 1, none⟩)) ∧ (L 14 = true → x14 = .int .i64 (sy : Nat)) ∧ (L 15 = true → x15 = .int .i64 (gg : Nat)) ∧ (L 16 = true → L 3 = true ∧ x16 = .agg #[x3, .int .i64 (gg : Nat)]) ∧ (L 17 = true → L 3 = true ∧ (L 18 = false → ∃ b0 : Nat, x17 = .slice (some ⟨b0, 0, none⟩) 1 1 ∧ Blk W b0 [x3, .int .i64 (gg : Nat)] 51)) ∧ (L 18 = true → L 3 = true ∧ ∃ g1 c1, x18 = .slice (some ⟨g1, 0, none⟩) (Lr.length + 1) c1 ∧ OwnR W (w.heap.size) 51 2 x18 (Lr ++ [[x3, .int .i64 (gg : Nat)]])) ∧ (L 19 = true → x19 = .pointer (some ⟨w.heap.size, 2, none⟩)) ∧ (L 20 = true → (L 1 = true ∧ L 5 = true ∧ L 18 = true) ∧ ∃ g1 c1, x18 = .slice (some ⟨g1, 0, none⟩) (Lr.length + 1) c1 ∧ Blk W (w.heap.size) [.int .i64 (FL : Nat), .int .i64 20, x18] 47) | _ => False) [_, _, _, _, _, _, _, _, _, _, _, _, _, _, _, _, _, _, _, _, undef] (by kernel_rfl) (by kernel_rfl) rfl (by simp only [puts, Act.put, List.setIfInBounds_toArray, List.set_cons_zero, List.set_cons_succ] <;> rfl) ?_ ?_ ?_
      · exact ⟨⟨EffY.of_below (Below.refl _ _).drew, fun _ => bC1.later (Below.refl _ _).drew, fun _ => hOR.later' (Below.refl _ _).drew⟩, (fun h => by cases h), (fun h => by cases h), (fun h => by cases h), (fun h => by cases h), (fun h => by cases h), (fun h => by cases h), (fun h => by cases h), (fun h => by cases h), (fun h => by cases h), (fun h => by cases h), (fun h => by cases h), (fun h => by cases h), (fun h => by cases h), (fun h => by cases h), (fun h => by cases h), (fun h => by cases h), (fun h => by cases h), (fun h => by cases h), (fun h => by cases h), (fun h => by cases h), (fun h => by cases h)⟩
      · refine ⟨?_, ?_, ?_, ?_, ?_, ?_, ?_, ?_, ?_, ?_, ?_, ?_, ?_, ?_, ?_, ?_, ?_, ?_, ?_, ?_, ?_, trivial⟩
        · intro L vs W hlen hL hD hI K hK
          obtain ⟨x0, x1, x2, x3, x4, x5, x6, x7, x8, x9, x10, x11, x12, x13, x14, x15, x16, x17, x18, x19, x20, rfl⟩ := len21 hlen
          have hG := hI.1
          replace hI := hI.2
          have f0 := hide hI.1
          replace hI := hI.2
          have f1 := hide hI.1
          replace hI := hI.2
          have f2 := hide hI.1
          replace hI := hI.2
          have f3 := hide hI.1
          replace hI := hI.2
          have f4 := hide hI.1
          replace hI := hI.2
          have f5 := hide hI.1
          replace hI := hI.2
          have f6 := hide hI.1
          replace hI := hI.2
          have f7 := hide hI.1
          replace hI := hI.2
          have f8 := hide hI.1
          replace hI := hI.2
          have f9 := hide hI.1
          replace hI := hI.2
          have f10 := hide hI.1
          replace hI := hI.2
          have f11 := hide hI.1
          replace hI := hI.2
          have f12 := hide hI.1
          replace hI := hI.2
          have f13 := hide hI.1
          replace hI := hI.2
          have f14 := hide hI.1
          replace hI := hI.2
          have f15 := hide hI.1
          replace hI := hI.2
          have f16 := hide hI.1
          replace hI := hI.2
          have f17 := hide hI.1
          replace hI := hI.2
          have f18 := hide hI.1
          replace hI := hI.2
          have f19 := hide hI.1
          replace hI := hI.2
          have f20 := hide hI
          clear hI
          have r00 := hG.1.size
          have hLow := keeps_low_effY hG.1 (Nat.le_refl _) (Nat.le_refl _) hbV
          try simp only [puts, Act.put, List.setIfInBounds_toArray, List.set_cons_zero, List.set_cons_succ]
          try go_simp
          exact hK.out _ _ _ (by simp only [puts, Act.put, List.setIfInBounds_toArray, List.set_cons_zero, List.set_cons_succ] <;> rfl) ⟨hG, (fun _ => rfl), (fun h => f1.out h), (fun h => f2.out h), (fun h => f3.out h), (fun h => f4.out h), (fun h => f5.out h), (fun h => f6.out h), (fun h => f7.out h), (fun h => f8.out h), (fun h => f9.out h), (fun h => f10.out h), (fun h => f11.out h), (fun h => f12.out h), (fun h => f13.out h), (fun h => f14.out h), (fun h => f15.out h), (fun h => f16.out h), (fun h => f17.out h), (fun h => f18.out h), (fun h => f19.out h), (fun h => f20.out h)⟩
        · intro L vs W hlen hL hD hI K hK
          obtain ⟨x0, x1, x2, x3, x4, x5, x6, x7, x8, x9, x10, x11, x12, x13, x14, x15, x16, x17, x18, x19, x20, rfl⟩ := len21 hlen
          have hG := hI.1
          replace hI := hI.2
          have f0 := hide hI.1
          replace hI := hI.2
          have f1 := hide hI.1
          replace hI := hI.2
          have f2 := hide hI.1
          replace hI := hI.2
          have f3 := hide hI.1
          replace hI := hI.2
          have f4 := hide hI.1
          replace hI := hI.2
          have f5 := hide hI.1
          replace hI := hI.2
          have f6 := hide hI.1
          replace hI := hI.2
          have f7 := hide hI.1
          replace hI := hI.2
          have f8 := hide hI.1
          replace hI := hI.2
          have f9 := hide hI.1
          replace hI := hI.2
          have f10 := hide hI.1
          replace hI := hI.2
          have f11 := hide hI.1
          replace hI := hI.2
          have f12 := hide hI.1
          replace hI := hI.2
          have f13 := hide hI.1
          replace hI := hI.2
          have f14 := hide hI.1
          replace hI := hI.2
          have f15 := hide hI.1
          replace hI := hI.2
          have f16 := hide hI.1
          replace hI := hI.2
          have f17 := hide hI.1
          replace hI := hI.2
          have f18 := hide hI.1
          replace hI := hI.2
          have f19 := hide hI.1
          replace hI := hI.2
          have f20 := hide hI
          clear hI
          have r00 := hG.1.size
          have hLow := keeps_low_effY hG.1 (Nat.le_refl _) (Nat.le_refl _) hbV
          obtain rfl := f0.out (hD.on 0 (by kernel_rfl))
          try simp only [puts, Act.put, List.setIfInBounds_toArray, List.set_cons_zero, List.set_cons_succ]
          have hst : L 20 = false := Bool.eq_false_iff.2 (fun h => absurd ((f20.out h).1.1.symm.trans hL) (by decide))
          have r0 := (hG.2.1 hst).cell 2 rfl
          go_simp
          exact hK.out _ _ _ (by simp only [puts, Act.put, List.setIfInBounds_toArray, List.set_cons_zero, List.set_cons_succ] <;> rfl) ⟨hG, (fun h => f0.out h), (fun _ => rfl), (fun h => f2.out h), (fun h => f3.out h), (fun h => f4.out h), (fun h => f5.out h), (fun h => f6.out h), (fun h => f7.out h), (fun h => f8.out h), (fun h => f9.out h), (fun h => f10.out h), (fun h => f11.out h), (fun h => f12.out h), (fun h => f13.out h), (fun h => f14.out h), (fun h => f15.out h), (fun h => f16.out h), (fun h => f17.out h), (fun h => f18.out h), (fun h => f19.out h), (fun h => (fun h => ⟨⟨rfl, h.1.2⟩, h.2⟩) (f20.out h))⟩
        · intro L vs W hlen hL hD hI K hK
          obtain ⟨x0, x1, x2, x3, x4, x5, x6, x7, x8, x9, x10, x11, x12, x13, x14, x15, x16, x17, x18, x19, x20, rfl⟩ := len21 hlen
          have hG := hI.1
          replace hI := hI.2
          have f0 := hide hI.1
          replace hI := hI.2
          have f1 := hide hI.1
          replace hI := hI.2
          have f2 := hide hI.1
          replace hI := hI.2
          have f3 := hide hI.1
          replace hI := hI.2
          have f4 := hide hI.1
          replace hI := hI.2
          have f5 := hide hI.1
          replace hI := hI.2
          have f6 := hide hI.1
          replace hI := hI.2
          have f7 := hide hI.1
          replace hI := hI.2
          have f8 := hide hI.1
          replace hI := hI.2
          have f9 := hide hI.1
          replace hI := hI.2
          have f10 := hide hI.1
          replace hI := hI.2
          have f11 := hide hI.1
          replace hI := hI.2
          have f12 := hide hI.1
          replace hI := hI.2
          have f13 := hide hI.1
          replace hI := hI.2
          have f14 := hide hI.1
          replace hI := hI.2
          have f15 := hide hI.1
          replace hI := hI.2
          have f16 := hide hI.1
          replace hI := hI.2
          have f17 := hide hI.1
          replace hI := hI.2
          have f18 := hide hI.1
          replace hI := hI.2
          have f19 := hide hI.1
          replace hI := hI.2
          have f20 := hide hI
          clear hI
          have r00 := hG.1.size
          have hLow := keeps_low_effY hG.1 (Nat.le_refl _) (Nat.le_refl _) hbV
          try simp only [puts, Act.put, List.setIfInBounds_toArray, List.set_cons_zero, List.set_cons_succ]
          try go_simp
          exact hK.out _ _ _ (by simp only [puts, Act.put, List.setIfInBounds_toArray, List.set_cons_zero, List.set_cons_succ] <;> rfl) ⟨hG, (fun h => f0.out h), (fun h => f1.out h), (fun _ => rfl), (fun h => f3.out h), (fun h => f4.out h), (fun h => f5.out h), (fun h => f6.out h), (fun h => f7.out h), (fun h => f8.out h), (fun h => f9.out h), (fun h => f10.out h), (fun h => f11.out h), (fun h => f12.out h), (fun h => f13.out h), (fun h => f14.out h), (fun h => f15.out h), (fun h => f16.out h), (fun h => f17.out h), (fun h => f18.out h), (fun h => f19.out h), (fun h => f20.out h)⟩
        · intro L vs W hlen hL hD hI K hK
          obtain ⟨x0, x1, x2, x3, x4, x5, x6, x7, x8, x9, x10, x11, x12, x13, x14, x15, x16, x17, x18, x19, x20, rfl⟩ := len21 hlen
          have hG := hI.1
          replace hI := hI.2
          have f0 := hide hI.1
          replace hI := hI.2
          have f1 := hide hI.1
          replace hI := hI.2
          have f2 := hide hI.1
          replace hI := hI.2
          have f3 := hide hI.1
          replace hI := hI.2
          have f4 := hide hI.1
          replace hI := hI.2
          have f5 := hide hI.1
          replace hI := hI.2
          have f6 := hide hI.1
          replace hI := hI.2
          have f7 := hide hI.1
          replace hI := hI.2
          have f8 := hide hI.1
          replace hI := hI.2
          have f9 := hide hI.1
          replace hI := hI.2
          have f10 := hide hI.1
          replace hI := hI.2
          have f11 := hide hI.1
          replace hI := hI.2
          have f12 := hide hI.1
          replace hI := hI.2
          have f13 := hide hI.1
          replace hI := hI.2
          have f14 := hide hI.1
          replace hI := hI.2
          have f15 := hide hI.1
          replace hI := hI.2
          have f16 := hide hI.1
          replace hI := hI.2
          have f17 := hide hI.1
          replace hI := hI.2
          have f18 := hide hI.1
          replace hI := hI.2
          have f19 := hide hI.1
          replace hI := hI.2
          have f20 := hide hI
          clear hI
          have r00 := hG.1.size
          have hLow := keeps_low_effY hG.1 (Nat.le_refl _) (Nat.le_refl _) hbV
          obtain rfl := f2.out (hD.on 2 (by kernel_rfl))
          try simp only [puts, Act.put, List.setIfInBounds_toArray, List.set_cons_zero, List.set_cons_succ]
          go_simp
          generalize hW' : World.alloc W _ = W'
          have hb : Below W.heap.size W W' := by rw [← hW']; exact bal W _
          exact hK.out _ _ _ (by simp only [puts, Act.put, List.setIfInBounds_toArray, List.set_cons_zero, List.set_cons_succ] <;> rfl) ⟨⟨hG.1.then hb, fun h => (hG.2.1 h).later hb, fun h => (hG.2.2 h).later' hb⟩, (fun h => f0.out h), (fun h => f1.out h), (fun h => f2.out h), (fun _ => ⟨W.heap.size, rfl, one_inY (by rw [← hW']; exact Blk.newA W _ rfl) (by omega)⟩), (fun h => f4.out h), (fun h => f5.out h), (fun h => f6.out h), (fun h => f7.out h), (fun h => f8.out h), (fun h => f9.out h), (fun h => f10.out h), (fun h => f11.out h), (fun h => f12.out h), (fun h => f13.out h), (fun h => f14.out h), (fun h => f15.out h), (fun h => (fun h => absurd (h.1.symm.trans hL) (by decide)) (f16.out h)), (fun h => (fun h => absurd (h.1.symm.trans hL) (by decide)) (f17.out h)), (fun h => (fun h => absurd (h.1.symm.trans hL) (by decide)) (f18.out h)), (fun h => f19.out h), (fun h => (fun h => ⟨h.1, let ⟨g1, c1, e, hk⟩ := h.2; ⟨g1, c1, e, hk.later hb⟩⟩) (f20.out h))⟩
        · intro L vs W hlen hL hD hI K hK
          obtain ⟨x0, x1, x2, x3, x4, x5, x6, x7, x8, x9, x10, x11, x12, x13, x14, x15, x16, x17, x18, x19, x20, rfl⟩ := len21 hlen
          have hG := hI.1
          replace hI := hI.2
          have f0 := hide hI.1
          replace hI := hI.2
          have f1 := hide hI.1
          replace hI := hI.2
          have f2 := hide hI.1
          replace hI := hI.2
          have f3 := hide hI.1
          replace hI := hI.2
          have f4 := hide hI.1
          replace hI := hI.2
          have f5 := hide hI.1
          replace hI := hI.2
          have f6 := hide hI.1
          replace hI := hI.2
          have f7 := hide hI.1
          replace hI := hI.2
          have f8 := hide hI.1
          replace hI := hI.2
          have f9 := hide hI.1
          replace hI := hI.2
          have f10 := hide hI.1
          replace hI := hI.2
          have f11 := hide hI.1
          replace hI := hI.2
          have f12 := hide hI.1
          replace hI := hI.2
          have f13 := hide hI.1
          replace hI := hI.2
          have f14 := hide hI.1
          replace hI := hI.2
          have f15 := hide hI.1
          replace hI := hI.2
          have f16 := hide hI.1
          replace hI := hI.2
          have f17 := hide hI.1
          replace hI := hI.2
          have f18 := hide hI.1
          replace hI := hI.2
          have f19 := hide hI.1
          replace hI := hI.2
          have f20 := hide hI
          clear hI
          have r00 := hG.1.size
          have hLow := keeps_low_effY hG.1 (Nat.le_refl _) (Nat.le_refl _) hbV
          try simp only [puts, Act.put, List.setIfInBounds_toArray, List.set_cons_zero, List.set_cons_succ]
          try go_simp
          exact hK.out _ _ _ (by simp only [puts, Act.put, List.setIfInBounds_toArray, List.set_cons_zero, List.set_cons_succ] <;> rfl) ⟨hG, (fun h => f0.out h), (fun h => f1.out h), (fun h => f2.out h), (fun h => f3.out h), (fun _ => rfl), (fun h => f5.out h), (fun h => f6.out h), (fun h => f7.out h), (fun h => f8.out h), (fun h => f9.out h), (fun h => f10.out h), (fun h => f11.out h), (fun h => f12.out h), (fun h => f13.out h), (fun h => f14.out h), (fun h => f15.out h), (fun h => f16.out h), (fun h => f17.out h), (fun h => f18.out h), (fun h => f19.out h), (fun h => f20.out h)⟩
        · intro L vs W hlen hL hD hI K hK
          obtain ⟨x0, x1, x2, x3, x4, x5, x6, x7, x8, x9, x10, x11, x12, x13, x14, x15, x16, x17, x18, x19, x20, rfl⟩ := len21 hlen
          have hG := hI.1
          replace hI := hI.2
          have f0 := hide hI.1
          replace hI := hI.2
          have f1 := hide hI.1
          replace hI := hI.2
          have f2 := hide hI.1
          replace hI := hI.2
          have f3 := hide hI.1
          replace hI := hI.2
          have f4 := hide hI.1
          replace hI := hI.2
          have f5 := hide hI.1
          replace hI := hI.2
          have f6 := hide hI.1
          replace hI := hI.2
          have f7 := hide hI.1
          replace hI := hI.2
          have f8 := hide hI.1
          replace hI := hI.2
          have f9 := hide hI.1
          replace hI := hI.2
          have f10 := hide hI.1
          replace hI := hI.2
          have f11 := hide hI.1
          replace hI := hI.2
          have f12 := hide hI.1
          replace hI := hI.2
          have f13 := hide hI.1
          replace hI := hI.2
          have f14 := hide hI.1
          replace hI := hI.2
          have f15 := hide hI.1
          replace hI := hI.2
          have f16 := hide hI.1
          replace hI := hI.2
          have f17 := hide hI.1
          replace hI := hI.2
          have f18 := hide hI.1
          replace hI := hI.2
          have f19 := hide hI.1
          replace hI := hI.2
          have f20 := hide hI
          clear hI
          have r00 := hG.1.size
          have hLow := keeps_low_effY hG.1 (Nat.le_refl _) (Nat.le_refl _) hbV
          obtain rfl := f4.out (hD.on 4 (by kernel_rfl))
          try simp only [puts, Act.put, List.setIfInBounds_toArray, List.set_cons_zero, List.set_cons_succ]
          have hst : L 20 = false := Bool.eq_false_iff.2 (fun h => absurd ((f20.out h).1.2.1.symm.trans hL) (by decide))
          have r0 := (hG.2.1 hst).cell 0 rfl
          go_simp
          exact hK.out _ _ _ (by simp only [puts, Act.put, List.setIfInBounds_toArray, List.set_cons_zero, List.set_cons_succ] <;> rfl) ⟨hG, (fun h => f0.out h), (fun h => f1.out h), (fun h => f2.out h), (fun h => f3.out h), (fun h => f4.out h), (fun _ => rfl), (fun h => f6.out h), (fun h => f7.out h), (fun h => f8.out h), (fun h => f9.out h), (fun h => f10.out h), (fun h => f11.out h), (fun h => f12.out h), (fun h => f13.out h), (fun h => f14.out h), (fun h => f15.out h), (fun h => f16.out h), (fun h => f17.out h), (fun h => f18.out h), (fun h => f19.out h), (fun h => (fun h => ⟨⟨h.1.1, rfl, h.1.2.2⟩, h.2⟩) (f20.out h))⟩
        · intro L vs W hlen hL hD hI K hK
          obtain ⟨x0, x1, x2, x3, x4, x5, x6, x7, x8, x9, x10, x11, x12, x13, x14, x15, x16, x17, x18, x19, x20, rfl⟩ := len21 hlen
          have hG := hI.1
          replace hI := hI.2
          have f0 := hide hI.1
          replace hI := hI.2
          have f1 := hide hI.1
          replace hI := hI.2
          have f2 := hide hI.1
          replace hI := hI.2
          have f3 := hide hI.1
          replace hI := hI.2
          have f4 := hide hI.1
          replace hI := hI.2
          have f5 := hide hI.1
          replace hI := hI.2
          have f6 := hide hI.1
          replace hI := hI.2
          have f7 := hide hI.1
          replace hI := hI.2
          have f8 := hide hI.1
          replace hI := hI.2
          have f9 := hide hI.1
          replace hI := hI.2
          have f10 := hide hI.1
          replace hI := hI.2
          have f11 := hide hI.1
          replace hI := hI.2
          have f12 := hide hI.1
          replace hI := hI.2
          have f13 := hide hI.1
          replace hI := hI.2
          have f14 := hide hI.1
          replace hI := hI.2
          have f15 := hide hI.1
          replace hI := hI.2
          have f16 := hide hI.1
          replace hI := hI.2
          have f17 := hide hI.1
          replace hI := hI.2
          have f18 := hide hI.1
          replace hI := hI.2
          have f19 := hide hI.1
          replace hI := hI.2
          have f20 := hide hI
          clear hI
          have r00 := hG.1.size
          have hLow := keeps_low_effY hG.1 (Nat.le_refl _) (Nat.le_refl _) hbV
          try simp only [puts, Act.put, List.setIfInBounds_toArray, List.set_cons_zero, List.set_cons_succ]
          try go_simp
          exact hK.out _ _ _ (by simp only [puts, Act.put, List.setIfInBounds_toArray, List.set_cons_zero, List.set_cons_succ] <;> rfl) ⟨hG, (fun h => f0.out h), (fun h => f1.out h), (fun h => f2.out h), (fun h => f3.out h), (fun h => f4.out h), (fun h => f5.out h), (fun _ => rfl), (fun h => f7.out h), (fun h => f8.out h), (fun h => f9.out h), (fun h => f10.out h), (fun h => f11.out h), (fun h => f12.out h), (fun h => f13.out h), (fun h => f14.out h), (fun h => f15.out h), (fun h => f16.out h), (fun h => f17.out h), (fun h => f18.out h), (fun h => f19.out h), (fun h => f20.out h)⟩
        · intro L vs W hlen hL hD hI K hK
          obtain ⟨x0, x1, x2, x3, x4, x5, x6, x7, x8, x9, x10, x11, x12, x13, x14, x15, x16, x17, x18, x19, x20, rfl⟩ := len21 hlen
          have hG := hI.1
          replace hI := hI.2
          have f0 := hide hI.1
          replace hI := hI.2
          have f1 := hide hI.1
          replace hI := hI.2
          have f2 := hide hI.1
          replace hI := hI.2
          have f3 := hide hI.1
          replace hI := hI.2
          have f4 := hide hI.1
          replace hI := hI.2
          have f5 := hide hI.1
          replace hI := hI.2
          have f6 := hide hI.1
          replace hI := hI.2
          have f7 := hide hI.1
          replace hI := hI.2
          have f8 := hide hI.1
          replace hI := hI.2
          have f9 := hide hI.1
          replace hI := hI.2
          have f10 := hide hI.1
          replace hI := hI.2
          have f11 := hide hI.1
          replace hI := hI.2
          have f12 := hide hI.1
          replace hI := hI.2
          have f13 := hide hI.1
          replace hI := hI.2
          have f14 := hide hI.1
          replace hI := hI.2
          have f15 := hide hI.1
          replace hI := hI.2
          have f16 := hide hI.1
          replace hI := hI.2
          have f17 := hide hI.1
          replace hI := hI.2
          have f18 := hide hI.1
          replace hI := hI.2
          have f19 := hide hI.1
          replace hI := hI.2
          have f20 := hide hI
          clear hI
          have r00 := hG.1.size
          have hLow := keeps_low_effY hG.1 (Nat.le_refl _) (Nat.le_refl _) hbV
          obtain rfl := f6.out (hD.on 6 (by kernel_rfl))
          try simp only [puts, Act.put, List.setIfInBounds_toArray, List.set_cons_zero, List.set_cons_succ]
          have r0 := keep hLow bc2
          go_simp
          exact hK.out _ _ _ (by simp only [puts, Act.put, List.setIfInBounds_toArray, List.set_cons_zero, List.set_cons_succ] <;> rfl) ⟨hG, (fun h => f0.out h), (fun h => f1.out h), (fun h => f2.out h), (fun h => f3.out h), (fun h => f4.out h), (fun h => f5.out h), (fun h => f6.out h), (fun _ => rfl), (fun h => f8.out h), (fun h => f9.out h), (fun h => f10.out h), (fun h => f11.out h), (fun h => f12.out h), (fun h => f13.out h), (fun h => f14.out h), (fun h => f15.out h), (fun h => f16.out h), (fun h => f17.out h), (fun h => f18.out h), (fun h => f19.out h), (fun h => f20.out h)⟩
        · intro L vs W hlen hL hD hI K hK
          obtain ⟨x0, x1, x2, x3, x4, x5, x6, x7, x8, x9, x10, x11, x12, x13, x14, x15, x16, x17, x18, x19, x20, rfl⟩ := len21 hlen
          have hG := hI.1
          replace hI := hI.2
          have f0 := hide hI.1
          replace hI := hI.2
          have f1 := hide hI.1
          replace hI := hI.2
          have f2 := hide hI.1
          replace hI := hI.2
          have f3 := hide hI.1
          replace hI := hI.2
          have f4 := hide hI.1
          replace hI := hI.2
          have f5 := hide hI.1
          replace hI := hI.2
          have f6 := hide hI.1
          replace hI := hI.2
          have f7 := hide hI.1
          replace hI := hI.2
          have f8 := hide hI.1
          replace hI := hI.2
          have f9 := hide hI.1
          replace hI := hI.2
          have f10 := hide hI.1
          replace hI := hI.2
          have f11 := hide hI.1
          replace hI := hI.2
          have f12 := hide hI.1
          replace hI := hI.2
          have f13 := hide hI.1
          replace hI := hI.2
          have f14 := hide hI.1
          replace hI := hI.2
          have f15 := hide hI.1
          replace hI := hI.2
          have f16 := hide hI.1
          replace hI := hI.2
          have f17 := hide hI.1
          replace hI := hI.2
          have f18 := hide hI.1
          replace hI := hI.2
          have f19 := hide hI.1
          replace hI := hI.2
          have f20 := hide hI
          clear hI
          have r00 := hG.1.size
          have hLow := keeps_low_effY hG.1 (Nat.le_refl _) (Nat.le_refl _) hbV
          try simp only [puts, Act.put, List.setIfInBounds_toArray, List.set_cons_zero, List.set_cons_succ]
          try go_simp
          exact hK.out _ _ _ (by simp only [puts, Act.put, List.setIfInBounds_toArray, List.set_cons_zero, List.set_cons_succ] <;> rfl) ⟨hG, (fun h => f0.out h), (fun h => f1.out h), (fun h => f2.out h), (fun h => f3.out h), (fun h => f4.out h), (fun h => f5.out h), (fun h => f6.out h), (fun h => f7.out h), (fun _ => rfl), (fun h => f9.out h), (fun h => f10.out h), (fun h => f11.out h), (fun h => f12.out h), (fun h => f13.out h), (fun h => f14.out h), (fun h => f15.out h), (fun h => f16.out h), (fun h => f17.out h), (fun h => f18.out h), (fun h => f19.out h), (fun h => f20.out h)⟩
        · intro L vs W hlen hL hD hI K hK
          obtain ⟨x0, x1, x2, x3, x4, x5, x6, x7, x8, x9, x10, x11, x12, x13, x14, x15, x16, x17, x18, x19, x20, rfl⟩ := len21 hlen
          have hG := hI.1
          replace hI := hI.2
          have f0 := hide hI.1
          replace hI := hI.2
          have f1 := hide hI.1
          replace hI := hI.2
          have f2 := hide hI.1
          replace hI := hI.2
          have f3 := hide hI.1
          replace hI := hI.2
          have f4 := hide hI.1
          replace hI := hI.2
          have f5 := hide hI.1
          replace hI := hI.2
          have f6 := hide hI.1
          replace hI := hI.2
          have f7 := hide hI.1
          replace hI := hI.2
          have f8 := hide hI.1
          replace hI := hI.2
          have f9 := hide hI.1
          replace hI := hI.2
          have f10 := hide hI.1
          replace hI := hI.2
          have f11 := hide hI.1
          replace hI := hI.2
          have f12 := hide hI.1
          replace hI := hI.2
          have f13 := hide hI.1
          replace hI := hI.2
          have f14 := hide hI.1
          replace hI := hI.2
          have f15 := hide hI.1
          replace hI := hI.2
          have f16 := hide hI.1
          replace hI := hI.2
          have f17 := hide hI.1
          replace hI := hI.2
          have f18 := hide hI.1
          replace hI := hI.2
          have f19 := hide hI.1
          replace hI := hI.2
          have f20 := hide hI
          clear hI
          have r00 := hG.1.size
          have hLow := keeps_low_effY hG.1 (Nat.le_refl _) (Nat.le_refl _) hbV
          try simp only [puts, Act.put, List.setIfInBounds_toArray, List.set_cons_zero, List.set_cons_succ]
          try go_simp
          exact hK.out _ _ _ (by simp only [puts, Act.put, List.setIfInBounds_toArray, List.set_cons_zero, List.set_cons_succ] <;> rfl) ⟨hG, (fun h => f0.out h), (fun h => f1.out h), (fun h => f2.out h), (fun h => f3.out h), (fun h => f4.out h), (fun h => f5.out h), (fun h => f6.out h), (fun h => f7.out h), (fun h => f8.out h), (fun _ => rfl), (fun h => f10.out h), (fun h => f11.out h), (fun h => f12.out h), (fun h => f13.out h), (fun h => f14.out h), (fun h => f15.out h), (fun h => f16.out h), (fun h => f17.out h), (fun h => f18.out h), (fun h => f19.out h), (fun h => f20.out h)⟩
        · intro L vs W hlen hL hD hI K hK
          obtain ⟨x0, x1, x2, x3, x4, x5, x6, x7, x8, x9, x10, x11, x12, x13, x14, x15, x16, x17, x18, x19, x20, rfl⟩ := len21 hlen
          have hG := hI.1
          replace hI := hI.2
          have f0 := hide hI.1
          replace hI := hI.2
          have f1 := hide hI.1
          replace hI := hI.2
          have f2 := hide hI.1
          replace hI := hI.2
          have f3 := hide hI.1
          replace hI := hI.2
          have f4 := hide hI.1
          replace hI := hI.2
          have f5 := hide hI.1
          replace hI := hI.2
          have f6 := hide hI.1
          replace hI := hI.2
          have f7 := hide hI.1
          replace hI := hI.2
          have f8 := hide hI.1
          replace hI := hI.2
          have f9 := hide hI.1
          replace hI := hI.2
          have f10 := hide hI.1
          replace hI := hI.2
          have f11 := hide hI.1
          replace hI := hI.2
          have f12 := hide hI.1
          replace hI := hI.2
          have f13 := hide hI.1
          replace hI := hI.2
          have f14 := hide hI.1
          replace hI := hI.2
          have f15 := hide hI.1
          replace hI := hI.2
          have f16 := hide hI.1
          replace hI := hI.2
          have f17 := hide hI.1
          replace hI := hI.2
          have f18 := hide hI.1
          replace hI := hI.2
          have f19 := hide hI.1
          replace hI := hI.2
          have f20 := hide hI
          clear hI
          have r00 := hG.1.size
          have hLow := keeps_low_effY hG.1 (Nat.le_refl _) (Nat.le_refl _) hbV
          obtain rfl := f8.out (hD.on 8 (by kernel_rfl))
          obtain rfl := f9.out (hD.on 9 (by kernel_rfl))
          try simp only [puts, Act.put, List.setIfInBounds_toArray, List.set_cons_zero, List.set_cons_succ]
          try go_simp
          exact hK.out _ _ _ (by simp only [puts, Act.put, List.setIfInBounds_toArray, List.set_cons_zero, List.set_cons_succ] <;> rfl) ⟨hG, (fun h => f0.out h), (fun h => f1.out h), (fun h => f2.out h), (fun h => f3.out h), (fun h => f4.out h), (fun h => f5.out h), (fun h => f6.out h), (fun h => f7.out h), (fun h => f8.out h), (fun h => f9.out h), (fun _ => rfl), (fun h => f11.out h), (fun h => f12.out h), (fun h => f13.out h), (fun h => f14.out h), (fun h => f15.out h), (fun h => f16.out h), (fun h => f17.out h), (fun h => f18.out h), (fun h => f19.out h), (fun h => f20.out h)⟩
        · intro L vs W hlen hL hD hI K hK
          obtain ⟨x0, x1, x2, x3, x4, x5, x6, x7, x8, x9, x10, x11, x12, x13, x14, x15, x16, x17, x18, x19, x20, rfl⟩ := len21 hlen
          have hG := hI.1
          replace hI := hI.2
          have f0 := hide hI.1
          replace hI := hI.2
          have f1 := hide hI.1
          replace hI := hI.2
          have f2 := hide hI.1
          replace hI := hI.2
          have f3 := hide hI.1
          replace hI := hI.2
          have f4 := hide hI.1
          replace hI := hI.2
          have f5 := hide hI.1
          replace hI := hI.2
          have f6 := hide hI.1
          replace hI := hI.2
          have f7 := hide hI.1
          replace hI := hI.2
          have f8 := hide hI.1
          replace hI := hI.2
          have f9 := hide hI.1
          replace hI := hI.2
          have f10 := hide hI.1
          replace hI := hI.2
          have f11 := hide hI.1
          replace hI := hI.2
          have f12 := hide hI.1
          replace hI := hI.2
          have f13 := hide hI.1
          replace hI := hI.2
          have f14 := hide hI.1
          replace hI := hI.2
          have f15 := hide hI.1
          replace hI := hI.2
          have f16 := hide hI.1
          replace hI := hI.2
          have f17 := hide hI.1
          replace hI := hI.2
          have f18 := hide hI.1
          replace hI := hI.2
          have f19 := hide hI.1
          replace hI := hI.2
          have f20 := hide hI
          clear hI
          have r00 := hG.1.size
          have hLow := keeps_low_effY hG.1 (Nat.le_refl _) (Nat.le_refl _) hbV
          obtain rfl := f10.out (hD.on 10 (by kernel_rfl))
          try simp only [puts, Act.put, List.setIfInBounds_toArray, List.set_cons_zero, List.set_cons_succ]
          have r0 := keep hLow hu
          go_simp
          exact hK.out _ _ _ (by simp only [puts, Act.put, List.setIfInBounds_toArray, List.set_cons_zero, List.set_cons_succ] <;> rfl) ⟨hG, (fun h => f0.out h), (fun h => f1.out h), (fun h => f2.out h), (fun h => f3.out h), (fun h => f4.out h), (fun h => f5.out h), (fun h => f6.out h), (fun h => f7.out h), (fun h => f8.out h), (fun h => f9.out h), (fun h => f10.out h), (fun _ => rfl), (fun h => f12.out h), (fun h => f13.out h), (fun h => f14.out h), (fun h => f15.out h), (fun h => f16.out h), (fun h => f17.out h), (fun h => f18.out h), (fun h => f19.out h), (fun h => f20.out h)⟩
        · intro L vs W hlen hL hD hI K hK
          obtain ⟨x0, x1, x2, x3, x4, x5, x6, x7, x8, x9, x10, x11, x12, x13, x14, x15, x16, x17, x18, x19, x20, rfl⟩ := len21 hlen
          have hG := hI.1
          replace hI := hI.2
          have f0 := hide hI.1
          replace hI := hI.2
          have f1 := hide hI.1
          replace hI := hI.2
          have f2 := hide hI.1
          replace hI := hI.2
          have f3 := hide hI.1
          replace hI := hI.2
          have f4 := hide hI.1
          replace hI := hI.2
          have f5 := hide hI.1
          replace hI := hI.2
          have f6 := hide hI.1
          replace hI := hI.2
          have f7 := hide hI.1
          replace hI := hI.2
          have f8 := hide hI.1
          replace hI := hI.2
          have f9 := hide hI.1
          replace hI := hI.2
          have f10 := hide hI.1
          replace hI := hI.2
          have f11 := hide hI.1
          replace hI := hI.2
          have f12 := hide hI.1
          replace hI := hI.2
          have f13 := hide hI.1
          replace hI := hI.2
          have f14 := hide hI.1
          replace hI := hI.2
          have f15 := hide hI.1
          replace hI := hI.2
          have f16 := hide hI.1
          replace hI := hI.2
          have f17 := hide hI.1
          replace hI := hI.2
          have f18 := hide hI.1
          replace hI := hI.2
          have f19 := hide hI.1
          replace hI := hI.2
          have f20 := hide hI
          clear hI
          have r00 := hG.1.size
          have hLow := keeps_low_effY hG.1 (Nat.le_refl _) (Nat.le_refl _) hbV
          obtain rfl := f7.out (hD.on 7 (by kernel_rfl))
          obtain rfl := f11.out (hD.on 11 (by kernel_rfl))
          try simp only [puts, Act.put, List.setIfInBounds_toArray, List.set_cons_zero, List.set_cons_succ]
          try go_simp
          exact hK.out _ _ _ (by simp only [puts, Act.put, List.setIfInBounds_toArray, List.set_cons_zero, List.set_cons_succ] <;> rfl) ⟨hG, (fun h => f0.out h), (fun h => f1.out h), (fun h => f2.out h), (fun h => f3.out h), (fun h => f4.out h), (fun h => f5.out h), (fun h => f6.out h), (fun h => f7.out h), (fun h => f8.out h), (fun h => f9.out h), (fun h => f10.out h), (fun h => f11.out h), (fun _ => rfl), (fun h => f13.out h), (fun h => f14.out h), (fun h => f15.out h), (fun h => f16.out h), (fun h => f17.out h), (fun h => f18.out h), (fun h => f19.out h), (fun h => f20.out h)⟩
        · intro L vs W hlen hL hD hI K hK
          obtain ⟨x0, x1, x2, x3, x4, x5, x6, x7, x8, x9, x10, x11, x12, x13, x14, x15, x16, x17, x18, x19, x20, rfl⟩ := len21 hlen
          have hG := hI.1
          replace hI := hI.2
          have f0 := hide hI.1
          replace hI := hI.2
          have f1 := hide hI.1
          replace hI := hI.2
          have f2 := hide hI.1
          replace hI := hI.2
          have f3 := hide hI.1
          replace hI := hI.2
          have f4 := hide hI.1
          replace hI := hI.2
          have f5 := hide hI.1
          replace hI := hI.2
          have f6 := hide hI.1
          replace hI := hI.2
          have f7 := hide hI.1
          replace hI := hI.2
          have f8 := hide hI.1
          replace hI := hI.2
          have f9 := hide hI.1
          replace hI := hI.2
          have f10 := hide hI.1
          replace hI := hI.2
          have f11 := hide hI.1
          replace hI := hI.2
          have f12 := hide hI.1
          replace hI := hI.2
          have f13 := hide hI.1
          replace hI := hI.2
          have f14 := hide hI.1
          replace hI := hI.2
          have f15 := hide hI.1
          replace hI := hI.2
          have f16 := hide hI.1
          replace hI := hI.2
          have f17 := hide hI.1
          replace hI := hI.2
          have f18 := hide hI.1
          replace hI := hI.2
          have f19 := hide hI.1
          replace hI := hI.2
          have f20 := hide hI
          clear hI
          have r00 := hG.1.size
          have hLow := keeps_low_effY hG.1 (Nat.le_refl _) (Nat.le_refl _) hbV
          obtain rfl := f12.out (hD.on 12 (by kernel_rfl))
          try simp only [puts, Act.put, List.setIfInBounds_toArray, List.set_cons_zero, List.set_cons_succ]
          try go_simp
          exact hK.out _ _ _ (by simp only [puts, Act.put, List.setIfInBounds_toArray, List.set_cons_zero, List.set_cons_succ] <;> rfl) ⟨hG, (fun h => f0.out h), (fun h => f1.out h), (fun h => f2.out h), (fun h => f3.out h), (fun h => f4.out h), (fun h => f5.out h), (fun h => f6.out h), (fun h => f7.out h), (fun h => f8.out h), (fun h => f9.out h), (fun h => f10.out h), (fun h => f11.out h), (fun h => f12.out h), (fun _ => rfl), (fun h => f14.out h), (fun h => f15.out h), (fun h => f16.out h), (fun h => f17.out h), (fun h => f18.out h), (fun h => f19.out h), (fun h => f20.out h)⟩
        · intro L vs W hlen hL hD hI K hK
          obtain ⟨x0, x1, x2, x3, x4, x5, x6, x7, x8, x9, x10, x11, x12, x13, x14, x15, x16, x17, x18, x19, x20, rfl⟩ := len21 hlen
          have hG := hI.1
          replace hI := hI.2
          have f0 := hide hI.1
          replace hI := hI.2
          have f1 := hide hI.1
          replace hI := hI.2
          have f2 := hide hI.1
          replace hI := hI.2
          have f3 := hide hI.1
          replace hI := hI.2
          have f4 := hide hI.1
          replace hI := hI.2
          have f5 := hide hI.1
          replace hI := hI.2
          have f6 := hide hI.1
          replace hI := hI.2
          have f7 := hide hI.1
          replace hI := hI.2
          have f8 := hide hI.1
          replace hI := hI.2
          have f9 := hide hI.1
          replace hI := hI.2
          have f10 := hide hI.1
          replace hI := hI.2
          have f11 := hide hI.1
          replace hI := hI.2
          have f12 := hide hI.1
          replace hI := hI.2
          have f13 := hide hI.1
          replace hI := hI.2
          have f14 := hide hI.1
          replace hI := hI.2
          have f15 := hide hI.1
          replace hI := hI.2
          have f16 := hide hI.1
          replace hI := hI.2
          have f17 := hide hI.1
          replace hI := hI.2
          have f18 := hide hI.1
          replace hI := hI.2
          have f19 := hide hI.1
          replace hI := hI.2
          have f20 := hide hI
          clear hI
          have r00 := hG.1.size
          have hLow := keeps_low_effY hG.1 (Nat.le_refl _) (Nat.le_refl _) hbV
          obtain rfl := f13.out (hD.on 13 (by kernel_rfl))
          try simp only [puts, Act.put, List.setIfInBounds_toArray, List.set_cons_zero, List.set_cons_succ]
          have r0 := keep hLow y1
          go_simp
          exact hK.out _ _ _ (by simp only [puts, Act.put, List.setIfInBounds_toArray, List.set_cons_zero, List.set_cons_succ] <;> rfl) ⟨hG, (fun h => f0.out h), (fun h => f1.out h), (fun h => f2.out h), (fun h => f3.out h), (fun h => f4.out h), (fun h => f5.out h), (fun h => f6.out h), (fun h => f7.out h), (fun h => f8.out h), (fun h => f9.out h), (fun h => f10.out h), (fun h => f11.out h), (fun h => f12.out h), (fun h => f13.out h), (fun _ => rfl), (fun h => f15.out h), (fun h => f16.out h), (fun h => f17.out h), (fun h => f18.out h), (fun h => f19.out h), (fun h => f20.out h)⟩
        · intro L vs W hlen hL hD hI K hK
          obtain ⟨x0, x1, x2, x3, x4, x5, x6, x7, x8, x9, x10, x11, x12, x13, x14, x15, x16, x17, x18, x19, x20, rfl⟩ := len21 hlen
          have hG := hI.1
          replace hI := hI.2
          have f0 := hide hI.1
          replace hI := hI.2
          have f1 := hide hI.1
          replace hI := hI.2
          have f2 := hide hI.1
          replace hI := hI.2
          have f3 := hide hI.1
          replace hI := hI.2
          have f4 := hide hI.1
          replace hI := hI.2
          have f5 := hide hI.1
          replace hI := hI.2
          have f6 := hide hI.1
          replace hI := hI.2
          have f7 := hide hI.1
          replace hI := hI.2
          have f8 := hide hI.1
          replace hI := hI.2
          have f9 := hide hI.1
          replace hI := hI.2
          have f10 := hide hI.1
          replace hI := hI.2
          have f11 := hide hI.1
          replace hI := hI.2
          have f12 := hide hI.1
          replace hI := hI.2
          have f13 := hide hI.1
          replace hI := hI.2
          have f14 := hide hI.1
          replace hI := hI.2
          have f15 := hide hI.1
          replace hI := hI.2
          have f16 := hide hI.1
          replace hI := hI.2
          have f17 := hide hI.1
          replace hI := hI.2
          have f18 := hide hI.1
          replace hI := hI.2
          have f19 := hide hI.1
          replace hI := hI.2
          have f20 := hide hI
          clear hI
          have r00 := hG.1.size
          have hLow := keeps_low_effY hG.1 (Nat.le_refl _) (Nat.le_refl _) hbV
          obtain rfl := f5.out (hD.on 5 (by kernel_rfl))
          obtain rfl := f14.out (hD.on 14 (by kernel_rfl))
          try simp only [puts, Act.put, List.setIfInBounds_toArray, List.set_cons_zero, List.set_cons_succ]
          try go_simp
          exact hK.out _ _ _ (by simp only [puts, Act.put, List.setIfInBounds_toArray, List.set_cons_zero, List.set_cons_succ] <;> rfl) ⟨hG, (fun h => f0.out h), (fun h => f1.out h), (fun h => f2.out h), (fun h => f3.out h), (fun h => f4.out h), (fun h => f5.out h), (fun h => f6.out h), (fun h => f7.out h), (fun h => f8.out h), (fun h => f9.out h), (fun h => f10.out h), (fun h => f11.out h), (fun h => f12.out h), (fun h => f13.out h), (fun h => f14.out h), (fun _ => rfl), (fun h => f16.out h), (fun h => f17.out h), (fun h => f18.out h), (fun h => f19.out h), (fun h => f20.out h)⟩
        · intro L vs W hlen hL hD hI K hK
          obtain ⟨x0, x1, x2, x3, x4, x5, x6, x7, x8, x9, x10, x11, x12, x13, x14, x15, x16, x17, x18, x19, x20, rfl⟩ := len21 hlen
          have hG := hI.1
          replace hI := hI.2
          have f0 := hide hI.1
          replace hI := hI.2
          have f1 := hide hI.1
          replace hI := hI.2
          have f2 := hide hI.1
          replace hI := hI.2
          have f3 := hide hI.1
          replace hI := hI.2
          have f4 := hide hI.1
          replace hI := hI.2
          have f5 := hide hI.1
          replace hI := hI.2
          have f6 := hide hI.1
          replace hI := hI.2
          have f7 := hide hI.1
          replace hI := hI.2
          have f8 := hide hI.1
          replace hI := hI.2
          have f9 := hide hI.1
          replace hI := hI.2
          have f10 := hide hI.1
          replace hI := hI.2
          have f11 := hide hI.1
          replace hI := hI.2
          have f12 := hide hI.1
          replace hI := hI.2
          have f13 := hide hI.1
          replace hI := hI.2
          have f14 := hide hI.1
          replace hI := hI.2
          have f15 := hide hI.1
          replace hI := hI.2
          have f16 := hide hI.1
          replace hI := hI.2
          have f17 := hide hI.1
          replace hI := hI.2
          have f18 := hide hI.1
          replace hI := hI.2
          have f19 := hide hI.1
          replace hI := hI.2
          have f20 := hide hI
          clear hI
          have r00 := hG.1.size
          have hLow := keeps_low_effY hG.1 (Nat.le_refl _) (Nat.le_refl _) hbV
          have g3 := f3.out (hD.on 3 (by kernel_rfl))
          obtain rfl := f15.out (hD.on 15 (by kernel_rfl))
          try simp only [puts, Act.put, List.setIfInBounds_toArray, List.set_cons_zero, List.set_cons_succ]
          obtain ⟨b3, rfl, -⟩ := g3
          go_simp
          exact hK.out _ _ _ (by simp only [puts, Act.put, List.setIfInBounds_toArray, List.set_cons_zero, List.set_cons_succ] <;> rfl) ⟨hG, (fun h => f0.out h), (fun h => f1.out h), (fun h => f2.out h), (fun h => f3.out h), (fun h => f4.out h), (fun h => f5.out h), (fun h => f6.out h), (fun h => f7.out h), (fun h => f8.out h), (fun h => f9.out h), (fun h => f10.out h), (fun h => f11.out h), (fun h => f12.out h), (fun h => f13.out h), (fun h => f14.out h), (fun h => f15.out h), (fun _ => ⟨hD.on 3 (by kernel_rfl), rfl⟩), (fun h => f17.out h), (fun h => f18.out h), (fun h => f19.out h), (fun h => f20.out h)⟩
        · intro L vs W hlen hL hD hI K hK
          obtain ⟨x0, x1, x2, x3, x4, x5, x6, x7, x8, x9, x10, x11, x12, x13, x14, x15, x16, x17, x18, x19, x20, rfl⟩ := len21 hlen
          have hG := hI.1
          replace hI := hI.2
          have f0 := hide hI.1
          replace hI := hI.2
          have f1 := hide hI.1
          replace hI := hI.2
          have f2 := hide hI.1
          replace hI := hI.2
          have f3 := hide hI.1
          replace hI := hI.2
          have f4 := hide hI.1
          replace hI := hI.2
          have f5 := hide hI.1
          replace hI := hI.2
          have f6 := hide hI.1
          replace hI := hI.2
          have f7 := hide hI.1
          replace hI := hI.2
          have f8 := hide hI.1
          replace hI := hI.2
          have f9 := hide hI.1
          replace hI := hI.2
          have f10 := hide hI.1
          replace hI := hI.2
          have f11 := hide hI.1
          replace hI := hI.2
          have f12 := hide hI.1
          replace hI := hI.2
          have f13 := hide hI.1
          replace hI := hI.2
          have f14 := hide hI.1
          replace hI := hI.2
          have f15 := hide hI.1
          replace hI := hI.2
          have f16 := hide hI.1
          replace hI := hI.2
          have f17 := hide hI.1
          replace hI := hI.2
          have f18 := hide hI.1
          replace hI := hI.2
          have f19 := hide hI.1
          replace hI := hI.2
          have f20 := hide hI
          clear hI
          have r00 := hG.1.size
          have hLow := keeps_low_effY hG.1 (Nat.le_refl _) (Nat.le_refl _) hbV
          have g16 := f16.out (hD.on 16 (by kernel_rfl))
          try simp only [puts, Act.put, List.setIfInBounds_toArray, List.set_cons_zero, List.set_cons_succ]
          obtain rfl := g16.2
          have g3 := f3.out g16.1
          obtain ⟨b3, rfl, -⟩ := g3
          go_simp
          generalize hW' : World.alloc W _ = W'
          have hb : Below W.heap.size W W' := by rw [← hW']; exact bal W _
          exact hK.out _ _ _ (by simp only [puts, Act.put, List.setIfInBounds_toArray, List.set_cons_zero, List.set_cons_succ] <;> rfl) ⟨⟨hG.1.then hb, fun h => (hG.2.1 h).later hb, fun h => (hG.2.2 h).later' hb⟩, (fun h => f0.out h), (fun h => f1.out h), (fun h => f2.out h), (fun h => (fun h => let ⟨b, e, hi⟩ := h; ⟨b, e, hi.keeps (keeps_frmY_below hb)⟩) (f3.out h)), (fun h => f4.out h), (fun h => f5.out h), (fun h => f6.out h), (fun h => f7.out h), (fun h => f8.out h), (fun h => f9.out h), (fun h => f10.out h), (fun h => f11.out h), (fun h => f12.out h), (fun h => f13.out h), (fun h => f14.out h), (fun h => f15.out h), (fun h => f16.out h), (fun _ => ⟨g16.1, fun _ => ⟨W.heap.size, rfl, by rw [← hW']; exact Blk.newA W _ rfl⟩⟩), (fun h => (fun h => ⟨h.1, let ⟨g1, c1, e, ho⟩ := h.2; ⟨g1, c1, e, ho.later' hb⟩⟩) (f18.out h)), (fun h => f19.out h), (fun h => (fun h => ⟨h.1, let ⟨g1, c1, e, hk⟩ := h.2; ⟨g1, c1, e, hk.later hb⟩⟩) (f20.out h))⟩
        · intro L vs W hlen hL hD hI K hK
          obtain ⟨x0, x1, x2, x3, x4, x5, x6, x7, x8, x9, x10, x11, x12, x13, x14, x15, x16, x17, x18, x19, x20, rfl⟩ := len21 hlen
          have hG := hI.1
          replace hI := hI.2
          have f0 := hide hI.1
          replace hI := hI.2
          have f1 := hide hI.1
          replace hI := hI.2
          have f2 := hide hI.1
          replace hI := hI.2
          have f3 := hide hI.1
          replace hI := hI.2
          have f4 := hide hI.1
          replace hI := hI.2
          have f5 := hide hI.1
          replace hI := hI.2
          have f6 := hide hI.1
          replace hI := hI.2
          have f7 := hide hI.1
          replace hI := hI.2
          have f8 := hide hI.1
          replace hI := hI.2
          have f9 := hide hI.1
          replace hI := hI.2
          have f10 := hide hI.1
          replace hI := hI.2
          have f11 := hide hI.1
          replace hI := hI.2
          have f12 := hide hI.1
          replace hI := hI.2
          have f13 := hide hI.1
          replace hI := hI.2
          have f14 := hide hI.1
          replace hI := hI.2
          have f15 := hide hI.1
          replace hI := hI.2
          have f16 := hide hI.1
          replace hI := hI.2
          have f17 := hide hI.1
          replace hI := hI.2
          have f18 := hide hI.1
          replace hI := hI.2
          have f19 := hide hI.1
          replace hI := hI.2
          have f20 := hide hI
          clear hI
          have r00 := hG.1.size
          have hLow := keeps_low_effY hG.1 (Nat.le_refl _) (Nat.le_refl _) hbV
          obtain rfl := f1.out (hD.on 1 (by kernel_rfl))
          have g17 := f17.out (hD.on 17 (by kernel_rfl))
          try simp only [puts, Act.put, List.setIfInBounds_toArray, List.set_cons_zero, List.set_cons_succ]
          have g3 := f3.out g17.1
          obtain ⟨b3, rfl, -⟩ := g3
          obtain ⟨b0, rfl, hB0⟩ := g17.2 hL
          refine step_one infoRule rfl (by decide) Tryz.underlying45 rfl _ _ rfl (w.heap.size) _ Lr rfl (hG.2.2 hL) b0 _ rfl hB0 rfl ruleC_one (by omega) (by omega) (by omega) ?_
          intro g1 c1 W' hO' hE'
          have hb : True := trivial
          exact hK.out _ _ _ (by simp only [puts, Act.put, List.setIfInBounds_toArray, List.set_cons_zero, List.set_cons_succ] <;> rfl) ⟨⟨hG.1.app hE', fun h => hE'.blk (hG.2.1 h) (by decide), fun h => (by cases h)⟩, (fun h => f0.out h), (fun h => f1.out h), (fun h => f2.out h), (fun h => (fun h => let ⟨b, e, hi⟩ := h; ⟨b, e, hi.keeps (keeps_frmY_eff hE' (by decide))⟩) (f3.out h)), (fun h => f4.out h), (fun h => f5.out h), (fun h => f6.out h), (fun h => f7.out h), (fun h => f8.out h), (fun h => f9.out h), (fun h => f10.out h), (fun h => f11.out h), (fun h => f12.out h), (fun h => f13.out h), (fun h => f14.out h), (fun h => f15.out h), (fun h => f16.out h), (fun h => (fun h => ⟨h.1, fun h21 => by cases h21⟩) (f17.out h)), (fun _ => ⟨g17.1, g1, c1, rfl, hO'⟩), (fun h => f19.out h), (fun h => (fun h => absurd (h.1.2.2.symm.trans hL) (by decide)) (f20.out h))⟩
        · intro L vs W hlen hL hD hI K hK
          obtain ⟨x0, x1, x2, x3, x4, x5, x6, x7, x8, x9, x10, x11, x12, x13, x14, x15, x16, x17, x18, x19, x20, rfl⟩ := len21 hlen
          have hG := hI.1
          replace hI := hI.2
          have f0 := hide hI.1
          replace hI := hI.2
          have f1 := hide hI.1
          replace hI := hI.2
          have f2 := hide hI.1
          replace hI := hI.2
          have f3 := hide hI.1
          replace hI := hI.2
          have f4 := hide hI.1
          replace hI := hI.2
          have f5 := hide hI.1
          replace hI := hI.2
          have f6 := hide hI.1
          replace hI := hI.2
          have f7 := hide hI.1
          replace hI := hI.2
          have f8 := hide hI.1
          replace hI := hI.2
          have f9 := hide hI.1
          replace hI := hI.2
          have f10 := hide hI.1
          replace hI := hI.2
          have f11 := hide hI.1
          replace hI := hI.2
          have f12 := hide hI.1
          replace hI := hI.2
          have f13 := hide hI.1
          replace hI := hI.2
          have f14 := hide hI.1
          replace hI := hI.2
          have f15 := hide hI.1
          replace hI := hI.2
          have f16 := hide hI.1
          replace hI := hI.2
          have f17 := hide hI.1
          replace hI := hI.2
          have f18 := hide hI.1
          replace hI := hI.2
          have f19 := hide hI.1
          replace hI := hI.2
          have f20 := hide hI
          clear hI
          have r00 := hG.1.size
          have hLow := keeps_low_effY hG.1 (Nat.le_refl _) (Nat.le_refl _) hbV
          try simp only [puts, Act.put, List.setIfInBounds_toArray, List.set_cons_zero, List.set_cons_succ]
          try go_simp
          exact hK.out _ _ _ (by simp only [puts, Act.put, List.setIfInBounds_toArray, List.set_cons_zero, List.set_cons_succ] <;> rfl) ⟨hG, (fun h => f0.out h), (fun h => f1.out h), (fun h => f2.out h), (fun h => f3.out h), (fun h => f4.out h), (fun h => f5.out h), (fun h => f6.out h), (fun h => f7.out h), (fun h => f8.out h), (fun h => f9.out h), (fun h => f10.out h), (fun h => f11.out h), (fun h => f12.out h), (fun h => f13.out h), (fun h => f14.out h), (fun h => f15.out h), (fun h => f16.out h), (fun h => f17.out h), (fun h => f18.out h), (fun _ => rfl), (fun h => f20.out h)⟩
        · intro L vs W hlen hL hD hI K hK
          obtain ⟨x0, x1, x2, x3, x4, x5, x6, x7, x8, x9, x10, x11, x12, x13, x14, x15, x16, x17, x18, x19, x20, rfl⟩ := len21 hlen
          have hG := hI.1
          replace hI := hI.2
          have f0 := hide hI.1
          replace hI := hI.2
          have f1 := hide hI.1
          replace hI := hI.2
          have f2 := hide hI.1
          replace hI := hI.2
          have f3 := hide hI.1
          replace hI := hI.2
          have f4 := hide hI.1
          replace hI := hI.2
          have f5 := hide hI.1
          replace hI := hI.2
          have f6 := hide hI.1
          replace hI := hI.2
          have f7 := hide hI.1
          replace hI := hI.2
          have f8 := hide hI.1
          replace hI := hI.2
          have f9 := hide hI.1
          replace hI := hI.2
          have f10 := hide hI.1
          replace hI := hI.2
          have f11 := hide hI.1
          replace hI := hI.2
          have f12 := hide hI.1
          replace hI := hI.2
          have f13 := hide hI.1
          replace hI := hI.2
          have f14 := hide hI.1
          replace hI := hI.2
          have f15 := hide hI.1
          replace hI := hI.2
          have f16 := hide hI.1
          replace hI := hI.2
          have f17 := hide hI.1
          replace hI := hI.2
          have f18 := hide hI.1
          replace hI := hI.2
          have f19 := hide hI.1
          replace hI := hI.2
          have f20 := hide hI
          clear hI
          have r00 := hG.1.size
          have hLow := keeps_low_effY hG.1 (Nat.le_refl _) (Nat.le_refl _) hbV
          obtain rfl := f1.out (hD.on 1 (by kernel_rfl))
          obtain rfl := f5.out (hD.on 5 (by kernel_rfl))
          have g18 := f18.out (hD.on 18 (by kernel_rfl))
          obtain rfl := f19.out (hD.on 19 (by kernel_rfl))
          try simp only [puts, Act.put, List.setIfInBounds_toArray, List.set_cons_zero, List.set_cons_succ]
          obtain ⟨-, g1, c1, rfl, hO1⟩ := g18
          have bC0 := hG.2.1 hL
          have z0 := bC0.frozen 2
          have z1 := bC0.cell 2 rfl
          go_simp
          have hb : True := trivial
          exact hK.out _ undef _ (by simp only [puts, Act.put, List.setIfInBounds_toArray, List.set_cons_zero, List.set_cons_succ] <;> rfl) ⟨⟨hG.1.set 2 _, fun h => (by cases h), fun h => absurd (h.symm.trans (hD.on 18 (by kernel_rfl))) (by decide)⟩, (fun h => f0.out h), (fun h => f1.out h), (fun h => f2.out h), (fun h => (fun h => let ⟨b, e, hi⟩ := h; ⟨b, e, hi.keeps (keeps_frmY_set bC0 (by decide) 2 _)⟩) (f3.out h)), (fun h => f4.out h), (fun h => f5.out h), (fun h => f6.out h), (fun h => f7.out h), (fun h => f8.out h), (fun h => f9.out h), (fun h => f10.out h), (fun h => f11.out h), (fun h => f12.out h), (fun h => f13.out h), (fun h => f14.out h), (fun h => f15.out h), (fun h => f16.out h), (fun h => (fun h => ⟨h.1, fun h21 => absurd (h21.symm.trans (hD.on 18 (by kernel_rfl))) (by decide)⟩) (f17.out h)), (fun h => (fun h => ⟨h.1, let ⟨g2, c2, e, ho⟩ := h.2; ⟨g2, c2, e, ho.setO bC0 (by decide) _⟩⟩) (f18.out h)), (fun h => f19.out h), (fun _ => ⟨⟨hD.on 1 (by kernel_rfl), hD.on 5 (by kernel_rfl), hD.on 18 (by kernel_rfl)⟩, g1, c1, rfl, bC0.set 2 _⟩)⟩
      intro L vs W hlen hall hI
      obtain ⟨x0, x1, x2, x3, x4, x5, x6, x7, x8, x9, x10, x11, x12, x13, x14, x15, x16, x17, x18, x19, x20, rfl⟩ := len21 hlen
      have hG := hI.1
      replace hI := hI.2
      have f0 := hide hI.1
      replace hI := hI.2
      have f1 := hide hI.1
      replace hI := hI.2
      have f2 := hide hI.1
      replace hI := hI.2
      have f3 := hide hI.1
      replace hI := hI.2
      have f4 := hide hI.1
      replace hI := hI.2
      have f5 := hide hI.1
      replace hI := hI.2
      have f6 := hide hI.1
      replace hI := hI.2
      have f7 := hide hI.1
      replace hI := hI.2
      have f8 := hide hI.1
      replace hI := hI.2
      have f9 := hide hI.1
      replace hI := hI.2
      have f10 := hide hI.1
      replace hI := hI.2
      have f11 := hide hI.1
      replace hI := hI.2
      have f12 := hide hI.1
      replace hI := hI.2
      have f13 := hide hI.1
      replace hI := hI.2
      have f14 := hide hI.1
      replace hI := hI.2
      have f15 := hide hI.1
      replace hI := hI.2
      have f16 := hide hI.1
      replace hI := hI.2
      have f17 := hide hI.1
      replace hI := hI.2
      have f18 := hide hI.1
      replace hI := hI.2
      have f19 := hide hI.1
      replace hI := hI.2
      have f20 := hide hI
      clear hI
      obtain rfl := f0.out (hall 0 (by decide))
      obtain rfl := f1.out (hall 1 (by decide))
      obtain rfl := f2.out (hall 2 (by decide))
      have g3 := f3.out (hall 3 (by decide))
      obtain rfl := f4.out (hall 4 (by decide))
      obtain rfl := f5.out (hall 5 (by decide))
      obtain rfl := f6.out (hall 6 (by decide))
      obtain rfl := f7.out (hall 7 (by decide))
      obtain rfl := f8.out (hall 8 (by decide))
      obtain rfl := f9.out (hall 9 (by decide))
      obtain rfl := f10.out (hall 10 (by decide))
      obtain rfl := f11.out (hall 11 (by decide))
      obtain rfl := f12.out (hall 12 (by decide))
      obtain rfl := f13.out (hall 13 (by decide))
      obtain rfl := f14.out (hall 14 (by decide))
      obtain rfl := f15.out (hall 15 (by decide))
      have g16 := f16.out (hall 16 (by decide))
      have g17 := f17.out (hall 17 (by decide))
      have g18 := f18.out (hall 18 (by decide))
      obtain rfl := f19.out (hall 19 (by decide))
      have g20 := f20.out (hall 20 (by decide))
      have hal := hide hall
      clear hall f0 f1 f2 f3 f4 f5 f6 f7 f8 f9 f10 f11 f12 f13 f14 f15 f16 f17 f18 f19 f20
      try simp only [puts, Act.put, List.setIfInBounds_toArray, List.set_cons_zero, List.set_cons_succ]
      obtain ⟨b3, e3, hi3⟩ := g3
      obtain ⟨-, e16⟩ := g16
      obtain ⟨-, g1, c1, e18, hO18⟩ := g18
      obtain ⟨-, g2, c2, e20, hC20⟩ := g20
      have hro := rules_app (A := w.heap.size) HLL.out HLS.out hG.1 bC1 (by decide) (by decide) (x := ⟨[k], gg⟩) hi3 hO18
      rw [← HKS.out] at hro
      have HRO := hide hro
      have HB2 := hide (keeps_low_effY hG.1 (Nat.le_refl _) (Nat.le_refl _) hbV)
      have HS2 : Hid (w.heap.size < W.heap.size) := hide (Nat.lt_of_lt_of_le (Nat.lt_of_lt_of_le hsz hszV) hG.1.size)
      have HC2 := hide hC20
      clear hro hi3 hO18 hC20 hG bC1 hal hbr hbV hsz hszV hOR g17
      subst e3 e16 e18
      clear e20
      go_wp2_with fail
      go_roundw
      case rel => exact ⟨k + 1, _, by have := HK.out; omega, by go_num, HRO.out, HC2.out, HB2.out, HS2.out⟩
      case measure => have := HK.out; simp [intOf]; omega
    · have hkf : k = FL := by omega
      rw [hkf] at hown
      have HO := hide hown
      clear hown hkf
      go_wp2_with fail
      exact hexit _ _ _ _ _ _ _ _ _ _ _ _ _ _ _ _ _ _ _ _ _ _ _ _ _ _ _ _ _ _ _ _ _ _ _ _ _ _ _ _ _ _ _ wr lv HO.out hbT hbr hsz
end Go.Proofs.YtdjldidfnddpmaaGreatDoor
/- The walk of StatuteJustifies: its innermost loop (the needs of a clause). Conditions: how the lists lie in memory. -/
namespace Go.Proofs.YtdjldidfnddpmaaGreatDoor
open Go.RowKit
def intR (i : Nat) : List Value := [.int .i64 (i : Nat)]
theorem rows_own {w : World} {B : Nat} {v : Value} {l : List Nat} (h : OwnR w B 3 1 v (l.map intR)) : OwnI w B v (natsJ l) := by
  have h1 := h.1
  have e : (l.map intR).flatten = (natsJ l).map (Value.int .i64) := by
    clear h h1
    induction l with
    | nil => rfl
    | cons a t ih => rw [List.map_cons, List.flatten_cons, ih]; rfl
  rw [e, List.length_map] at h1
  show w.ownsRow B 3 1 v (natsJ l).length _
  rw [natsJ_len]; exact h1
set_option maxRecDepth 100000 in
set_option maxHeartbeats 4000000 in
theorem just_loop4 (v W0 : World) (O yb FL gv : Nat) (x1 x2 x3 x4 x5 tv : Value) (na : Option Addr) (nn : Nat) (ns : List Nat) (bT : Blk v O [.int .i64 FL, .int .i64 20, tv] 47) (bY : Blk v yb [x1, x2, x3, .slice na ns.length nn, x4, x5] 38)
    (hN : IntsIn v.cell? (.slice na ns.length nn) (natsJ ns)) (hn : Hid (∀ m ∈ ns, m ≤ 19)) (hl : ns.length ≤ 4) (hFL : FL ≤ 8) (bR : Blk W0 v.heap.size [.slice none 0 0, .int .i64 gv] 51) (hb : Below v.heap.size v W0)
    (Q0 : Exit → Act → World → Prop) (u0 u1 u2 u3 u4 u5 u6 u7 u8 u9 u10 u12 u13 u17 u18 u19 u20 u21 u22 u23 u24 u25 u26 u27 u28 u29 u30 u31 u32 u33 u34 u35 u36 u37 u38 u39 u40 u41 u42 u43 u44 u45 u46 u47 u48 u49 u50 u51 u52 u53 u54 u55 u56 u57 u58 u59 u60 u61 u62 u63 u64 u65 u66 u67 u68 u69 u70 u71 u72 u73 u74 u75 u76 u77 u78 u79 u80 u81 u82 u83 u84 u85 u86 u87 u88 u89 u90 u91 u92 u93 u94 u95 u96 u97 u98 u99 u100 u101 u102 u103 u104 u105 u106 u107 u108 u109 u110 u111 u112 u113 u114 u115 u116 u117 u118 u119 u120 u121 u122 u123 u124 u125 u126 u127 u128 u129 u130 u131 u132 u133 u134 u135 u136 u137 u138 u139 u140 u141 u142 u143 u144 u145 u146 u147 u148 u149 u150 u151 u152 u153 u154 u155 u156 u157 u158 u159 u160 u161 u162 u163 u164 u165 u166 u167 u168 u169 u170 u171 u172 u173 u174 u175 u176 u177 u178 u179 u180 u181 u182 u183 u184 u185 u186 u187 u188 u189 u190 u191 u192 u193 u194 u195 u196 u197 u198 u199 u200 u201 u202 u203 u204 u205 u206 u207 u208 u209 u210 u211 u212 u213 u214 u215 u216 u217 : Value)
    (hexit : ∀ (t16 t130 t131 t132 t133 t134 t135 t136 t137 t138 t139 t140 t141 t142 t143 t144 t145 t146 t147 t148 t149 : Value) (wr : World) (lv : Value), OwnI wr v.heap.size lv (natsJ (ns.map fun m => FL + m)) → Blk wr v.heap.size [lv, .int .i64 gv] 51 → Below v.heap.size v wr →
      Q0 (.exit 6) ⟨#[u0, u1, u2, u3, u4, u5, u6, u7, u8, u9, u10, .pointer (some ⟨O, 0, none⟩), u12, u13, .pointer (some ⟨yb, 0, none⟩), .pointer (some ⟨v.heap.size, 0, none⟩), t16, u17, u18, u19, u20, u21, u22, u23, u24, u25, u26, u27, u28, u29, u30, u31, u32, u33, u34, u35, u36, u37, u38, u39, u40, u41, u42, u43, u44, u45, u46, u47, u48, u49, u50, u51, u52, u53, u54, u55, u56, u57, u58, u59, u60, u61, u62, u63, u64, u65, u66, u67, u68, u69, u70, u71, u72, u73, u74, u75, u76, u77, u78, u79, u80, u81, u82, u83, u84, u85, u86, u87, u88, u89, u90, u91, u92, u93, u94, u95, u96, u97, u98, u99, u100, u101, u102, u103, u104, u105, u106, u107, u108, u109, u110, u111, u112, u113, u114, u115, u116, u117, u118, u119, u120, u121, u122, u123, u124, u125, u126, u127, u128, u129, t130, t131, t132, t133, t134, t135, t136, t137, t138, t139, t140, t141, t142, t143, t144, t145, t146, t147, t148, t149, u150, u151, u152, u153, u154, u155, u156, u157, u158, u159, u160, u161, u162, u163, u164, u165, u166, u167, u168, u169, u170, u171, u172, u173, u174, u175, u176, u177, u178, u179, u180, u181, u182, u183, u184, u185, u186, u187, u188, u189, u190, u191, u192, u193, u194, u195, u196, u197, u198, u199, u200, u201, u202, u203, u204, u205, u206, u207, u208, u209, u210, u211, u212, u213, u214, u215, u216, u217], []⟩ wr) :
    Code.wp Tryz.prog (Code.loop justLoop4) Q0 ⟨#[u0, u1, u2, u3, u4, u5, u6, u7, u8, u9, u10, .pointer (some ⟨O, 0, none⟩), u12, u13, .pointer (some ⟨yb, 0, none⟩), .pointer (some ⟨v.heap.size, 0, none⟩), .int .i64 0, u17, u18, u19, u20, u21, u22, u23, u24, u25, u26, u27, u28, u29, u30, u31, u32, u33, u34, u35, u36, u37, u38, u39, u40, u41, u42, u43, u44, u45, u46, u47, u48, u49, u50, u51, u52, u53, u54, u55, u56, u57, u58, u59, u60, u61, u62, u63, u64, u65, u66, u67, u68, u69, u70, u71, u72, u73, u74, u75, u76, u77, u78, u79, u80, u81, u82, u83, u84, u85, u86, u87, u88, u89, u90, u91, u92, u93, u94, u95, u96, u97, u98, u99, u100, u101, u102, u103, u104, u105, u106, u107, u108, u109, u110, u111, u112, u113, u114, u115, u116, u117, u118, u119, u120, u121, u122, u123, u124, u125, u126, u127, u128, u129, u130, u131, u132, u133, u134, u135, u136, u137, u138, u139, u140, u141, u142, u143, u144, u145, u146, u147, u148, u149, u150, u151, u152, u153, u154, u155, u156, u157, u158, u159, u160, u161, u162, u163, u164, u165, u166, u167, u168, u169, u170, u171, u172, u173, u174, u175, u176, u177, u178, u179, u180, u181, u182, u183, u184, u185, u186, u187, u188, u189, u190, u191, u192, u193, u194, u195, u196, u197, u198, u199, u200, u201, u202, u203, u204, u205, u206, u207, u208, u209, u210, u211, u212, u213, u214, u215, u216, u217], []⟩ W0 := by
  have HN := hide hN
  obtain ⟨m, hm⟩ : ∃ m, ns.length = m := ⟨_, rfl⟩
  rw [hm] at HN bY hl
  have HM := hide hm
  have HE : Hid (ns.take m = ns) := hide (by rw [← hm, List.take_length])
  have y3 := bY.cell 3 rfl
  have t0 := bT.cell 0 rfl
  clear hN hm bT bY
  conv => arg 2; arg 1; whnf
  dsimp only
  go_loopw [16] (fun i wr => ∃ (k : Nat) (lv : Value), k ≤ m ∧ i = .int .i64 k ∧ OwnR wr v.heap.size 3 1 lv (((ns.take k).map fun m => FL + m).map intR) ∧ Blk wr v.heap.size [lv, .int .i64 gv] 51 ∧ Below v.heap.size v wr) (fun i _ => m - (intOf i).toNat)
  case atStart => exact ⟨0, _, by omega, rfl, OwnR.nil _ _ _ _, bR, hb⟩
  case round =>
    obtain ⟨k, lv, hk, rfl, hown, hbR, hbr⟩ := hrel
    have y3b := keep hbr y3
    by_cases hlt : k < m
    · have HK := hide hlt
      have hltI : (k : Int) < m := by omega
      obtain ⟨a', n', e', -, -, hcc⟩ := HN.out
      obtain ⟨rfl, -, rfl⟩ := Value.slice.inj e'
      have hkn : k < ns.length := by rw [HM.out]; exact hlt
      obtain ⟨nb, no, rfl, hu⟩ := hcc k (by rw [natsJ_len]; exact hkn)
      rw [natsJ_get hkn] at hu
      have hx := hn.out _ (getD_mem ns k hkn (d := 0))
      have HTK := hide (take_map_succ (fun m => FL + m) ns 0 hkn)
      have HLN : Hid (((((ns.take k).map fun m => FL + m).map intR).length ≤ 4)) := hide (by rw [List.length_map, List.length_map, List.length_take]; omega)
      generalize ns.getD k 0 = x at hu hx HTK
      obtain ⟨z, hz⟩ : ∃ z, FL + x = z := ⟨_, rfl⟩
      have eg : IntKind.i64.wrap ((FL : Int) + (x : Int)) = (z : Int) := by rw [IntWalk.i64_in _ ⟨by omega, by omega⟩]; omega
      have HZ := hide hz
      obtain ⟨va, vc, e0⟩ := own_form hown
      subst e0
      generalize hLr : ((ns.take k).map fun m => FL + m).map intR = Lr at *
      have HLr := hide hLr
      have hln8 : Lr.length ≤ 4 := HLN.out
      have bC1 := hbR
      have hOR := hown
      have hszr := hbr.size
      clear hLr hcc e' hx hz hkn hbR hown
      go_wp2_with fail
      refine wp_region_inv [some 137, some 138, some 139, some 140, some 141, some 142, some 143, some 144, some 145, some 146, some 147, some 148, some 149, none] (fun L vs W => match vs with | [x0, x1, x2, x3, x4, x5, x6, x7, x8, x9, x10, x11, x12, x13] => (EffY (v.heap.size) 3 (v.heap.size) wr W ∧ (L 13 = false → Blk W (v.heap.size) [.slice va Lr.length vc, .int .i64 (gv : Nat)] 51) ∧ (L 11 = false → OwnR W (v.heap.size) 3 1 (.slice va Lr.length vc) Lr)) ∧ (L 0 = true → x0 = .pointer (some ⟨v.heap.size, 0, none⟩)) ∧ (L 1 = true → x1 = .slice va Lr.length vc) ∧ (L 2 = true → x2 = .pointer (some ⟨O, 0, none⟩)) ∧ (L 3 = true → x3 = .int .i64 (FL : Nat)) ∧ (L 4 = true → x4 = .pointer (some ⟨yb, 3, none⟩)) ∧ (L 5 = true → x5 = .slice (some ⟨nb, no, none⟩) m nn) ∧ (L 6 = true → x6 = .int .i64 (k : Nat)) ∧ (L 7 = true → x7 = .pointer (some ⟨nb, no + k, none⟩)) ∧ (L 8 = true → x8 = .int .i64 (x : Nat)) ∧ (L 9 = true → x9 = .int .i64 (z : Nat)) ∧ (L 10 = true → (L 11 = false → ∃ b0 : Nat, x10 = .slice (some ⟨b0, 0, none⟩) 1 1 ∧ Blk W b0 [.int .i64 (z : Nat)] 3)) ∧ (L 11 = true → ∃ g1 c1, x11 = .slice (some ⟨g1, 0, none⟩) (Lr.length + 1) c1 ∧ OwnR W (v.heap.size) 3 1 x11 (Lr ++ [[.int .i64 (z : Nat)]])) ∧ (L 12 = true → x12 = .pointer (some ⟨v.heap.size, 0, none⟩)) ∧ (L 13 = true → (L 1 = true ∧ L 11 = true) ∧ ∃ g1 c1, x11 = .slice (some ⟨g1, 0, none⟩) (Lr.length + 1) c1 ∧ Blk W (v.heap.size) [x11, .int .i64 (gv : Nat)] 51) | _ => False) [_, _, _, _, _, _, _, _, _, _, _, _, _, undef] (by kernel_rfl) (by kernel_rfl) rfl (by simp only [puts, Act.put, List.setIfInBounds_toArray, List.set_cons_zero, List.set_cons_succ] <;> rfl) ?_ ?_ ?_
      · exact ⟨⟨EffY.of_below (Below.refl _ _).drew, fun _ => bC1.later (Below.refl _ _).drew, fun _ => hOR.later' (Below.refl _ _).drew⟩, (fun h => by cases h), (fun h => by cases h), (fun h => by cases h), (fun h => by cases h), (fun h => by cases h), (fun h => by cases h), (fun h => by cases h), (fun h => by cases h), (fun h => by cases h), (fun h => by cases h), (fun h => by cases h), (fun h => by cases h), (fun h => by cases h), (fun h => by cases h)⟩
      · refine ⟨?_, ?_, ?_, ?_, ?_, ?_, ?_, ?_, ?_, ?_, ?_, ?_, ?_, ?_, trivial⟩
        · intro L vs W hlen hL hD hI K hK
          obtain ⟨x0, x1, x2, x3, x4, x5, x6, x7, x8, x9, x10, x11, x12, x13, rfl⟩ := len14 hlen
          have hG := hI.1
          replace hI := hI.2
          have f0 := hide hI.1
          replace hI := hI.2
          have f1 := hide hI.1
          replace hI := hI.2
          have f2 := hide hI.1
          replace hI := hI.2
          have f3 := hide hI.1
          replace hI := hI.2
          have f4 := hide hI.1
          replace hI := hI.2
          have f5 := hide hI.1
          replace hI := hI.2
          have f6 := hide hI.1
          replace hI := hI.2
          have f7 := hide hI.1
          replace hI := hI.2
          have f8 := hide hI.1
          replace hI := hI.2
          have f9 := hide hI.1
          replace hI := hI.2
          have f10 := hide hI.1
          replace hI := hI.2
          have f11 := hide hI.1
          replace hI := hI.2
          have f12 := hide hI.1
          replace hI := hI.2
          have f13 := hide hI
          clear hI
          have r00 := hG.1.size
          have hLow := keeps_low_effY hG.1 (Nat.le_refl _) (Nat.le_refl _) hbr
          try simp only [puts, Act.put, List.setIfInBounds_toArray, List.set_cons_zero, List.set_cons_succ]
          try go_simp
          exact hK.out _ _ _ (by simp only [puts, Act.put, List.setIfInBounds_toArray, List.set_cons_zero, List.set_cons_succ] <;> rfl) ⟨hG, (fun _ => rfl), (fun h => f1.out h), (fun h => f2.out h), (fun h => f3.out h), (fun h => f4.out h), (fun h => f5.out h), (fun h => f6.out h), (fun h => f7.out h), (fun h => f8.out h), (fun h => f9.out h), (fun h => f10.out h), (fun h => f11.out h), (fun h => f12.out h), (fun h => f13.out h)⟩
        · intro L vs W hlen hL hD hI K hK
          obtain ⟨x0, x1, x2, x3, x4, x5, x6, x7, x8, x9, x10, x11, x12, x13, rfl⟩ := len14 hlen
          have hG := hI.1
          replace hI := hI.2
          have f0 := hide hI.1
          replace hI := hI.2
          have f1 := hide hI.1
          replace hI := hI.2
          have f2 := hide hI.1
          replace hI := hI.2
          have f3 := hide hI.1
          replace hI := hI.2
          have f4 := hide hI.1
          replace hI := hI.2
          have f5 := hide hI.1
          replace hI := hI.2
          have f6 := hide hI.1
          replace hI := hI.2
          have f7 := hide hI.1
          replace hI := hI.2
          have f8 := hide hI.1
          replace hI := hI.2
          have f9 := hide hI.1
          replace hI := hI.2
          have f10 := hide hI.1
          replace hI := hI.2
          have f11 := hide hI.1
          replace hI := hI.2
          have f12 := hide hI.1
          replace hI := hI.2
          have f13 := hide hI
          clear hI
          have r00 := hG.1.size
          have hLow := keeps_low_effY hG.1 (Nat.le_refl _) (Nat.le_refl _) hbr
          obtain rfl := f0.out (hD.on 0 (by kernel_rfl))
          try simp only [puts, Act.put, List.setIfInBounds_toArray, List.set_cons_zero, List.set_cons_succ]
          have hst : L 13 = false := Bool.eq_false_iff.2 (fun h => absurd ((f13.out h).1.1.symm.trans hL) (by decide))
          have r0 := (hG.2.1 hst).cell 0 rfl
          go_simp
          exact hK.out _ _ _ (by simp only [puts, Act.put, List.setIfInBounds_toArray, List.set_cons_zero, List.set_cons_succ] <;> rfl) ⟨hG, (fun h => f0.out h), (fun _ => rfl), (fun h => f2.out h), (fun h => f3.out h), (fun h => f4.out h), (fun h => f5.out h), (fun h => f6.out h), (fun h => f7.out h), (fun h => f8.out h), (fun h => f9.out h), (fun h => f10.out h), (fun h => f11.out h), (fun h => f12.out h), (fun h => (fun h => ⟨⟨rfl, h.1.2⟩, h.2⟩) (f13.out h))⟩
        · intro L vs W hlen hL hD hI K hK
          obtain ⟨x0, x1, x2, x3, x4, x5, x6, x7, x8, x9, x10, x11, x12, x13, rfl⟩ := len14 hlen
          have hG := hI.1
          replace hI := hI.2
          have f0 := hide hI.1
          replace hI := hI.2
          have f1 := hide hI.1
          replace hI := hI.2
          have f2 := hide hI.1
          replace hI := hI.2
          have f3 := hide hI.1
          replace hI := hI.2
          have f4 := hide hI.1
          replace hI := hI.2
          have f5 := hide hI.1
          replace hI := hI.2
          have f6 := hide hI.1
          replace hI := hI.2
          have f7 := hide hI.1
          replace hI := hI.2
          have f8 := hide hI.1
          replace hI := hI.2
          have f9 := hide hI.1
          replace hI := hI.2
          have f10 := hide hI.1
          replace hI := hI.2
          have f11 := hide hI.1
          replace hI := hI.2
          have f12 := hide hI.1
          replace hI := hI.2
          have f13 := hide hI
          clear hI
          have r00 := hG.1.size
          have hLow := keeps_low_effY hG.1 (Nat.le_refl _) (Nat.le_refl _) hbr
          try simp only [puts, Act.put, List.setIfInBounds_toArray, List.set_cons_zero, List.set_cons_succ]
          try go_simp
          exact hK.out _ _ _ (by simp only [puts, Act.put, List.setIfInBounds_toArray, List.set_cons_zero, List.set_cons_succ] <;> rfl) ⟨hG, (fun h => f0.out h), (fun h => f1.out h), (fun _ => rfl), (fun h => f3.out h), (fun h => f4.out h), (fun h => f5.out h), (fun h => f6.out h), (fun h => f7.out h), (fun h => f8.out h), (fun h => f9.out h), (fun h => f10.out h), (fun h => f11.out h), (fun h => f12.out h), (fun h => f13.out h)⟩
        · intro L vs W hlen hL hD hI K hK
          obtain ⟨x0, x1, x2, x3, x4, x5, x6, x7, x8, x9, x10, x11, x12, x13, rfl⟩ := len14 hlen
          have hG := hI.1
          replace hI := hI.2
          have f0 := hide hI.1
          replace hI := hI.2
          have f1 := hide hI.1
          replace hI := hI.2
          have f2 := hide hI.1
          replace hI := hI.2
          have f3 := hide hI.1
          replace hI := hI.2
          have f4 := hide hI.1
          replace hI := hI.2
          have f5 := hide hI.1
          replace hI := hI.2
          have f6 := hide hI.1
          replace hI := hI.2
          have f7 := hide hI.1
          replace hI := hI.2
          have f8 := hide hI.1
          replace hI := hI.2
          have f9 := hide hI.1
          replace hI := hI.2
          have f10 := hide hI.1
          replace hI := hI.2
          have f11 := hide hI.1
          replace hI := hI.2
          have f12 := hide hI.1
          replace hI := hI.2
          have f13 := hide hI
          clear hI
          have r00 := hG.1.size
          have hLow := keeps_low_effY hG.1 (Nat.le_refl _) (Nat.le_refl _) hbr
          obtain rfl := f2.out (hD.on 2 (by kernel_rfl))
          try simp only [puts, Act.put, List.setIfInBounds_toArray, List.set_cons_zero, List.set_cons_succ]
          have r0 := keep hLow t0
          go_simp
          exact hK.out _ _ _ (by simp only [puts, Act.put, List.setIfInBounds_toArray, List.set_cons_zero, List.set_cons_succ] <;> rfl) ⟨hG, (fun h => f0.out h), (fun h => f1.out h), (fun h => f2.out h), (fun _ => rfl), (fun h => f4.out h), (fun h => f5.out h), (fun h => f6.out h), (fun h => f7.out h), (fun h => f8.out h), (fun h => f9.out h), (fun h => f10.out h), (fun h => f11.out h), (fun h => f12.out h), (fun h => f13.out h)⟩
        · intro L vs W hlen hL hD hI K hK
          obtain ⟨x0, x1, x2, x3, x4, x5, x6, x7, x8, x9, x10, x11, x12, x13, rfl⟩ := len14 hlen
          have hG := hI.1
          replace hI := hI.2
          have f0 := hide hI.1
          replace hI := hI.2
          have f1 := hide hI.1
          replace hI := hI.2
          have f2 := hide hI.1
          replace hI := hI.2
          have f3 := hide hI.1
          replace hI := hI.2
          have f4 := hide hI.1
          replace hI := hI.2
          have f5 := hide hI.1
          replace hI := hI.2
          have f6 := hide hI.1
          replace hI := hI.2
          have f7 := hide hI.1
          replace hI := hI.2
          have f8 := hide hI.1
          replace hI := hI.2
          have f9 := hide hI.1
          replace hI := hI.2
          have f10 := hide hI.1
          replace hI := hI.2
          have f11 := hide hI.1
          replace hI := hI.2
          have f12 := hide hI.1
          replace hI := hI.2
          have f13 := hide hI
          clear hI
          have r00 := hG.1.size
          have hLow := keeps_low_effY hG.1 (Nat.le_refl _) (Nat.le_refl _) hbr
          try simp only [puts, Act.put, List.setIfInBounds_toArray, List.set_cons_zero, List.set_cons_succ]
          try go_simp
          exact hK.out _ _ _ (by simp only [puts, Act.put, List.setIfInBounds_toArray, List.set_cons_zero, List.set_cons_succ] <;> rfl) ⟨hG, (fun h => f0.out h), (fun h => f1.out h), (fun h => f2.out h), (fun h => f3.out h), (fun _ => rfl), (fun h => f5.out h), (fun h => f6.out h), (fun h => f7.out h), (fun h => f8.out h), (fun h => f9.out h), (fun h => f10.out h), (fun h => f11.out h), (fun h => f12.out h), (fun h => f13.out h)⟩
        · intro L vs W hlen hL hD hI K hK
          obtain ⟨x0, x1, x2, x3, x4, x5, x6, x7, x8, x9, x10, x11, x12, x13, rfl⟩ := len14 hlen
          have hG := hI.1
          replace hI := hI.2
          have f0 := hide hI.1
          replace hI := hI.2
          have f1 := hide hI.1
          replace hI := hI.2
          have f2 := hide hI.1
          replace hI := hI.2
          have f3 := hide hI.1
          replace hI := hI.2
          have f4 := hide hI.1
          replace hI := hI.2
          have f5 := hide hI.1
          replace hI := hI.2
          have f6 := hide hI.1
          replace hI := hI.2
          have f7 := hide hI.1
          replace hI := hI.2
          have f8 := hide hI.1
          replace hI := hI.2
          have f9 := hide hI.1
          replace hI := hI.2
          have f10 := hide hI.1
          replace hI := hI.2
          have f11 := hide hI.1
          replace hI := hI.2
          have f12 := hide hI.1
          replace hI := hI.2
          have f13 := hide hI
          clear hI
          have r00 := hG.1.size
          have hLow := keeps_low_effY hG.1 (Nat.le_refl _) (Nat.le_refl _) hbr
          obtain rfl := f4.out (hD.on 4 (by kernel_rfl))
          try simp only [puts, Act.put, List.setIfInBounds_toArray, List.set_cons_zero, List.set_cons_succ]
          have r0 := keep hLow y3
          go_simp
          exact hK.out _ _ _ (by simp only [puts, Act.put, List.setIfInBounds_toArray, List.set_cons_zero, List.set_cons_succ] <;> rfl) ⟨hG, (fun h => f0.out h), (fun h => f1.out h), (fun h => f2.out h), (fun h => f3.out h), (fun h => f4.out h), (fun _ => rfl), (fun h => f6.out h), (fun h => f7.out h), (fun h => f8.out h), (fun h => f9.out h), (fun h => f10.out h), (fun h => f11.out h), (fun h => f12.out h), (fun h => f13.out h)⟩
        · intro L vs W hlen hL hD hI K hK
          obtain ⟨x0, x1, x2, x3, x4, x5, x6, x7, x8, x9, x10, x11, x12, x13, rfl⟩ := len14 hlen
          have hG := hI.1
          replace hI := hI.2
          have f0 := hide hI.1
          replace hI := hI.2
          have f1 := hide hI.1
          replace hI := hI.2
          have f2 := hide hI.1
          replace hI := hI.2
          have f3 := hide hI.1
          replace hI := hI.2
          have f4 := hide hI.1
          replace hI := hI.2
          have f5 := hide hI.1
          replace hI := hI.2
          have f6 := hide hI.1
          replace hI := hI.2
          have f7 := hide hI.1
          replace hI := hI.2
          have f8 := hide hI.1
          replace hI := hI.2
          have f9 := hide hI.1
          replace hI := hI.2
          have f10 := hide hI.1
          replace hI := hI.2
          have f11 := hide hI.1
          replace hI := hI.2
          have f12 := hide hI.1
          replace hI := hI.2
          have f13 := hide hI
          clear hI
          have r00 := hG.1.size
          have hLow := keeps_low_effY hG.1 (Nat.le_refl _) (Nat.le_refl _) hbr
          try simp only [puts, Act.put, List.setIfInBounds_toArray, List.set_cons_zero, List.set_cons_succ]
          try go_simp
          exact hK.out _ _ _ (by simp only [puts, Act.put, List.setIfInBounds_toArray, List.set_cons_zero, List.set_cons_succ] <;> rfl) ⟨hG, (fun h => f0.out h), (fun h => f1.out h), (fun h => f2.out h), (fun h => f3.out h), (fun h => f4.out h), (fun h => f5.out h), (fun _ => rfl), (fun h => f7.out h), (fun h => f8.out h), (fun h => f9.out h), (fun h => f10.out h), (fun h => f11.out h), (fun h => f12.out h), (fun h => f13.out h)⟩
        · intro L vs W hlen hL hD hI K hK
          obtain ⟨x0, x1, x2, x3, x4, x5, x6, x7, x8, x9, x10, x11, x12, x13, rfl⟩ := len14 hlen
          have hG := hI.1
          replace hI := hI.2
          have f0 := hide hI.1
          replace hI := hI.2
          have f1 := hide hI.1
          replace hI := hI.2
          have f2 := hide hI.1
          replace hI := hI.2
          have f3 := hide hI.1
          replace hI := hI.2
          have f4 := hide hI.1
          replace hI := hI.2
          have f5 := hide hI.1
          replace hI := hI.2
          have f6 := hide hI.1
          replace hI := hI.2
          have f7 := hide hI.1
          replace hI := hI.2
          have f8 := hide hI.1
          replace hI := hI.2
          have f9 := hide hI.1
          replace hI := hI.2
          have f10 := hide hI.1
          replace hI := hI.2
          have f11 := hide hI.1
          replace hI := hI.2
          have f12 := hide hI.1
          replace hI := hI.2
          have f13 := hide hI
          clear hI
          have r00 := hG.1.size
          have hLow := keeps_low_effY hG.1 (Nat.le_refl _) (Nat.le_refl _) hbr
          obtain rfl := f5.out (hD.on 5 (by kernel_rfl))
          obtain rfl := f6.out (hD.on 6 (by kernel_rfl))
          try simp only [puts, Act.put, List.setIfInBounds_toArray, List.set_cons_zero, List.set_cons_succ]
          try go_simp
          exact hK.out _ _ _ (by simp only [puts, Act.put, List.setIfInBounds_toArray, List.set_cons_zero, List.set_cons_succ] <;> rfl) ⟨hG, (fun h => f0.out h), (fun h => f1.out h), (fun h => f2.out h), (fun h => f3.out h), (fun h => f4.out h), (fun h => f5.out h), (fun h => f6.out h), (fun _ => rfl), (fun h => f8.out h), (fun h => f9.out h), (fun h => f10.out h), (fun h => f11.out h), (fun h => f12.out h), (fun h => f13.out h)⟩
        · intro L vs W hlen hL hD hI K hK
          obtain ⟨x0, x1, x2, x3, x4, x5, x6, x7, x8, x9, x10, x11, x12, x13, rfl⟩ := len14 hlen
          have hG := hI.1
          replace hI := hI.2
          have f0 := hide hI.1
          replace hI := hI.2
          have f1 := hide hI.1
          replace hI := hI.2
          have f2 := hide hI.1
          replace hI := hI.2
          have f3 := hide hI.1
          replace hI := hI.2
          have f4 := hide hI.1
          replace hI := hI.2
          have f5 := hide hI.1
          replace hI := hI.2
          have f6 := hide hI.1
          replace hI := hI.2
          have f7 := hide hI.1
          replace hI := hI.2
          have f8 := hide hI.1
          replace hI := hI.2
          have f9 := hide hI.1
          replace hI := hI.2
          have f10 := hide hI.1
          replace hI := hI.2
          have f11 := hide hI.1
          replace hI := hI.2
          have f12 := hide hI.1
          replace hI := hI.2
          have f13 := hide hI
          clear hI
          have r00 := hG.1.size
          have hLow := keeps_low_effY hG.1 (Nat.le_refl _) (Nat.le_refl _) hbr
          obtain rfl := f7.out (hD.on 7 (by kernel_rfl))
          try simp only [puts, Act.put, List.setIfInBounds_toArray, List.set_cons_zero, List.set_cons_succ]
          have r0 := keep hLow hu
          go_simp
          exact hK.out _ _ _ (by simp only [puts, Act.put, List.setIfInBounds_toArray, List.set_cons_zero, List.set_cons_succ] <;> rfl) ⟨hG, (fun h => f0.out h), (fun h => f1.out h), (fun h => f2.out h), (fun h => f3.out h), (fun h => f4.out h), (fun h => f5.out h), (fun h => f6.out h), (fun h => f7.out h), (fun _ => rfl), (fun h => f9.out h), (fun h => f10.out h), (fun h => f11.out h), (fun h => f12.out h), (fun h => f13.out h)⟩
        · intro L vs W hlen hL hD hI K hK
          obtain ⟨x0, x1, x2, x3, x4, x5, x6, x7, x8, x9, x10, x11, x12, x13, rfl⟩ := len14 hlen
          have hG := hI.1
          replace hI := hI.2
          have f0 := hide hI.1
          replace hI := hI.2
          have f1 := hide hI.1
          replace hI := hI.2
          have f2 := hide hI.1
          replace hI := hI.2
          have f3 := hide hI.1
          replace hI := hI.2
          have f4 := hide hI.1
          replace hI := hI.2
          have f5 := hide hI.1
          replace hI := hI.2
          have f6 := hide hI.1
          replace hI := hI.2
          have f7 := hide hI.1
          replace hI := hI.2
          have f8 := hide hI.1
          replace hI := hI.2
          have f9 := hide hI.1
          replace hI := hI.2
          have f10 := hide hI.1
          replace hI := hI.2
          have f11 := hide hI.1
          replace hI := hI.2
          have f12 := hide hI.1
          replace hI := hI.2
          have f13 := hide hI
          clear hI
          have r00 := hG.1.size
          have hLow := keeps_low_effY hG.1 (Nat.le_refl _) (Nat.le_refl _) hbr
          obtain rfl := f3.out (hD.on 3 (by kernel_rfl))
          obtain rfl := f8.out (hD.on 8 (by kernel_rfl))
          try simp only [puts, Act.put, List.setIfInBounds_toArray, List.set_cons_zero, List.set_cons_succ]
          try go_simp
          exact hK.out _ _ _ (by simp only [puts, Act.put, List.setIfInBounds_toArray, List.set_cons_zero, List.set_cons_succ] <;> rfl) ⟨hG, (fun h => f0.out h), (fun h => f1.out h), (fun h => f2.out h), (fun h => f3.out h), (fun h => f4.out h), (fun h => f5.out h), (fun h => f6.out h), (fun h => f7.out h), (fun h => f8.out h), (fun _ => rfl), (fun h => f10.out h), (fun h => f11.out h), (fun h => f12.out h), (fun h => f13.out h)⟩
        · intro L vs W hlen hL hD hI K hK
          obtain ⟨x0, x1, x2, x3, x4, x5, x6, x7, x8, x9, x10, x11, x12, x13, rfl⟩ := len14 hlen
          have hG := hI.1
          replace hI := hI.2
          have f0 := hide hI.1
          replace hI := hI.2
          have f1 := hide hI.1
          replace hI := hI.2
          have f2 := hide hI.1
          replace hI := hI.2
          have f3 := hide hI.1
          replace hI := hI.2
          have f4 := hide hI.1
          replace hI := hI.2
          have f5 := hide hI.1
          replace hI := hI.2
          have f6 := hide hI.1
          replace hI := hI.2
          have f7 := hide hI.1
          replace hI := hI.2
          have f8 := hide hI.1
          replace hI := hI.2
          have f9 := hide hI.1
          replace hI := hI.2
          have f10 := hide hI.1
          replace hI := hI.2
          have f11 := hide hI.1
          replace hI := hI.2
          have f12 := hide hI.1
          replace hI := hI.2
          have f13 := hide hI
          clear hI
          have r00 := hG.1.size
          have hLow := keeps_low_effY hG.1 (Nat.le_refl _) (Nat.le_refl _) hbr
          obtain rfl := f9.out (hD.on 9 (by kernel_rfl))
          try simp only [puts, Act.put, List.setIfInBounds_toArray, List.set_cons_zero, List.set_cons_succ]
          go_simp
          generalize hW' : World.alloc W _ = W'
          have hb : Below W.heap.size W W' := by rw [← hW']; exact bal W _
          exact hK.out _ _ _ (by simp only [puts, Act.put, List.setIfInBounds_toArray, List.set_cons_zero, List.set_cons_succ] <;> rfl) ⟨⟨hG.1.then hb, fun h => (hG.2.1 h).later hb, fun h => (hG.2.2 h).later' hb⟩, (fun h => f0.out h), (fun h => f1.out h), (fun h => f2.out h), (fun h => f3.out h), (fun h => f4.out h), (fun h => f5.out h), (fun h => f6.out h), (fun h => f7.out h), (fun h => f8.out h), (fun h => f9.out h), (fun _ => fun _ => ⟨W.heap.size, rfl, by rw [← hW']; exact Blk.newA W _ rfl⟩), (fun h => (fun h => let ⟨g1, c1, e, ho⟩ := h; ⟨g1, c1, e, ho.later' hb⟩) (f11.out h)), (fun h => f12.out h), (fun h => (fun h => ⟨h.1, let ⟨g1, c1, e, hk⟩ := h.2; ⟨g1, c1, e, hk.later hb⟩⟩) (f13.out h))⟩
        · intro L vs W hlen hL hD hI K hK
          obtain ⟨x0, x1, x2, x3, x4, x5, x6, x7, x8, x9, x10, x11, x12, x13, rfl⟩ := len14 hlen
          have hG := hI.1
          replace hI := hI.2
          have f0 := hide hI.1
          replace hI := hI.2
          have f1 := hide hI.1
          replace hI := hI.2
          have f2 := hide hI.1
          replace hI := hI.2
          have f3 := hide hI.1
          replace hI := hI.2
          have f4 := hide hI.1
          replace hI := hI.2
          have f5 := hide hI.1
          replace hI := hI.2
          have f6 := hide hI.1
          replace hI := hI.2
          have f7 := hide hI.1
          replace hI := hI.2
          have f8 := hide hI.1
          replace hI := hI.2
          have f9 := hide hI.1
          replace hI := hI.2
          have f10 := hide hI.1
          replace hI := hI.2
          have f11 := hide hI.1
          replace hI := hI.2
          have f12 := hide hI.1
          replace hI := hI.2
          have f13 := hide hI
          clear hI
          have r00 := hG.1.size
          have hLow := keeps_low_effY hG.1 (Nat.le_refl _) (Nat.le_refl _) hbr
          obtain rfl := f1.out (hD.on 1 (by kernel_rfl))
          have g10 := f10.out (hD.on 10 (by kernel_rfl))
          try simp only [puts, Act.put, List.setIfInBounds_toArray, List.set_cons_zero, List.set_cons_succ]
          obtain ⟨b0, rfl, hB0⟩ := g10 hL
          refine step_one infoInt rfl (by decide) Tryz.underlying36 rfl _ _ rfl (v.heap.size) _ Lr rfl (hG.2.2 hL) b0 _ rfl hB0 rfl (fun u hu => by rw [List.mem_singleton.1 hu]; rfl) (by omega) (by omega) (by omega) ?_
          intro g1 c1 W' hO' hE'
          have hb : True := trivial
          exact hK.out _ _ _ (by simp only [puts, Act.put, List.setIfInBounds_toArray, List.set_cons_zero, List.set_cons_succ] <;> rfl) ⟨⟨hG.1.app hE', fun h => hE'.blk (hG.2.1 h) (by decide), fun h => (by cases h)⟩, (fun h => f0.out h), (fun h => f1.out h), (fun h => f2.out h), (fun h => f3.out h), (fun h => f4.out h), (fun h => f5.out h), (fun h => f6.out h), (fun h => f7.out h), (fun h => f8.out h), (fun h => f9.out h), (fun h => (fun h => (fun h21 => by cases h21)) (f10.out h)), (fun _ => ⟨g1, c1, rfl, hO'⟩), (fun h => f12.out h), (fun h => (fun h => absurd (h.1.2.symm.trans hL) (by decide)) (f13.out h))⟩
        · intro L vs W hlen hL hD hI K hK
          obtain ⟨x0, x1, x2, x3, x4, x5, x6, x7, x8, x9, x10, x11, x12, x13, rfl⟩ := len14 hlen
          have hG := hI.1
          replace hI := hI.2
          have f0 := hide hI.1
          replace hI := hI.2
          have f1 := hide hI.1
          replace hI := hI.2
          have f2 := hide hI.1
          replace hI := hI.2
          have f3 := hide hI.1
          replace hI := hI.2
          have f4 := hide hI.1
          replace hI := hI.2
          have f5 := hide hI.1
          replace hI := hI.2
          have f6 := hide hI.1
          replace hI := hI.2
          have f7 := hide hI.1
          replace hI := hI.2
          have f8 := hide hI.1
          replace hI := hI.2
          have f9 := hide hI.1
          replace hI := hI.2
          have f10 := hide hI.1
          replace hI := hI.2
          have f11 := hide hI.1
          replace hI := hI.2
          have f12 := hide hI.1
          replace hI := hI.2
          have f13 := hide hI
          clear hI
          have r00 := hG.1.size
          have hLow := keeps_low_effY hG.1 (Nat.le_refl _) (Nat.le_refl _) hbr
          try simp only [puts, Act.put, List.setIfInBounds_toArray, List.set_cons_zero, List.set_cons_succ]
          try go_simp
          exact hK.out _ _ _ (by simp only [puts, Act.put, List.setIfInBounds_toArray, List.set_cons_zero, List.set_cons_succ] <;> rfl) ⟨hG, (fun h => f0.out h), (fun h => f1.out h), (fun h => f2.out h), (fun h => f3.out h), (fun h => f4.out h), (fun h => f5.out h), (fun h => f6.out h), (fun h => f7.out h), (fun h => f8.out h), (fun h => f9.out h), (fun h => f10.out h), (fun h => f11.out h), (fun _ => rfl), (fun h => f13.out h)⟩
        · intro L vs W hlen hL hD hI K hK
          obtain ⟨x0, x1, x2, x3, x4, x5, x6, x7, x8, x9, x10, x11, x12, x13, rfl⟩ := len14 hlen
          have hG := hI.1
          replace hI := hI.2
          have f0 := hide hI.1
          replace hI := hI.2
          have f1 := hide hI.1
          replace hI := hI.2
          have f2 := hide hI.1
          replace hI := hI.2
          have f3 := hide hI.1
          replace hI := hI.2
          have f4 := hide hI.1
          replace hI := hI.2
          have f5 := hide hI.1
          replace hI := hI.2
          have f6 := hide hI.1
          replace hI := hI.2
          have f7 := hide hI.1
          replace hI := hI.2
          have f8 := hide hI.1
          replace hI := hI.2
          have f9 := hide hI.1
          replace hI := hI.2
          have f10 := hide hI.1
          replace hI := hI.2
          have f11 := hide hI.1
          replace hI := hI.2
          have f12 := hide hI.1
          replace hI := hI.2
          have f13 := hide hI
          clear hI
          have r00 := hG.1.size
          have hLow := keeps_low_effY hG.1 (Nat.le_refl _) (Nat.le_refl _) hbr
          obtain rfl := f1.out (hD.on 1 (by kernel_rfl))
          have g11 := f11.out (hD.on 11 (by kernel_rfl))
          obtain rfl := f12.out (hD.on 12 (by kernel_rfl))
          try simp only [puts, Act.put, List.setIfInBounds_toArray, List.set_cons_zero, List.set_cons_succ]
          obtain ⟨g1, c1, rfl, hO1⟩ := g11
          have bC0 := hG.2.1 hL
          have z0 := bC0.frozen 0
          have z1 := bC0.cell 0 rfl
          go_simp
          have hb : True := trivial
          exact hK.out _ undef _ (by simp only [puts, Act.put, List.setIfInBounds_toArray, List.set_cons_zero, List.set_cons_succ] <;> rfl) ⟨⟨hG.1.set 0 _, fun h => (by cases h), fun h => absurd (h.symm.trans (hD.on 11 (by kernel_rfl))) (by decide)⟩, (fun h => f0.out h), (fun h => f1.out h), (fun h => f2.out h), (fun h => f3.out h), (fun h => f4.out h), (fun h => f5.out h), (fun h => f6.out h), (fun h => f7.out h), (fun h => f8.out h), (fun h => f9.out h), (fun h => (fun h => (fun h21 => absurd (h21.symm.trans (hD.on 11 (by kernel_rfl))) (by decide))) (f10.out h)), (fun h => (fun h => let ⟨g2, c2, e, ho⟩ := h; ⟨g2, c2, e, ho.setO bC0 (by decide) _⟩) (f11.out h)), (fun h => f12.out h), (fun _ => ⟨⟨hD.on 1 (by kernel_rfl), hD.on 11 (by kernel_rfl)⟩, g1, c1, rfl, bC0.set 0 _⟩)⟩
      intro L vs W hlen hall hI
      obtain ⟨x0, x1, x2, x3, x4, x5, x6, x7, x8, x9, x10, x11, x12, x13, rfl⟩ := len14 hlen
      have hG := hI.1
      replace hI := hI.2
      have f0 := hide hI.1
      replace hI := hI.2
      have f1 := hide hI.1
      replace hI := hI.2
      have f2 := hide hI.1
      replace hI := hI.2
      have f3 := hide hI.1
      replace hI := hI.2
      have f4 := hide hI.1
      replace hI := hI.2
      have f5 := hide hI.1
      replace hI := hI.2
      have f6 := hide hI.1
      replace hI := hI.2
      have f7 := hide hI.1
      replace hI := hI.2
      have f8 := hide hI.1
      replace hI := hI.2
      have f9 := hide hI.1
      replace hI := hI.2
      have f10 := hide hI.1
      replace hI := hI.2
      have f11 := hide hI.1
      replace hI := hI.2
      have f12 := hide hI.1
      replace hI := hI.2
      have f13 := hide hI
      clear hI
      obtain rfl := f0.out (hall 0 (by decide))
      obtain rfl := f1.out (hall 1 (by decide))
      obtain rfl := f2.out (hall 2 (by decide))
      obtain rfl := f3.out (hall 3 (by decide))
      obtain rfl := f4.out (hall 4 (by decide))
      obtain rfl := f5.out (hall 5 (by decide))
      obtain rfl := f6.out (hall 6 (by decide))
      obtain rfl := f7.out (hall 7 (by decide))
      obtain rfl := f8.out (hall 8 (by decide))
      obtain rfl := f9.out (hall 9 (by decide))
      have g10 := f10.out (hall 10 (by decide))
      have g11 := f11.out (hall 11 (by decide))
      obtain rfl := f12.out (hall 12 (by decide))
      have g13 := f13.out (hall 13 (by decide))
      have hal := hide hall
      clear hall f0 f1 f2 f3 f4 f5 f6 f7 f8 f9 f10 f11 f12 f13
      try simp only [puts, Act.put, List.setIfInBounds_toArray, List.set_cons_zero, List.set_cons_succ]
      obtain ⟨g1, c1, e11, hO11⟩ := g11
      obtain ⟨-, g2, c2, e13, hC13⟩ := g13
      have HB2 := hide (keeps_low_effY hG.1 (Nat.le_refl _) (Nat.le_refl _) hbr)
      have HOR := hide hO11
      have HC2 := hide hC13
      clear hO11 hC13 hG hOR bC1 hal hbr g10 y3b
      subst e11
      clear e13
      go_wp2_with fail
      go_roundw
      case rel => exact ⟨k + 1, _, by have := HK.out; omega, by go_num, by rw [HTK.out, List.map_append, HLr.out, HZ.out]; exact HOR.out, HC2.out, HB2.out⟩
      case measure => have := HK.out; simp [intOf]; omega
    · have hkm : k = m := by omega
      rw [hkm, HE.out] at hown
      have HO := hide (rows_own hown)
      clear hkm hown
      go_wp2_with fail
      exact hexit _ _ _ _ _ _ _ _ _ _ _ _ _ _ _ _ _ _ _ _ _ wr lv HO.out hbR hbr
end Go.Proofs.YtdjldidfnddpmaaGreatDoor
namespace Go.Proofs.YtdjldidfnddpmaaGreatDoor
open Go.RowKit
theorem ruleC_eq (FL : Nat) (c : CodeD) (n : Nat) : ruleC FL c n = ⟨((c.clauses.getD n clause0).needs.map Int.toNat).map (fun m => FL + m), FL + (c.clauses.getD n clause0).gives.toNat⟩ := by
  unfold ruleC; rw [List.map_map]; rfl
theorem natsJ_toNat {l : List Int} (h : ∀ m ∈ l, 0 ≤ m) : natsJ (l.map Int.toNat) = l := by
  unfold natsJ
  rw [List.map_map]
  refine (List.map_congr_left (g := id) fun m hm => ?_).trans (List.map_id l)
  have := h m hm
  show ((m.toNat : Nat) : Int) = m
  omega
set_option maxRecDepth 100000 in
set_option maxHeartbeats 4000000 in
theorem just_loop3 (w W0 : World) (c : CodeD) (FL : Nat) (C : List Nat) (R0 : List RuleD) (cb : Nat) (rv fv lv0 : Value) (ka Ca : Option Addr) (kn Cn : Nat) (bC : Blk w cb [.slice ka c.clauses.length kn, rv, fv] 32) (hcl : ClausesIn w.cell? (.slice ka c.clauses.length kn) c.clauses)
    (hC : IntsIn w.cell? (.slice Ca C.length Cn) (intsN C)) (HA : Hid (∀ i ∈ C, i < c.clauses.length)) (HV : Hid (validC c = true)) (hCl : C.length ≤ 8) (hFL : FL ≤ 8) (hR0 : R0.length ≤ 8) (hown : RulesOwn W0 w.heap.size w.heap.size lv0 R0)
    (bT : Blk W0 w.heap.size [.int .i64 FL, .int .i64 20, lv0] 47) (hb : Below w.heap.size w W0) (hs : w.heap.size < W0.heap.size)
    (Q0 : Exit → Act → World → Prop) (u0 u1 u2 u3 u4 u6 u7 u8 u10 u12 u14 u15 u16 u17 u18 u19 u20 u21 u22 u23 u24 u25 u26 u27 u28 u29 u30 u31 u32 u33 u34 u35 u36 u37 u38 u39 u40 u41 u42 u43 u44 u45 u46 u47 u48 u49 u50 u51 u52 u53 u54 u55 u56 u57 u58 u59 u60 u61 u62 u63 u64 u65 u66 u67 u68 u69 u70 u71 u72 u73 u74 u75 u76 u77 u78 u79 u80 u81 u82 u83 u84 u85 u86 u87 u88 u89 u90 u91 u92 u93 u94 u95 u96 u97 u98 u99 u100 u101 u102 u103 u104 u105 u106 u107 u108 u109 u110 u111 u112 u113 u114 u115 u116 u117 u118 u119 u120 u121 u122 u123 u124 u125 u126 u127 u128 u129 u130 u131 u132 u133 u134 u135 u136 u137 u138 u139 u140 u141 u142 u143 u144 u145 u146 u147 u148 u149 u150 u151 u152 u153 u154 u155 u156 u157 u158 u159 u160 u161 u162 u163 u164 u165 u166 u167 u168 u169 u170 u171 u172 u173 u174 u175 u176 u177 u178 u179 u180 u181 u182 u183 u184 u185 u186 u187 u188 u189 u190 u191 u192 u193 u194 u195 u196 u197 u198 u199 u200 u201 u202 u203 u204 u205 u206 u207 u208 u209 u210 u211 u212 u213 u214 u215 u216 u217 : Value)
    (hexit : ∀ (t4 t13 t14 t15 t16 t95 t96 t97 t98 t99 t100 t101 t102 t103 t104 t105 t106 t107 t108 t109 t110 t111 t112 t113 t114 t115 t116 t117 t118 t119 t120 t121 t122 t123 t124 t125 t126 t127 t128 t129 t130 t131 t132 t133 t134 t135 t136 t137 t138 t139 t140 t141 t142 t143 t144 t145 t146 t147 t148 t149 t150 t151 t152 t153 t154 t155 : Value) (wr : World) (lv : Value), RulesOwn wr w.heap.size w.heap.size lv (R0 ++ C.map (ruleC FL c)) → Blk wr w.heap.size [.int .i64 FL, .int .i64 20, lv] 47 → Below w.heap.size w wr → w.heap.size < wr.heap.size →
      Q0 (.exit 4) ⟨#[u0, u1, u2, u3, t4, .pointer (some ⟨cb, 0, none⟩), u6, u7, u8, .slice Ca C.length Cn, u10, .pointer (some ⟨w.heap.size, 0, none⟩), u12, t13, t14, t15, t16, u17, u18, u19, u20, u21, u22, u23, u24, u25, u26, u27, u28, u29, u30, u31, u32, u33, u34, u35, u36, u37, u38, u39, u40, u41, u42, u43, u44, u45, u46, u47, u48, u49, u50, u51, u52, u53, u54, u55, u56, u57, u58, u59, u60, u61, u62, u63, u64, u65, u66, u67, u68, u69, u70, u71, u72, u73, u74, u75, u76, u77, u78, u79, u80, u81, u82, u83, u84, u85, u86, u87, u88, u89, u90, u91, u92, u93, u94, t95, t96, t97, t98, t99, t100, t101, t102, t103, t104, t105, t106, t107, t108, t109, t110, t111, t112, t113, t114, t115, t116, t117, t118, t119, t120, t121, t122, t123, t124, t125, t126, t127, t128, t129, t130, t131, t132, t133, t134, t135, t136, t137, t138, t139, t140, t141, t142, t143, t144, t145, t146, t147, t148, t149, t150, t151, t152, t153, t154, t155, u156, u157, u158, u159, u160, u161, u162, u163, u164, u165, u166, u167, u168, u169, u170, u171, u172, u173, u174, u175, u176, u177, u178, u179, u180, u181, u182, u183, u184, u185, u186, u187, u188, u189, u190, u191, u192, u193, u194, u195, u196, u197, u198, u199, u200, u201, u202, u203, u204, u205, u206, u207, u208, u209, u210, u211, u212, u213, u214, u215, u216, u217], []⟩ wr) :
    Code.wp Tryz.prog (Code.loop justLoop3) Q0 ⟨#[u0, u1, u2, u3, u4, .pointer (some ⟨cb, 0, none⟩), u6, u7, u8, .slice Ca C.length Cn, u10, .pointer (some ⟨w.heap.size, 0, none⟩), u12, .int .i64 0, u14, u15, u16, u17, u18, u19, u20, u21, u22, u23, u24, u25, u26, u27, u28, u29, u30, u31, u32, u33, u34, u35, u36, u37, u38, u39, u40, u41, u42, u43, u44, u45, u46, u47, u48, u49, u50, u51, u52, u53, u54, u55, u56, u57, u58, u59, u60, u61, u62, u63, u64, u65, u66, u67, u68, u69, u70, u71, u72, u73, u74, u75, u76, u77, u78, u79, u80, u81, u82, u83, u84, u85, u86, u87, u88, u89, u90, u91, u92, u93, u94, u95, u96, u97, u98, u99, u100, u101, u102, u103, u104, u105, u106, u107, u108, u109, u110, u111, u112, u113, u114, u115, u116, u117, u118, u119, u120, u121, u122, u123, u124, u125, u126, u127, u128, u129, u130, u131, u132, u133, u134, u135, u136, u137, u138, u139, u140, u141, u142, u143, u144, u145, u146, u147, u148, u149, u150, u151, u152, u153, u154, u155, u156, u157, u158, u159, u160, u161, u162, u163, u164, u165, u166, u167, u168, u169, u170, u171, u172, u173, u174, u175, u176, u177, u178, u179, u180, u181, u182, u183, u184, u185, u186, u187, u188, u189, u190, u191, u192, u193, u194, u195, u196, u197, u198, u199, u200, u201, u202, u203, u204, u205, u206, u207, u208, u209, u210, u211, u212, u213, u214, u215, u216, u217], []⟩ W0 := by
  have HC := hide hC
  have HCC := hide hcl
  obtain ⟨CL, hCL⟩ : ∃ CL, C.length = CL := ⟨_, rfl⟩
  obtain ⟨cl, hcl'⟩ : ∃ cl, c.clauses.length = cl := ⟨_, rfl⟩
  rw [hCL] at HC hexit hCl ⊢
  rw [hcl'] at HCC bC
  have hclI : (cl : Int) ≤ 9223372036854775807 := by
    obtain ⟨a', n', e, h1, h2, -⟩ := hcl
    omega
  have HE : Hid (C.take CL = C) := hide (by rw [← hCL, List.take_length])
  have HCL := hide hCL
  clear hC hcl hCL
  conv => arg 2; arg 1; whnf
  dsimp only
  go_loopw [13] (fun i wr => ∃ (j : Nat) (lv : Value), j ≤ CL ∧ i = .int .i64 j ∧ RulesOwn wr w.heap.size w.heap.size lv (R0 ++ (C.take j).map (ruleC FL c)) ∧ Blk wr w.heap.size [.int .i64 FL, .int .i64 20, lv] 47 ∧ Below w.heap.size w wr ∧ w.heap.size < wr.heap.size) (fun i _ => CL - (intOf i).toNat)
  case atStart => exact ⟨0, _, by omega, rfl, by simpa using hown, bT, hb, hs⟩
  case round =>
    obtain ⟨j, lv, hj, rfl, hown, hbT, hbr, hsz⟩ := hrel
    by_cases hlt : j < CL
    · have HK := hide hlt
      have hltI : (j : Int) < CL := by omega
      obtain ⟨a', n', e', -, -, hcc⟩ := HC.out
      obtain ⟨rfl, -, rfl⟩ := Value.slice.inj e'
      have hkC : j < C.length := by rw [HCL.out]; exact hlt
      have hg : (intsN C).getD j 0 = ((C.getD j 0 : Nat) : Int) := by
        unfold intsN
        rw [List.getD_eq_getElem?_getD, List.getElem?_map, List.getElem?_eq_getElem hkC, List.getD_eq_getElem?_getD, List.getElem?_eq_getElem hkC]; rfl
      obtain ⟨Cb, Co, rfl, hu⟩ := hcc j (by unfold intsN; rw [List.length_map]; exact hkC)
      rw [hg] at hu
      have hn := HA.out _ (getD_mem C j hkC (d := 0))
      have HTK := hide (take_map_succ (ruleC FL c) C 0 hkC)
      generalize C.getD j 0 = n at hu hn HTK
      have hval := valid_terms HV.out hn
      have hcb := valid_clause HV.out hn
      rw [ruleC_eq] at HTK
      rw [hcl'] at hn
      have hnI : (n : Int) < cl := by omega
      have hn0 : decide ((n : Int) < 0) = false := decide_eq_false (by omega)
      have hnG : decide (cl ≤ n) = false := decide_eq_false (by omega)
      obtain ⟨a2, n2, e2, -, -, hcf⟩ := HCC.out
      obtain ⟨rfl, -, rfl⟩ := Value.slice.inj e2
      obtain ⟨kb, ko, nv, bv, rfl, hck⟩ := hcf n (by rw [hcl']; exact hn)
      generalize c.clauses.getD n clause0 = y at hck HTK hval hcb
      obtain ⟨y0, y1, y2, y3, y4, y5, y6, y7⟩ := hck
      obtain ⟨na, nn, rfl, -⟩ := id y6
      obtain ⟨ba, bn, rfl, -⟩ := id y7
      obtain ⟨gy, hgy⟩ : ∃ gy : Nat, y.gives = gy := ⟨y.gives.toNat, by omega⟩
      rw [hgy] at y5
      rw [hgy, Int.toNat_natCast] at HTK
      have hl4 : y.needs.length ≤ 4 := by
        simp only [clauseB, termsB, Bool.and_eq_true, decide_eq_true_eq] at hcb
        exact hcb.1.2.1
      have HNN : Hid (natsJ (y.needs.map Int.toNat) = y.needs) := hide (natsJ_toNat fun m hm => (hval.2.1 m hm).1)
      have HN19 : Hid (∀ m ∈ y.needs.map Int.toNat, m ≤ 19) := hide fun m hm => by
        obtain ⟨q, hq, rfl⟩ := List.mem_map.1 hm
        have := hval.2.1 q hq
        have := hval.1
        omega
      have hgy19 : gy ≤ 19 := by have := hval.1; omega
      obtain ⟨gv, hgv⟩ : ∃ gv, FL + gy = gv := ⟨_, rfl⟩
      rw [hgv] at HTK
      have eg : IntKind.i64.wrap ((FL : Int) + (gy : Int)) = (gv : Int) := by rw [IntWalk.i64_in _ ⟨by omega, by omega⟩]; omega
      have eg2 : wrap64 ((FL : Int) + (gy : Int)) = (gv : Int) := by rw [wrap_id (by omega) (by omega)]; omega
      have HL4 : Hid ((y.needs.map Int.toNat).length = y.needs.length) := hide (List.length_map ..)
      have HNV := hide y6
      have hl4h := hide hl4
      generalize hnl : y.needs.length = nl at *
      generalize y.bars.length = bl at *
      have bc0 := bC.cell 0 rfl
      have k0b := bwc (keep hbr hu)
      have k2b := bwc (keep hbr bc0)
      have HY := hide (And.intro y0 (And.intro y1 (And.intro y2 (And.intro y3 (And.intro y4 y5)))))
      clear hcc hcf e' e2 hval hcb y0 y1 y2 y3 y4 y5 y6 y7 hgy hgy19 hgv hg hkC hn hl4 hnl
      go_wp2_with fail
      refine wp_region_bw (by kernel_rfl) (by kernel_rfl) ?_
      repeat (go_big_quiet_step (fail))
      refine wpQuiet_nil ?_
      rintro _ ⟨i, rfl⟩
      obtain ⟨V, hV⟩ : ∃ V, i.W = V := ⟨_, rfl⟩
      have hi := i.h
      rw [hV] at hi ⊢
      have hbV := below2 hbr hi
      have HSZ := hide (Nat.lt_of_lt_of_le hsz hi.size)
      have HOW := hide (hown.later hi)
      have HBT := hide (hbT.later hi)
      obtain ⟨y0, y1, y2, y3, y4, y5⟩ := HY.out
      clear hbT k0b k2b hown hi hV hsz hbr
      go_wp2_with fail
      refine wp_region_inv [some 116, some 117, some 118, some 119, some 120, some 121, some 122, some 123, some 14, none] (fun L vs W => match vs with | [x0, x1, x2, x3, x4, x5, x6, x7, x8, x9] => (Below V.heap.size V W) ∧ (L 0 = true → x0 = .pointer (some ⟨cb, 0, none⟩)) ∧ (L 1 = true → x1 = .slice (some ⟨kb, ko, none⟩) cl kn) ∧ (L 2 = true → x2 = .slice (some ⟨Cb, Co, none⟩) CL Cn) ∧ (L 3 = true → x3 = .int .i64 (j : Nat)) ∧ (L 4 = true → x4 = .pointer (some ⟨Cb, Co + j, none⟩)) ∧ (L 5 = true → x5 = .int .i64 (n : Nat)) ∧ (L 6 = true → x6 = .pointer (some ⟨kb, ko + n * 6, none⟩)) ∧ (L 7 = true → x7 = .agg #[.int .i64 y.pub, .int .i64 y.sf, .int .i64 y.st, .slice na nl nn, .slice ba bl bn, .int .i64 (gy : Nat)]) ∧ (L 8 = true → (L 9 = false → ∃ b : Nat, x8 = .pointer (some ⟨b, 0, none⟩) ∧ V.heap.size ≤ b ∧ Blk W b [.int .i64 0, .int .i64 0, .int .i64 0, .slice none 0 0, .slice none 0 0, .int .i64 0] 38)) ∧ (L 9 = true → L 8 = true ∧ ∃ b : Nat, x8 = .pointer (some ⟨b, 0, none⟩) ∧ V.heap.size ≤ b ∧ Blk W b [.int .i64 y.pub, .int .i64 y.sf, .int .i64 y.st, .slice na nl nn, .slice ba bl bn, .int .i64 (gy : Nat)] 38) | _ => False) [_, _, _, _, _, _, _, _, _, undef] (by kernel_rfl) (by kernel_rfl) rfl (by simp only [puts, Act.put, List.setIfInBounds_toArray, List.set_cons_zero, List.set_cons_succ] <;> rfl) ?_ ?_ ?_
      · exact ⟨(Below.refl _ _).drew, (fun h => by cases h), (fun h => by cases h), (fun h => by cases h), (fun h => by cases h), (fun h => by cases h), (fun h => by cases h), (fun h => by cases h), (fun h => by cases h), (fun h => by cases h), (fun h => by cases h)⟩
      · refine ⟨?_, ?_, ?_, ?_, ?_, ?_, ?_, ?_, ?_, ?_, trivial⟩
        · intro L vs W hlen hL hD hI K hK
          obtain ⟨x0, x1, x2, x3, x4, x5, x6, x7, x8, x9, rfl⟩ := len10 hlen
          have hG := hI.1
          replace hI := hI.2
          have f0 := hide hI.1
          replace hI := hI.2
          have f1 := hide hI.1
          replace hI := hI.2
          have f2 := hide hI.1
          replace hI := hI.2
          have f3 := hide hI.1
          replace hI := hI.2
          have f4 := hide hI.1
          replace hI := hI.2
          have f5 := hide hI.1
          replace hI := hI.2
          have f6 := hide hI.1
          replace hI := hI.2
          have f7 := hide hI.1
          replace hI := hI.2
          have f8 := hide hI.1
          replace hI := hI.2
          have f9 := hide hI
          clear hI
          have r00 := hG.size
          have hLow := below2 hbV hG
          try simp only [puts, Act.put, List.setIfInBounds_toArray, List.set_cons_zero, List.set_cons_succ]
          try go_simp
          exact hK.out _ _ _ (by simp only [puts, Act.put, List.setIfInBounds_toArray, List.set_cons_zero, List.set_cons_succ] <;> rfl) ⟨hG, (fun _ => rfl), (fun h => f1.out h), (fun h => f2.out h), (fun h => f3.out h), (fun h => f4.out h), (fun h => f5.out h), (fun h => f6.out h), (fun h => f7.out h), (fun h => f8.out h), (fun h => f9.out h)⟩
        · intro L vs W hlen hL hD hI K hK
          obtain ⟨x0, x1, x2, x3, x4, x5, x6, x7, x8, x9, rfl⟩ := len10 hlen
          have hG := hI.1
          replace hI := hI.2
          have f0 := hide hI.1
          replace hI := hI.2
          have f1 := hide hI.1
          replace hI := hI.2
          have f2 := hide hI.1
          replace hI := hI.2
          have f3 := hide hI.1
          replace hI := hI.2
          have f4 := hide hI.1
          replace hI := hI.2
          have f5 := hide hI.1
          replace hI := hI.2
          have f6 := hide hI.1
          replace hI := hI.2
          have f7 := hide hI.1
          replace hI := hI.2
          have f8 := hide hI.1
          replace hI := hI.2
          have f9 := hide hI
          clear hI
          have r00 := hG.size
          have hLow := below2 hbV hG
          obtain rfl := f0.out (hD.on 0 (by kernel_rfl))
          try simp only [puts, Act.put, List.setIfInBounds_toArray, List.set_cons_zero, List.set_cons_succ]
          have r0 := keep hLow bc0
          go_simp
          exact hK.out _ _ _ (by simp only [puts, Act.put, List.setIfInBounds_toArray, List.set_cons_zero, List.set_cons_succ] <;> rfl) ⟨hG, (fun h => f0.out h), (fun _ => rfl), (fun h => f2.out h), (fun h => f3.out h), (fun h => f4.out h), (fun h => f5.out h), (fun h => f6.out h), (fun h => f7.out h), (fun h => f8.out h), (fun h => f9.out h)⟩
        · intro L vs W hlen hL hD hI K hK
          obtain ⟨x0, x1, x2, x3, x4, x5, x6, x7, x8, x9, rfl⟩ := len10 hlen
          have hG := hI.1
          replace hI := hI.2
          have f0 := hide hI.1
          replace hI := hI.2
          have f1 := hide hI.1
          replace hI := hI.2
          have f2 := hide hI.1
          replace hI := hI.2
          have f3 := hide hI.1
          replace hI := hI.2
          have f4 := hide hI.1
          replace hI := hI.2
          have f5 := hide hI.1
          replace hI := hI.2
          have f6 := hide hI.1
          replace hI := hI.2
          have f7 := hide hI.1
          replace hI := hI.2
          have f8 := hide hI.1
          replace hI := hI.2
          have f9 := hide hI
          clear hI
          have r00 := hG.size
          have hLow := below2 hbV hG
          try simp only [puts, Act.put, List.setIfInBounds_toArray, List.set_cons_zero, List.set_cons_succ]
          try go_simp
          exact hK.out _ _ _ (by simp only [puts, Act.put, List.setIfInBounds_toArray, List.set_cons_zero, List.set_cons_succ] <;> rfl) ⟨hG, (fun h => f0.out h), (fun h => f1.out h), (fun _ => rfl), (fun h => f3.out h), (fun h => f4.out h), (fun h => f5.out h), (fun h => f6.out h), (fun h => f7.out h), (fun h => f8.out h), (fun h => f9.out h)⟩
        · intro L vs W hlen hL hD hI K hK
          obtain ⟨x0, x1, x2, x3, x4, x5, x6, x7, x8, x9, rfl⟩ := len10 hlen
          have hG := hI.1
          replace hI := hI.2
          have f0 := hide hI.1
          replace hI := hI.2
          have f1 := hide hI.1
          replace hI := hI.2
          have f2 := hide hI.1
          replace hI := hI.2
          have f3 := hide hI.1
          replace hI := hI.2
          have f4 := hide hI.1
          replace hI := hI.2
          have f5 := hide hI.1
          replace hI := hI.2
          have f6 := hide hI.1
          replace hI := hI.2
          have f7 := hide hI.1
          replace hI := hI.2
          have f8 := hide hI.1
          replace hI := hI.2
          have f9 := hide hI
          clear hI
          have r00 := hG.size
          have hLow := below2 hbV hG
          try simp only [puts, Act.put, List.setIfInBounds_toArray, List.set_cons_zero, List.set_cons_succ]
          try go_simp
          exact hK.out _ _ _ (by simp only [puts, Act.put, List.setIfInBounds_toArray, List.set_cons_zero, List.set_cons_succ] <;> rfl) ⟨hG, (fun h => f0.out h), (fun h => f1.out h), (fun h => f2.out h), (fun _ => rfl), (fun h => f4.out h), (fun h => f5.out h), (fun h => f6.out h), (fun h => f7.out h), (fun h => f8.out h), (fun h => f9.out h)⟩
        · intro L vs W hlen hL hD hI K hK
          obtain ⟨x0, x1, x2, x3, x4, x5, x6, x7, x8, x9, rfl⟩ := len10 hlen
          have hG := hI.1
          replace hI := hI.2
          have f0 := hide hI.1
          replace hI := hI.2
          have f1 := hide hI.1
          replace hI := hI.2
          have f2 := hide hI.1
          replace hI := hI.2
          have f3 := hide hI.1
          replace hI := hI.2
          have f4 := hide hI.1
          replace hI := hI.2
          have f5 := hide hI.1
          replace hI := hI.2
          have f6 := hide hI.1
          replace hI := hI.2
          have f7 := hide hI.1
          replace hI := hI.2
          have f8 := hide hI.1
          replace hI := hI.2
          have f9 := hide hI
          clear hI
          have r00 := hG.size
          have hLow := below2 hbV hG
          obtain rfl := f2.out (hD.on 2 (by kernel_rfl))
          obtain rfl := f3.out (hD.on 3 (by kernel_rfl))
          try simp only [puts, Act.put, List.setIfInBounds_toArray, List.set_cons_zero, List.set_cons_succ]
          try go_simp
          exact hK.out _ _ _ (by simp only [puts, Act.put, List.setIfInBounds_toArray, List.set_cons_zero, List.set_cons_succ] <;> rfl) ⟨hG, (fun h => f0.out h), (fun h => f1.out h), (fun h => f2.out h), (fun h => f3.out h), (fun _ => rfl), (fun h => f5.out h), (fun h => f6.out h), (fun h => f7.out h), (fun h => f8.out h), (fun h => f9.out h)⟩
        · intro L vs W hlen hL hD hI K hK
          obtain ⟨x0, x1, x2, x3, x4, x5, x6, x7, x8, x9, rfl⟩ := len10 hlen
          have hG := hI.1
          replace hI := hI.2
          have f0 := hide hI.1
          replace hI := hI.2
          have f1 := hide hI.1
          replace hI := hI.2
          have f2 := hide hI.1
          replace hI := hI.2
          have f3 := hide hI.1
          replace hI := hI.2
          have f4 := hide hI.1
          replace hI := hI.2
          have f5 := hide hI.1
          replace hI := hI.2
          have f6 := hide hI.1
          replace hI := hI.2
          have f7 := hide hI.1
          replace hI := hI.2
          have f8 := hide hI.1
          replace hI := hI.2
          have f9 := hide hI
          clear hI
          have r00 := hG.size
          have hLow := below2 hbV hG
          obtain rfl := f4.out (hD.on 4 (by kernel_rfl))
          try simp only [puts, Act.put, List.setIfInBounds_toArray, List.set_cons_zero, List.set_cons_succ]
          have r0 := keep hLow hu
          go_simp
          exact hK.out _ _ _ (by simp only [puts, Act.put, List.setIfInBounds_toArray, List.set_cons_zero, List.set_cons_succ] <;> rfl) ⟨hG, (fun h => f0.out h), (fun h => f1.out h), (fun h => f2.out h), (fun h => f3.out h), (fun h => f4.out h), (fun _ => rfl), (fun h => f6.out h), (fun h => f7.out h), (fun h => f8.out h), (fun h => f9.out h)⟩
        · intro L vs W hlen hL hD hI K hK
          obtain ⟨x0, x1, x2, x3, x4, x5, x6, x7, x8, x9, rfl⟩ := len10 hlen
          have hG := hI.1
          replace hI := hI.2
          have f0 := hide hI.1
          replace hI := hI.2
          have f1 := hide hI.1
          replace hI := hI.2
          have f2 := hide hI.1
          replace hI := hI.2
          have f3 := hide hI.1
          replace hI := hI.2
          have f4 := hide hI.1
          replace hI := hI.2
          have f5 := hide hI.1
          replace hI := hI.2
          have f6 := hide hI.1
          replace hI := hI.2
          have f7 := hide hI.1
          replace hI := hI.2
          have f8 := hide hI.1
          replace hI := hI.2
          have f9 := hide hI
          clear hI
          have r00 := hG.size
          have hLow := below2 hbV hG
          obtain rfl := f1.out (hD.on 1 (by kernel_rfl))
          obtain rfl := f5.out (hD.on 5 (by kernel_rfl))
          try simp only [puts, Act.put, List.setIfInBounds_toArray, List.set_cons_zero, List.set_cons_succ]
          try go_simp
          exact hK.out _ _ _ (by simp only [puts, Act.put, List.setIfInBounds_toArray, List.set_cons_zero, List.set_cons_succ] <;> rfl) ⟨hG, (fun h => f0.out h), (fun h => f1.out h), (fun h => f2.out h), (fun h => f3.out h), (fun h => f4.out h), (fun h => f5.out h), (fun _ => rfl), (fun h => f7.out h), (fun h => f8.out h), (fun h => f9.out h)⟩
        · intro L vs W hlen hL hD hI K hK
          obtain ⟨x0, x1, x2, x3, x4, x5, x6, x7, x8, x9, rfl⟩ := len10 hlen
          have hG := hI.1
          replace hI := hI.2
          have f0 := hide hI.1
          replace hI := hI.2
          have f1 := hide hI.1
          replace hI := hI.2
          have f2 := hide hI.1
          replace hI := hI.2
          have f3 := hide hI.1
          replace hI := hI.2
          have f4 := hide hI.1
          replace hI := hI.2
          have f5 := hide hI.1
          replace hI := hI.2
          have f6 := hide hI.1
          replace hI := hI.2
          have f7 := hide hI.1
          replace hI := hI.2
          have f8 := hide hI.1
          replace hI := hI.2
          have f9 := hide hI
          clear hI
          have r00 := hG.size
          have hLow := below2 hbV hG
          obtain rfl := f6.out (hD.on 6 (by kernel_rfl))
          try simp only [puts, Act.put, List.setIfInBounds_toArray, List.set_cons_zero, List.set_cons_succ]
          have q0 := keep hLow y0
          have q1 := keep hLow y1
          have q2 := keep hLow y2
          have q3 := keep hLow y3
          have q4 := keep hLow y4
          have q5 := keep hLow y5
          go_simp
          exact hK.out _ _ _ (by simp only [puts, Act.put, List.setIfInBounds_toArray, List.set_cons_zero, List.set_cons_succ] <;> rfl) ⟨hG, (fun h => f0.out h), (fun h => f1.out h), (fun h => f2.out h), (fun h => f3.out h), (fun h => f4.out h), (fun h => f5.out h), (fun h => f6.out h), (fun _ => rfl), (fun h => f8.out h), (fun h => f9.out h)⟩
        · intro L vs W hlen hL hD hI K hK
          obtain ⟨x0, x1, x2, x3, x4, x5, x6, x7, x8, x9, rfl⟩ := len10 hlen
          have hG := hI.1
          replace hI := hI.2
          have f0 := hide hI.1
          replace hI := hI.2
          have f1 := hide hI.1
          replace hI := hI.2
          have f2 := hide hI.1
          replace hI := hI.2
          have f3 := hide hI.1
          replace hI := hI.2
          have f4 := hide hI.1
          replace hI := hI.2
          have f5 := hide hI.1
          replace hI := hI.2
          have f6 := hide hI.1
          replace hI := hI.2
          have f7 := hide hI.1
          replace hI := hI.2
          have f8 := hide hI.1
          replace hI := hI.2
          have f9 := hide hI
          clear hI
          have r00 := hG.size
          have hLow := below2 hbV hG
          try simp only [puts, Act.put, List.setIfInBounds_toArray, List.set_cons_zero, List.set_cons_succ]
          go_simp
          generalize hW' : World.alloc W _ = W'
          have hb : Below W.heap.size W W' := by rw [← hW']; exact bal W _
          exact hK.out _ _ _ (by simp only [puts, Act.put, List.setIfInBounds_toArray, List.set_cons_zero, List.set_cons_succ] <;> rfl) ⟨below2 hG hb, (fun h => f0.out h), (fun h => f1.out h), (fun h => f2.out h), (fun h => f3.out h), (fun h => f4.out h), (fun h => f5.out h), (fun h => f6.out h), (fun h => f7.out h), (fun _ => fun _ => ⟨W.heap.size, rfl, r00, by rw [← hW']; exact Blk.newA W _ rfl⟩), (fun h => (fun h => absurd (h.1.symm.trans hL) (by decide)) (f9.out h))⟩
        · intro L vs W hlen hL hD hI K hK
          obtain ⟨x0, x1, x2, x3, x4, x5, x6, x7, x8, x9, rfl⟩ := len10 hlen
          have hG := hI.1
          replace hI := hI.2
          have f0 := hide hI.1
          replace hI := hI.2
          have f1 := hide hI.1
          replace hI := hI.2
          have f2 := hide hI.1
          replace hI := hI.2
          have f3 := hide hI.1
          replace hI := hI.2
          have f4 := hide hI.1
          replace hI := hI.2
          have f5 := hide hI.1
          replace hI := hI.2
          have f6 := hide hI.1
          replace hI := hI.2
          have f7 := hide hI.1
          replace hI := hI.2
          have f8 := hide hI.1
          replace hI := hI.2
          have f9 := hide hI
          clear hI
          have r00 := hG.size
          have hLow := below2 hbV hG
          obtain rfl := f7.out (hD.on 7 (by kernel_rfl))
          have g8 := f8.out (hD.on 8 (by kernel_rfl))
          try simp only [puts, Act.put, List.setIfInBounds_toArray, List.set_cons_zero, List.set_cons_succ]
          obtain ⟨b0, rfl, hlb, hB0⟩ := g8 hL
          have z0 := hB0.frozen 0
          have z1 := hB0.frozen 1
          have z2 := hB0.frozen 2
          have z3 := hB0.frozen 3
          have z4 := hB0.frozen 4
          have z5 := hB0.frozen 5
          have z6 := hB0.cell 0 rfl
          have z7 := hB0.cell 1 rfl
          have z8 := hB0.cell 2 rfl
          have z9 := hB0.cell 3 rfl
          have za := hB0.cell 4 rfl
          have zb := hB0.cell 5 rfl
          go_simp
          have hb : True := trivial
          exact hK.out _ undef _ (by simp only [puts, Act.put, List.setIfInBounds_toArray, List.set_cons_zero, List.set_cons_succ] <;> rfl) ⟨(((((hG.setCell (p := ⟨b0, 0, none⟩) hlb _).setCell (p := ⟨b0, 1, none⟩) hlb _).setCell (p := ⟨b0, 2, none⟩) hlb _).setCell (p := ⟨b0, 3, none⟩) hlb _).setCell (p := ⟨b0, 4, none⟩) hlb _).setCell (p := ⟨b0, 5, none⟩) hlb _, (fun h => f0.out h), (fun h => f1.out h), (fun h => f2.out h), (fun h => f3.out h), (fun h => f4.out h), (fun h => f5.out h), (fun h => f6.out h), (fun h => f7.out h), (fun h => (fun h => (fun h19 => by cases h19)) (f8.out h)), (fun _ => ⟨hD.on 8 (by kernel_rfl), b0, rfl, hlb, (set6 hB0 _ _ _ _ _ _).1⟩)⟩
      intro L vs W hlen hall hI
      obtain ⟨x0, x1, x2, x3, x4, x5, x6, x7, x8, x9, rfl⟩ := len10 hlen
      have hG := hI.1
      replace hI := hI.2
      have f0 := hide hI.1
      replace hI := hI.2
      have f1 := hide hI.1
      replace hI := hI.2
      have f2 := hide hI.1
      replace hI := hI.2
      have f3 := hide hI.1
      replace hI := hI.2
      have f4 := hide hI.1
      replace hI := hI.2
      have f5 := hide hI.1
      replace hI := hI.2
      have f6 := hide hI.1
      replace hI := hI.2
      have f7 := hide hI.1
      replace hI := hI.2
      have f8 := hide hI.1
      replace hI := hI.2
      have f9 := hide hI
      clear hI
      obtain rfl := f0.out (hall 0 (by decide))
      obtain rfl := f1.out (hall 1 (by decide))
      obtain rfl := f2.out (hall 2 (by decide))
      obtain rfl := f3.out (hall 3 (by decide))
      obtain rfl := f4.out (hall 4 (by decide))
      obtain rfl := f5.out (hall 5 (by decide))
      obtain rfl := f6.out (hall 6 (by decide))
      obtain rfl := f7.out (hall 7 (by decide))
      have g8 := f8.out (hall 8 (by decide))
      have g9 := f9.out (hall 9 (by decide))
      have hal := hide hall
      clear hall f0 f1 f2 f3 f4 f5 f6 f7 f8 f9
      try simp only [puts, Act.put, List.setIfInBounds_toArray, List.set_cons_zero, List.set_cons_succ]
      obtain ⟨-, yb, rfl, hyb, bY⟩ := g9
      have hbW := below2 hbV hG
      have bT1 := HBT.out.later hG
      obtain ⟨Lr, hOR0, hLl, hLs⟩ := HOW.out
      obtain ⟨va, vc, rfl⟩ := own_form hOR0
      have HOR := hide (hOR0.later' hG)
      have HLS : Hid (∀ i, i < (R0 ++ (C.take j).map (ruleC FL c)).length → ∃ nv, Lr.getD i [] = [nv, .int .i64 ((R0 ++ (C.take j).map (ruleC FL c)).getD i rule0).gives] ∧ IntsIn (frmY w.heap.size 3 W) nv (natsJ ((R0 ++ (C.take j).map (ruleC FL c)).getD i rule0).needs)) := hide fun i hi => let ⟨nv, e, hn⟩ := hLs i hi; ⟨nv, e, hn.keeps (keeps_frmY_below hG)⟩
      have hln16 : Lr.length ≤ 16 := by rw [hLl, List.length_append, List.length_map, List.length_take]; omega
      have HLL := hide hLl
      have HSW : Hid (w.heap.size < W.heap.size) := hide (Nat.lt_of_lt_of_le HSZ.out hG.size)
      have HBW := hide hbW
      have bY' : Blk W yb [.int .i64 y.pub, .int .i64 y.sf, .int .i64 y.st, .slice na (y.needs.map Int.toNat).length nn, .slice ba bl bn, .int .i64 (gy : Nat)] 38 := by rw [HL4.out]; exact bY
      have HYY := hide bY'
      have HNW : Hid (IntsIn W.cell? (.slice na (y.needs.map Int.toNat).length nn) (natsJ (y.needs.map Int.toNat))) := hide (by rw [HL4.out, HNN.out]; exact IntsAt.below hbW HNV.out)
      have HTB := hide bT1
      have t0 := bT1.cell 0 rfl
      have y5 := bY.cell 5 rfl
      clear hLs hLl hOR0 hal g8 hG hbV bY' y0 y1 y2 y3 y4 hyb HOW HBT HY bT1 hbW bY
      go_wp2_with fail
      generalize hX1 : World.alloc W _ = X1
      have zX1 : X1.heap.size = W.heap.size + 1 := by rw [← hX1]; simp
      have bX1 : Below W.heap.size W X1 := by rw [← hX1]; exact bal W _
      have bR : Blk X1 (W.heap.size) [.slice none 0 0, .int .i64 gv] 51 := by rw [← hX1]; exact Blk.newA W _ (by first | rfl | simp)
      have Xb := bX1
      have Xz := zX1
      clear hX1 zX1 bX1
      refine just_loop4 W X1 w.heap.size yb FL gv _ _ _ _ _ _ na nn (y.needs.map Int.toNat) HTB.out HYY.out HNW.out HN19 (by rw [HL4.out]; exact hl4h.out) hFL bR Xb _ _ _ _ _ _ _ _ _ _ _ _ _ _ _ _ _ _ _ _ _ _ _ _ _ _ _ _ _ _ _ _ _ _ _ _ _ _ _ _ _ _ _ _ _ _ _ _ _ _ _ _ _ _ _ _ _ _ _ _ _ _ _ _ _ _ _ _ _ _ _ _ _ _ _ _ _ _ _ _ _ _ _ _ _ _ _ _ _ _ _ _ _ _ _ _ _ _ _ _ _ _ _ _ _ _ _ _ _ _ _ _ _ _ _ _ _ _ _ _ _ _ _ _ _ _ _ _ _ _ _ _ _ _ _ _ _ _ _ _ _ _ _ _ _ _ _ _ _ _ _ _ _ _ _ _ _ _ _ _ _ _ _ _ _ _ _ _ _ _ _ _ _ _ _ _ _ _ _ _ _ _ _ _ _ _ _ _ _ _ _ _ _ _ _ _ _ _ _ _ _ _ _ _ _ _ _ _ _ _ _ _ _ _ _ ?_
      intro t16 t130 t131 t132 t133 t134 t135 t136 t137 t138 t139 t140 t141 t142 t143 t144 t145 t146 t147 t148 t149 wr4 nlv hN4 bR4 hb4
      obtain ⟨ra, rc, rfl⟩ := hN4.form
      generalize (natsJ ((y.needs.map Int.toNat).map fun m => FL + m)).length = rn at *
      have hbT4 := HTB.out.later hb4
      have t2 := hbT4.cell 2 rfl
      have q0 := bR4.cell 0 rfl
      have q1 := bR4.cell 1 rfl
      have hOW := HOR.out.later' hb4
      have hsw4 : w.heap.size ≤ wr4.heap.size := Nat.le_trans (Nat.le_of_lt HSW.out) hb4.size
      have HN4 := hide hN4
      have HB4 := hide hb4
      clear hN4 Xb Xz bR bR4 hb4 t0 y5
      go_wp2_with (at_builtin; refine app_recE infoRule rfl (by decide) Tryz.underlying45 rfl _ _ rfl w.heap.size _ Lr rfl hOW [.slice ra rn rc, .int .i64 (gv : Nat)] rfl ruleC_one _ rfl rfl (by omega) (by omega) (by omega) ?_; intro v3 w3 hO3 hE3 hob3; obtain ⟨g3', c3', rfl⟩ := own_some hO3; have hbC3 : Blk w3 w.heap.size [.int .i64 (FL : Nat), .int .i64 20, .slice va Lr.length vc] 47 := hbT4.eff hE3 (fun e => hOW.neT hbT4 (by decide) e.symm); have r0 := hbC3.cell 2 rfl; have rf := hbC3.frozen 2)
      have hEE : EffE w.heap.size 51 wr4 w3 := effE_of_grown hOW ⟨hE3.os, hE3.tape, hE3.output, hE3.size, fun b hb hn => hE3.block b hb hn⟩
      have hEY : EffY w.heap.size 51 w.heap.size wr4 (w3.setCell ⟨w.heap.size, 2, none⟩ (.slice (some ⟨g3', 0, none⟩) (Lr.length + 1) c3')) := ((EffY.of_below (Below.refl _ _)).app hEE).set 2 _
      have hn4 : IntsIn (frmY w.heap.size 3 (w3.setCell ⟨w.heap.size, 2, none⟩ (.slice (some ⟨g3', 0, none⟩) (Lr.length + 1) c3'))) (.slice ra rn rc) (natsJ ((y.needs.map Int.toNat).map fun m => FL + m)) := (OwnI.intsY HN4.out (Nat.le_of_lt HSW.out)).keeps (keeps_frmY_effY hEY hbT4 (by decide) (by decide))
      have hro := rules_app (A := w.heap.size) HLL.out (fun i hi => let ⟨nv, e, hn⟩ := HLS.out i hi; ⟨nv, e, hn.keeps (keeps_frmY_below HB4.out)⟩) hEY hbT4 (by decide) (by decide) (x := ⟨(y.needs.map Int.toNat).map fun m => FL + m, gv⟩) hn4 (OwnR.setO (j := 2) hO3 hbC3 (by decide) _)
      rw [List.append_assoc, ← HTK.out] at hro
      have hlast := keeps_low_effY hEY (Nat.le_refl _) (Nat.le_refl _) (below2 HBW.out HB4.out)
      exact ⟨⟨j + 1, _, by have := HK.out; omega, by go_num, hro, hbC3.set 2 _, hlast, Nat.lt_of_lt_of_le (Nat.lt_of_lt_of_le HSW.out HB4.out.size) hEY.size⟩, by have := HK.out; simp [intOf]; omega⟩
    · have hkm : j = CL := by omega
      rw [hkm, HE.out] at hown
      have HO := hide hown
      clear hkm hown
      go_wp2_with fail
      exact hexit _ _ _ _ _ _ _ _ _ _ _ _ _ _ _ _ _ _ _ _ _ _ _ _ _ _ _ _ _ _ _ _ _ _ _ _ _ _ _ _ _ _ _ _ _ _ _ _ _ _ _ _ _ _ _ _ _ _ _ _ _ _ _ _ _ _ wr lv HO.out hbT hbr hsz
end Go.Proofs.YtdjldidfnddpmaaGreatDoor
