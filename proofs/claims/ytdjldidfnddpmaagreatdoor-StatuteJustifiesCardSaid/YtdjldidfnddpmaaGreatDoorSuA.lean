/- Walks of package statute: find, where so answers for lesser numbers. Conditions: valid laws; the indices are in range; who answers lies in memory. -/
import Derived.Test.YtdjldidfnddpmaaGreatDoorStZ
namespace Go.Proofs.YtdjldidfnddpmaaGreatDoor
open Go.RowKit Go.Maps
theorem intsN_getD (l : List Nat) (k : Nat) : (intsN l).getD k 0 = ((l.getD k 0 : Nat) : Int) := by
  unfold intsN
  rw [List.getD_eq_getElem?_getD, List.getD_eq_getElem?_getD, List.getElem?_map]
  cases l[k]? <;> rfl
theorem intsN_len (l : List Nat) : (intsN l).length = l.length := by simp [intsN]
theorem findT_fact {c : CodeD} {F C : List Nat} {so : Int → Bool} {x : Int} {i : Nat} (h : F.find? (saysB c x) = some i) : findT c F C so x = ⟨x, true, i, -1⟩ := by unfold findT; rw [h]
theorem findT_clause {c : CodeD} {F C : List Nat} {so : Int → Bool} {x : Int} {i : Nat} (h : F.find? (saysB c x) = none) (h2 : C.find? (firesB c so x) = some i) : findT c F C so x = ⟨x, true, -1, i⟩ := by unfold findT; rw [h]; show (match C.find? (firesB c so x) with | some i => _ | none => _) = _; rw [h2]
theorem findT_none {c : CodeD} {F C : List Nat} {so : Int → Bool} {x : Int} (h : F.find? (saysB c x) = none) (h2 : C.find? (firesB c so x) = none) : findT c F C so x = ⟨x, false, -1, -1⟩ := by unfold findT; rw [h]; show (match C.find? (firesB c so x) with | some i => _ | none => _) = _; rw [h2]
theorem all_not {α : Type} (p : α → Bool) (l : List α) : (l.all fun x => !p x) = !l.any p := by
  rw [← Bool.not_not (l.all _), ← any_not]; simp
theorem KeptJ.up {w0 w1 W : World} {J M : Nat} {cv rv fv Fv Cv : Value} {c : CodeD} {F C : List Nat} {ks : List Int} {x : Int} (h : KeptJ w1 J M cv rv fv Fv Cv c F C ks x W) (hg : w0.grownBy w1 (some M)) : KeptJ w0 J M cv rv fv Fv Cv c F C ks x W :=
  ⟨grown2 hg h.1, h.2⟩
/-- a box of one's own is written -/
theorem judge_set {w W : World} {J M : Nat} {cv rv fv Fv Cv : Value} {c : CodeD} {F C : List Nat} {ks ks' : List Int} (h : JudgeAt w J M cv rv fv Fv Cv c F C ks) (hW : w.grownBy W (some M) ∧ JudgeAt W J M cv rv fv Fv Cv c F C ks') {R : Nat} (hR : w.heap.size ≤ R) (j : Nat) (u : Value) :
    w.grownBy (W.setCell ⟨R, j, none⟩ u) (some M) ∧ JudgeAt (W.setCell ⟨R, j, none⟩ u) J M cv rv fv Fv Cv c F C ks' := by
  obtain ⟨hg, hJ⟩ := hW
  have g' : w.grownBy (W.setCell ⟨R, j, none⟩ u) (some M) := ⟨hg.os, hg.tape, hg.output, by have := hg.size; simpa [World.setCell] using this, fun i hi hn => (Below.heap_setCell W ⟨R, j, none⟩ u i (by show i ≠ R; omega)).trans (hg.block i hi hn)⟩
  have K := grown_keeps h.map g'
  have hM := h.map.lt
  exact ⟨g', h.code.keeps K, h.hF.keeps K, h.hC.keeps K, grown_blk h.map g' h.blk, World.ownsMap.setCell hJ.map (a := ⟨R, j, none⟩) (by show M ≠ R; omega) u, hJ.nod, hJ.rng⟩
set_option maxHeartbeats 2000000 in
theorem findS_of (J M : Nat) (cv rv fv Fv Cv : Value) (c : CodeD) (F C : List Nat) (hV : validC c = true) (hFl : ∀ i ∈ F, i < c.facts.length) (hCl : ∀ i ∈ C, i < c.clauses.length) (x : Int) (h0 : 0 ≤ x) (_h1 : x ≤ 19) (hS : SoAt J M cv rv fv Fv Cv c F C x)
    (w : World) (ks : List Int) (h : JudgeAt w J M cv rv fv Fv Cv c F C ks) : Calls Tryz.prog 53 #[.pointer (some ⟨J, 0, none⟩), .int .i64 x] w (FindQ J M cv rv fv Fv Cv c F C ks x w) := by
  have H := hide h
  have HV := hide hV
  have HFl := hide hFl
  have HCl := hide hCl
  have HS := hide hS
  have HN : Hid (findN c F C x.toNat = findT c F C (soN c F C) x) := hide (by rw [findN_eq hV hCl, Int.toNat_of_nonneg h0])
  obtain ⟨fa, fn, e1, hf1, hf2, -⟩ := id h.hF
  obtain ⟨ca, cn, e2, hc1, hc2, -⟩ := id h.hC
  rw [intsN_len] at e1 hf1 e2 hc1
  subst e1 e2
  have hlF : (F.length : Int) ≤ 9223372036854775807 := by omega
  have hlC : (C.length : Int) ≤ 9223372036854775807 := by omega
  clear h hV hFl hCl hS
  have j3 : ∀ o1 o2, ((w.alloc o1).alloc o2).cell? ⟨J, 3, none⟩ = some (.slice fa F.length fn) := fun o1 o2 => keep (below2 (bal w o1) (bal _ o2)) (H.out.blk.cell 3 rfl)
  go_enter Tryz.func53, Tryz.ntmps53
  go_wp2_with fail
  generalize hX1 : World.alloc w _ = X1
  have zX1 : X1.heap.size = w.heap.size + 1 := by rw [← hX1]; simp
  have bX1 : Below w.heap.size w X1 := by rw [← hX1]; exact bal w _
  have bJ_1 : Blk X1 (w.heap.size) [.pointer (some ⟨J, 0, none⟩)] 80 := by rw [← hX1]; exact Blk.newA w _ (by first | rfl | simp)
  generalize hX2 : World.alloc X1 _ = X2
  have zX2 : X2.heap.size = w.heap.size + 1 + 1 := by rw [← hX2]; simp [zX1]
  have bX2 : Below X1.heap.size X1 X2 := by rw [← hX2]; exact bal X1 _
  have bR : Blk X2 (w.heap.size + 1) (findC find0) 66 := by rw [← hX2, ← zX1]; exact Blk.newA X1 _ (by first | rfl | simp)
  have bJ := bJ_1.later bX2
  have Xb := below2 (bX1) bX2
  have Xz := zX2
  clear hX1 zX1 bX1 hX2 zX2 bX2 bJ_1
  clear j3
  have HJ := hide (H.out.later Xb)
  have HXb := hide Xb
  have HbJ := hide bJ
  have HbR := hide bR
  clear Xb bJ bR
  go_loopw [16] (fun i wr => ∃ (k : Nat), k ≤ F.length ∧ i = .int .i64 k ∧ Hid ((F.take k).any (saysB c x) = false) ∧ wr = X2) (fun i _ => F.length - (intOf i).toNat)
  case atStart => exact ⟨0, by omega, rfl, rfl, rfl⟩
  case round =>
    obtain ⟨k, hk, rfl, HA, rfl⟩ := hrel
    by_cases hlt : k < F.length
    · have hi := HFl.out _ (getD_mem F k (d := 0) hlt)
      obtain ⟨a', n', e', -, -, hck⟩ := HJ.out.hF
      rw [intsN_len] at e'
      cases e'
      obtain ⟨b, o, rfl, hcl⟩ := hck k (by rw [intsN_len]; exact hlt)
      rw [intsN_getD] at hcl
      clear hck
      obtain ⟨fa', fn', ef, -, -, hcf⟩ := HJ.out.code.fa
      obtain ⟨fb, fo, rfl, hcg⟩ := hcf _ hi
      have f1 : wr.cell? ⟨fb, fo + F.getD k 0 * 6 + 1, none⟩ = some (.int .i64 (c.facts.getD (F.getD k 0) fact0).says) := hcg 1 _ rfl
      subst ef
      have j2 := HJ.out.blk.cell 2 rfl
      have pj := HbJ.out.cell 0 rfl
      have HT := hide (fun h => any_take_succ (d := 0) (p := saysB c x) hlt HA.out h)
      have HD := hide (fun h => find_at (d := 0) (p := saysB c x) hlt HA.out h)
      have HSB : Hid (saysB c x (F.getD k 0) = decide ((c.facts.getD (F.getD k 0) fact0).says = x)) := hide rfl
      generalize (c.facts.getD (F.getD k 0) fact0).says = sy at f1 HSB
      generalize hgi : F.getD k 0 = gi at hi hcl f1 HT HD HSB
      have hlf : (c.facts.length : Int) ≤ 9223372036854775807 := by
        have := HV.out
        simp only [validC, Bool.and_eq_true, decide_eq_true_eq] at this; omega
      clear hcf hcg hgi
      by_cases e : sy = x
      · have e' : (sy == x) = true := by simp [e]
        have z0 := HbR.out.frozen 0
        have z1 := HbR.out.frozen 1
        have z2 := HbR.out.frozen 2
        have z3 := HbR.out.frozen 3
        have y0 := HbR.out.cell 0 rfl
        have y1 := HbR.out.cell 1 rfl
        have y2 := HbR.out.cell 2 rfl
        have y3 := HbR.out.cell 3 rfl
        have HE := hide e
        clear e
        go_wp2_with fail
        have hC := (((HbR.out.set 0 (.int .i64 x)).set 1 (.bool true)).set 2 (.int .i64 gi)).set 3 (.int .i64 (-1))
        have hR : w.heap.size ≤ w.heap.size + 1 := Nat.le_succ _
        have hJ := judge_set H.out (judge_set H.out (judge_set H.out (judge_set H.out ⟨grownS HXb.out M, HJ.out⟩ hR 0 (.int .i64 x)) hR 1 (.bool true)) hR 2 (.int .i64 gi)) hR 3 (.int .i64 (-1))
        refine bodyPost_ret (results_cell_row (p := 4) rfl _ _ (w.heap.size + 1) _ _ _ _ rfl hC Tryz.underlying66 rfl (by kernel_rfl)) rfl ?_
        refine ⟨?_, hJ.1, ks, hJ.2, fun _ h => h, fun _ h => .inl h⟩
        rw [HN.out, findT_fact (HD.out (by rw [HSB.out]; exact decide_eq_true HE.out))]
        rfl
      · have e' : (sy == x) = false := by simp [e]
        have HE := hide e
        clear e
        go_wp2_with fail
        go_roundw
        case rel => exact ⟨k + 1, by omega, by go_num, hide (HT.out (by rw [HSB.out]; exact decide_eq_false HE.out)), trivial⟩
        case measure => simp [intOf]; omega
    · obtain rfl : k = F.length := by omega
      have HF0 := hide (find_no (by have := HA.out; rwa [List.take_length] at this))
      obtain ⟨X, rfl⟩ : ∃ X, X = wr := ⟨_, rfl⟩
      have j4 := HJ.out.blk.cell 4 rfl
      have pj := HbJ.out.cell 0 rfl
      go_wp2_with fail
      clear j4 pj
      go_loopw [40] (fun i wr => ∃ (k : Nat), k ≤ C.length ∧ i = .int .i64 k ∧ Hid ((C.take k).any (firesB c (soN c F C) x) = false) ∧ Hid (KeptJ X J M cv rv fv (.slice fa F.length fn) (.slice ca C.length cn) c F C ks x wr)) (fun i _ => C.length - (intOf i).toNat)
      case atStart => exact ⟨0, by omega, rfl, rfl, hide ⟨grownS (Below.refl _ _) M, ks, HJ.out, fun _ h => h, fun _ h => .inl h⟩⟩
      case round =>
        obtain ⟨k, hk, rfl, HA2, HK⟩ := hrel
        obtain ⟨hg, ks2, hJ, hs2, hl2⟩ := id HK.out
        by_cases hlt2 : k < C.length
        · have hi := HCl.out _ (getD_mem C k (d := 0) hlt2)
          obtain ⟨a', n', e', -, -, hck⟩ := hJ.hC
          rw [intsN_len] at e'
          cases e'
          obtain ⟨b, o, rfl, hcl⟩ := hck k (by rw [intsN_len]; exact hlt2)
          rw [intsN_getD] at hcl
          obtain ⟨ca', cn', ec, -, -, hcf⟩ := hJ.code.cl
          obtain ⟨cb, co, nv, bv, rfl, hcg⟩ := hcf _ hi
          subst ec
          obtain ⟨na, nc, rfl, -⟩ := id hcg.2.2.2.2.2.2.1
          obtain ⟨ba, bc, rfl, -⟩ := id hcg.2.2.2.2.2.2.2
          have hlc : (c.clauses.length : Int) ≤ 9223372036854775807 := by
            have := HV.out
            simp only [validC, Bool.and_eq_true, decide_eq_true_eq] at this; omega
          have hterm := hide (valid_terms HV.out hi)
          have HT := hide (fun h => any_take_succ (d := 0) (p := firesB c (soN c F C) x) hlt2 HA2.out h)
          have HD := hide (fun h => find_at (d := 0) (p := firesB c (soN c F C) x) hlt2 HA2.out h)
          have HFB : Hid (firesB c (soN c F C) x (C.getD k 0) = (decide ((c.clauses.getD (C.getD k 0) clause0).gives = x) && !((c.clauses.getD (C.getD k 0) clause0).needs.any fun m => !soN c F C m) && !((c.clauses.getD (C.getD k 0) clause0).bars.any (soN c F C)))) := hide (by
            unfold firesB; rw [any_not, Bool.not_not, all_not])
          generalize c.clauses.getD (C.getD k 0) clause0 = z at hcg hterm HFB
          generalize C.getD k 0 = gi at hi hcl hcg hterm HT HD HFB
          have a0 := hcg.1
          have a1 := hcg.2.1
          have a2 := hcg.2.2.1
          have a3 := hcg.2.2.2.1
          have a4 := hcg.2.2.2.2.1
          have a5 := hcg.2.2.2.2.2.1
          have hn1 := hide hcg.2.2.2.2.2.2.1
          have hn2 := hide hcg.2.2.2.2.2.2.2
          have HJr := hide hJ
          have Hg := hide hg
          have Hs2 := hide hs2
          have Hl2 := hide hl2
          have bJr := grown_blk HJ.out.map hg HbJ.out
          have HbJr := hide bJr
          have j0 := hJ.blk.cell 0 rfl
          have pj := bJr.cell 0 rfl
          clear hck hcf hcg hg hs2 hl2 hJ bJr HK
          by_cases e : z.gives = x
          · have e' : (z.gives == x) = true := by simp [e]
            have HE := hide e
            clear e
            go_wp2_with fail
            generalize hY1 : World.alloc wr _ = Y1
            have zY1 : Y1.heap.size = wr.heap.size + 1 := by rw [← hY1]; simp
            have bY1 : Below wr.heap.size wr Y1 := by rw [← hY1]; exact bal wr _
            have bX : Blk Y1 (wr.heap.size) (clauseC z (.slice na z.needs.length nc) (.slice ba z.bars.length bc)) 38 := by rw [← hY1]; exact Blk.newA wr _ (by first | rfl | simp)
            have Yb := bY1
            have Yz := zY1
            clear hY1 zY1 bY1
            have hJ1 := HJr.out.later Yb
            have hbJ1 := HbJr.out.later Yb
            have gX1 := grown2 Hg.out (grownS Yb M)
            have hK1 : KeptJ Y1 J M (.slice (some ⟨cb, co, none⟩) c.clauses.length cn') rv fv (.slice fa F.length fn) (.slice (some ⟨b, o, none⟩) C.length cn) c F C ks x Y1 := ⟨grownS (Below.refl _ _) M, ks2, hJ1, Hs2.out, Hl2.out⟩
            have hne1 := hn1.out.keeps (keeps_of_below Yb)
            have hne2 := hn2.out.keeps (keeps_of_below Yb)
            have HC1 := hide (has_not Y1 J M w.heap.size _ _ _ _ _ _ c F C ks2 ks x HS.out hJ1 hbJ1 z.needs (fun m hm => by have := hterm.out.2.1 m hm; rw [HE.out] at this; exact this) _ Y1 (fun W hK => hne1.keeps (grown_keeps hJ1.map hK.1)) hK1)
            have HC2 := hide (fun W (hW : KeptJ Y1 J M (.slice (some ⟨cb, co, none⟩) c.clauses.length cn') rv fv (.slice fa F.length fn) (.slice (some ⟨b, o, none⟩) C.length cn) c F C ks x W) => has_so Y1 J M _ _ _ _ _ c F C ks x HS.out z.bars (fun m hm => by have := hterm.out.2.2 m hm; rw [HE.out] at this; exact this) _ W (fun W hK => hne2.keeps (grown_keeps hJ1.map hK.1)) hW)
            generalize z.needs.any (fun m => !soN c F C m) = b1 at HC1 HFB
            generalize z.bars.any (soN c F C) = b2 at HC2 HFB
            have HGX := hide gX1
            have HJ1 := hide hJ1
            have HbJ1 := hide hbJ1
            have HbX := hide bX
            clear hJ1 hbJ1 gX1 hK1 hne1 hne2 bX a0 a1 a2 a3 a4 a5 j0 pj hcl
            refine HC1.out.mono ?_
            rintro e w2 ⟨rfl, hK2⟩
            have HK2 := hide hK2
            have x4 := (grown_blk HJ1.out.map hK2.1 HbX.out).cell 4 rfl
            have pj2 := (grown_blk HJ1.out.map hK2.1 HbJ1.out).cell 0 rfl
            clear hK2
            cases b1
            · go_wp2_with fail
              refine (HC2.out _ HK2.out).mono ?_
              rintro e w3 ⟨rfl, hK3⟩
              have HK3 := hide (KeptJ.up hK3 HGX.out)
              clear hK3 x4 pj2
              cases b2
              · have bR3 := grown_blk HJ.out.map HK3.out.1 HbR.out
                have HbR3 := hide bR3
                have z0 := bR3.frozen 0
                have z1 := bR3.frozen 1
                have z2 := bR3.frozen 2
                have z3 := bR3.frozen 3
                have y0 := bR3.cell 0 rfl
                have y1 := bR3.cell 1 rfl
                have y2 := bR3.cell 2 rfl
                have y3 := bR3.cell 3 rfl
                clear bR3
                go_wp2_with fail
                have hC := (((HbR3.out.set 0 (.int .i64 x)).set 1 (.bool true)).set 2 (.int .i64 (-1))).set 3 (.int .i64 gi)
                have hR : w.heap.size ≤ w.heap.size + 1 := Nat.le_succ _
                obtain ⟨hg3, ks3, hJ3, hs3, hl3⟩ := HK3.out
                have hJ := judge_set H.out (judge_set H.out (judge_set H.out (judge_set H.out ⟨grown2 (grownS HXb.out M) hg3, hJ3⟩ hR 0 (.int .i64 x)) hR 1 (.bool true)) hR 2 (.int .i64 (-1))) hR 3 (.int .i64 gi)
                refine bodyPost_ret (results_cell_row (p := 4) rfl _ _ (w.heap.size + 1) _ _ _ _ rfl hC Tryz.underlying66 rfl (by kernel_rfl)) rfl ?_
                refine ⟨?_, hJ.1, ks3, hJ.2, hs3, hl3⟩
                rw [HN.out, findT_clause HF0.out (HD.out (by rw [HFB.out, decide_eq_true HE.out]; rfl))]
                rfl
              · go_wp2_with fail
                go_roundw
                case rel => exact ⟨k + 1, by omega, by go_num, hide (HT.out (by rw [HFB.out]; simp)), HK3⟩
                case measure => simp [intOf]; omega
            · have HK3 := hide (KeptJ.up HK2.out HGX.out)
              go_wp2_with fail
              go_roundw
              case rel => exact ⟨k + 1, by omega, by go_num, hide (HT.out (by rw [HFB.out]; simp)), HK3⟩
              case measure => simp [intOf]; omega
          · have e' : (z.gives == x) = false := by simp [e]
            have HE := hide e
            clear e
            go_wp2_with fail
            refine ⟨⟨k + 1, by omega, by go_num, hide (HT.out (by rw [HFB.out, decide_eq_false HE.out]; rfl)), hide ⟨grown2 Hg.out (grownS (bal wr _) M), ks2, HJr.out.later (bal wr _), Hs2.out, Hl2.out⟩⟩, ?_⟩
            simp [intOf]; omega
        · obtain rfl : k = C.length := by omega
          have HC0 := hide (find_no (by have := HA2.out; rwa [List.take_length] at this))
          have bR3 := grown_blk HJ.out.map hg HbR.out
          have HbR3 := hide bR3
          have z0 := bR3.frozen 0
          have z1 := bR3.frozen 1
          have z2 := bR3.frozen 2
          have z3 := bR3.frozen 3
          have y0 := bR3.cell 0 rfl
          have y1 := bR3.cell 1 rfl
          have y2 := bR3.cell 2 rfl
          have y3 := bR3.cell 3 rfl
          clear bR3 hg hJ hs2 hl2
          go_wp2_with fail
          have hC := (((HbR3.out.set 0 (.int .i64 x)).set 1 (.bool false)).set 2 (.int .i64 (-1))).set 3 (.int .i64 (-1))
          have hR : w.heap.size ≤ w.heap.size + 1 := Nat.le_succ _
          obtain ⟨hg3, ks3, hJ3, hs3, hl3⟩ := HK.out
          have hJ := judge_set H.out (judge_set H.out (judge_set H.out (judge_set H.out ⟨grown2 (grownS HXb.out M) hg3, hJ3⟩ hR 0 (.int .i64 x)) hR 1 (.bool false)) hR 2 (.int .i64 (-1))) hR 3 (.int .i64 (-1))
          refine bodyPost_ret (results_cell_row (p := 4) rfl _ _ (w.heap.size + 1) _ _ _ _ rfl hC Tryz.underlying66 rfl (by kernel_rfl)) rfl ?_
          refine ⟨?_, hJ.1, ks3, hJ.2, hs3, hl3⟩
          rw [HN.out, findT_none HF0.out HC0.out]
          rfl
end Go.Proofs.YtdjldidfnddpmaaGreatDoor
