/- Walks of package statute: Decide. Conditions: how the laws lie in memory. -/
import Derived.Test.YtdjldidfnddpmaaGreatDoorSuN
import Derived.Test.YtdjldidfnddpmaaGreatDoorSpA
namespace Go.Proofs.YtdjldidfnddpmaaGreatDoor
open Go.RowKit Go.Maps
/-- a list of one's own is no map -/
theorem OwnR.noMap {f : Int → Value} {w : World} {B k b n : Nat} {e : TypeId} {v : Value} {L : List (List Value)} {ks : List Int} (h : OwnR w B e k v L) (hm : OwnF f w b n ks) : ∀ g, v.ownBlock = some g → ¬ g = b := by
  intro g hg e1
  subst e1
  obtain ⟨es, clock, hb, -⟩ := hm
  rcases h.form with ⟨rfl, -⟩ | ⟨g', c, cur, rfl, -, e3, -⟩
  · cases hg
  · have hg : g' = g := Option.some.inj hg
    subst hg
    rw [hb] at e3; cases e3
theorem OwnR.grown {f : Int → Value} {w w' : World} {B k b n : Nat} {e : TypeId} {v : Value} {L : List (List Value)} {ks : List Int} (h : OwnR w B e k v L) (hm : OwnF f w b n ks) (hg : w.grownBy w' (some b)) : OwnR w' B e k v L := by
  have hn := h.noMap hm
  refine h.eff (S := fun j => j = b) ⟨hg.os, hg.tape, hg.output, hg.size, fun j hj hne => hg.block j hj (by simp; exact hne)⟩ hn
theorem JudgeAt.own {w W W' : World} {J M : Nat} {cv rv fv Fv Cv : Value} {c : CodeD} {F C : List Nat} {ks0 ks : List Int} (h0 : JudgeAt w J M cv rv fv Fv Cv c F C ks0) (hg : w.grownBy W' (some M)) (h : JudgeAt W J M cv rv fv Fv Cv c F C ks)
    (hm : OwnF (fun x => findV (findN c F C x.toNat)) W' M ks.length ks) : JudgeAt W' J M cv rv fv Fv Cv c F C ks :=
  have K := grown_keeps h0.map hg
  ⟨h0.code.keeps K, h0.hF.keeps K, h0.hC.keeps K, grown_blk h0.map hg h0.blk, hm, h.nod, h.rng⟩
theorem grown_below {w0 w w' : World} {M : Nat} (hb : Below w0.heap.size w0 w) (hg : w.grownBy w' (some M)) (hM : w0.heap.size ≤ M) : Below w0.heap.size w0 w' :=
  ⟨hg.os.trans hb.os, hg.tape.trans hb.tape, hg.output.trans hb.output, Nat.le_trans hb.size hg.size, fun k hk => (hg.block k (Nat.lt_of_lt_of_le hk hb.size) (by simp; omega)).trans (hb.block k hk)⟩
theorem own_ge {w : World} {B k : Nat} {e : TypeId} {v : Value} {L : List (List Value)} (h : OwnR w B e k v L) : ∀ j, some j = v.ownBlock → B ≤ j := fun j hj => by
  rcases h.form with ⟨rfl, -⟩ | ⟨g, c, cur, rfl, e2, -⟩
  · cases hj
  · have hj : j = g := Option.some.inj hj
    omega
theorem judge_app {w2 w3 w' : World} {J M : Nat} {cv rv fv Fv Cv v : Value} {c : CodeD} {F C : List Nat} {ks0 ks : List Int} {L : List (List Value)} {e : TypeId} {k : Nat} (h2 : JudgeAt w2 J M cv rv fv Fv Cv c F C ks0) (hg : w2.grownBy w3 (some M)) (h3 : JudgeAt w3 J M cv rv fv Fv Cv c F C ks)
    (hown : OwnR w3 w2.heap.size e k v L) (hE : Eff (fun k => some k = v.ownBlock) w3 w') : w2.grownBy w' (some M) ∧ JudgeAt w' J M cv rv fv Fv Cv c F C ks := by
  have g' : w2.grownBy w' (some M) := ⟨hE.os.trans hg.os, hE.tape.trans hg.tape, hE.output.trans hg.output, Nat.le_trans hg.size hE.size, fun j hj hn => (hE.block j (Nat.lt_of_lt_of_le hj hg.size) (fun e => by have := own_ge hown j e; omega)).trans (hg.block j hj hn)⟩
  exact ⟨g', h2.own g' h3 (h3.map.kept ⟨hE.os, hE.tape, hE.output, hE.size, fun j hj hn => hE.block j hj hn⟩ (fun e => hown.noMap h3.map M e.symm rfl))⟩
def DecideQ (c : CodeD) (q : QueryD) (w : World) (e : Ending) (w' : World) : Prop :=
  ∃ lv, e = .returned (.tuple #[.bool (validC c && asksB q && answerB c q), lv, .int .i64 (errS c q)]) ∧ FindsIn (frm w.heap.size w') lv (if validC c && asksB q then decideP c q else []) ∧ Below w.heap.size w w'
theorem tabF_succ (c : CodeD) (F C : List Nat) (k : Nat) : tabF c F C (k + 1) = tabF c F C k ++ [findN c F C k] := by
  have h := tabF_get c F C (k := k + 1) (n := k) (Nat.lt_succ_self _)
  rw [← h]
  simp only [tabF]
  rw [getD_app_right _ _ _ _ (by rw [tabF_len]; exact Nat.le_refl _), tabF_len, Nat.sub_self]; rfl
set_option maxHeartbeats 2000000 in
set_option maxRecDepth 100000 in
theorem decideS_any (c : CodeD) (q : QueryD) (cv rv fv : Value) (w : World) (h : CodeIn w.cell? cv rv fv c) : Calls Tryz.prog 8 #[codeV cv rv fv, queryV q] w (DecideQ c q w) := by
  have HO := hide (fun W (hb : Below w.heap.size w W) => openS_any c q cv rv fv W (h.below hb))
  have HR : Hid (errS c q = if validC c && asksB q then 0 else 310) := hide rfl
  have HD : Hid (DecideQ c q w = DecideQ c q w) := hide rfl
  obtain ⟨⟨ca, cn, rfl, -, -, -⟩, ⟨ra, rn, rfl, -, -, -⟩, ⟨fa, fn, rfl, -, -, -⟩⟩ := id h
  clear h
  generalize hDQ : DecideQ c q w = DQ at HD ⊢
  have HDQ := hide hDQ
  clear hDQ HD
  go_enter Tryz.func8, Tryz.ntmps8
  go_wp2_with fail
  generalize hX1 : World.alloc w _ = X1
  have zX1 : X1.heap.size = w.heap.size + 1 := by rw [← hX1]; simp
  have bX1 : Below w.heap.size w X1 := by rw [← hX1]; exact bal w _
  have bC_1 : Blk X1 (w.heap.size) [.slice ca c.clauses.length cn, .slice ra c.repeals.length rn, .slice fa c.facts.length fn] 32 := by rw [← hX1]; exact Blk.newA w _ (by first | rfl | simp)
  generalize hX2 : World.alloc X1 _ = X2
  have zX2 : X2.heap.size = w.heap.size + 1 + 1 := by rw [← hX2]; simp [zX1]
  have bX2 : Below X1.heap.size X1 X2 := by rw [← hX2]; exact bal X1 _
  have bQ : Blk X2 (w.heap.size + 1) (queryC q) 40 := by rw [← hX2, ← zX1]; exact Blk.newA X1 _ (by first | rfl | simp)
  have bC := bC_1.later bX2
  have Xb := below2 (bX1) bX2
  have Xz := zX2
  clear hX1 zX1 bX1 hX2 zX2 bX2 bC_1
  have c0 := bC.cell 0 rfl
  have c1 := bC.cell 1 rfl
  have c2 := bC.cell 2 rfl
  have q0 := bQ.cell 0 rfl
  have q1 := bQ.cell 1 rfl
  have q2 := bQ.cell 2 rfl
  have q3 := bQ.cell 3 rfl
  refine (HO.out _ Xb).mono ?_
  rintro e w2 ⟨J, M, Fv, Cv, rfl, hw2, hJ0, hM0, hJ⟩
  have X2 := below2 Xb hw2
  have bQ2 := bQ.later hw2
  have hXs := Xb.size
  cases hv : (validC c && asksB q)
  · rw [hv] at HR
    have e1 : errS c q = 310 := HR.out
    have HV := hide hv
    have HE1 := hide e1
    rw [e1]
    clear hv hJ c0 c1 c2 q0 q1 q2 q3 e1
    go_wp2_with fail
    go_ret3
    rw [← HDQ.out]
    refine ⟨_, by rw [HV.out, HE1.out]; rfl, by rw [HV.out]; exact RecIn.nil _, X2⟩
  · rw [hv] at HR
    have e1 : errS c q = 0 := HR.out
    have HV := hide hv
    have HE1 := hide e1
    have hq := asks_says (q := q) (by rw [Bool.and_eq_true] at hv; exact hv.2)
    have HVC : Hid (validC c = true) := hide (by rw [Bool.and_eq_true] at hv; exact hv.1)
    have HJ := hide (hJ hv)
    have HP : Hid (decideP c q = pruneF c (factsF c q) (clausesF c q) q.says (soN c (factsF c q) (clausesF c q) q.says) q.says.toNat (tabF c (factsF c q) (clausesF c q) (q.says.toNat + 1))) := hide rfl
    have HA : Hid (answerB c q = soN c (factsF c q) (clausesF c q) q.says) := hide rfl
    have HFl := hide (fun i (hi : i ∈ factsF c q) => (factsF_lt hi).1)
    have HCl := hide (fun i (hi : i ∈ clausesF c q) => (clausesF_lt hi).1)
    generalize factsF c q = F at HJ HP HA HFl
    generalize clausesF c q = C at HJ HP HA HCl
    rw [e1]
    obtain ⟨N, hN⟩ : ∃ N : Nat, q.says = N := ⟨q.says.toNat, by omega⟩
    have HN := hide hN
    have hN19 : N ≤ 19 := by omega
    clear hv hJ c0 c1 c2 q0 q1 q2 q3 e1 hq
    have bQ2' : Blk w2 (w.heap.size + 1) [.int .i64 q.thing, .int .i64 N, .int .i64 q.day, .int .i64 q.known] 40 := by rw [← hN]; exact bQ2
    have HQ := hide bQ2'
    have q1 := bQ2'.cell 1 rfl
    have HX2 := hide X2
    have hM0' : w.heap.size ≤ M := by omega
    have HM0 := hide hM0'
    clear bQ bQ2 bQ2' bC Xb Xz hN hJ0 hM0 hM0' hXs X2 hw2
    go_wp2_with fail
    go_loopw [9, 26] (fun v i wr => ∃ (k : Nat) (ks : List Int), k ≤ N + 1 ∧ i = .int .i64 k ∧ OwnFi wr w2.heap.size v (tabF c F C k) ∧ w2.grownBy wr (some M) ∧ JudgeAt wr J M (.slice ca c.clauses.length cn) (.slice ra c.repeals.length rn) (.slice fa c.facts.length fn) Fv Cv c F C ks) (fun _ i _ => N + 1 - (intOf i).toNat)
    case atStart => exact ⟨0, [], by omega, rfl, OwnR.nil _ _ _ _, ⟨rfl, rfl, rfl, Nat.le_refl _, fun _ _ _ => rfl⟩, HJ.out⟩
    case round =>
      obtain ⟨k, ks, hk, rfl, hown, hg, hJr⟩ := hrel
      by_cases hlt : k < N + 1
      · have HK := hide hlt
        have HC := hide (soS_any J M _ _ _ Fv Cv c F C HVC.out HFl.out HCl.out k (by omega) (by omega) wr ks hJr)
        have hltI : (k : Int) < N + 1 := by omega
        go_wp2_with fail
        refine HC.out.mono ?_
        rintro e w3 ⟨rfl, hg3, ks3, hJ3, hs3, hx3, -⟩
        have hown3 := hown.grown hJr.map hg3
        have hg23 := grown2 hg hg3
        have hat := hJ3.map.at (x := k) (by omega) (by omega) hx3
        have m5 := hJ3.blk.cell 5 rfl
        have HS := hide (tabF_succ c F C k)
        simp only [Int.toNat_natCast] at hat
        have hlen : (tabF c F C k).length = k := tabF_len c F C k
        have HKS := hide (And.intro hs3 hx3)
        have HG23 := hide hg23
        have HJ3 := hide hJ3
        have HO3 := hide hown3
        have hB3 := hg23.size
        generalize findN c F C k = y at hat HS
        clear hs3 hx3 hg23 hJ3 hg3 hown hg hJr
        have HLEN := hide hlen
        clear hlen q1
        go_wp2_with ((at_builtin; refine app_recE infoFind rfl (by decide) Tryz.underlying52 rfl _ _ rfl w2.heap.size _ _ rfl hown3 (findC y) rfl (fun u hu => by simp only [findC, List.mem_cons, List.not_mem_nil, or_false] at hu; rcases hu with rfl | rfl | rfl | rfl <;> rfl) _ rfl rfl (by rw [List.length_map, HLEN.out]; omega) (by rw [List.length_map, HLEN.out]; omega) hB3 ?_; intro v' w4 hown4 hE4 hob4))
        have hx := judge_app HJ.out HG23.out HJ3.out HO3.out hE4
        go_roundw
        case rel => exact ⟨k + 1, ks3, by have := HK.out; omega, by go_num, by rw [HS.out]; show OwnR w4 _ _ _ v' (List.map _ _); rw [List.map_append]; exact hown4, hx.1, hx.2⟩
        case measure => have := HK.out; simp [intOf]; omega
      · obtain rfl : k = N + 1 := by omega
        have HC := hide (soS_any J M _ _ _ Fv Cv c F C HVC.out HFl.out HCl.out N (by omega) (by omega) wr ks hJr)
        have hM1 := hg.block
        have bQr := grown_blk HJ.out.map hg HQ.out
        have q1 := bQr.cell 1 rfl
        have HBR := hide (grown_below HX2.out hg HM0.out)
        have hfi := hide hown
        obtain ⟨va, vc, rfl⟩ : ∃ va vc, u9 = .slice va (N + 1) vc := by
          rcases hown.form with ⟨-, h2⟩ | ⟨g, c', cur, rfl, -⟩
          · have := congrArg List.length h2; rw [List.length_map, tabF_len] at this; simp at this
          · rw [List.length_map, tabF_len]; exact ⟨_, _, rfl⟩
        have HBQ := hide bQr
        have HJR := hide hJr
        clear hM1 hown hg hJr bQr
        go_wp2_with fail
        refine HC.out.mono ?_
        rintro e w3 ⟨rfl, hg3, ks3, hJ3, hs3, hx3, -⟩
        have hA : (findN c F C (N : Int).toNat).holds = answerB c q := by rw [HA.out, HN.out]; rfl
        rw [hA]
        have HO3 := hide (hfi.out.grown HJR.out.map hg3)
        have bQ3 := grown_blk HJR.out.map hg3 HBQ.out
        have q1 := bQ3.cell 1 rfl
        have HB3 := hide (grown_below HBR.out hg3 HM0.out)
        have HBQ3 := hide bQ3
        have HJ3 := hide hJ3
        clear hg3 hs3 hx3 hJ3 bQ3 hA
        have hNl : ((N + 1 : Nat) : Int) ≤ 20 := by omega
        go_wp2_with fail
        go_loopw [9, 12] (fun v i wr => ∃ (k : Nat) (l : List FindD), i = .int .i64 ((k : Int) - 1) ∧ k ≤ 19 ∧ k + 1 ≤ l.length ∧ l.length ≤ 20 ∧ FindsIn (frm w.heap.size wr) v l ∧ Hid (decideP c q = pruneF c F C q.says (answerB c q) k l) ∧ Below w3.heap.size w3 wr) (fun _ i _ => (intOf i + 1).toNat)
        case atStart =>
          refine ⟨N, tabF c F C (N + 1), by first | go_num | (exact i64_eq (by omega)), by omega, by rw [tabF_len]; omega, by rw [tabF_len]; omega, OwnFi.inF HO3.out (by have := HX2.out.size; omega), hide ?_, Below.refl _ _⟩
          rw [HP.out, HA.out, HN.out]; rfl
        case round =>
          obtain ⟨k, l, rfl, hk19, hkl, hl20, hfl, HPR, hbr⟩ := hrel
          cases k with
          | zero =>
            have hz : decide ((0 : Int) ≤ ((0 : Nat) : Int) - 1) = false := by decide
            have HF := hide hfl
            go_wp2_with fail
            go_ret3
            rw [← HDQ.out]
            refine ⟨_, by rw [HV.out, HE1.out]; rfl, ?_, below2 HB3.out hbr⟩
            rw [HV.out]
            show FindsIn _ _ (decideP c q)
            rw [HPR.out]; exact HF.out
          | succ k =>
            have hk0 : ((k + 1 : Nat) : Int) - 1 = k := by omega
            rw [hk0]
            obtain ⟨a, m, rfl, -⟩ := id hfl
            have HFL := hide hfl
            have HKL := hide (And.intro hk19 (And.intro hkl hl20))
            have HBR2 := hide hbr
            have HCL := hide (clonef_any l _ wr hfl.at (by omega))
            have hk2 : (k : Int) ≤ 19 := by omega
            have HPR' := hide (HPR.out.trans rfl : decideP c q = pruneF c F C q.says (answerB c q) k (if provesB c F C q.says (answerB c q) (l.eraseIdx k) then l.eraseIdx k else l))
            clear hk19 hkl hl20 hfl HPR hbr hk0
            go_wp2_with fail
            refine HCL.out.mono ?_
            rintro e w4 ⟨lv, rfl, hown4, hw4⟩
            obtain ⟨hk19, hkl, hl20⟩ := HKL.out
            obtain ⟨g, cc, rfl, hgB⟩ : ∃ g cc, lv = .slice (some ⟨g, 0, none⟩) l.length cc ∧ wr.heap.size ≤ g := by
              rcases hown4.form with ⟨-, h2⟩ | ⟨g, c', cur, rfl, h3, -⟩
              · have := congrArg List.length h2; rw [List.length_map] at this; simp at this; rw [this] at hkl; simp at hkl
              · rw [List.length_map]; exact ⟨_, _, rfl, h3⟩
            have HDL := hide (delete_any l g l.length cc _ k w4 hown4 (by omega) (by omega))
            have hE1 : (l.eraseIdx k).length = l.length - 1 := List.length_eraseIdx_of_lt (by omega)
            have HEL := hide hE1
            have HGB := hide hgB
            clear hown4 hk19 hkl hl20 hgB hE1
            go_wp2_with fail
            refine HDL.out.mono ?_
            rintro e w5 ⟨rfl, hown5, hg5⟩
            have hw5 : Below wr.heap.size wr w5 := grown_below hw4 hg5 HGB.out
            have hw35 := below2 HBR2.out hw5
            have bQ5 := HBQ3.out.later hw35
            have q1 := bQ5.cell 1 rfl
            have HJ5 := hide (HJ3.out.later hw35)
            have HPV := hide (proves_any J M _ _ _ Fv Cv _ c F C HVC.out HFl.out HCl.out q.says (answerB c q) (l.eraseIdx k) w5 _ HJ5.out (OwnFi.inF hown5 (Nat.zero_le _)).at)
            rw [show Value.int IntKind.i64 q.says = Value.int IntKind.i64 (N : Int) by rw [HN.out]] at HPV
            have HO5 := hide hown5
            have HW5 := hide hw5
            have HW35 := hide hw35
            clear hown5 hg5 hw5 hw35 bQ5 hw4
            go_wp2_with fail
            refine HPV.out.mono ?_
            rintro e w6 ⟨rfl, hw6⟩
            cases hpb : provesB c F C q.says (answerB c q) (l.eraseIdx k)
            · rw [hpb] at HPR'
              have HPB := hide hpb
              clear hpb
              go_wp2_with fail
              go_roundw
              case rel => exact ⟨k, l, by first | go_num | (exact i64_eq (by omega)), by have := HKL.out; omega, by have := HKL.out; omega, HKL.out.2.2, HFL.out.keeps (keeps_frm_later fun j _ h2 => (below2 HW5.out hw6).block j h2), hide (by rw [HPR'.out]; rfl), below2 HW35.out hw6⟩
              case measure => simp [intOf]
            · rw [hpb] at HPR'
              have HPB := hide hpb
              clear hpb
              go_wp2_with fail
              go_roundw
              case rel => exact ⟨k, l.eraseIdx k, by first | go_num | (exact i64_eq (by omega)), by have := HKL.out; omega, by have := HKL.out; have := HEL.out; omega, by have := HKL.out; have := HEL.out; omega, (OwnFi.inF HO5.out (by have := HW35.out.size; have := HB3.out.size; have := HBR2.out.size; omega)).keeps (keeps_frm_later fun j _ h2 => hw6.block j h2), hide (by rw [HPR'.out]; rfl), below2 HW35.out hw6⟩
              case measure => simp [intOf]
end Go.Proofs.YtdjldidfnddpmaaGreatDoor
