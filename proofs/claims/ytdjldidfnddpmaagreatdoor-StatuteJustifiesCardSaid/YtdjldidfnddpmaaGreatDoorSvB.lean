/- Walks of package statute: Uses. Conditions: how the laws and the list lie in memory. -/
import Derived.Test.YtdjldidfnddpmaaGreatDoorSvA
namespace Go.Proofs.YtdjldidfnddpmaaGreatDoor
open Go.RowKit Go.Maps
theorem inserted_len (l : List Int) (n : Int) : (insertedF l n).length ≤ l.length + 1 := by
  unfold insertedF
  split
  · omega
  · rw [insA_len]; exact Nat.le_refl _
theorem putAll_len : ∀ (xs l : List Int), (putAll l xs).length ≤ l.length + xs.length
  | [], l => by simp [putAll]
  | x :: xs, l => by
    have e : putAll l (x :: xs) = putAll (insertedF l x) xs := rfl
    have h1 := putAll_len xs (insertedF l x)
    have h2 := inserted_len l x
    rw [e, List.length_cons]; omega
theorem usesF_take (l : List FindD) {k : Nat} (h : k < l.length) : usesF (l.take (k + 1)) = putAll (usesF (l.take k)) (leanF (l.getD k find0)) := by
  unfold usesF
  rw [take_succ' l k find0 h, List.foldl_append]; rfl
theorem usesC_take (c : CodeD) (C : List Nat) (l : List FindD) {k : Nat} (h : k < l.length) : usesC c C (l.take (k + 1)) = putAll (usesC c C (l.take k)) (leanC c C (l.getD k find0)) := by
  unfold usesC
  rw [take_succ' l k find0 h, List.foldl_append]; rfl
theorem leanF_len (x : FindD) : (leanF x).length ≤ 1 := by unfold leanF; split <;> simp
theorem leanC_len (c : CodeD) (C : List Nat) (x : FindD) : (leanC c C x).length ≤ C.length + 1 := by
  unfold leanC
  split
  · simp
  · split
    · simp
    · rw [List.length_map]; exact Nat.le_trans (List.length_filter_le _ _) (by omega)
theorem usesF_len (l : List FindD) : ∀ k, k ≤ l.length → (usesF (l.take k)).length ≤ k
  | 0, _ => by simp [usesF]
  | k + 1, h => by
    rw [usesF_take l (by omega)]
    have h1 := putAll_len (leanF (l.getD k find0)) (usesF (l.take k))
    have h2 := usesF_len l k (by omega)
    have h3 := leanF_len (l.getD k find0)
    omega
theorem usesC_len (c : CodeD) (C : List Nat) (l : List FindD) : ∀ k, k ≤ l.length → (usesC c C (l.take k)).length ≤ k * (C.length + 1)
  | 0, _ => by simp [usesC]
  | k + 1, h => by
    rw [usesC_take c C l (by omega), Nat.succ_mul]
    have h1 := putAll_len (leanC c C (l.getD k find0)) (usesC c C (l.take k))
    have h2 := usesC_len c C l k (by omega)
    have h3 := leanC_len c C (l.getD k find0)
    omega
theorem proves_len {c : CodeD} {F C : List Nat} {n : Int} {h : Bool} {l : List FindD} (hp : provesB c F C n h l = true) : l.length ≤ 20 := by
  obtain ⟨h1, h2, -⟩ := proves_iff.1 hp
  have := asc_len (l := l.map FindD.says) (m := 20) (by unfold AscI; rw [List.pairwise_map]; exact h1) (fun i hi => by
    obtain ⟨x, hx, rfl⟩ := List.mem_map.1 hi
    have := (h2 x hx).1; omega)
  simpa using this
/-- the clauses among the first ones that give a number, put in -/
def putsK (c : CodeD) (C : List Nat) (n : Int) (a : List Int) (j : Nat) : List Int := putAll a (((C.take j).filter fun i => decide ((c.clauses.getD i clause0).gives = n)).map fun (i : Nat) => (i : Int))
theorem putsK_succ (c : CodeD) (C : List Nat) (n : Int) (a : List Int) {j : Nat} (h : j < C.length) : putsK c C n a (j + 1) = if (c.clauses.getD (C.getD j 0) clause0).gives = n then insertedF (putsK c C n a j) ((C.getD j 0 : Nat) : Int) else putsK c C n a j := by
  unfold putsK
  rw [take_succ' C j 0 h, List.filter_append, List.map_append]
  by_cases e : (c.clauses.getD (C.getD j 0) clause0).gives = n
  · rw [if_pos e, List.filter_cons_of_pos (by rw [decide_eq_true e])]
    unfold putAll
    rw [List.foldl_append]; rfl
  · rw [if_neg e, List.filter_cons_of_neg (by rw [decide_eq_false e]; simp)]
    simp
theorem putsK_asc (c : CodeD) (C : List Nat) (n : Int) {a : List Int} (h : AscI a) (j : Nat) : AscI (putsK c C n a j) := (putAll_spec h).1
theorem putsK_len (c : CodeD) (C : List Nat) (n : Int) (a : List Int) (j : Nat) : (putsK c C n a j).length ≤ a.length + C.length := by
  unfold putsK
  have h1 := putAll_len (((C.take j).filter fun i => decide ((c.clauses.getD i clause0).gives = n)).map fun (i : Nat) => (i : Int)) a
  rw [List.length_map] at h1
  have h2 := List.length_filter_le (fun i => decide ((c.clauses.getD i clause0).gives = n)) (C.take j)
  rw [List.length_take] at h2
  omega
/-- two lists of one's own in blocks of their own -/
structure TwoI (w : World) (B : Nat) (v1 v2 : Value) (l1 l2 : List Int) : Prop where
  o1 : OwnI w B v1 l1
  o2 : OwnI w B v2 l2
  ne : ∀ g, v1.ownBlock = some g → v2.ownBlock ≠ some g
theorem TwoI.later {w w' : World} {B : Nat} {v1 v2 : Value} {l1 l2 : List Int} (h : TwoI w B v1 v2 l1 l2) (hb : Below w.heap.size w w') : TwoI w' B v1 v2 l1 l2 := ⟨h.o1.later hb, h.o2.later hb, h.ne⟩
theorem ownI_lt {w : World} {B : Nat} {v : Value} {l : List Int} (h : OwnI w B v l) : ∀ g, v.ownBlock = some g → B ≤ g ∧ g < w.heap.size := fun g hg => by
  rcases h.2 with ⟨rfl, -⟩ | ⟨g', cap, cur, rfl, e2, e3, -⟩
  · cases hg
  · have hg : g' = g := Option.some.inj hg
    subst hg
    exact ⟨e2, (Array.getElem?_eq_some_iff.1 e3).1⟩
theorem TwoI.put1 {w w' : World} {B : Nat} {v1 v2 : Value} {l1 l2 l : List Int} {e : Ending} (h : TwoI w B v1 v2 l1 l2) (hB : B ≤ w.heap.size) (hq : OwnToE B v1 l w e w') : ∃ v, e = .returned v ∧ TwoI w' B v v2 l l2 ∧ Below B w w' := by
  obtain ⟨v, rfl, ho, hE, hob⟩ := hq
  refine ⟨v, rfl, ⟨ho, h.o2.eff hE fun g hg e => h.ne g e.symm hg, fun g hg => ?_⟩, hE.below hB fun k hk => (ownI_lt h.o1 k hk.symm).1⟩
  rcases hob with h1 | h1
  · rw [h1] at hg; exact h.ne g hg
  · intro h2; have := (ownI_lt h.o2 g h2).2; have := h1 g hg; omega
theorem TwoI.put2 {w w' : World} {B : Nat} {v1 v2 : Value} {l1 l2 l : List Int} {e : Ending} (h : TwoI w B v1 v2 l1 l2) (hB : B ≤ w.heap.size) (hq : OwnToE B v2 l w e w') : ∃ v, e = .returned v ∧ TwoI w' B v1 v l1 l ∧ Below B w w' := by
  obtain ⟨v, rfl, ho, hE, hob⟩ := hq
  refine ⟨v, rfl, ⟨h.o1.eff hE fun g hg e => h.ne g hg e.symm, ho, fun g hg => ?_⟩, hE.below hB fun k hk => (ownI_lt h.o2 k hk.symm).1⟩
  rcases hob with h1 | h1
  · rw [h1]; exact h.ne g hg
  · intro h2; have := (ownI_lt h.o1 g hg).2; have := h1 g h2; omega
theorem blk_ins {w w' : World} {B b : Nat} {v1 v2 : Value} {l1 l2 l : List Int} {e : Ending} {vs : List Value} {T : TypeId} (h : TwoI w B v1 v2 l1 l2) (hq : OwnToE B v2 l w e w') (hb : Blk w b vs T) (hT : T ≠ 3) : Blk w' b vs T := by
  obtain ⟨v, rfl, ho, hE, hob⟩ := hq
  exact hb.eff hE fun he => h.o2.neT hb hT he.symm
theorem one_at {w : World} {b : Nat} {y : Int} {t : TypeId} (h : Blk w b [.int .i64 y] t) : IntsAt w (.slice (some ⟨b, 0, none⟩) 1 1) [y] := ⟨some ⟨b, 0, none⟩, 1, rfl, by simp, by omega, fun k hk => ⟨b, 0, rfl, by
  have e : k = 0 := by simp at hk; exact hk
  subst e
  exact h.cell 0 rfl⟩⟩
def usesB (c : CodeD) (q : QueryD) (l : List FindD) : Bool := checkB c q true l || checkB c q false l
def usesErr (c : CodeD) (q : QueryD) (l : List FindD) : Int := if usesB c q l then 0 else 310
def usesFacts (c : CodeD) (q : QueryD) (l : List FindD) : List Int := if usesB c q l then usesF l else []
def usesClauses (c : CodeD) (q : QueryD) (l : List FindD) : List Int := if usesB c q l then usesC c (clausesF c q) l else []
set_option maxRecDepth 100000 in
set_option maxHeartbeats 4000000 in
theorem usesS_any (c : CodeD) (q : QueryD) (cv rv fv lv : Value) (l : List FindD) (w : World) (h : CodeIn w.cell? cv rv fv c) (hl : FindsIn w.cell? lv l) : Calls Tryz.prog 13 #[codeV cv rv fv, queryV q, lv] w (Ret3 (usesFacts c q l) (usesClauses c q l) (usesErr c q l) w) := by
  have HO := hide (fun W (hb : Below w.heap.size w W) => openS_any c q cv rv fv W (h.below hb))
  have HL := hide hl
  have HR : Hid (errS c q = if validC c && asksB q then 0 else 310) := hide rfl
  have HP := hide (fun hV J M Fv Cv W ks h (hJ : JudgeAt W J M cv rv fv Fv Cv c (factsF c q) (clausesF c q) ks) (hl : FindsIn W.cell? lv l) => proves_any J M cv rv fv Fv Cv lv c _ _ hV (fun _ hi => (factsF_lt hi).1) (fun _ hi => (clausesF_lt hi).1) q.says h l W ks hJ hl)
  have HN1 : Hid (usesB c q l = false → usesFacts c q l = [] ∧ usesClauses c q l = [] ∧ usesErr c q l = 310) := hide fun h => by unfold usesFacts usesClauses usesErr; rw [h]; exact ⟨rfl, rfl, rfl⟩
  have HN2 : Hid (usesB c q l = true → usesFacts c q l = usesF l ∧ usesClauses c q l = usesC c (clausesF c q) l ∧ usesErr c q l = 0) := hide fun h => by unfold usesFacts usesClauses usesErr; rw [h]; exact ⟨rfl, rfl, rfl⟩
  have HUB : Hid (usesB c q l = ((validC c && asksB q && provesB c (factsF c q) (clausesF c q) q.says true l) || (validC c && asksB q && provesB c (factsF c q) (clausesF c q) q.says false l))) := hide rfl
  have HLN := hide (fun b (hp : provesB c (factsF c q) (clausesF c q) q.says b l = true) => proves_len hp)
  generalize usesFacts c q l = UF at HN1 HN2 ⊢
  generalize usesClauses c q l = UC at HN1 HN2 ⊢
  generalize usesErr c q l = UE at HN1 HN2 ⊢
  generalize usesB c q l = UB at HN1 HN2 HUB
  obtain ⟨⟨ca, cn, rfl, -, -, -⟩, ⟨ra, rn, rfl, -, -, -⟩, ⟨fa, fn, rfl, -, -, -⟩⟩ := id h
  obtain ⟨la, ln, rfl, hl1, hl2, -⟩ := id hl
  clear h hl
  go_enter Tryz.func13, Tryz.ntmps13
  go_wp2_with fail
  generalize hX1 : World.alloc w _ = X1
  have zX1 : X1.heap.size = w.heap.size + 1 := by rw [← hX1]; simp
  have bX1 : Below w.heap.size w X1 := by rw [← hX1]; exact bal w _
  have bC_1 : Blk X1 (w.heap.size) [.slice ca c.clauses.length cn, .slice ra c.repeals.length rn, .slice fa c.facts.length fn] 32 := by rw [← hX1]; exact Blk.newA w _ (by first | rfl | simp)
  generalize hX2 : World.alloc X1 _ = X2
  have zX2 : X2.heap.size = w.heap.size + 1 + 1 := by rw [← hX2]; simp [zX1]
  have bX2 : Below X1.heap.size X1 X2 := by rw [← hX2]; exact bal X1 _
  have bQ : Blk X2 (w.heap.size + 1) (queryC q) 40 := by rw [← hX2, ← zX1]; exact Blk.newA X1 _ (by first | rfl | simp)
  have bC := bC_1.later bX2
  have Xb := below2 (bX1) bX2
  have Xz := zX2
  clear hX1 zX1 bX1 hX2 zX2 bX2 bC_1
  have c0 := bC.cell 0 rfl
  have c1 := bC.cell 1 rfl
  have c2 := bC.cell 2 rfl
  have q0 := bQ.cell 0 rfl
  have q1 := bQ.cell 1 rfl
  have q2 := bQ.cell 2 rfl
  have q3 := bQ.cell 3 rfl
  refine (HO.out _ Xb).mono ?_
  rintro e w2 ⟨J, M, Fv, Cv, rfl, hw2, hJ0, hM0, hJ⟩
  have X2 := below2 Xb hw2
  have bQ2 := bQ.later hw2
  have bC2 := bC.later hw2
  have q1 := bQ2.cell 1 rfl
  cases hv : (validC c && asksB q)
  · rw [hv] at HR HUB
    have e1 : errS c q = 310 := HR.out
    obtain ⟨rfl, rfl, rfl⟩ := HN1.out (by rw [HUB.out]; rfl)
    rw [e1]
    clear hv hJ c0 c1 c2 q0 q1 q2 q3 e1
    go_wp2_with fail
    go_ret3
    exact ⟨_, _, rfl, IntsIn.nil _, IntsIn.nil _, X2⟩
  · rw [hv] at HR HUB
    have e1 : errS c q = 0 := HR.out
    rw [e1]
    have hV : validC c = true := by rw [Bool.and_eq_true] at hv; exact hv.1
    have HJ := hide (hJ hv)
    have HCl := hide (fun i (hi : i ∈ clausesF c q) => (clausesF_lt hi).1)
    have HC20 : Hid (c.clauses.length ≤ 20) := hide (by simp only [validC, Bool.and_eq_true, decide_eq_true_eq] at hV; exact hV.1.1.1.1.1)
    have HCL : Hid ((clausesF c q).length ≤ c.clauses.length) := hide (by unfold clausesF; exact Nat.le_trans (List.length_filter_le _ _) (by simp))
    have HP' := hide (HP.out hV J M Fv Cv)
    generalize factsF c q = F at HJ HP' HUB HLN
    generalize clausesF c q = C at HJ HP' HUB HLN HCl HCL HN2
    obtain ⟨Ca, Cn, hCv, -⟩ := id HJ.out.hC
    rw [intsN_len] at hCv
    subst hCv
    have HT := hide (fun b => HP'.out w2 [] b HJ.out (HL.out.below X2))
    have HX2 := hide X2
    have HBC := hide bC2
    have HBQ := hide bQ2
    clear hv hJ c0 c1 c2 q0 q2 q3 e1 hV HP bQ2 bC2 bQ bC Xb Xz hJ0 hM0 X2 hw2
    go_wp2_with fail
    refine (HT.out true).mono ?_
    rintro e w3 ⟨rfl, hw3⟩
    have HJ3 := hide (HJ.out.later hw3)
    have HX3 := hide (below2 HX2.out hw3)
    have HBC3 := hide (HBC.out.later hw3)
    have HBQ3 := hide (HBQ.out.later hw3)
    cases hp1 : provesB c F C q.says true l
    · have HT3 := hide (HP'.out w3 [] false HJ3.out (HL.out.below HX3.out))
      replace q1 := HBQ3.out.cell 1 rfl
      have HP1 := hide hp1
      clear hw3 hp1
      go_wp2_with fail
      refine HT3.out.mono ?_
      rintro e w4 ⟨rfl, hw4⟩
      have HJ4 := hide (HJ3.out.later hw4)
      have HX4 := hide (below2 HX3.out hw4)
      have HBC4 := hide (HBC3.out.later hw4)
      have HBQ4 := hide (HBQ3.out.later hw4)
      cases hp2 : provesB c F C q.says false l
      · obtain ⟨rfl, rfl, rfl⟩ := HN1.out (by rw [HUB.out, HP1.out, hp2]; rfl)
        clear hw4 hp2
        go_wp2_with fail
        go_ret3
        exact ⟨_, _, rfl, IntsIn.nil _, IntsIn.nil _, HX4.out⟩
      · obtain ⟨rfl, rfl, rfl⟩ := HN2.out (by rw [HUB.out, HP1.out, hp2]; rfl)
        have HLL := hide (HLN.out false hp2)
        clear hw4 hp2
        have hll := HLL.out
        have hB := HX4.out.size
        clear q1 HLN HN1 HN2 HP' HT HUB
        go_wp2_with fail
        go_loopw [11, 12, 43] (fun v1 v2 i wr => ∃ (k : Nat), k ≤ l.length ∧ i = .int .i64 k ∧ TwoI wr w4.heap.size v1 v2 (usesF (l.take k)) (usesC c C (l.take k)) ∧ Below w4.heap.size w4 wr) (fun _ _ i _ => l.length - (intOf i).toNat)
        case atStart => exact ⟨0, by omega, rfl, ⟨OwnI.nil _ _, OwnI.nil _ _, fun g hg => by cases hg⟩, Below.refl _ _⟩
        case round =>
          obtain ⟨k, hk, rfl, htwo, hbr⟩ := hrel
          by_cases hlt : k < l.length
          · have HK := hide hlt
            have hXr := below2 HX4.out hbr
            obtain ⟨b, o, e, hck⟩ := (HL.out.below hXr).cell hlt
            cases e
            have HUF := hide (usesF_take l hlt)
            have HUC := hide (usesC_take c C l hlt)
            have ha1 := (usesF_spec (l.take k)).1
            have ha2 := (usesC_spec c C (l.take k)).1
            have hn1 := usesF_len l k (by omega)
            have hn2 := usesC_len c C l k (by omega)
            have hn3 : k * (C.length + 1) ≤ 20 * 21 := Nat.mul_le_mul (by omega) (by have := HCL.out; have := HC20.out; omega)
            generalize l.getD k find0 = x at hck HUF HUC
            generalize usesF (l.take k) = l1 at *
            generalize usesC c C (l.take k) = l2 at *
            have c0 := hck 0 _ rfl
            have c1 := hck 1 _ rfl
            have c2 := hck 2 _ rfl
            have c3 := hck 3 _ rfl
            rw [Nat.add_zero] at c0
            have HA := hide (And.intro ha1 (And.intro ha2 (And.intro hn1 (Nat.le_trans hn2 hn3))))
            have HTW := hide htwo
            have HBR := hide hbr
            have HXR := hide hXr
            clear hck ha1 ha2 hn1 hn2 hn3 htwo hbr hXr
            by_cases hf : 0 ≤ x.fact
            · have HLF : Hid (leanF x = [x.fact] ∧ leanC c C x = []) := hide (by unfold leanF leanC; rw [if_pos hf, if_pos hf]; exact ⟨rfl, rfl⟩)
              go_wp2_with fail
              generalize hY1 : World.alloc wr _ = Y1
              have zY1 : Y1.heap.size = wr.heap.size + 1 := by rw [← hY1]; simp
              have bY1 : Below wr.heap.size wr Y1 := by rw [← hY1]; exact bal wr _
              have bX_1 : Blk Y1 (wr.heap.size) (findC x) 66 := by rw [← hY1]; exact Blk.newA wr _ (by first | rfl | simp)
              generalize hY2 : World.alloc Y1 _ = Y2
              have zY2 : Y2.heap.size = wr.heap.size + 1 + 1 := by rw [← hY2]; simp [zY1]
              have bY2 : Below Y1.heap.size Y1 Y2 := by rw [← hY2]; exact bal Y1 _
              have bY : Blk Y2 (wr.heap.size + 1) [.int .i64 x.fact] 3 := by rw [← hY2, ← zY1]; exact Blk.newA Y1 _ (by first | rfl | simp)
              have bX := bX_1.later bY2
              have Yb := below2 (bY1) bY2
              have Yz := zY2
              clear hY1 zY1 bY1 hY2 zY2 bY2 bX_1
              have hone := one_at bY
              have HT5 := hide (HTW.out.later Yb)
              have HB5 := hide (HBR.out.trans (Yb.mono HBR.out.size))
              clear Yb Yz bX bY c0 c1 c2 c3
              refine (insertS_any _ _ _ _ w4.heap.size Y2 HT5.out.o1 hone HA.out.1 (by have := HA.out.2.2.1; omega) HB5.out.size).mono ?_
              rintro e w6 h6
              obtain ⟨v6, rfl, hT6, hb6⟩ := HT5.out.put1 HB5.out.size h6
              have HT6 := hide hT6
              have HB6 := hide (HB5.out.trans hb6)
              clear hT6 hb6 h6 hone
              go_wp2_with fail
              go_roundw
              case rel => exact ⟨k + 1, by have := HK.out; omega, by go_num, by rw [HUF.out, HUC.out, HLF.out.1, HLF.out.2]; exact HT6.out, HB6.out⟩
              case measure => have := HK.out; simp [intOf]; omega
            · by_cases hg : 0 ≤ x.clause
              · have HLF : Hid (leanF x = [] ∧ leanC c C x = [x.clause]) := hide (by unfold leanF leanC; rw [if_neg hf, if_neg hf, if_pos hg]; exact ⟨rfl, rfl⟩)
                go_wp2_with fail
                generalize hY1 : World.alloc wr _ = Y1
                have zY1 : Y1.heap.size = wr.heap.size + 1 := by rw [← hY1]; simp
                have bY1 : Below wr.heap.size wr Y1 := by rw [← hY1]; exact bal wr _
                have bX_1 : Blk Y1 (wr.heap.size) (findC x) 66 := by rw [← hY1]; exact Blk.newA wr _ (by first | rfl | simp)
                generalize hY2 : World.alloc Y1 _ = Y2
                have zY2 : Y2.heap.size = wr.heap.size + 1 + 1 := by rw [← hY2]; simp [zY1]
                have bY2 : Below Y1.heap.size Y1 Y2 := by rw [← hY2]; exact bal Y1 _
                have bY : Blk Y2 (wr.heap.size + 1) [.int .i64 x.clause] 3 := by rw [← hY2, ← zY1]; exact Blk.newA Y1 _ (by first | rfl | simp)
                have bX := bX_1.later bY2
                have Yb := below2 (bY1) bY2
                have Yz := zY2
                clear hY1 zY1 bY1 hY2 zY2 bY2 bX_1
                have hone := one_at bY
                have HT5 := hide (HTW.out.later Yb)
                have HB5 := hide (HBR.out.trans (Yb.mono HBR.out.size))
                clear Yb Yz bX bY c0 c1 c2 c3
                refine (insertS_any _ _ _ _ w4.heap.size Y2 HT5.out.o2 hone HA.out.2.1 (by have := HA.out.2.2.2; omega) HB5.out.size).mono ?_
                rintro e w6 h6
                obtain ⟨v6, rfl, hT6, hb6⟩ := HT5.out.put2 HB5.out.size h6
                have HT6 := hide hT6
                have HB6 := hide (HB5.out.trans hb6)
                clear hT6 hb6 h6 hone
                go_wp2_with fail
                go_roundw
                case rel => exact ⟨k + 1, by have := HK.out; omega, by go_num, by rw [HUF.out, HUC.out, HLF.out.1, HLF.out.2]; exact HT6.out, HB6.out⟩
                case measure => have := HK.out; simp [intOf]; omega
              · have HLF : Hid (leanF x = [] ∧ leanC c C x = (C.filter fun i => decide ((c.clauses.getD i clause0).gives = x.says)).map fun (i : Nat) => (i : Int)) := hide (by unfold leanF leanC; rw [if_neg hf, if_neg hf, if_neg hg]; exact ⟨rfl, rfl⟩)
                have HJr := hide (HJ4.out.later HBR.out)
                have j4 := HJr.out.blk.cell 4 rfl
                have j4' := fun o => keep (bal wr o) j4
                go_wp2_with fail
                generalize hY1 : World.alloc wr _ = Y1
                have zY1 : Y1.heap.size = wr.heap.size + 1 := by rw [← hY1]; simp
                have bY1 : Below wr.heap.size wr Y1 := by rw [← hY1]; exact bal wr _
                have bX : Blk Y1 (wr.heap.size) (findC x) 66 := by rw [← hY1]; exact Blk.newA wr _ (by first | rfl | simp)
                have Yb := bY1
                have Yz := zY1
                clear hY1 zY1 bY1
                have HTY := hide (HTW.out.later Yb)
                have HBY := hide (HBR.out.trans (Yb.mono HBR.out.size))
                have HBX := hide bX
                clear Yb Yz bX c0 c1 c2 c3 j4 j4'
                have HPK : Hid (putsK c C x.says l2 0 = l2) := hide (by unfold putsK putAll; simp)
                have HLC := hide (And.intro HCL.out HC20.out)
                have hC20 : C.length ≤ 20 := by have := HLC.out; omega
                go_loopw [12, 52] (fun v2 i wz => ∃ (j : Nat), j ≤ C.length ∧ i = .int .i64 j ∧ TwoI wz w4.heap.size u11 v2 l1 (putsK c C x.says l2 j) ∧ Blk wz wr.heap.size (findC x) 66 ∧ Below w4.heap.size w4 wz) (fun _ i _ => C.length - (intOf i).toNat)
                case atStart => exact ⟨0, by omega, rfl, by rw [HPK.out]; exact HTY.out, HBX.out, HBY.out⟩
                case round =>
                  obtain ⟨j, hj, rfl, htz, hbx, hbz⟩ := hrel
                  by_cases hlj : j < C.length
                  · have HJz := hide (HJ4.out.later hbz)
                    obtain ⟨a2, n2, e2, -, -, hcc⟩ := HJz.out.hC
                    rw [intsN_len] at e2 hcc
                    cases e2
                    obtain ⟨b2, o2, rfl, hcj⟩ := hcc j hlj
                    rw [intsN_getD] at hcj
                    have hil := HCl.out _ (getD_mem C j (d := 0) hlj)
                    obtain ⟨a3, n3, e3, -, -, hc3⟩ := HJz.out.code.cl
                    cases e3
                    obtain ⟨b3, o3, nv, bv, rfl, -, -, -, -, -, g5, -, -⟩ := hc3 _ hil
                    have HPS := hide (putsK_succ c C x.says l2 hlj)
                    have HPA := hide (And.intro (putsK_asc c C x.says HA.out.2.1 j) (putsK_len c C x.says l2 j))
                    have hjI : (j : Int) < C.length := by omega
                    generalize C.getD j 0 = i at hcj hil g5 HPS
                    have hilI : (i : Int) < c.clauses.length := by omega
                    generalize (c.clauses.getD i clause0).gives = y at g5 HPS
                    generalize putsK c C x.says l2 j = pk at *
                    have HTZ := hide htz
                    have HBZ := hide hbz
                    have HBXZ := hide hbx
                    have m0 := bwc ((HBC4.out.later hbz).cell 0 rfl)
                    have g5' := bwc g5
                    have x0 := bwc (hbx.cell 0 rfl)
                    have HLJ := hide hlj
                    clear hcc hc3 htz hbz hbx hlj
                    go_wp2_with fail
                    by_cases e : y = x.says
                    · have e' : (y == x.says) = true := by simp [e]
                      rw [if_pos e] at HPS
                      clear e
                      refine wp_region_bw (by kernel_rfl) (by kernel_rfl) ?_
                      repeat (go_big_quiet_step (fail))
                      refine wpQuiet_nil ?_
                      rintro _ ⟨iw, rfl⟩
                      have HT5 := hide (HTZ.out.later iw.h)
                      have HB5 := hide (HBZ.out.trans (iw.h.mono HBZ.out.size))
                      have HX5 := hide (HBXZ.out.later iw.h)
                      generalize iw.W = W5 at *
                      clear m0 g5' x0 g5 hcj
                      go_wp2_with fail
                      generalize hV1 : World.alloc W5 _ = V1
                      have zV1 : V1.heap.size = W5.heap.size + 1 := by rw [← hV1]; simp
                      have bV1 : Below W5.heap.size W5 V1 := by rw [← hV1]; exact bal W5 _
                      have bY : Blk V1 (W5.heap.size) [.int .i64 i] 3 := by rw [← hV1]; exact Blk.newA W5 _ (by first | rfl | simp)
                      have Vb := bV1
                      have Vz := zV1
                      clear hV1 zV1 bV1
                      have hone := one_at bY
                      have HT6 := hide (HT5.out.later Vb)
                      have HB6 := hide (HB5.out.trans (Vb.mono HB5.out.size))
                      have HX6 := hide (HX5.out.later Vb)
                      clear Vb Vz bY
                      refine (insertS_any _ _ _ _ w4.heap.size V1 HT6.out.o2 hone HPA.out.1 (by have := HPA.out.2; have := HA.out.2.2.2; omega) HB6.out.size).mono ?_
                      rintro e w6 h6
                      have HX7 := hide (blk_ins HT6.out h6 HX6.out (by decide))
                      obtain ⟨v6, rfl, hT7, hb7⟩ := HT6.out.put2 HB6.out.size h6
                      have HT7 := hide hT7
                      have HB7 := hide (HB6.out.trans hb7)
                      clear hT7 hb7 h6 hone
                      go_wp2_with fail
                      go_roundw
                      case rel => exact ⟨j + 1, by have := HLJ.out; omega, by go_num, by rw [HPS.out]; exact HT7.out, HX7.out, HB7.out⟩
                      case measure => have := HLJ.out; simp [intOf]; omega
                    · have e' : (y == x.says) = false := by simp [e]
                      rw [if_neg e] at HPS
                      clear e
                      refine wp_region_bw (by kernel_rfl) (by kernel_rfl) ?_
                      repeat (go_big_quiet_step (fail))
                      refine wpQuiet_nil ?_
                      rintro _ ⟨iw, rfl⟩
                      have HT5 := hide (HTZ.out.later iw.h)
                      have HB5 := hide (HBZ.out.trans (iw.h.mono HBZ.out.size))
                      have HX5 := hide (HBXZ.out.later iw.h)
                      generalize iw.W = W5 at *
                      clear m0 g5' x0 g5 hcj
                      go_wp2_with fail
                      go_roundw
                      case rel => exact ⟨j + 1, by have := HLJ.out; omega, by go_num, by rw [HPS.out]; exact HT5.out, HX5.out, HB5.out⟩
                      case measure => have := HLJ.out; simp [intOf]; omega
                  · obtain rfl : j = C.length := by omega
                    have HTZ := hide htz
                    have HBZ := hide hbz
                    have HE : Hid (putsK c C x.says l2 C.length = putAll l2 (leanC c C x)) := hide (by rw [HLF.out.2]; unfold putsK; rw [List.take_length])
                    clear htz hbz hbx hlj
                    go_wp2_with fail
                    go_roundw
                    case rel => exact ⟨k + 1, by have := HK.out; omega, by go_num, by rw [HUF.out, HUC.out, HLF.out.1, ← HE.out]; exact HTZ.out, HBZ.out⟩
                    case measure => have := HK.out; simp [intOf]; omega
          · obtain rfl : k = l.length := by omega
            rw [List.take_length] at htwo
            have HTW := hide htwo
            have HXR := hide (below2 HX4.out hbr)
            obtain ⟨p1, n1, rfl⟩ := htwo.o1.form
            obtain ⟨p2, n2, rfl⟩ := htwo.o2.form
            clear htwo hbr
            go_wp2_with fail
            go_ret3
            exact ⟨_, _, rfl, HTW.out.o1.intsF HX4.out.size, HTW.out.o2.intsF HX4.out.size, HXR.out⟩
    · obtain ⟨rfl, rfl, rfl⟩ := HN2.out (by rw [HUB.out, hp1]; rfl)
      have HLL := hide (HLN.out true hp1)
      clear hw3 hp1
      have hll := HLL.out
      have hB := HX3.out.size
      clear q1 HLN HN1 HN2 HP' HT HUB
      go_wp2_with fail
      go_loopw [11, 12, 43] (fun v1 v2 i wr => ∃ (k : Nat), k ≤ l.length ∧ i = .int .i64 k ∧ TwoI wr w3.heap.size v1 v2 (usesF (l.take k)) (usesC c C (l.take k)) ∧ Below w3.heap.size w3 wr) (fun _ _ i _ => l.length - (intOf i).toNat)
      case atStart => exact ⟨0, by omega, rfl, ⟨OwnI.nil _ _, OwnI.nil _ _, fun g hg => by cases hg⟩, Below.refl _ _⟩
      case round =>
        obtain ⟨k, hk, rfl, htwo, hbr⟩ := hrel
        by_cases hlt : k < l.length
        · have HK := hide hlt
          have hXr := below2 HX3.out hbr
          obtain ⟨b, o, e, hck⟩ := (HL.out.below hXr).cell hlt
          cases e
          have HUF := hide (usesF_take l hlt)
          have HUC := hide (usesC_take c C l hlt)
          have ha1 := (usesF_spec (l.take k)).1
          have ha2 := (usesC_spec c C (l.take k)).1
          have hn1 := usesF_len l k (by omega)
          have hn2 := usesC_len c C l k (by omega)
          have hn3 : k * (C.length + 1) ≤ 20 * 21 := Nat.mul_le_mul (by omega) (by have := HCL.out; have := HC20.out; omega)
          generalize l.getD k find0 = x at hck HUF HUC
          generalize usesF (l.take k) = l1 at *
          generalize usesC c C (l.take k) = l2 at *
          have c0 := hck 0 _ rfl
          have c1 := hck 1 _ rfl
          have c2 := hck 2 _ rfl
          have c3 := hck 3 _ rfl
          rw [Nat.add_zero] at c0
          have HA := hide (And.intro ha1 (And.intro ha2 (And.intro hn1 (Nat.le_trans hn2 hn3))))
          have HTW := hide htwo
          have HBR := hide hbr
          have HXR := hide hXr
          clear hck ha1 ha2 hn1 hn2 hn3 htwo hbr hXr
          by_cases hf : 0 ≤ x.fact
          · have HLF : Hid (leanF x = [x.fact] ∧ leanC c C x = []) := hide (by unfold leanF leanC; rw [if_pos hf, if_pos hf]; exact ⟨rfl, rfl⟩)
            go_wp2_with fail
            generalize hY1 : World.alloc wr _ = Y1
            have zY1 : Y1.heap.size = wr.heap.size + 1 := by rw [← hY1]; simp
            have bY1 : Below wr.heap.size wr Y1 := by rw [← hY1]; exact bal wr _
            have bX_1 : Blk Y1 (wr.heap.size) (findC x) 66 := by rw [← hY1]; exact Blk.newA wr _ (by first | rfl | simp)
            generalize hY2 : World.alloc Y1 _ = Y2
            have zY2 : Y2.heap.size = wr.heap.size + 1 + 1 := by rw [← hY2]; simp [zY1]
            have bY2 : Below Y1.heap.size Y1 Y2 := by rw [← hY2]; exact bal Y1 _
            have bY : Blk Y2 (wr.heap.size + 1) [.int .i64 x.fact] 3 := by rw [← hY2, ← zY1]; exact Blk.newA Y1 _ (by first | rfl | simp)
            have bX := bX_1.later bY2
            have Yb := below2 (bY1) bY2
            have Yz := zY2
            clear hY1 zY1 bY1 hY2 zY2 bY2 bX_1
            have hone := one_at bY
            have HT5 := hide (HTW.out.later Yb)
            have HB5 := hide (HBR.out.trans (Yb.mono HBR.out.size))
            clear Yb Yz bX bY c0 c1 c2 c3
            refine (insertS_any _ _ _ _ w3.heap.size Y2 HT5.out.o1 hone HA.out.1 (by have := HA.out.2.2.1; omega) HB5.out.size).mono ?_
            rintro e w6 h6
            obtain ⟨v6, rfl, hT6, hb6⟩ := HT5.out.put1 HB5.out.size h6
            have HT6 := hide hT6
            have HB6 := hide (HB5.out.trans hb6)
            clear hT6 hb6 h6 hone
            go_wp2_with fail
            go_roundw
            case rel => exact ⟨k + 1, by have := HK.out; omega, by go_num, by rw [HUF.out, HUC.out, HLF.out.1, HLF.out.2]; exact HT6.out, HB6.out⟩
            case measure => have := HK.out; simp [intOf]; omega
          · by_cases hg : 0 ≤ x.clause
            · have HLF : Hid (leanF x = [] ∧ leanC c C x = [x.clause]) := hide (by unfold leanF leanC; rw [if_neg hf, if_neg hf, if_pos hg]; exact ⟨rfl, rfl⟩)
              go_wp2_with fail
              generalize hY1 : World.alloc wr _ = Y1
              have zY1 : Y1.heap.size = wr.heap.size + 1 := by rw [← hY1]; simp
              have bY1 : Below wr.heap.size wr Y1 := by rw [← hY1]; exact bal wr _
              have bX_1 : Blk Y1 (wr.heap.size) (findC x) 66 := by rw [← hY1]; exact Blk.newA wr _ (by first | rfl | simp)
              generalize hY2 : World.alloc Y1 _ = Y2
              have zY2 : Y2.heap.size = wr.heap.size + 1 + 1 := by rw [← hY2]; simp [zY1]
              have bY2 : Below Y1.heap.size Y1 Y2 := by rw [← hY2]; exact bal Y1 _
              have bY : Blk Y2 (wr.heap.size + 1) [.int .i64 x.clause] 3 := by rw [← hY2, ← zY1]; exact Blk.newA Y1 _ (by first | rfl | simp)
              have bX := bX_1.later bY2
              have Yb := below2 (bY1) bY2
              have Yz := zY2
              clear hY1 zY1 bY1 hY2 zY2 bY2 bX_1
              have hone := one_at bY
              have HT5 := hide (HTW.out.later Yb)
              have HB5 := hide (HBR.out.trans (Yb.mono HBR.out.size))
              clear Yb Yz bX bY c0 c1 c2 c3
              refine (insertS_any _ _ _ _ w3.heap.size Y2 HT5.out.o2 hone HA.out.2.1 (by have := HA.out.2.2.2; omega) HB5.out.size).mono ?_
              rintro e w6 h6
              obtain ⟨v6, rfl, hT6, hb6⟩ := HT5.out.put2 HB5.out.size h6
              have HT6 := hide hT6
              have HB6 := hide (HB5.out.trans hb6)
              clear hT6 hb6 h6 hone
              go_wp2_with fail
              go_roundw
              case rel => exact ⟨k + 1, by have := HK.out; omega, by go_num, by rw [HUF.out, HUC.out, HLF.out.1, HLF.out.2]; exact HT6.out, HB6.out⟩
              case measure => have := HK.out; simp [intOf]; omega
            · have HLF : Hid (leanF x = [] ∧ leanC c C x = (C.filter fun i => decide ((c.clauses.getD i clause0).gives = x.says)).map fun (i : Nat) => (i : Int)) := hide (by unfold leanF leanC; rw [if_neg hf, if_neg hf, if_neg hg]; exact ⟨rfl, rfl⟩)
              have HJr := hide (HJ3.out.later HBR.out)
              have j4 := HJr.out.blk.cell 4 rfl
              have j4' := fun o => keep (bal wr o) j4
              go_wp2_with fail
              generalize hY1 : World.alloc wr _ = Y1
              have zY1 : Y1.heap.size = wr.heap.size + 1 := by rw [← hY1]; simp
              have bY1 : Below wr.heap.size wr Y1 := by rw [← hY1]; exact bal wr _
              have bX : Blk Y1 (wr.heap.size) (findC x) 66 := by rw [← hY1]; exact Blk.newA wr _ (by first | rfl | simp)
              have Yb := bY1
              have Yz := zY1
              clear hY1 zY1 bY1
              have HTY := hide (HTW.out.later Yb)
              have HBY := hide (HBR.out.trans (Yb.mono HBR.out.size))
              have HBX := hide bX
              clear Yb Yz bX c0 c1 c2 c3 j4 j4'
              have HPK : Hid (putsK c C x.says l2 0 = l2) := hide (by unfold putsK putAll; simp)
              have HLC := hide (And.intro HCL.out HC20.out)
              have hC20 : C.length ≤ 20 := by have := HLC.out; omega
              go_loopw [12, 52] (fun v2 i wz => ∃ (j : Nat), j ≤ C.length ∧ i = .int .i64 j ∧ TwoI wz w3.heap.size u11 v2 l1 (putsK c C x.says l2 j) ∧ Blk wz wr.heap.size (findC x) 66 ∧ Below w3.heap.size w3 wz) (fun _ i _ => C.length - (intOf i).toNat)
              case atStart => exact ⟨0, by omega, rfl, by rw [HPK.out]; exact HTY.out, HBX.out, HBY.out⟩
              case round =>
                obtain ⟨j, hj, rfl, htz, hbx, hbz⟩ := hrel
                by_cases hlj : j < C.length
                · have HJz := hide (HJ3.out.later hbz)
                  obtain ⟨a2, n2, e2, -, -, hcc⟩ := HJz.out.hC
                  rw [intsN_len] at e2 hcc
                  cases e2
                  obtain ⟨b2, o2, rfl, hcj⟩ := hcc j hlj
                  rw [intsN_getD] at hcj
                  have hil := HCl.out _ (getD_mem C j (d := 0) hlj)
                  obtain ⟨a3, n3, e3, -, -, hc3⟩ := HJz.out.code.cl
                  cases e3
                  obtain ⟨b3, o3, nv, bv, rfl, -, -, -, -, -, g5, -, -⟩ := hc3 _ hil
                  have HPS := hide (putsK_succ c C x.says l2 hlj)
                  have HPA := hide (And.intro (putsK_asc c C x.says HA.out.2.1 j) (putsK_len c C x.says l2 j))
                  have hjI : (j : Int) < C.length := by omega
                  generalize C.getD j 0 = i at hcj hil g5 HPS
                  have hilI : (i : Int) < c.clauses.length := by omega
                  generalize (c.clauses.getD i clause0).gives = y at g5 HPS
                  generalize putsK c C x.says l2 j = pk at *
                  have HTZ := hide htz
                  have HBZ := hide hbz
                  have HBXZ := hide hbx
                  have m0 := bwc ((HBC3.out.later hbz).cell 0 rfl)
                  have g5' := bwc g5
                  have x0 := bwc (hbx.cell 0 rfl)
                  have HLJ := hide hlj
                  clear hcc hc3 htz hbz hbx hlj
                  go_wp2_with fail
                  by_cases e : y = x.says
                  · have e' : (y == x.says) = true := by simp [e]
                    rw [if_pos e] at HPS
                    clear e
                    refine wp_region_bw (by kernel_rfl) (by kernel_rfl) ?_
                    repeat (go_big_quiet_step (fail))
                    refine wpQuiet_nil ?_
                    rintro _ ⟨iw, rfl⟩
                    have HT5 := hide (HTZ.out.later iw.h)
                    have HB5 := hide (HBZ.out.trans (iw.h.mono HBZ.out.size))
                    have HX5 := hide (HBXZ.out.later iw.h)
                    generalize iw.W = W5 at *
                    clear m0 g5' x0 g5 hcj
                    go_wp2_with fail
                    generalize hV1 : World.alloc W5 _ = V1
                    have zV1 : V1.heap.size = W5.heap.size + 1 := by rw [← hV1]; simp
                    have bV1 : Below W5.heap.size W5 V1 := by rw [← hV1]; exact bal W5 _
                    have bY : Blk V1 (W5.heap.size) [.int .i64 i] 3 := by rw [← hV1]; exact Blk.newA W5 _ (by first | rfl | simp)
                    have Vb := bV1
                    have Vz := zV1
                    clear hV1 zV1 bV1
                    have hone := one_at bY
                    have HT6 := hide (HT5.out.later Vb)
                    have HB6 := hide (HB5.out.trans (Vb.mono HB5.out.size))
                    have HX6 := hide (HX5.out.later Vb)
                    clear Vb Vz bY
                    refine (insertS_any _ _ _ _ w3.heap.size V1 HT6.out.o2 hone HPA.out.1 (by have := HPA.out.2; have := HA.out.2.2.2; omega) HB6.out.size).mono ?_
                    rintro e w6 h6
                    have HX7 := hide (blk_ins HT6.out h6 HX6.out (by decide))
                    obtain ⟨v6, rfl, hT7, hb7⟩ := HT6.out.put2 HB6.out.size h6
                    have HT7 := hide hT7
                    have HB7 := hide (HB6.out.trans hb7)
                    clear hT7 hb7 h6 hone
                    go_wp2_with fail
                    go_roundw
                    case rel => exact ⟨j + 1, by have := HLJ.out; omega, by go_num, by rw [HPS.out]; exact HT7.out, HX7.out, HB7.out⟩
                    case measure => have := HLJ.out; simp [intOf]; omega
                  · have e' : (y == x.says) = false := by simp [e]
                    rw [if_neg e] at HPS
                    clear e
                    refine wp_region_bw (by kernel_rfl) (by kernel_rfl) ?_
                    repeat (go_big_quiet_step (fail))
                    refine wpQuiet_nil ?_
                    rintro _ ⟨iw, rfl⟩
                    have HT5 := hide (HTZ.out.later iw.h)
                    have HB5 := hide (HBZ.out.trans (iw.h.mono HBZ.out.size))
                    have HX5 := hide (HBXZ.out.later iw.h)
                    generalize iw.W = W5 at *
                    clear m0 g5' x0 g5 hcj
                    go_wp2_with fail
                    go_roundw
                    case rel => exact ⟨j + 1, by have := HLJ.out; omega, by go_num, by rw [HPS.out]; exact HT5.out, HX5.out, HB5.out⟩
                    case measure => have := HLJ.out; simp [intOf]; omega
                · obtain rfl : j = C.length := by omega
                  have HTZ := hide htz
                  have HBZ := hide hbz
                  have HE : Hid (putsK c C x.says l2 C.length = putAll l2 (leanC c C x)) := hide (by rw [HLF.out.2]; unfold putsK; rw [List.take_length])
                  clear htz hbz hbx hlj
                  go_wp2_with fail
                  go_roundw
                  case rel => exact ⟨k + 1, by have := HK.out; omega, by go_num, by rw [HUF.out, HUC.out, HLF.out.1, ← HE.out]; exact HTZ.out, HBZ.out⟩
                  case measure => have := HK.out; simp [intOf]; omega
        · obtain rfl : k = l.length := by omega
          rw [List.take_length] at htwo
          have HTW := hide htwo
          have HXR := hide (below2 HX3.out hbr)
          obtain ⟨p1, n1, rfl⟩ := htwo.o1.form
          obtain ⟨p2, n2, rfl⟩ := htwo.o2.form
          clear htwo hbr
          go_wp2_with fail
          go_ret3
          exact ⟨_, _, rfl, HTW.out.o1.intsF HX3.out.size, HTW.out.o2.intsF HX3.out.size, HXR.out⟩
end Go.Proofs.YtdjldidfnddpmaaGreatDoor
