/- Register: the walk of Judge. Conditions: how the arguments and the global tables lie in memory; sizes. -/
import Derived.Test.YtoofkahklboojaaDoorRkK
namespace Go.Proofs.YtoofkahklboojaaDoor
open Go.RowKit

theorem set8 {w : World} {b : Nat} {x0 x1 x2 x3 x4 x5 x6 x7 : Value} {t : TypeId} (h : Blk w b [x0, x1, x2, x3, x4, x5, x6, x7] t) (u0 u1 u2 u3 u4 u5 u6 u7 : Value) :
    Blk (World.setCell (World.setCell (World.setCell (World.setCell (World.setCell (World.setCell (World.setCell (World.setCell w ⟨b, 0, none⟩ u0) ⟨b, 1, none⟩ u1) ⟨b, 2, none⟩ u2) ⟨b, 3, none⟩ u3) ⟨b, 4, none⟩ u4) ⟨b, 5, none⟩ u5) ⟨b, 6, none⟩ u6) ⟨b, 7, none⟩ u7) b [u0, u1, u2, u3, u4, u5, u6, u7] t ∧ (∀ B w0, Below B w0 w → B ≤ b → Below B w0 (World.setCell (World.setCell (World.setCell (World.setCell (World.setCell (World.setCell (World.setCell (World.setCell w ⟨b, 0, none⟩ u0) ⟨b, 1, none⟩ u1) ⟨b, 2, none⟩ u2) ⟨b, 3, none⟩ u3) ⟨b, 4, none⟩ u4) ⟨b, 5, none⟩ u5) ⟨b, 6, none⟩ u6) ⟨b, 7, none⟩ u7)) :=
  ⟨((((((((h.set 0 u0).set 1 u1).set 2 u2).set 3 u3).set 4 u4).set 5 u5).set 6 u6).set 7 u7), fun _ _ hb hB => (Below.setCell (Below.setCell (Below.setCell (Below.setCell (Below.setCell (Below.setCell (Below.setCell (Below.setCell hb (p := ⟨b, 0, none⟩) hB u0) (p := ⟨b, 1, none⟩) hB u1) (p := ⟨b, 2, none⟩) hB u2) (p := ⟨b, 3, none⟩) hB u3) (p := ⟨b, 4, none⟩) hB u4) (p := ⟨b, 5, none⟩) hB u5) (p := ⟨b, 6, none⟩) hB u6) (p := ⟨b, 7, none⟩) hB u7)⟩
structure VerD where
  kind : Int
  w : MotD
  par : Int
  wo : MotD
abbrev verV (v : VerD) : Value := .agg #[iV v.kind, iV v.w.turn, iV v.w.dx, iV v.w.dy, iV v.par, iV v.wo.turn, iV v.wo.dx, iV v.wo.dy]
def ver0 : VerD := ⟨0, ⟨0, 0, 0⟩, 0, ⟨0, 0, 0⟩⟩
def partD (a : List DotD) (q : DotD) (m : MotD) : Int := ((findsD a).getD (idxF (fun p => hasB (shiftD m.turn.toNat p q) m.dx m.dy) (findsD a)).toNat dot0).id
def srch (a b : List DotD) (q : DotD) (c : Bool) : Option MotD := searchD osF (marksD a b) (findsD a) q c
/-- the verdict on an element of the second survey -/
def verD (a b : List DotD) (q : DotD) : VerD :=
  ⟨if (srch a b q true).isSome then (if (srch a b q false).isSome then 2 else 3) else 1, resM (srch a b q true), if (srch a b q true).isSome then partD a q (resM (srch a b q true)) else -1, resM (srch a b q false)⟩
/-- the element of the second survey that Judge speaks of -/
def judgeD (a b : List DotD) (z : Int) : Option DotD := if (fitsR a b).isEmpty then none else if z ≤ 19 then none else b.find? fun q => q.id == z
def judV (a b : List DotD) (z : Int) : VerD := ((judgeD a b z).map (verD a b)).getD ver0
def judE (a b : List DotD) (z : Int) : Int := if (judgeD a b z).isSome then 0 else 110
theorem asc_getD {l : List DotD} (h : validD l = true) : AscD l := by
  intro i j hij hj
  have h1 : ascB l = true := by unfold validD at h; simp at h; exact h.1.1
  have h2 := asc_ids.1 h1
  rw [List.pairwise_map, List.pairwise_iff_getElem] at h2
  have := h2 i j (by omega) hj hij
  rw [List.getD_eq_getElem?_getD, List.getElem?_eq_getElem (by omega), List.getD_eq_getElem?_getD, List.getElem?_eq_getElem hj]; exact this
theorem marks_valid {a b : List DotD} (h : (marksD a b).isEmpty = false) : validD a = true ∧ validD b = true := by
  unfold marksD at h
  split at h
  · rename_i h1; rw [Bool.and_eq_true] at h1; exact h1
  · simp at h
theorem fits_marks {a b : List DotD} (h : (fitsR a b).isEmpty = false) : (marksD a b).isEmpty = false := by
  unfold fitsR at h
  split at h
  · simp at h
  · rename_i h1; simpa using h1
theorem find_uniq {l : List DotD} {z : Int} {n : Nat} (hA : AscD l) (hn : n < l.length) (h : (l.getD n dot0).id = z) : l.find? (fun q => q.id == z) = some (l.getD n dot0) := by
  refine find_some hn ?_ (by simpa using h)
  rw [List.find?_eq_none]
  intro x hx
  obtain ⟨i, hi, rfl⟩ := List.getElem_of_mem hx
  rw [List.length_take] at hi
  have := hA i n (by omega) hn
  rw [List.getElem_take]
  rw [List.getD_eq_getElem?_getD, List.getElem?_eq_getElem (show i < l.length by omega)] at this
  simp only [Option.getD_some] at this
  simp; omega
theorem find_nothing {l : List DotD} {z : Int} (h : ∀ k, k < l.length → (l.getD k dot0).id ≠ z) : l.find? (fun q => q.id == z) = none := by
  rw [List.find?_eq_none]
  intro x hx
  obtain ⟨i, hi, rfl⟩ := List.getElem_of_mem hx
  have := h i hi
  rw [List.getD_eq_getElem?_getD, List.getElem?_eq_getElem hi] at this
  simpa using this
theorem idxF_lt {α : Type} (p : α → Bool) : ∀ l : List α, idxF p l < 0 ∨ idxF p l < l.length
  | [] => .inl (by show (-1 : Int) < 0; omega)
  | x :: t => by
    have ih := idxF_lt p t
    rw [idxF]
    by_cases hx : p x = true
    · rw [if_pos hx]; right; simp
    · rw [if_neg hx]
      dsimp only
      split
      · left; omega
      · right; simp; omega
theorem idxF_in {α : Type} (p : α → Bool) (l : List α) (h : l.any p = true) : ∃ n : Nat, idxF p l = n ∧ n < l.length := by
  have h1 := idxF_any p l
  rw [h] at h1
  have h2 : 0 ≤ idxF p l := by simpa using h1
  rcases idxF_lt p l with h3 | h3
  · omega
  · exact ⟨(idxF p l).toNat, by omega, by omega⟩
theorem kindDot : RKind dotC 4 53 := ⟨fun x => rfl, fun x u hu => by simp [dotC] at hu; rcases hu with rfl | rfl | rfl | rfl <;> rfl⟩
theorem infoDot : (Tryd.prog.info? 53).map (fun i => (i.zero, i.size, i.bytes)) = some (some (.agg #[iV 0, iV 0, iV 0, iV 0]), 4, 32) := by kernel_rfl
theorem finds_succ (a : List DotD) (k : Nat) (h : k < a.length) : findsD (a.take (k + 1)) = findsD (a.take k) ++ if 19 < (a.getD k dot0).id then [a.getD k dot0] else [] := by
  unfold findsD
  rw [take_succ' a k dot0 h, List.filter_append]
  congr 1
  by_cases h1 : 19 < (a.getD k dot0).id
  · rw [if_pos h1, List.filter_cons, if_pos (by simpa using h1), List.filter_nil]
  · rw [if_neg h1, List.filter_cons, if_neg (by simpa using h1), List.filter_nil]
theorem finds_len (a : List DotD) : (findsD a).length ≤ a.length := List.length_filter_le _ _
theorem part_lt {a b : List DotD} {q : DotD} {m : MotD} (h : srch a b q true = some m) : ∃ n k : Nat, k ≤ 3 ∧ m.turn = k ∧ idxF (fun p => hasB (shiftD k p q) m.dx m.dy) (findsD a) = n ∧ n < (findsD a).length := by
  obtain ⟨k, h1, h2, -, h4⟩ := search_some osF_mem h
  unfold anyB boxesD at h4
  rw [List.any_map] at h4
  obtain ⟨n, h5, h6⟩ := idxF_in _ _ h4
  exact ⟨n, k, h1, h2, h5, h6⟩
theorem part_in {a b : List DotD} {q : DotD} (h : (srch a b q true).isSome = true) : ∃ n k : Nat, k ≤ 3 ∧ (resM (srch a b q true)).turn = k ∧ idxF (fun p => hasB (shiftD k p q) (resM (srch a b q true)).dx (resM (srch a b q true)).dy) (findsD a) = n ∧ n < (findsD a).length ∧ partD a q (resM (srch a b q true)) = ((findsD a).getD n dot0).id := by
  obtain ⟨m, hm⟩ := Option.isSome_iff_exists.1 h
  obtain ⟨n, k, h1, h2, h3, h4⟩ := part_lt hm
  have e : resM (srch a b q true) = m := by rw [hm]; rfl
  rw [e]
  refine ⟨n, k, h1, h2, h3, h4, ?_⟩
  unfold partD
  rw [h2]
  have e2 : (k : Int).toNat = k := by omega
  rw [e2, h3]
  have e3 : (n : Int).toNat = n := by omega
  rw [e3]
set_option maxRecDepth 100000 in
set_option maxHeartbeats 4000000 in
theorem judge_any (a b : List DotD) (va vb : Value) (z : Int) (w : World) (ha : DotsAt w va a) (hb : DotsAt w vb b) (hbl : b.length < 1000000) (hal : a.length < 1000000) (hG : Glob w) :
    Calls Tryd.prog 26 #[va, vb, iV z] w (Ret (.tuple #[verV (judV a b z), iV (judE a b z)]) w) := by
  have HV : Hid (judV a b z = ((judgeD a b z).map (verD a b)).getD ver0) := hide rfl
  have HE : Hid (judE a b z = if (judgeD a b z).isSome then 0 else 110) := hide rfl
  have HJ : Hid (judgeD a b z = if (fitsR a b).isEmpty then none else if z ≤ 19 then none else b.find? fun q => q.id == z) := hide rfl
  generalize judV a b z = RV at *
  generalize judE a b z = RE at *
  generalize judgeD a b z = JD at *
  obtain ⟨ba, bc, rfl, -, -, -⟩ := id hb
  go_enter Tryd.func26, Tryd.ntmps26
  go_wp2_with fail
  generalize hX1 : World.alloc w _ = X1
  have zX1 : X1.heap.size = w.heap.size + 1 := by rw [← hX1]; simp
  have bX1 : Below w.heap.size w X1 := by rw [← hX1]; exact bal w _
  have bB_1 : Blk X1 (w.heap.size) [.slice ba b.length bc] 30 := by rw [← hX1]; exact Blk.newA w _ (by first | rfl | simp)
  generalize hX2 : World.alloc X1 _ = X2
  have zX2 : X2.heap.size = w.heap.size + 1 + 1 := by rw [← hX2]; simp [zX1]
  have bX2 : Below X1.heap.size X1 X2 := by rw [← hX2]; exact bal X1 _
  have bR : Blk X2 (w.heap.size + 1) [iV 0, iV 0, iV 0, iV 0, iV 0, iV 0, iV 0, iV 0] 55 := by rw [← hX2, ← zX1]; exact Blk.newA X1 _ (by first | rfl | simp)
  have bB := bB_1.later bX2
  have Xb := below2 (bX1) bX2
  have Xz := zX2
  clear hX1 zX1 bX1 hX2 zX2 bX2 bB_1
  refine (fits_any a b va _ _ (ha.below Xb) (hb.below Xb) (hG.later Xb)).mono ?_
  rintro e w1 ⟨v1, u1, rfl, ⟨hv1, rfl⟩, hb1⟩
  obtain ⟨fa, fc, rfl, -, -, -⟩ := id hv1
  have bB1 := bB.later hb1
  have bR1 := bR.later hb1
  have hbw1 := below2 Xb hb1
  have c0 := bB1.cell 0 rfl
  have HM := hide (fun h => fits_marks (a := a) (b := b) h)
  have hfe : Hid ((fitsR a b).isEmpty = ((fitsR a b).length == 0)) := hide (by cases fitsR a b <;> rfl)
  rw [hfe.out] at HJ HM
  clear hfe
  generalize (fitsR a b).length = FL at *
  generalize errR a b = ER at *
  have HBS := hide (bind_any b _ z w1 (hb.below hbw1) hbl)
  go_wp2_with fail
  refine HBS.out.mono ?_
  rintro e w2 ⟨n, is, rfl, hn, hyes, hno, hb2⟩
  have bB2 := bB1.later hb2
  have bR2 := bR1.later hb2
  have hbw2 := below2 hbw1 hb2
  have HNO := hide hno
  have HYES := hide hyes
  clear hno hyes
  cases hz : ((FL : Int) == 0)
  · have hz2 : (FL == 0) = false := by
      rw [← Bool.not_eq_true]; intro e; simp at e hz; exact hz e
    rw [hz2] at HJ HM
    obtain ⟨hVA, hVB⟩ := marks_valid (HM.out rfl)
    have HA := hide (asc_getD hVB)
    cases is
    · have HJN : Hid (JD = none) := hide (by
        rw [HJ.out, find_nothing (HNO.out HA.out rfl)]; simp)
      clear HM HJ HNO HYES
      have g0 := (bR2).frozen 0
      have g1 := (bR2).frozen 1
      have g2 := (bR2).frozen 2
      have g3 := (bR2).frozen 3
      have g4 := (bR2).frozen 4
      have g5 := (bR2).frozen 5
      have g6 := (bR2).frozen 6
      have g7 := (bR2).frozen 7
      have r0 := (bR2).cell 0 rfl
      have r1 := (bR2).cell 1 rfl
      have r2 := (bR2).cell 2 rfl
      have r3 := (bR2).cell 3 rfl
      have r4 := (bR2).cell 4 rfl
      have r5 := (bR2).cell 5 rfl
      have r6 := (bR2).cell 6 rfl
      have r7 := (bR2).cell 7 rfl
      have lR := bR2.lt
      go_wp2_with fail
      have hS := set8 bR2 (iV 0) (iV 0) (iV 0) (iV 0) (iV 0) (iV 0) (iV 0) (iV 0)
      refine bodyPost_ret (results_cell_tmp_row (p := 6) (u := 7) rfl _ _ (w.heap.size + 1) _ _ _ _ _ rfl (hS.1.later (bal _ (.cells #[iV n] 3))) Tryd.underlying55 rfl (by kernel_rfl) rfl) rfl ?_
      exact ⟨by rw [HV.out, HE.out, HJN.out]; rfl, below2 (hS.2 _ _ hbw2 (by omega)) (bal _ _)⟩
    · obtain ⟨hnl, hq⟩ := HYES.out rfl
      by_cases h19 : z ≤ 19
      · have HJN : Hid (JD = none) := hide (by rw [HJ.out, if_neg (by decide), if_pos h19])
        have h20 : decide (z ≤ 19) = true := by simpa using h19
        have HQ := hide hq
        clear HM HJ HNO HYES hq h19
        have g0 := (bR2).frozen 0
        have g1 := (bR2).frozen 1
        have g2 := (bR2).frozen 2
        have g3 := (bR2).frozen 3
        have g4 := (bR2).frozen 4
        have g5 := (bR2).frozen 5
        have g6 := (bR2).frozen 6
        have g7 := (bR2).frozen 7
        have r0 := (bR2).cell 0 rfl
        have r1 := (bR2).cell 1 rfl
        have r2 := (bR2).cell 2 rfl
        have r3 := (bR2).cell 3 rfl
        have r4 := (bR2).cell 4 rfl
        have r5 := (bR2).cell 5 rfl
        have r6 := (bR2).cell 6 rfl
        have r7 := (bR2).cell 7 rfl
        have lR := bR2.lt
        go_wp2_with fail
        have hS := set8 bR2 (iV 0) (iV 0) (iV 0) (iV 0) (iV 0) (iV 0) (iV 0) (iV 0)
        refine bodyPost_ret (results_cell_tmp_row (p := 6) (u := 7) rfl _ _ (w.heap.size + 1) _ _ _ _ _ rfl (hS.1.later (bal _ (.cells #[iV n] 3))) Tryd.underlying55 rfl (by kernel_rfl) rfl) rfl ?_
        exact ⟨by rw [HV.out, HE.out, HJN.out]; rfl, below2 (hS.2 _ _ hbw2 (by omega)) (bal _ _)⟩
      · have HJN : Hid (JD = some (b.getD n dot0)) := hide (by rw [HJ.out, if_neg (by decide), if_neg h19, find_uniq HA.out hnl hq])
        have h20 : decide (z ≤ 19) = false := by simpa using h19
        have hqo := valid_ok hVB _ (getD_mem b n (d := dot0) hnl)
        have hal12 := valid_len hVA
        have hfl := finds_len a
        have HFO : Hid (∀ p ∈ findsD a, dotOk p = true) := hide fun p hp => valid_ok hVA p (List.mem_filter.1 hp).1
        have HQ := hide (And.intro hq hnl)
        clear HM HJ HNO HYES hq h19 HA hz2
        obtain ⟨aa, ac, rfl, -, -, hca⟩ := id ha
        have HCA := hide hca
        clear hca
        go_wp2_with fail
        generalize hXX : World.alloc w2 _ = W3
        have hb3 : Below w2.heap.size w2 W3 := by rw [← hXX]; exact bal w2 _
        have bT : Blk W3 w2.heap.size [iV n] 3 := by rw [← hXX]; exact Blk.newA w2 _ rfl
        have hbw3 := below2 hbw2 hb3
        have bB3 := bB2.later hb3
        have bR3 := bR2.later hb3
        clear hXX
        go_loopw [12, 46] (fun v i wr => ∃ (k : Nat), k ≤ a.length ∧ i = .int .i64 k ∧ OwnR wr W3.heap.size 53 4 v ((findsD (a.take k)).map dotC) ∧ Below W3.heap.size W3 wr) (fun _ i _ => a.length - (intOf i).toNat)
        case atStart => exact ⟨0, by omega, rfl, OwnR.nil _ _ _ _, Below.refl _ _⟩
        case round =>
          obtain ⟨k, hk, rfl, hown, hbr⟩ := hrel
          have hbwr := below2 hbw3 hbr
          by_cases hlt : k < a.length
          · obtain ⟨bl, o, rfl, hck⟩ := HCA.out k hlt
            have hlt2 : decide (k < a.length) = true := by simpa using hlt
            have HS := hide (finds_succ a k hlt)
            have hfl2 := finds_len (a.take k)
            rw [List.length_take, Nat.min_eq_left hk] at hfl2
            have HFL : Hid ((findsD (a.take k)).length < 1000000) := hide (by omega)
            generalize findsD (a.take k) = F at HS hown HFL
            generalize a.getD k dot0 = p at HS hck
            obtain ⟨pi, px, py, pt⟩ := p
            have e0 : wr.cell? ⟨bl, o + k * 4, none⟩ = some (iV pi) := keep hbwr (hck 0 _ rfl)
            have e1 : wr.cell? ⟨bl, o + k * 4 + 1, none⟩ = some (iV px) := keep hbwr (hck 1 _ rfl)
            have e2 : wr.cell? ⟨bl, o + k * 4 + 2, none⟩ = some (iV py) := keep hbwr (hck 2 _ rfl)
            have e3 : wr.cell? ⟨bl, o + k * 4 + 3, none⟩ = some (iV pt) := keep hbwr (hck 3 _ rfl)
            have hbX := bal wr (.cells #[iV pi, iV px, iV py, iV pt] 53)
            have hownX := hown.later' hbX
            have hbrX := below2 hbr hbX
            clear hck hfl2
            by_cases h5 : 19 < pi
            · have h6 : decide (19 < pi) = true := by simpa using h5
              rw [if_pos h5] at HS
              clear h5
              go_wp2_with (at_builtin; refine app_recM kindDot infoDot rfl (by decide) Tryd.underlying30 (by decide) rfl _ _ rfl W3.heap.size _ _ rfl hownX ⟨pi, px, py, pt⟩ _ rfl (by simp) HFL.out hbrX.size ?_; intro g cc w7 hown7 hE7 hz7)
              go_roundw
              case rel => exact ⟨k + 1, by omega, by go_num, by rw [HS.out]; exact hown7, hbrX.trans (hE7.below hbrX.size)⟩
              case measure => simp [intOf]; omega
            · have h6 : decide (19 < pi) = false := by simpa using h5
              rw [if_neg h5, List.append_nil] at HS
              clear h5
              go_wp2_with fail
              go_roundw
              case rel => exact ⟨k + 1, by omega, by go_num, by rw [HS.out]; exact hownX, hbrX⟩
              case measure => simp [intOf]; omega
          · obtain rfl : k = a.length := by omega
            rw [List.take_length] at hown
            have hF : DotsAt wr _ (findsD a) := (RecIn.of_own (d := dot0) hown (fun _ => rfl) (Nat.le_refl _)).at
            obtain ⟨ga, gc, rfl, -, -, -⟩ := id hF
            have bBr := bB3.later hbr
            have bRr := bR3.later hbr
            have bTr := bT.later hbr
            have b0 := bBr.cell 0 rfl
            have lB := bBr.lt
            have HMK := hide (marks_any a b _ _ wr (ha.below hbwr) (hb.below hbwr))
            clear hown HCA
            go_wp2_with fail
            refine HMK.out.mono ?_
            rintro e w5 ⟨v5, rfl, hv5, hb5⟩
            have hP : PairsAt w5 v5 (marksD a b) := hv5.at
            obtain ⟨pa, pc, rfl, -, -, -⟩ := id hP
            have hbw5 := below2 hbwr hb5
            have hF5 := hF.below hb5
            have bB5 := bBr.later hb5
            have bR5 := bRr.later hb5
            have bT5 := bTr.later hb5
            have hB5 := hb.below hbw5
            have hG5 := hG.later hbw5
            have HVD : Hid (verD a b (b.getD n dot0) = ⟨if (srch a b (b.getD n dot0) true).isSome then (if (srch a b (b.getD n dot0) false).isSome then 2 else 3) else 1, resM (srch a b (b.getD n dot0) true), if (srch a b (b.getD n dot0) true).isSome then partD a (b.getD n dot0) (resM (srch a b (b.getD n dot0) true)) else -1, resM (srch a b (b.getD n dot0) false)⟩) := hide rfl
            have HPL := hide (part_in (a := a) (b := b) (q := b.getD n dot0))
            have HS1 : Hid (∀ W, Below w5.heap.size w5 W → Calls Tryd.prog 54 #[.slice pa (marksD a b).length pc, .slice ga (findsD a).length gc, dotV (b.getD n dot0), .bool true] W (Ret (.tuple #[motV (resM (srch a b (b.getD n dot0) true)), .bool (srch a b (b.getD n dot0) true).isSome]) W)) := hide fun W hW =>
              search_any (marksD a b) (findsD a) (b.getD n dot0) true _ _ W (hP.below hW) (hF5.below hW) (marks_dots a b) HFO.out hqo (by omega) (hG5.later hW)
            have HS2 : Hid (∀ W, Below w5.heap.size w5 W → Calls Tryd.prog 54 #[.slice pa (marksD a b).length pc, .slice ga (findsD a).length gc, dotV (b.getD n dot0), .bool false] W (Ret (.tuple #[motV (resM (srch a b (b.getD n dot0) false)), .bool (srch a b (b.getD n dot0) false).isSome]) W)) := hide fun W hW =>
              search_any (marksD a b) (findsD a) (b.getD n dot0) false _ _ W (hP.below hW) (hF5.below hW) (marks_dots a b) HFO.out hqo (by omega) (hG5.later hW)
            obtain ⟨ba2, bc2, eb, -, -, hcb0⟩ := id hB5
            cases eb
            obtain ⟨bl, o, rfl, hcb⟩ := hcb0 n HQ.out.2
            have HQ2 := HQ
            obtain ⟨q, hq⟩ : ∃ q, b.getD n dot0 = q := ⟨_, rfl⟩
            rw [hq] at HVD HPL HS1 HS2 hcb hqo HJN
            have HQE := hide hq
            generalize resM (srch a b q true) = M1 at HVD HPL HS1
            generalize (srch a b q true).isSome = B1 at HVD HPL HS1
            generalize resM (srch a b q false) = M2 at HVD HS2
            generalize (srch a b q false).isSome = B2 at HVD HS2
            generalize partD a q M1 = PT at HVD HPL
            have HOK := hide hqo
            obtain ⟨m1, m2, m3⟩ := M1
            obtain ⟨n1, n2, n3⟩ := M2
            obtain ⟨qi, qx, qy, qt⟩ := q
            have d0 : w5.cell? ⟨bl, o + n * 4, none⟩ = some (iV qi) := hcb 0 _ rfl
            have d1 : w5.cell? ⟨bl, o + n * 4 + 1, none⟩ = some (iV qx) := hcb 1 _ rfl
            have d2 : w5.cell? ⟨bl, o + n * 4 + 2, none⟩ = some (iV qy) := hcb 2 _ rfl
            have d3 : w5.cell? ⟨bl, o + n * 4 + 3, none⟩ = some (iV qt) := hcb 3 _ rfl
            have hFF := hide hF5
            have hnb := HQ.out.2
            clear hcb hcb0 hq HQ HQ2 hqo HMK hP hF hv5 b0
            generalize marksD a b = L at *
            cases B1
            · have t0 := bT5.cell 0 rfl
              have b0 := bB5.cell 0 rfl
              have lT := bT5.lt
              have lB5 := bB5.lt
              have lD := lt_of_cell d0
              dsimp only at lD
              go_wp2_with fail
              generalize hXX : World.alloc w5 _ = W6
              have hbO6 : Below w5.heap.size w5 W6 := by rw [← hXX]; exact bal w5 _
              have bO6 : Blk W6 w5.heap.size [iV 2, iV 0, iV 0, iV 0, iV (-1), iV 0, iV 0, iV 0] 55 := by rw [← hXX]; exact Blk.newA w5 _ rfl
              clear hXX t0 b0
              refine (HS1.out W6 hbO6).mono ?_
              rintro e w7 ⟨rfl, hb7⟩
              have hbO7 := hbO6.trans (hb7.mono hbO6.size)
              have bO7 := bO6.later hb7
              have g1 := bO7.frozen 1
              have g2 := bO7.frozen 2
              have g3 := bO7.frozen 3
              have r1 := bO7.cell 1 rfl
              have r2 := bO7.cell 2 rfl
              have r3 := bO7.cell 3 rfl
              have t0 := (bT5.below hbO7 bT5.lt).cell 0 rfl
              have b0 := (bB5.below hbO7 bB5.lt).cell 0 rfl
              have q0 := (hbO7.cell (lt_of_cell d0)).trans d0
              have q1 := (hbO7.cell (lt_of_cell d1)).trans d1
              have q2 := (hbO7.cell (lt_of_cell d2)).trans d2
              have q3 := (hbO7.cell (lt_of_cell d3)).trans d3
              go_wp2_with fail
              have hS8 := And.intro (((bO7.set 1 (iV (m1))).set 2 (iV m2)).set 3 (iV m3)) (((hbO7.setCell (p := ⟨w5.heap.size, 1, none⟩) (Nat.le_refl _) (iV (m1))).setCell (p := ⟨w5.heap.size, 2, none⟩) (Nat.le_refl _) (iV m2)).setCell (p := ⟨w5.heap.size, 3, none⟩) (Nat.le_refl _) (iV m3))
              generalize World.setCell (World.setCell (World.setCell w7 _ _) _ _) _ _ = W8 at hS8 ⊢
              obtain ⟨bO8', hbO8⟩ := hS8
              have bO8 : Blk W8 w5.heap.size [iV 2, iV (m1), iV m2, iV m3, iV (-1), iV 0, iV 0, iV 0] 55 := bO8'
              clear g1 g2 g3 r1 r2 r3 bO8' t0 b0 q0 q1 q2 q3 bO7 hbO7
              refine (HS2.out W8 hbO8).mono ?_
              rintro e w9 ⟨rfl, hb9⟩
              have hbO9 := hbO8.trans (hb9.mono hbO8.size)
              have bO9 := bO8.later hb9
              have o0 := (bO9).cell 0 rfl
              have o1 := (bO9).cell 1 rfl
              have o2 := (bO9).cell 2 rfl
              have o3 := (bO9).cell 3 rfl
              have o4 := (bO9).cell 4 rfl
              have o5 := (bO9).cell 5 rfl
              have o6 := (bO9).cell 6 rfl
              have o7 := (bO9).cell 7 rfl
              have p0 := (bO9).frozen 0
              have p4 := (bO9).frozen 4
              have p5 := (bO9).frozen 5
              have p6 := (bO9).frozen 6
              have p7 := (bO9).frozen 7
              have bR9 := bR5.below hbO9 bR5.lt
              have lR := bR5.lt
              have g0 := (bR9).frozen 0
              have g1 := (bR9).frozen 1
              have g2 := (bR9).frozen 2
              have g3 := (bR9).frozen 3
              have g4 := (bR9).frozen 4
              have g5 := (bR9).frozen 5
              have g6 := (bR9).frozen 6
              have g7 := (bR9).frozen 7
              have r0 := (bR9).cell 0 rfl
              have r1 := (bR9).cell 1 rfl
              have r2 := (bR9).cell 2 rfl
              have r3 := (bR9).cell 3 rfl
              have r4 := (bR9).cell 4 rfl
              have r5 := (bR9).cell 5 rfl
              have r6 := (bR9).cell 6 rfl
              have r7 := (bR9).cell 7 rfl
              go_wp2_with fail
              have hne : w.heap.size + 1 ≠ w5.heap.size := by omega
              have hS := set8 ((((bR9.other hne 5 (iV n1)).other hne 6 (iV n2)).other hne 7 (iV n3)).other hne 0 (iV 1)) (iV 1) (iV m1) (iV m2) (iV m3) (iV (-1)) (iV n1) (iV n2) (iV n3)
              refine bodyPost_ret (results_cell_tmp_row (p := 6) (u := 7) rfl _ _ (w.heap.size + 1) _ _ _ _ _ rfl hS.1 Tryd.underlying55 rfl (by kernel_rfl) rfl) rfl ?_
              refine ⟨by rw [HV.out, HE.out, HJN.out]; show _ = Ending.returned (.tuple #[verV (verD a b ⟨qi, qx, qy, qt⟩), iV 0]); rw [HVD.out]; rfl, hS.2 _ _ ?_ (by omega)⟩
              have hle := hbw5.size
              exact ((((hbw5.trans (hbO9.mono hle)).setCell (p := ⟨w5.heap.size, 5, none⟩) hle _).setCell (p := ⟨w5.heap.size, 6, none⟩) hle _).setCell (p := ⟨w5.heap.size, 7, none⟩) hle _).setCell (p := ⟨w5.heap.size, 0, none⟩) hle _
            · obtain ⟨i', k, hk3, htk, hidx, hil, hPT⟩ := HPL.out rfl
              dsimp only at htk
              subst htk
              have HIX := hide hidx
              have HPT := hide hPT
              obtain ⟨ga2, gc2, ef, -, -, hcf0⟩ := id hF5
              cases ef
              obtain ⟨fb, fo, rfl, hcf⟩ := hcf0 i' hil
              obtain ⟨fp, hfp⟩ : ∃ fp, (findsD a).getD i' dot0 = fp := ⟨_, rfl⟩
              rw [hfp] at HPT hcf
              obtain ⟨fi, fx, fy, ft⟩ := fp
              have x0 : w5.cell? ⟨fb, fo + i' * 4, none⟩ = some (iV fi) := hcf 0 _ rfl
              clear hcf hcf0 hfp hidx hPT HPL
              dsimp only at HPT
              have lFb := lt_of_cell x0
              dsimp only at lFb
              cases B2
              · have t0 := bT5.cell 0 rfl
                have b0 := bB5.cell 0 rfl
                have lT := bT5.lt
                have lB5 := bB5.lt
                have lD := lt_of_cell d0
                dsimp only at lD
                go_wp2_with fail
                generalize hXX : World.alloc w5 _ = W6
                have hbO6 : Below w5.heap.size w5 W6 := by rw [← hXX]; exact bal w5 _
                have bO6 : Blk W6 w5.heap.size [iV 2, iV 0, iV 0, iV 0, iV (-1), iV 0, iV 0, iV 0] 55 := by rw [← hXX]; exact Blk.newA w5 _ rfl
                clear hXX t0 b0
                refine (HS1.out W6 hbO6).mono ?_
                rintro e w7 ⟨rfl, hb7⟩
                have hbO7 := hbO6.trans (hb7.mono hbO6.size)
                have bO7 := bO6.later hb7
                have g1 := bO7.frozen 1
                have g2 := bO7.frozen 2
                have g3 := bO7.frozen 3
                have r1 := bO7.cell 1 rfl
                have r2 := bO7.cell 2 rfl
                have r3 := bO7.cell 3 rfl
                have t0 := (bT5.below hbO7 bT5.lt).cell 0 rfl
                have b0 := (bB5.below hbO7 bB5.lt).cell 0 rfl
                have q0 := (hbO7.cell (lt_of_cell d0)).trans d0
                have q1 := (hbO7.cell (lt_of_cell d1)).trans d1
                have q2 := (hbO7.cell (lt_of_cell d2)).trans d2
                have q3 := (hbO7.cell (lt_of_cell d3)).trans d3
                go_wp2_with fail
                have hS8 := And.intro (((bO7.set 1 (iV ((k : Int)))).set 2 (iV m2)).set 3 (iV m3)) (((hbO7.setCell (p := ⟨w5.heap.size, 1, none⟩) (Nat.le_refl _) (iV ((k : Int)))).setCell (p := ⟨w5.heap.size, 2, none⟩) (Nat.le_refl _) (iV m2)).setCell (p := ⟨w5.heap.size, 3, none⟩) (Nat.le_refl _) (iV m3))
                generalize World.setCell (World.setCell (World.setCell w7 _ _) _ _) _ _ = W8 at hS8 ⊢
                obtain ⟨bO8', hbO8⟩ := hS8
                have bO8 : Blk W8 w5.heap.size [iV 2, iV ((k : Int)), iV m2, iV m3, iV (-1), iV 0, iV 0, iV 0] 55 := bO8'
                clear g1 g2 g3 r1 r2 r3 bO8' t0 b0 q0 q1 q2 q3 bO7 hbO7
                refine (HS2.out W8 hbO8).mono ?_
                rintro e w9 ⟨rfl, hb9⟩
                have hbO9 := hbO8.trans (hb9.mono hbO8.size)
                have bO9 := bO8.later hb9
                have o0 := (bO9).cell 0 rfl
                have o1 := (bO9).cell 1 rfl
                have o2 := (bO9).cell 2 rfl
                have o3 := (bO9).cell 3 rfl
                have o4 := (bO9).cell 4 rfl
                have o5 := (bO9).cell 5 rfl
                have o6 := (bO9).cell 6 rfl
                have o7 := (bO9).cell 7 rfl
                have p0 := (bO9).frozen 0
                have p4 := (bO9).frozen 4
                have p5 := (bO9).frozen 5
                have p6 := (bO9).frozen 6
                have p7 := (bO9).frozen 7
                go_wp2_with fail
                have hS10 := And.intro ((((bO9.set 5 (iV n1)).set 6 (iV n2)).set 7 (iV n3)).set 0 (iV 3)) ((((hbO9.setCell (p := ⟨w5.heap.size, 5, none⟩) (Nat.le_refl _) (iV n1)).setCell (p := ⟨w5.heap.size, 6, none⟩) (Nat.le_refl _) (iV n2)).setCell (p := ⟨w5.heap.size, 7, none⟩) (Nat.le_refl _) (iV n3)).setCell (p := ⟨w5.heap.size, 0, none⟩) (Nat.le_refl _) (iV 3))
                generalize World.setCell (World.setCell (World.setCell (World.setCell w9 _ _) _ _) _ _) _ _ = W10 at hS10 ⊢
                obtain ⟨bO10', hbO10⟩ := hS10
                have bO10 : Blk W10 w5.heap.size [iV 3, iV k, iV m2, iV m3, iV (-1), iV n1, iV n2, iV n3] 55 := bO10'
                clear bO10' o0 o1 o2 o3 o4 o5 o6 o7 p0 p4 p5 p6 p7 bO9
                have HON : Hid (OnDots 56 #[.pointer (some ⟨w5.heap.size, 0, none⟩), .pointer (some ⟨w.heap.size, 0, none⟩), .pointer (some ⟨w2.heap.size, 0, none⟩)] (fun p => hasB (shiftD k p ⟨qi, qx, qy, qt⟩) m2 m3) (findsD a) W10) := hide fun W hW p hp =>
                  have hW5 := hbO10.trans (hW.mono hbO10.size)
                  judge2_any p ⟨qi, qx, qy, qt⟩ k m2 m3 n b _ w5.heap.size w.heap.size w2.heap.size W hk3 (HFO.out p hp) HOK.out (hG5.later hW5) (hB5.below hW5) hnb HQE.out ((bO10.later hW).cell 1 rfl) ((bO10.later hW).cell 2 rfl) ((bO10.later hW).cell 3 rfl) ((bB5.below hW5 bB5.lt).cell 0 rfl) ((bT5.below hW5 bT5.lt).cell 0 rfl)
                have HIF := hide (idxdot_any 56 _ (Go.Proofs.enters_of Tryd.func56 (by kernel_rfl) rfl) _ (findsD a) _ W10 (hFF.out.below hbO10) HON.out)
                rw [HIX.out] at HIF
                refine HIF.out.mono ?_
                rintro e w11 ⟨rfl, hb11⟩
                have bO11 := bO10.later hb11
                have hbO11 := hbO10.trans (hb11.mono hbO10.size)
                have x1 := (hbO11.cell (lt_of_cell x0)).trans x0
                have o0 := (bO11).cell 0 rfl
                have o1 := (bO11).cell 1 rfl
                have o2 := (bO11).cell 2 rfl
                have o3 := (bO11).cell 3 rfl
                have o4 := (bO11).cell 4 rfl
                have o5 := (bO11).cell 5 rfl
                have o6 := (bO11).cell 6 rfl
                have o7 := (bO11).cell 7 rfl
                have p0 := (bO11).frozen 0
                have p4 := (bO11).frozen 4
                have p5 := (bO11).frozen 5
                have p6 := (bO11).frozen 6
                have p7 := (bO11).frozen 7
                have bR11 := bR5.below hbO11 bR5.lt
                have lR := bR5.lt
                have g0 := (bR11).frozen 0
                have g1 := (bR11).frozen 1
                have g2 := (bR11).frozen 2
                have g3 := (bR11).frozen 3
                have g4 := (bR11).frozen 4
                have g5 := (bR11).frozen 5
                have g6 := (bR11).frozen 6
                have g7 := (bR11).frozen 7
                have r0 := (bR11).cell 0 rfl
                have r1 := (bR11).cell 1 rfl
                have r2 := (bR11).cell 2 rfl
                have r3 := (bR11).cell 3 rfl
                have r4 := (bR11).cell 4 rfl
                have r5 := (bR11).cell 5 rfl
                have r6 := (bR11).cell 6 rfl
                have r7 := (bR11).cell 7 rfl
                go_wp2_with fail
                have hne : w.heap.size + 1 ≠ w5.heap.size := by omega
                have hS := set8 (bR11.other hne 4 (iV fi)) (iV 3) (iV k) (iV m2) (iV m3) (iV fi) (iV n1) (iV n2) (iV n3)
                refine bodyPost_ret (results_cell_tmp_row (p := 6) (u := 7) rfl _ _ (w.heap.size + 1) _ _ _ _ _ rfl hS.1 Tryd.underlying55 rfl (by kernel_rfl) rfl) rfl ?_
                refine ⟨by rw [HV.out, HE.out, HJN.out]; show _ = Ending.returned (.tuple #[verV (verD a b ⟨qi, qx, qy, qt⟩), iV 0]); rw [HVD.out, HPT.out]; rfl, hS.2 _ _ ?_ (by omega)⟩
                have hle := hbw5.size
                exact (hbw5.trans (hbO11.mono hle)).setCell (p := ⟨w5.heap.size, 4, none⟩) hle _
              · have t0 := bT5.cell 0 rfl
                have b0 := bB5.cell 0 rfl
                have lT := bT5.lt
                have lB5 := bB5.lt
                have lD := lt_of_cell d0
                dsimp only at lD
                go_wp2_with fail
                generalize hXX : World.alloc w5 _ = W6
                have hbO6 : Below w5.heap.size w5 W6 := by rw [← hXX]; exact bal w5 _
                have bO6 : Blk W6 w5.heap.size [iV 2, iV 0, iV 0, iV 0, iV (-1), iV 0, iV 0, iV 0] 55 := by rw [← hXX]; exact Blk.newA w5 _ rfl
                clear hXX t0 b0
                refine (HS1.out W6 hbO6).mono ?_
                rintro e w7 ⟨rfl, hb7⟩
                have hbO7 := hbO6.trans (hb7.mono hbO6.size)
                have bO7 := bO6.later hb7
                have g1 := bO7.frozen 1
                have g2 := bO7.frozen 2
                have g3 := bO7.frozen 3
                have r1 := bO7.cell 1 rfl
                have r2 := bO7.cell 2 rfl
                have r3 := bO7.cell 3 rfl
                have t0 := (bT5.below hbO7 bT5.lt).cell 0 rfl
                have b0 := (bB5.below hbO7 bB5.lt).cell 0 rfl
                have q0 := (hbO7.cell (lt_of_cell d0)).trans d0
                have q1 := (hbO7.cell (lt_of_cell d1)).trans d1
                have q2 := (hbO7.cell (lt_of_cell d2)).trans d2
                have q3 := (hbO7.cell (lt_of_cell d3)).trans d3
                go_wp2_with fail
                have hS8 := And.intro (((bO7.set 1 (iV ((k : Int)))).set 2 (iV m2)).set 3 (iV m3)) (((hbO7.setCell (p := ⟨w5.heap.size, 1, none⟩) (Nat.le_refl _) (iV ((k : Int)))).setCell (p := ⟨w5.heap.size, 2, none⟩) (Nat.le_refl _) (iV m2)).setCell (p := ⟨w5.heap.size, 3, none⟩) (Nat.le_refl _) (iV m3))
                generalize World.setCell (World.setCell (World.setCell w7 _ _) _ _) _ _ = W8 at hS8 ⊢
                obtain ⟨bO8', hbO8⟩ := hS8
                have bO8 : Blk W8 w5.heap.size [iV 2, iV ((k : Int)), iV m2, iV m3, iV (-1), iV 0, iV 0, iV 0] 55 := bO8'
                clear g1 g2 g3 r1 r2 r3 bO8' t0 b0 q0 q1 q2 q3 bO7 hbO7
                refine (HS2.out W8 hbO8).mono ?_
                rintro e w9 ⟨rfl, hb9⟩
                have hbO9 := hbO8.trans (hb9.mono hbO8.size)
                have bO9 := bO8.later hb9
                have o0 := (bO9).cell 0 rfl
                have o1 := (bO9).cell 1 rfl
                have o2 := (bO9).cell 2 rfl
                have o3 := (bO9).cell 3 rfl
                have o4 := (bO9).cell 4 rfl
                have o5 := (bO9).cell 5 rfl
                have o6 := (bO9).cell 6 rfl
                have o7 := (bO9).cell 7 rfl
                have p0 := (bO9).frozen 0
                have p4 := (bO9).frozen 4
                have p5 := (bO9).frozen 5
                have p6 := (bO9).frozen 6
                have p7 := (bO9).frozen 7
                go_wp2_with fail
                have hS10 := And.intro (((bO9.set 5 (iV n1)).set 6 (iV n2)).set 7 (iV n3)) (((hbO9.setCell (p := ⟨w5.heap.size, 5, none⟩) (Nat.le_refl _) (iV n1)).setCell (p := ⟨w5.heap.size, 6, none⟩) (Nat.le_refl _) (iV n2)).setCell (p := ⟨w5.heap.size, 7, none⟩) (Nat.le_refl _) (iV n3))
                generalize World.setCell (World.setCell (World.setCell w9 _ _) _ _) _ _ = W10 at hS10 ⊢
                obtain ⟨bO10', hbO10⟩ := hS10
                have bO10 : Blk W10 w5.heap.size [iV 2, iV k, iV m2, iV m3, iV (-1), iV n1, iV n2, iV n3] 55 := bO10'
                clear bO10' o0 o1 o2 o3 o4 o5 o6 o7 p0 p4 p5 p6 p7 bO9
                have HON : Hid (OnDots 56 #[.pointer (some ⟨w5.heap.size, 0, none⟩), .pointer (some ⟨w.heap.size, 0, none⟩), .pointer (some ⟨w2.heap.size, 0, none⟩)] (fun p => hasB (shiftD k p ⟨qi, qx, qy, qt⟩) m2 m3) (findsD a) W10) := hide fun W hW p hp =>
                  have hW5 := hbO10.trans (hW.mono hbO10.size)
                  judge2_any p ⟨qi, qx, qy, qt⟩ k m2 m3 n b _ w5.heap.size w.heap.size w2.heap.size W hk3 (HFO.out p hp) HOK.out (hG5.later hW5) (hB5.below hW5) hnb HQE.out ((bO10.later hW).cell 1 rfl) ((bO10.later hW).cell 2 rfl) ((bO10.later hW).cell 3 rfl) ((bB5.below hW5 bB5.lt).cell 0 rfl) ((bT5.below hW5 bT5.lt).cell 0 rfl)
                have HIF := hide (idxdot_any 56 _ (Go.Proofs.enters_of Tryd.func56 (by kernel_rfl) rfl) _ (findsD a) _ W10 (hFF.out.below hbO10) HON.out)
                rw [HIX.out] at HIF
                refine HIF.out.mono ?_
                rintro e w11 ⟨rfl, hb11⟩
                have bO11 := bO10.later hb11
                have hbO11 := hbO10.trans (hb11.mono hbO10.size)
                have x1 := (hbO11.cell (lt_of_cell x0)).trans x0
                have o0 := (bO11).cell 0 rfl
                have o1 := (bO11).cell 1 rfl
                have o2 := (bO11).cell 2 rfl
                have o3 := (bO11).cell 3 rfl
                have o4 := (bO11).cell 4 rfl
                have o5 := (bO11).cell 5 rfl
                have o6 := (bO11).cell 6 rfl
                have o7 := (bO11).cell 7 rfl
                have p0 := (bO11).frozen 0
                have p4 := (bO11).frozen 4
                have p5 := (bO11).frozen 5
                have p6 := (bO11).frozen 6
                have p7 := (bO11).frozen 7
                have bR11 := bR5.below hbO11 bR5.lt
                have lR := bR5.lt
                have g0 := (bR11).frozen 0
                have g1 := (bR11).frozen 1
                have g2 := (bR11).frozen 2
                have g3 := (bR11).frozen 3
                have g4 := (bR11).frozen 4
                have g5 := (bR11).frozen 5
                have g6 := (bR11).frozen 6
                have g7 := (bR11).frozen 7
                have r0 := (bR11).cell 0 rfl
                have r1 := (bR11).cell 1 rfl
                have r2 := (bR11).cell 2 rfl
                have r3 := (bR11).cell 3 rfl
                have r4 := (bR11).cell 4 rfl
                have r5 := (bR11).cell 5 rfl
                have r6 := (bR11).cell 6 rfl
                have r7 := (bR11).cell 7 rfl
                go_wp2_with fail
                have hne : w.heap.size + 1 ≠ w5.heap.size := by omega
                have hS := set8 (bR11.other hne 4 (iV fi)) (iV 2) (iV k) (iV m2) (iV m3) (iV fi) (iV n1) (iV n2) (iV n3)
                refine bodyPost_ret (results_cell_tmp_row (p := 6) (u := 7) rfl _ _ (w.heap.size + 1) _ _ _ _ _ rfl hS.1 Tryd.underlying55 rfl (by kernel_rfl) rfl) rfl ?_
                refine ⟨by rw [HV.out, HE.out, HJN.out]; show _ = Ending.returned (.tuple #[verV (verD a b ⟨qi, qx, qy, qt⟩), iV 0]); rw [HVD.out, HPT.out]; rfl, hS.2 _ _ ?_ (by omega)⟩
                have hle := hbw5.size
                exact (hbw5.trans (hbO11.mono hle)).setCell (p := ⟨w5.heap.size, 4, none⟩) hle _
  · have HJN : Hid (JD = none) := hide (by
      have hz2 : (FL == 0) = true := by simp at hz ⊢; exact hz
      rw [HJ.out, hz2]; rfl)
    clear HM HJ HNO HYES
    have g0 := (bR2).frozen 0
    have g1 := (bR2).frozen 1
    have g2 := (bR2).frozen 2
    have g3 := (bR2).frozen 3
    have g4 := (bR2).frozen 4
    have g5 := (bR2).frozen 5
    have g6 := (bR2).frozen 6
    have g7 := (bR2).frozen 7
    have r0 := (bR2).cell 0 rfl
    have r1 := (bR2).cell 1 rfl
    have r2 := (bR2).cell 2 rfl
    have r3 := (bR2).cell 3 rfl
    have r4 := (bR2).cell 4 rfl
    have r5 := (bR2).cell 5 rfl
    have r6 := (bR2).cell 6 rfl
    have r7 := (bR2).cell 7 rfl
    have lR := bR2.lt
    go_wp2_with fail
    have hS := set8 bR2 (iV 0) (iV 0) (iV 0) (iV 0) (iV 0) (iV 0) (iV 0) (iV 0)
    refine bodyPost_ret (results_cell_tmp_row (p := 6) (u := 7) rfl _ _ (w.heap.size + 1) _ _ _ _ _ rfl (hS.1.later (bal _ (.cells #[iV n] 3))) Tryd.underlying55 rfl (by kernel_rfl) rfl) rfl ?_
    exact ⟨by rw [HV.out, HE.out, HJN.out]; rfl, below2 (hS.2 _ _ hbw2 (by omega)) (bal _ _)⟩
end Go.Proofs.YtoofkahklboojaaDoor
