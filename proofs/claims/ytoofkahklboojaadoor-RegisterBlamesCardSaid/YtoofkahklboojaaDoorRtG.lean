/- Register: the walk of RegisterBlames. Conditions: how the truth and the global tables lie in memory; that integers are of 64 bits. -/
import Derived.Test.YtoofkahklboojaaDoorRkZS
import Derived.Test.YtoofkahklboojaaDoorRkQ
import Derived.Test.YtoofkahklboojaaDoorRhD
import Derived.Test.YtoofkahklboojaaDoorRtC
namespace Go.Proofs.YtoofkahklboojaaDoor
open Go.RowKit

theorem last_id {l : List DotD} (h : validD l = true) : -9223372036854775808 ≤ (l.getD (l.length - 1) dot0).id ∧ (l.getD (l.length - 1) dot0).id < 9223372036854775807 := by
  by_cases hl : l.length = 0
  · have : l = [] := by simpa using hl
    rw [this]; decide
  · have hm := getD_mem l (l.length - 1) (d := dot0) (by omega)
    have := valid_ok h _ hm
    generalize l.getD (l.length - 1) dot0 = p at *
    unfold dotOk at this
    simp at this; omega
theorem filt_succ {l : List DotD} {k : Nat} {h : DotD → Bool} (hk : k < l.length) : (l.take (k + 1)).filter h = (l.take k).filter h ++ if h (l.getD k dot0) = true then [l.getD k dot0] else [] := by
  rw [take_succ' l k dot0 hk, List.filter_append]
  congr 1
  cases hh : h (l.getD k dot0) <;> simp [hh, -List.getD_eq_getElem?_getD]
theorem ids_at {c : Rd} {v : Value} {f : Nat → Int × Int} (h : IdsIn c v [f 0, f 1, f 2, f 3]) : ∃ b o cc, v = .slice (some ⟨b, o, none⟩) 4 cc ∧ ∀ k, k < 4 → c ⟨b, o + k * 2, none⟩ = some (iV (f k).1) ∧ c ⟨b, o + k * 2 + 1, none⟩ = some (iV (f k).2) := by
  obtain ⟨a, cc, rfl, -, -, hc⟩ := h
  obtain ⟨b, o, rfl, -⟩ := hc 0 (by simp)
  refine ⟨b, o, cc, rfl, fun k hk => ?_⟩
  obtain ⟨b', o', e, h⟩ := hc k (by simpa using hk)
  cases e
  have e1 : [f 0, f 1, f 2, f 3].getD k (0, 0) = f k := by
    match k, hk with
    | 0, _ => rfl
    | 1, _ => rfl
    | 2, _ => rfl
    | 3, _ => rfl
  rw [e1] at h
  exact ⟨h 0 _ rfl, h 1 _ rfl⟩
set_option maxRecDepth 100000 in
set_option maxHeartbeats 4000000 in
theorem blamel_any (t : TruthD) (mv fv tv ev : Value) (bp : Int × Int × Int) (w : World) (ht : TruthAt w mv fv tv ev t) (h64 : Truth64 t) (kb : i64B bp.1 ∧ i64B bp.2.1 ∧ i64B bp.2.2) (hG0 : Glob w) :
    Calls Tryd.prog 9 #[truthV mv fv tv ev t, .agg #[iV bp.1, iV bp.2.1, iV bp.2.2]] w (Ret (.bool true) w) := by
  have hval := surv_valid t
  have hlast := last_id hval.2
  have hblen := valid_len hval.2
  have halen := valid_len hval.1
  have HSV := hide (fun (W : World) hb => surveys_any mv fv tv ev t W (ht.below hb) h64)
  obtain ⟨ma, mc, rfl, -, -, -⟩ := id' ht.marks
  obtain ⟨fa, fc, rfl, -, -, -⟩ := id' ht.finds
  obtain ⟨ta, tc, rfl, -, -, -⟩ := id' ht.tols
  obtain ⟨ea, ec, rfl, -, -, -⟩ := id' ht.errs
  obtain ⟨b0, b1, b2⟩ := bp
  obtain ⟨kb0, kb1, kb2⟩ := kb
  dsimp only at kb0 kb1 kb2 ⊢
  generalize survA t = A at *
  generalize survB t = B at *
  have HBT := hide (fun (v : Value) (W : World) (h : DotsAt W v B) => bent_any B b0 b1 b2 v W h kb0 kb2 (by omega) hlast)
  clear hlast hval kb0 kb1 kb2
  go_enter Tryd.func9, Tryd.ntmps9
  go_wp2_with fail
  generalize hX1 : World.alloc w _ = X1
  have zX1 : X1.heap.size = w.heap.size + 1 := by rw [← hX1]; simp
  have bX1 : Below w.heap.size w X1 := by rw [← hX1]; exact bal w _
  have bT_1 : Blk X1 (w.heap.size) [.slice ma t.marks.length mc, .slice fa t.finds.length fc, iV t.mot.1, iV t.mot.2.1, iV t.mot.2.2, .slice ta t.tols.length tc, .slice ea t.errs.length ec] 28 := by rw [← hX1]; exact Blk.newA w _ (by first | rfl | simp)
  generalize hX2 : World.alloc X1 _ = X2
  have zX2 : X2.heap.size = w.heap.size + 1 + 1 := by rw [← hX2]; simp [zX1]
  have bX2 : Below X1.heap.size X1 X2 := by rw [← hX2]; exact bal X1 _
  have bP : Blk X2 (w.heap.size + 1) [iV b0, iV b1, iV b2] 24 := by rw [← hX2, ← zX1]; exact Blk.newA X1 _ (by first | rfl | simp)
  have bT := bT_1.later bX2
  have Xb := below2 (bX1) bX2
  have Xz := zX2
  clear hX1 zX1 bX1 hX2 zX2 bX2 bT_1
  refine (sane_any _ (hG0.later Xb)).mono ?_
  rintro e w1 ⟨rfl, hb1⟩
  have bT1 := bT.later hb1
  have bP1 := bP.later hb1
  have hbw1 := below2 Xb hb1
  have t0 := (bT1).cell 0 rfl
  have t1 := (bT1).cell 1 rfl
  have t2 := (bT1).cell 2 rfl
  have t3 := (bT1).cell 3 rfl
  have t4 := (bT1).cell 4 rfl
  have t5 := (bT1).cell 5 rfl
  have t6 := (bT1).cell 6 rfl
  go_wp2_with fail
  refine (HSV.out _ hbw1).mono ?_
  rintro e w2 ⟨va, vb, rfl, ⟨hA0, hB0⟩, hb2⟩
  have DA : DotsAt w2 va A := hA0.at
  have DB : DotsAt w2 vb B := hB0.at
  have bP2 := bP1.later hb2
  have hbw2 := below2 hbw1 hb2
  obtain ⟨aa, ac, rfl, -, -, hac⟩ := id DA
  obtain ⟨ba, bc, rfl, -, -, -⟩ := id DB
  have HAC := hide hac
  clear hA0 hB0 t0 t1 t2 t3 t4 t5 t6 hac
  have p0 := bP2.cell 0 rfl
  have p1 := bP2.cell 1 rfl
  have p2 := bP2.cell 2 rfl
  go_wp2_with fail
  refine (HBT.out _ _ DB).mono ?_
  rintro e w3 ⟨vc, rfl, hC0, hb3⟩
  have DC : DotsAt w3 vc (bentD B b0 b1 b2) := hC0.at
  have DA3 := DA.below hb3
  have hbw3 := below2 hbw2 hb3
  have hG3 := hG0.later hbw3
  generalize bentD B b0 b1 b2 = C at *
  obtain ⟨ca, cc, rfl, -, -, -⟩ := id DC
  clear p0 p1 p2 hC0 DA DB HBT
  go_wp2_with fail
  refine (fits_any A C _ _ _ DA3 DC hG3).mono ?_
  rintro e w4 ⟨vl, u, rfl, ⟨hF, hu⟩, hb4⟩
  subst hu
  have DF := hF.at
  obtain ⟨la, lc, rfl, -, -, -⟩ := id DF
  clear hF
  go_wp2_with fail
  refine (blame_any A C _ _ _ (DA3.below hb4) (DC.below hb4) (hG3.later hb4)).mono ?_
  rintro e w5 ⟨vp, u, rfl, ⟨hP, hu⟩, hb5⟩
  subst hu
  have DP := hP.at
  clear hP
  have hb35 := below2 hb4 hb5
  have hbw5 := below2 hbw3 hb35
  cases hbl : blamed A C
  · have hno := blame_no hbl
    rw [hno] at DP
    obtain ⟨pa, pc, rfl, -, -, -⟩ := DP
    by_cases he : errR A C = 0
    · have hl : ¬ (fitsR A C).length = 0 := fun h => by
        have := (blamed_iff A C).2 ⟨he, List.length_eq_zero_iff.1 h⟩
        rw [hbl] at this; cases this
      rw [he]
      clear DF he hbl
      generalize fitsR A C = FL at *
      generalize FL.length = n at *
      have hd : decide (0 < n) = true := by simp; omega
      clear hl
      go_wp2_with fail
      go_ret
      exact ⟨rfl, hbw5⟩
    · have hez : (errR A C == 0) = false := by simpa using he
      generalize errR A C = E at *
      go_wp2_with fail
      go_ret
      exact ⟨rfl, hbw5⟩
  · obtain ⟨f, hf, hfr⟩ := blame_all hbl
    obtain ⟨he, hfz⟩ := (blamed_iff A C).1 hbl
    rw [hfr] at DP
    obtain ⟨pb, po, pc, rfl, hpk⟩ := ids_at DP
    rw [he, hfz]
    have HF0 := hide (fun (k : Nat) (hk : k < 4) u v (e : f k = (u, v)) => blame_turn (k := k) (u := u) (v := v) ((hf k hk).trans (by rw [e])))
    have HPK := hide hpk
    clear hf hfr DP he hfz hbl hpk DF
    go_wp2_with fail
    go_loopw [13] (fun i wr => ∃ k : Nat, k ≤ 4 ∧ i = .int .i64 k ∧ Below w5.heap.size w5 wr) (fun i _ => 4 - (intOf i).toNat)
    case atStart => exact ⟨0, by omega, rfl, Below.refl _ _⟩
    case round =>
      obtain ⟨k, hk, rfl, hbr⟩ := hrel
      by_cases hlt : k < 4
      · have hk4 : decide ((k : Int) < 4) = true := by simp; omega
        obtain ⟨pk0, pk1⟩ := HPK.out k hlt
        have HFk := hide (HF0.out k hlt)
        generalize f k = uv at *
        obtain ⟨u, v⟩ := uv
        obtain ⟨huv, x, y, hxy, hone, herr2, hno2⟩ := HFk.out u v rfl
        dsimp only at pk0 pk1
        have HXY := hide hxy
        have HONE := hide hone
        have HE2 := hide herr2
        have HN2 := hide hno2
        clear hxy hone herr2 hno2 HFk
        go_wp2_with fail
        go_loopw [14, 15] (fun both i wr => ∃ j : Nat, j ≤ A.length ∧ i = .int .i64 j ∧ OwnR wr w5.heap.size 53 4 both (((A.take j).filter (hitD u v)).map dotC) ∧ Below w5.heap.size w5 wr) (fun _ i _ => A.length - (intOf i).toNat)
        case atStart => exact ⟨0, by omega, rfl, OwnR.nil _ _ _ _, hbr⟩
        case round =>
          obtain ⟨j, hj, rfl, hown, hbr⟩ := hrel
          by_cases hlj : j < A.length
          · obtain ⟨bl, o, heq, hck⟩ := HAC.out j hlj
            subst heq
            have hjl : decide (j < A.length) = true := by simpa using hlj
            have HFS := hide (filt_succ (h := hitD u v) hlj)
            have HON := hide (HONE.out _ (getD_mem A j (d := dot0) hlj))
            have HLN : Hid (((A.take j).filter (hitD u v)).length < 1000000) := hide (by
              have h1 := List.length_filter_le (hitD u v) (A.take j)
              rw [List.length_take, Nat.min_eq_left hj] at h1
              omega)
            generalize A.getD j dot0 = z at *
            obtain ⟨zi, zx, zy, zt⟩ := z
            have HCK := hide (fun (W : World) (hb : Below w5.heap.size w5 W) (j' : Nat) (v : Value) hv => keep (below2 hb35 hb) (keep hb3 (hck j' v hv)))
            have e0 := bwc (show wr.cell? ⟨bl, o + j * 4, none⟩ = some (iV zi) from HCK.out _ hbr 0 _ rfl)
            have e1 := bwc (show wr.cell? ⟨bl, o + j * 4 + 1, none⟩ = some (iV zx) from HCK.out _ hbr 1 _ rfl)
            have e2 := bwc (show wr.cell? ⟨bl, o + j * 4 + 2, none⟩ = some (iV zy) from HCK.out _ hbr 2 _ rfl)
            have e3 := bwc (show wr.cell? ⟨bl, o + j * 4 + 3, none⟩ = some (iV zt) from HCK.out _ hbr 3 _ rfl)
            have g0 := bwc (keep hbr pk0)
            have g1 := bwc (keep hbr pk1)
            clear hck
            cases h1 : (zi != u)
            · have hh : hitD u v ⟨zi, zx, zy, zt⟩ = true := by unfold hitD; rw [decide_eq_true (show zi = u by simpa using h1), Bool.true_or]
              have HF := hide (show (A.take (j + 1)).filter (hitD u v) = (A.take j).filter (hitD u v) ++ [⟨zi, zx, zy, zt⟩] by rw [HFS.out, if_pos hh])
              obtain ⟨herr, hlen⟩ := HON.out hh
              have HLL := hide hlen
              have HRR := hide herr
              clear hlen herr hh
              go_wp2_with fail
              refine wp_region_bw (by kernel_rfl) (by kernel_rfl) ?_
              repeat (go_big_quiet_step (fail))
              refine wpQuiet_nil ?_
              rintro _ ⟨i, rfl⟩
              have hown2 := hown.later' i.h
              have hbr2 := below2 hbr i.h
              generalize i.W = WI at *
              have e0 : WI.cell? ⟨bl, o + j * 4, none⟩ = some (iV zi) := HCK.out _ hbr2 0 _ rfl
              have e1 : WI.cell? ⟨bl, o + j * 4 + 1, none⟩ = some (iV zx) := HCK.out _ hbr2 1 _ rfl
              have e2 : WI.cell? ⟨bl, o + j * 4 + 2, none⟩ = some (iV zy) := HCK.out _ hbr2 2 _ rfl
              have e3 : WI.cell? ⟨bl, o + j * 4 + 3, none⟩ = some (iV zt) := HCK.out _ hbr2 3 _ rfl
              go_wp2_with (at_builtin; refine app_recM kindDot infoDot rfl (by decide) Tryd.underlying30 (by decide) rfl _ _ rfl w5.heap.size _ _ rfl hown2 ⟨zi, zx, zy, zt⟩ _ rfl rfl HLN.out hbr2.size ?_; intro g cc w6 hown6 hE6 hz6; have hbr6 := hbr2.trans (hE6.below hbr2.size); have e0' : w6.cell? ⟨bl, o + j * 4, none⟩ = some (iV zi) := HCK.out _ hbr6 0 _ rfl; have e1' : w6.cell? ⟨bl, o + j * 4 + 1, none⟩ = some (iV zx) := HCK.out _ hbr6 1 _ rfl; have e2' : w6.cell? ⟨bl, o + j * 4 + 2, none⟩ = some (iV zy) := HCK.out _ hbr6 2 _ rfl; have e3' : w6.cell? ⟨bl, o + j * 4 + 3, none⟩ = some (iV zt) := HCK.out _ hbr6 3 _ rfl)
              generalize hXX : World.alloc w6 _ = X6
              have hb6 : Below w6.heap.size w6 X6 := by rw [← hXX]; exact bal w6 _
              have bZ : Blk X6 w6.heap.size (([⟨zi, zx, zy, zt⟩] : List DotD).map dotC).flatten 53 := by rw [← hXX]; exact Blk.newA w6 _ rfl
              have DZ := dots_of_blk (l := [⟨zi, zx, zy, zt⟩]) bZ 1 (by simp) (by decide)
              have hbr7 := below2 hbr6 hb6
              have hown7 := hown6.later' hb6
              have hb37 := below2 hb35 hbr7
              clear hXX bZ e0 e1 e2 e3 e0' e1' e2' e3'
              refine (fits_any [⟨zi, zx, zy, zt⟩] C _ _ _ DZ (DC.below hb37) (hG3.later hb37)).mono ?_
              rintro e w8 ⟨vk, u', rfl, ⟨hK, hu⟩, hb8⟩
              subst hu
              rw [HRR.out]
              obtain ⟨ka, kc, rfl, -, -, -⟩ := hK.at
              rw [HLL.out]
              have hown8 := hown7.later' hb8
              have hbr8 := below2 hbr7 hb8
              clear hK HRR HLL
              go_wp2_with fail
              go_roundw
              case rel => exact ⟨j + 1, by omega, by go_num, by rw [HF.out]; exact hown8, hbr8⟩
              case measure => simp [intOf]; omega
            · cases h2 : (zi != v)
              · have hh : hitD u v ⟨zi, zx, zy, zt⟩ = true := by unfold hitD; rw [decide_eq_true (show zi = v by simpa using h2), Bool.or_true]
                have HF := hide (show (A.take (j + 1)).filter (hitD u v) = (A.take j).filter (hitD u v) ++ [⟨zi, zx, zy, zt⟩] by rw [HFS.out, if_pos hh])
                obtain ⟨herr, hlen⟩ := HON.out hh
                have HLL := hide hlen
                have HRR := hide herr
                clear hlen herr hh
                go_wp2_with fail
                refine wp_region_bw (by kernel_rfl) (by kernel_rfl) ?_
                repeat (go_big_quiet_step (fail))
                refine wpQuiet_nil ?_
                rintro _ ⟨i, rfl⟩
                have hown2 := hown.later' i.h
                have hbr2 := below2 hbr i.h
                generalize i.W = WI at *
                have e0 : WI.cell? ⟨bl, o + j * 4, none⟩ = some (iV zi) := HCK.out _ hbr2 0 _ rfl
                have e1 : WI.cell? ⟨bl, o + j * 4 + 1, none⟩ = some (iV zx) := HCK.out _ hbr2 1 _ rfl
                have e2 : WI.cell? ⟨bl, o + j * 4 + 2, none⟩ = some (iV zy) := HCK.out _ hbr2 2 _ rfl
                have e3 : WI.cell? ⟨bl, o + j * 4 + 3, none⟩ = some (iV zt) := HCK.out _ hbr2 3 _ rfl
                go_wp2_with (at_builtin; refine app_recM kindDot infoDot rfl (by decide) Tryd.underlying30 (by decide) rfl _ _ rfl w5.heap.size _ _ rfl hown2 ⟨zi, zx, zy, zt⟩ _ rfl rfl HLN.out hbr2.size ?_; intro g cc w6 hown6 hE6 hz6; have hbr6 := hbr2.trans (hE6.below hbr2.size); have e0' : w6.cell? ⟨bl, o + j * 4, none⟩ = some (iV zi) := HCK.out _ hbr6 0 _ rfl; have e1' : w6.cell? ⟨bl, o + j * 4 + 1, none⟩ = some (iV zx) := HCK.out _ hbr6 1 _ rfl; have e2' : w6.cell? ⟨bl, o + j * 4 + 2, none⟩ = some (iV zy) := HCK.out _ hbr6 2 _ rfl; have e3' : w6.cell? ⟨bl, o + j * 4 + 3, none⟩ = some (iV zt) := HCK.out _ hbr6 3 _ rfl)
                generalize hXX : World.alloc w6 _ = X6
                have hb6 : Below w6.heap.size w6 X6 := by rw [← hXX]; exact bal w6 _
                have bZ : Blk X6 w6.heap.size (([⟨zi, zx, zy, zt⟩] : List DotD).map dotC).flatten 53 := by rw [← hXX]; exact Blk.newA w6 _ rfl
                have DZ := dots_of_blk (l := [⟨zi, zx, zy, zt⟩]) bZ 1 (by simp) (by decide)
                have hbr7 := below2 hbr6 hb6
                have hown7 := hown6.later' hb6
                have hb37 := below2 hb35 hbr7
                clear hXX bZ e0 e1 e2 e3 e0' e1' e2' e3'
                refine (fits_any [⟨zi, zx, zy, zt⟩] C _ _ _ DZ (DC.below hb37) (hG3.later hb37)).mono ?_
                rintro e w8 ⟨vk, u', rfl, ⟨hK, hu⟩, hb8⟩
                subst hu
                rw [HRR.out]
                obtain ⟨ka, kc, rfl, -, -, -⟩ := hK.at
                rw [HLL.out]
                have hown8 := hown7.later' hb8
                have hbr8 := below2 hbr7 hb8
                clear hK HRR HLL
                go_wp2_with fail
                go_roundw
                case rel => exact ⟨j + 1, by omega, by go_num, by rw [HF.out]; exact hown8, hbr8⟩
                case measure => simp [intOf]; omega
              · have hz : hitD u v ⟨zi, zx, zy, zt⟩ = false := by unfold hitD; rw [decide_eq_false (show ¬ zi = u by simpa using h1), decide_eq_false (show ¬ zi = v by simpa using h2)]; rfl
                have HF := hide (show (A.take (j + 1)).filter (hitD u v) = (A.take j).filter (hitD u v) by rw [HFS.out, hz]; simp)
                clear HFS HON hz
                go_wp2_with fail
                refine wp_region_bw (by kernel_rfl) (by kernel_rfl) ?_
                repeat (go_big_quiet_step (fail))
                refine wpQuiet_nil ?_
                rintro _ ⟨i, rfl⟩
                have hown2 := hown.later' i.h
                have hbr2 := below2 hbr i.h
                go_wp2_with fail
                go_roundw
                case rel => exact ⟨j + 1, by omega, by go_num, by rw [HF.out]; exact hown2, hbr2⟩
                case measure => simp [intOf]; omega
          · obtain rfl : j = A.length := by omega
            rw [List.take_length, HXY.out] at hown
            have DXY := (RecIn.of_own (d := dot0) hown (fun _ => rfl) (Nat.le_refl _)).at
            obtain ⟨xa, xc, rfl, -, -, -⟩ := id DXY
            have hb3r := below2 hb35 hbr
            clear hown HXY HONE
            go_wp2_with fail
            refine (fits_any [x, y] C _ _ _ DXY (DC.below hb3r) (hG3.later hb3r)).mono ?_
            rw [HE2.out]
            rintro e w6 ⟨vk, u', rfl, ⟨hK, hu⟩, hb6⟩
            subst hu
            have DK := hK.at
            obtain ⟨ka, kc, rfl, hkl1, hkl2, hkc⟩ := id DK
            have hFm : ((fitsR [x, y] C).length : Int) ≤ 9223372036854775807 := by omega
            have HKC := hide hkc
            have hbr6 := below2 hbr hb6
            generalize fitsR [x, y] C = FL at *
            clear hK hkc DK hkl1 hkl2
            have g0 := bwc (keep hbr6 pk0)
            have g1 := bwc (keep hbr6 pk1)
            have hd1 : decide (v ≤ u) = false := by simpa using huv
            go_wp2_with fail
            refine wp_region_bw (by kernel_rfl) (by kernel_rfl) ?_
            repeat (go_big_quiet_step (fail))
            refine wpQuiet_nil ?_
            rintro _ ⟨i, rfl⟩
            have hbr7 := below2 hbr6 i.h
            have h67 := i.h
            generalize i.W = WI at *
            clear g0 g1
            go_wp2_with fail
            go_loopw [20] (fun i wr => ∃ l : Nat, l ≤ FL.length ∧ i = .int .i64 l ∧ Below w6.heap.size w6 wr) (fun i _ => FL.length - (intOf i).toNat)
            case atStart => exact ⟨0, by omega, rfl, h67⟩
            case round =>
              obtain ⟨l, hl, rfl, hbr⟩ := hrel
              by_cases hll : l < FL.length
              · obtain ⟨bm, om, heq, hcm⟩ := HKC.out l hll
                subst heq
                have hll' : decide (l < FL.length) = true := by simpa using hll
                have hn := HN2.out _ (getD_mem FL l (d := fit0) hll)
                have e0 : wr.cell? ⟨bm, om + l * 5, none⟩ = some (iV ((FL.getD l fit0).1 : Nat)) := keep hbr (hcm 0 _ rfl)
                generalize (FL.getD l fit0).1 = ft at *
                have hne : ((ft : Int) == (k : Int)) = false := by simp; omega
                clear hn hcm
                go_wp2_with fail
                go_roundw
                case rel => exact ⟨l + 1, by omega, by go_num, hbr⟩
                case measure => simp [intOf]; omega
              · obtain rfl : l = FL.length := by omega
                go_wp2_with fail
                go_roundw
                case rel => exact ⟨k + 1, by omega, by go_num, below2 hbr6 hbr⟩
                case measure => simp [intOf]; omega
      · obtain rfl : k = 4 := by omega
        go_wp2_with fail
        go_ret
        exact ⟨rfl, hbw5.trans (hbr.mono hbw5.size)⟩
end Go.Proofs.YtoofkahklboojaaDoor
