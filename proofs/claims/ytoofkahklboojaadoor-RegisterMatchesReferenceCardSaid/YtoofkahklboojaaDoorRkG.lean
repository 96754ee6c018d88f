/- Register: the walk of Blame. Conditions: how the arguments and the global tables lie in memory. -/
import Derived.Test.YtoofkahklboojaaDoorRkF
import Derived.WalkMore
namespace Go.Proofs.YtoofkahklboojaaDoor
open Go.RowKit

def idsC (p : Int × Int) : List Value := [iV p.1, iV p.2]
abbrev IdsIn (c : Rd) (v : Value) (l : List (Int × Int)) : Prop := RecIn idsC (0, 0) 2 c v l
theorem kindIds : RKind idsC 2 58 := ⟨fun x => rfl, fun x u hu => by simp [idsC] at hu; rcases hu with rfl | rfl <;> rfl⟩
theorem infoIds : (Tryd.prog.info? 58).map (fun i => (i.zero, i.size, i.bytes)) = some (some (.agg #[iV 0, iV 0]), 2, 16) := by kernel_rfl
def blameUp (l : List (DotD × DotD)) (k : Nat) : List (Int × Int) := (List.range k).filterMap (blameD l)
theorem blameUp_succ (l : List (DotD × DotD)) (k : Nat) : blameUp l (k + 1) = blameUp l k ++ (blameD l k).toList := by
  unfold blameUp
  rw [List.range_succ, List.filterMap_append]
  cases h : blameD l k <;> simp [h]
theorem blameUp_len (l : List (DotD × DotD)) (k : Nat) : (blameUp l k).length ≤ k := by
  have h1 := List.length_filterMap_le (blameD l) (List.range k)
  rw [List.length_range] at h1; exact h1
def blamed (a b : List DotD) : Bool := errR a b == 0 && (fitsR a b).isEmpty
def blameR (a b : List DotD) : List (Int × Int) := if blamed a b then blameUp (marksD a b) 4 else []
def apartR (k : Nat) (r s : DotD × DotD) : Bool := apartB (shiftD k r.1 r.2) (shiftD k s.1 s.2)
theorem blame_step {l : List (DotD × DotD)} (k i : Nat) (h : i < l.length) : blameD (l.drop i) k = match (l.drop (i + 1)).find? (apartR k (l.getD i pair0)) with
    | some s => some ((l.getD i pair0).1.id, s.1.id)
    | none => blameD (l.drop (i + 1)) k := by
  rw [List.drop_eq_getElem_cons h, List.getD_eq_getElem?_getD, List.getElem?_eq_getElem h, blameD]; rfl
theorem find_none {α : Type} {l : List α} {j : Nat} {d : α} {p : α → Bool} (hj : j < l.length) (h : (l.take j).find? p = none) (hp : p (l.getD j d) = false) : (l.take (j + 1)).find? p = none := by
  rw [take_succ' l j d hj, List.find?_append, h, List.find?_cons, hp]; rfl
theorem find_some {α : Type} {l : List α} {j : Nat} {d : α} {p : α → Bool} (hj : j < l.length) (h : (l.take j).find? p = none) (hp : p (l.getD j d) = true) : l.find? p = some (l.getD j d) := by
  have e : l = l.take j ++ (l.getD j d :: l.drop (j + 1)) := by
    rw [List.getD_eq_getElem?_getD, List.getElem?_eq_getElem hj]
    show l = l.take j ++ (l[j] :: l.drop (j + 1))
    rw [← List.drop_eq_getElem_cons hj, List.take_append_drop]
  rw [e, List.find?_append, h, ← e, List.find?_cons, hp]; rfl
set_option maxRecDepth 100000 in
set_option maxHeartbeats 2000000 in
theorem blame_any (a b : List DotD) (va vb : Value) (w : World) (ha : DotsAt w va a) (hb : DotsAt w vb b) (hG : Glob w) :
    Calls Tryd.prog 18 #[va, vb] w (RetM2 (fun c v u => IdsIn c v (blameR a b) ∧ u = .bool (blamed a b)) w) := by
  have HR : Hid (blameR a b = if blamed a b then blameUp (marksD a b) 4 else []) := hide rfl
  have HB : Hid (blamed a b = (errR a b == 0 && (fitsR a b).isEmpty)) := hide rfl
  have hml := marks_len a b
  have HMK := hide (fun (W : World) h => marks_any a b va vb W (ha.below (W := W) h) (hb.below h))
  generalize blameR a b = FR at *
  generalize blamed a b = ER at *
  go_enter Tryd.func18, Tryd.ntmps18
  go_wp2_with fail
  go_step3
  go_wp2_with fail
  refine (fits_any a b va vb _ ha hb hG).mono ?_
  rintro e w1 ⟨v1, u1, rfl, ⟨hv1, rfl⟩, hb1⟩
  obtain ⟨fa, fc, rfl, -, -, -⟩ := id hv1
  generalize fitsR a b = F at *
  cases hz : (errR a b == 0)
  · have hz' : (errR a b != 0) = true := by simp [bne, hz]
    rw [hz] at HB
    generalize errR a b = E at *
    go_wp2_with fail
    rw [Exit.noGoto_ret]
    go_ret2
    exact ⟨_, _, rfl, ⟨by rw [HR.out, HB.out]; exact RecIn.nil _, by rw [HB.out]; rfl⟩, hb1⟩
  · have hz' : (errR a b != 0) = false := by simp [bne, hz]
    rw [hz] at HB
    generalize errR a b = E at *
    cases hf : decide (0 < F.length)
    · have hfe : F.isEmpty = true := by cases F with | nil => rfl | cons => simp at hf
      rw [hfe] at HB
      go_wp2_with fail
      refine (HMK.out _ hb1).mono ?_
      rintro e w2 ⟨v2, rfl, hv2, hb2⟩
      have hv3 : PairsAt w2 v2 (marksD a b) := hv2.at
      obtain ⟨la, lc, rfl, hll, -, hc⟩ := id hv3
      have hG2 := hG.later (below2 hb1 hb2)
      have HD := hide (marks_dots a b)
      have hb12 := below2 hb1 hb2
      have HC := hide hc
      clear HMK hc hv2
      generalize marksD a b = l at *
      go_wp2_with fail
      go_step3
      go_wp2_with fail
      go_loopw [9, 31] (fun v i wr => ∃ (k : Nat), k ≤ 4 ∧ i = .int .i64 k ∧ OwnR wr w2.heap.size 58 2 v ((blameUp l k).map idsC) ∧ Below w2.heap.size w2 wr) (fun _ i _ => 4 - (intOf i).toNat)
      case atStart => exact ⟨0, by omega, rfl, OwnR.nil _ _ _ _, Below.refl _ _⟩
      case round =>
        obtain ⟨k, hk, rfl, hown, hbr⟩ := hrel
        by_cases hlt : k < 4
        · have hk4 : decide ((k : Int) < 4) = true := by simp; omega
          have HS := hide (blameUp_succ l k)
          have hfl := blameUp_len l k
          have hfl4 : (blameUp l k).length < 1000000 := by omega
          generalize blameUp l k = R at HS hown hfl4
          clear hfl
          go_wp2_with fail
          go_loopw [9, 36] (fun v i wr => ∃ (i' : Nat), i' ≤ l.length ∧ i = .int .i64 i' ∧ Hid (blameD l k = blameD (l.drop i') k) ∧ OwnR wr w2.heap.size 58 2 v (R.map idsC) ∧ Below w2.heap.size w2 wr) (fun _ i _ => l.length - (intOf i).toNat)
          case atStart => exact ⟨0, by omega, rfl, rfl, hown, hbr⟩
          case round => 
            obtain ⟨i', hi', rfl, HI, hown, hbr⟩ := hrel
            by_cases hlt' : i' < l.length
            · obtain ⟨bl, o, rfl, hck⟩ := HC.out i' hlt'
              have hr := hide (HD.out _ (getD_mem l i' (d := pair0) hlt'))
              have HU := hide (blame_step (l := l) k i' hlt')
              generalize l.getD i' pair0 = p at hr HU hck
              obtain ⟨⟨pi, px, py, pt⟩, qi, qx, qy, qt⟩ := p
              have e0 : wr.cell? ⟨bl, o + i' * 8, none⟩ = some (iV pi) := keep hbr (hck 0 _ rfl)
              have e1 : wr.cell? ⟨bl, o + i' * 8 + 1, none⟩ = some (iV px) := keep hbr (hck 1 _ rfl)
              have e2 : wr.cell? ⟨bl, o + i' * 8 + 2, none⟩ = some (iV py) := keep hbr (hck 2 _ rfl)
              have e3 : wr.cell? ⟨bl, o + i' * 8 + 3, none⟩ = some (iV pt) := keep hbr (hck 3 _ rfl)
              have e4 : wr.cell? ⟨bl, o + i' * 8 + 4, none⟩ = some (iV qi) := keep hbr (hck 4 _ rfl)
              have e5 : wr.cell? ⟨bl, o + i' * 8 + 5, none⟩ = some (iV qx) := keep hbr (hck 5 _ rfl)
              have e6 : wr.cell? ⟨bl, o + i' * 8 + 6, none⟩ = some (iV qy) := keep hbr (hck 6 _ rfl)
              have e7 : wr.cell? ⟨bl, o + i' * 8 + 7, none⟩ = some (iV qt) := keep hbr (hck 7 _ rfl)
              clear hck
              have HL2 : Hid ((l.drop (i' + 1)).length = l.length - (i' + 1)) := hide (by rw [List.length_drop])
              by_cases hcap : lc = i' + 1
              · subst hcap
                have hl0 : l.length - (i' + 1) = 0 := by omega
                go_wp2_with fail
                have HI2 : Hid (blameD l k = blameD (l.drop (i' + 1)) k) := hide (by
                  have hn : l.drop (i' + 1) = [] := List.length_eq_zero_iff.1 (by rw [HL2.out]; exact hl0)
                  rw [HI.out, HU.out, hn]; rfl)
                generalize hXX : World.alloc wr _ = X
                have hbX : Below wr.heap.size wr X := by rw [← hXX]; exact bal wr _
                have hownX := hown.later' hbX
                have hbrX := below2 hbr hbX
                generalize wr.heap.size = PB at *
                clear hXX e0 e1 e2 e3 e4 e5 e6 e7
                go_loopw [9, 46] (fun v i wr => i = .int .i64 0 ∧ OwnR wr w2.heap.size 58 2 v (R.map idsC) ∧ Below w2.heap.size w2 wr) (fun _ i _ => 0)
                case atStart => exact ⟨rfl, hownX, hbrX⟩
                case round =>
                  obtain ⟨rfl, hown, hbr⟩ := hrel
                  go_wp2_with fail
                  go_roundw
                  case rel => exact ⟨i' + 1, by omega, by go_num, HI2, hown, hbr⟩
                  case measure => simp [intOf]; omega
              · have hcap2 : ¬ i' + 1 = lc := fun e => hcap e.symm
                go_wp2_with fail
                generalize hXX : World.alloc wr _ = X
                have hbX : Below wr.heap.size wr X := by rw [← hXX]; exact bal wr _
                have bP : Blk X wr.heap.size [iV pi, iV px, iV py, iV pt, iV qi, iV qx, iV qy, iV qt] 86 := by rw [← hXX]; exact Blk.newA wr _ rfl
                have hownX := hown.later' hbX
                have hbrX := below2 hbr hbX
                have hPB : w2.heap.size ≤ wr.heap.size := hbr.size
                generalize wr.heap.size = PB at *
                clear hXX e0 e1 e2 e3 e4 e5 e6 e7
                go_loopw [9, 46] (fun v i wr => ∃ (j : Nat), j ≤ l.length - (i' + 1) ∧ i = .int .i64 j ∧ Hid (((l.drop (i' + 1)).take j).find? (apartR k ((⟨pi, px, py, pt⟩ : DotD), (⟨qi, qx, qy, qt⟩ : DotD))) = none) ∧ OwnR wr w2.heap.size 58 2 v (R.map idsC) ∧ Blk wr PB [iV pi, iV px, iV py, iV pt, iV qi, iV qx, iV qy, iV qt] 86 ∧ Below w2.heap.size w2 wr) (fun _ i _ => l.length - (i' + 1) - (intOf i).toNat)
                case atStart => exact ⟨0, by omega, rfl, rfl, hownX, bP, hbrX⟩
                case round =>
                  obtain ⟨j, hj, rfl, HN, hown, bP, hbr⟩ := hrel
                  by_cases hlj : j < l.length - (i' + 1)
                  · obtain ⟨bm, om, e, hcm⟩ := HC.out (i' + 1 + j) (by omega)
                    cases e
                    have hdj : (l.drop (i' + 1)).getD j pair0 = l.getD (i' + 1 + j) pair0 := by
                      rw [List.getD_eq_getElem?_getD, List.getElem?_drop, List.getD_eq_getElem?_getD]
                    have HF1 := hide (fun h => find_none (l := l.drop (i' + 1)) (j := j) (d := pair0) (p := apartR k ((⟨pi, px, py, pt⟩ : DotD), (⟨qi, qx, qy, qt⟩ : DotD))) (by rw [HL2.out]; exact hlj) HN.out h)
                    have HF2 := hide (fun h => find_some (l := l.drop (i' + 1)) (j := j) (d := pair0) (p := apartR k ((⟨pi, px, py, pt⟩ : DotD), (⟨qi, qx, qy, qt⟩ : DotD))) (by rw [HL2.out]; exact hlj) HN.out h)
                    rw [hdj] at HF1 HF2
                    have hs := hide (HD.out _ (getD_mem l (i' + 1 + j) (d := pair0) (by omega)))
                    generalize l.getD (i' + 1 + j) pair0 = q at HF1 HF2 hcm hs
                    clear hdj
                    obtain ⟨⟨ri, rx, ry, rt⟩, si, sx, sy, st⟩ := q
                    have hcm' : ∀ (j' : Nat) (u : Value), (pairC ((⟨ri, rx, ry, rt⟩ : DotD), (⟨si, sx, sy, st⟩ : DotD)))[j']? = some u → w2.cell? ⟨bl, o + (i' + 1) * 8 + j * 8 + j', none⟩ = some u := fun j' u hu => by
                      have := hcm j' u hu
                      rwa [show o + (i' + 1 + j) * 8 + j' = o + (i' + 1) * 8 + j * 8 + j' by omega] at this
                    have d0 : wr.cell? ⟨bl, o + (i' + 1) * 8 + j * 8, none⟩ = some (iV ri) := keep hbr (hcm' 0 _ rfl)
                    have d1 : wr.cell? ⟨bl, o + (i' + 1) * 8 + j * 8 + 1, none⟩ = some (iV rx) := keep hbr (hcm' 1 _ rfl)
                    have d2 : wr.cell? ⟨bl, o + (i' + 1) * 8 + j * 8 + 2, none⟩ = some (iV ry) := keep hbr (hcm' 2 _ rfl)
                    have d3 : wr.cell? ⟨bl, o + (i' + 1) * 8 + j * 8 + 3, none⟩ = some (iV rt) := keep hbr (hcm' 3 _ rfl)
                    have d4 : wr.cell? ⟨bl, o + (i' + 1) * 8 + j * 8 + 4, none⟩ = some (iV si) := keep hbr (hcm' 4 _ rfl)
                    have d5 : wr.cell? ⟨bl, o + (i' + 1) * 8 + j * 8 + 5, none⟩ = some (iV sx) := keep hbr (hcm' 5 _ rfl)
                    have d6 : wr.cell? ⟨bl, o + (i' + 1) * 8 + j * 8 + 6, none⟩ = some (iV sy) := keep hbr (hcm' 6 _ rfl)
                    have d7 : wr.cell? ⟨bl, o + (i' + 1) * 8 + j * 8 + 7, none⟩ = some (iV st) := keep hbr (hcm' 7 _ rfl)
                    clear hcm hcm'
                    have hlj2 : decide (j < l.length - (i' + 1)) = true := by simpa using hlj
                    have HSH1 := hide (fun (W : World) hG => shifts_any k ⟨pi, px, py, pt⟩ ⟨qi, qx, qy, qt⟩ W (by omega) hr.out.1 hr.out.2 hG)
                    have HSH2 := hide (fun (W : World) hG => shifts_any k ⟨ri, rx, ry, rt⟩ ⟨si, sx, sy, st⟩ W (by omega) hs.out.1 hs.out.2 hG)
                    have HAP : Hid (apartR k ((⟨pi, px, py, pt⟩ : DotD), (⟨qi, qx, qy, qt⟩ : DotD)) ((⟨ri, rx, ry, rt⟩ : DotD), (⟨si, sx, sy, st⟩ : DotD)) = emptyB (meetD (shiftD k ⟨pi, px, py, pt⟩ ⟨qi, qx, qy, qt⟩) (shiftD k ⟨ri, rx, ry, rt⟩ ⟨si, sx, sy, st⟩))) := hide rfl
                    generalize shiftD k ⟨pi, px, py, pt⟩ ⟨qi, qx, qy, qt⟩ = S1 at HSH1 HAP
                    generalize shiftD k ⟨ri, rx, ry, rt⟩ ⟨si, sx, sy, st⟩ = S2 at HSH2 HAP
                    go_wp2_with fail
                    generalize hXX : World.alloc wr _ = X
                    have hbX : Below wr.heap.size wr X := by rw [← hXX]; exact bal wr _
                    have bQ : Blk X wr.heap.size [iV ri, iV rx, iV ry, iV rt, iV si, iV sx, iV sy, iV st] 86 := by rw [← hXX]; exact Blk.newA wr _ rfl
                    have hownX := hown.later' hbX
                    have hbrX := below2 hbr hbX
                    have bPX := bP.later hbX
                    have hGX := hG2.later hbrX
                    clear hXX d0 d1 d2 d3 d4 d5 d6 d7
                    have P0 := bwc (bPX.cell 0 rfl)
                    have P1 := bwc (bPX.cell 1 rfl)
                    have P2 := bwc (bPX.cell 2 rfl)
                    have P3 := bwc (bPX.cell 3 rfl)
                    have P4 := bwc (bPX.cell 4 rfl)
                    have P5 := bwc (bPX.cell 5 rfl)
                    have P6 := bwc (bPX.cell 6 rfl)
                    have P7 := bwc (bPX.cell 7 rfl)
                    have Q0 := bwc (bQ.cell 0 rfl)
                    have Q1 := bwc (bQ.cell 1 rfl)
                    have Q2 := bwc (bQ.cell 2 rfl)
                    have Q3 := bwc (bQ.cell 3 rfl)
                    have Q4 := bwc (bQ.cell 4 rfl)
                    have Q5 := bwc (bQ.cell 5 rfl)
                    have Q6 := bwc (bQ.cell 6 rfl)
                    have Q7 := bwc (bQ.cell 7 rfl)
                    have HEM := hide (fun W => isempty_any (meetD S1 S2) W)
                    refine wp_region_bw (by kernel_rfl) (by kernel_rfl) ?_
                    repeat (go_big_quiet_step ((first | (go_at_call 42; first | (with_reducible exact quiet (HSH1.out _ (hGX.later (Bw.h _)))) | (with_reducible exact quiet (HSH2.out _ (hGX.later (Bw.h _))))) | (go_at_call 41; exact quiet (meet_any _ _ _)) | (go_at_call 38; exact quiet (HEM.out _)))))
                    refine wpQuiet_nil ?_
                    rintro _ ⟨ii, rfl⟩
                    have hownI := hownX.later' ii.h
                    have hbrI := below2 hbrX ii.h
                    have bPI := bPX.later ii.h
                    have bQI := bQ.later ii.h
                    have p0 := bPI.cell 0 rfl
                    have q0 := bQI.cell 0 rfl
                    clear P0 P1 P2 P3 P4 P5 P6 P7 Q0 Q1 Q2 Q3 Q4 Q5 Q6 Q7
                    cases hem : emptyB (meetD S1 S2)
                    · rw [hem] at HAP
                      go_wp2_with fail
                      go_roundw
                      case rel => exact ⟨j + 1, by omega, by go_num, hide (HF1.out HAP.out), hownI, bPI, hbrI⟩
                      case measure => simp [intOf]; omega
                    · rw [hem] at HAP
                      have HS2 : Hid (blameUp l (k + 1) = R ++ [(pi, ri)]) := hide (by
                        rw [HS.out, HI.out, HU.out, HF2.out HAP.out]; rfl)
                      go_wp2_with (at_builtin; refine app_recM kindIds infoIds rfl (by decide) Tryd.underlying22 (by decide) rfl _ _ rfl w2.heap.size _ _ rfl hownI (pi, ri) _ rfl rfl hfl4 hbrI.size ?_; intro g cc w5 hown5 hE5 hz5)
                      go_roundw
                      case rel => exact ⟨k + 1, by omega, by go_num, by rw [HS2.out]; exact hown5, hbrI.trans (hE5.below hbrI.size)⟩
                      case measure => simp [intOf]; omega
                  · have HI2 : Hid (blameD l k = blameD (l.drop (i' + 1)) k) := hide (by
                      have hn := HN.out
                      rw [List.take_of_length_le (by rw [HL2.out]; omega)] at hn
                      rw [HI.out, HU.out, hn])
                    go_wp2_with fail
                    go_roundw
                    case rel => exact ⟨i' + 1, by omega, by go_num, HI2, hown, hbr⟩
                    case measure => simp [intOf]; omega
            · obtain rfl : i' = l.length := by omega
              have HI2 : Hid (blameD l k = none) := hide (by rw [HI.out, List.drop_length]; rfl)
              go_wp2_with fail
              go_roundw
              case rel => exact ⟨k + 1, by omega, by go_num, by rw [HS.out, HI2.out]; simpa using hown, hbr⟩
              case measure => simp [intOf]; omega
        · obtain rfl : k = 4 := by omega
          go_wp2_with fail
          rw [Exit.noGoto_ret]
          go_ret2
          exact ⟨_, _, rfl, ⟨by rw [HR.out, HB.out]; exact RecIn.of_own hown (fun _ => rfl) hb12.size, by rw [HB.out]; rfl⟩, hb12.trans (hbr.mono hb12.size)⟩
    · have hfe : F.isEmpty = false := by cases F with | nil => simp at hf | cons => rfl
      rw [hfe] at HB
      go_wp2_with fail
      rw [Exit.noGoto_ret]
      go_ret2
      exact ⟨_, _, rfl, ⟨by rw [HR.out, HB.out]; exact RecIn.nil _, by rw [HB.out]; rfl⟩, hb1⟩
end Go.Proofs.YtoofkahklboojaaDoor
