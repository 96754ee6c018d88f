/- The walk of ProgramSums. Conditions: how the arguments lie in memory; that integers are of 64 bits. -/
import Derived.Test.YtcaklldmcbpbfaaLwA
namespace Go.Proofs.Ytcaklldmcbpbfaa
open Go.RowKit

set_option maxRecDepth 100000 in
set_option maxHeartbeats 2000000 in
theorem sums_any (v : Int) (x : List Tri) (xv : Value) (g : List Int) (one two : Int) (w : World) (hv : i64B v) (hx : TrisIn w.cell? xv x) (hx64 : ∀ t ∈ x, tri64 t) (hg : g.length = 8) (hg64 : ∀ y ∈ g, i64B y) (h1 : i64B one) (h2 : i64B two) :
    Calls Try.prog 8 #[.int .i64 v, xv, .agg (g.map (Value.int .i64)).toArray, .int .i64 one, .int .i64 two] w (Ret (.bool true) w) := by
  obtain ⟨g0, g1, g2, g3, g4, g5, g6, g7, rfl⟩ : ∃ g0 g1 g2 g3 g4 g5 g6 g7, g = [g0, g1, g2, g3, g4, g5, g6, g7] := by
    match g, hg with
    | [a, b, c, d, e, f, g, h], _ => exact ⟨_, _, _, _, _, _, _, _, rfl⟩
  obtain ⟨xa, xn, rfl, hx1, hx2, -⟩ := id hx
  have HM := hide (fun W (h : Below w.heap.size w W) => made_any v x (.slice xa x.length xn) [g0, g1, g2, g3, g4, g5, g6, g7] W hv (TrisIn.keeps (keeps_of_below h) hx) hx64 hg hg64)
  clear hx hx64 hg hg64
  go_enter Try.func8, Try.ntmps8
  go_wp2_with fail
  generalize hW0 : World.alloc w _ = W0
  have hb0 : Below w.heap.size w W0 := by rw [← hW0]; exact bal w _
  have bG : Blk W0 w.heap.size ([g0, g1, g2, g3, g4, g5, g6, g7].map (Value.int .i64)) 23 := by rw [← hW0]; exact Blk.new w _ _
  clear hW0
  refine (sane_any _).mono ?_
  rintro e w1 ⟨rfl, hb1⟩
  have bG1 := bG.later hb1
  have c0 := bG1.cell 0 rfl
  have c1 := bG1.cell 1 rfl
  have c2 := bG1.cell 2 rfl
  have c3 := bG1.cell 3 rfl
  have c4 := bG1.cell 4 rfl
  have c5 := bG1.cell 5 rfl
  have c6 := bG1.cell 6 rfl
  have c7 := bG1.cell 7 rfl
  go_wp2_with fail
  refine (HM.out _ (below2 hb0 hb1)).mono ?_
  rintro e w2 ⟨pv, rfl, hpv, hb2⟩
  clear c0 c1 c2 c3 c4 c5 c6 c7 HM bG1 bG
  obtain ⟨n, rows, gain, hmf, hn8, hr8, hV⟩ := made_form v x [g0, g1, g2, g3, g4, g5, g6, g7]
  rw [hmf] at hpv
  clear hmf
  obtain ⟨rv, gv, rfl, hr, hgn⟩ := hpv
  have hr2 : RowsAt w2 rv rows := hr.keeps (keeps_frm _ _)
  have hg2 : IntsAt w2 gv gain := hgn.keeps (keeps_frm _ _)
  obtain ⟨ra, rc, rfl, -, hrm, -⟩ := id hr2
  obtain ⟨ga, gc, rfl, -, hgm, -⟩ := id hg2
  have hbw2 := below2 (below2 hb0 hb1) hb2
  clear hr hgn hb0 hb1 hb2
  go_wp2_with fail
  generalize hW3 : World.alloc w2 _ = W3
  have bP : Blk W3 w2.heap.size [.int .i64 n, .slice ra rows.length rc, .slice ga gain.length gc] 29 := by rw [← hW3]; exact Blk.new w2 _ _
  have hb3 : Below w2.heap.size w2 W3 := by rw [← hW3]; exact bal w2 _
  have hr3 := hr2.below hb3
  have hg3 := hg2.below hb3
  have hbw3 := below2 hbw2 hb3
  have p0 := bP.cell 0 rfl
  have p1 := bP.cell 1 rfl
  have p2 := bP.cell 2 rfl
  clear hW3 hb3 hr2 hg2 hbw2
  have hTp := pow_bd (n := n) (by omega)
  have hTb : (2 : Int) ^ n ≤ 256 := by
    have h1 : 2 ^ n ≤ 2 ^ 8 := Nat.pow_le_pow_right (by omega) hn8
    have h3 : (2 : Int) ^ n = ((2 ^ n : Nat) : Int) := by simp
    omega
  obtain ⟨T, hT⟩ : ∃ T : Nat, T = 2 ^ n := ⟨_, rfl⟩
  have hTc : wrap64 (2 ^ n) = (T : Int) := by rw [wrap_id (by omega) (by omega), hT]; simp
  have hT1 : 1 ≤ T ∧ T ≤ 256 := by
    have h3 : (2 : Int) ^ n = ((2 ^ n : Nat) : Int) := by simp
    omega
  have HT := hide hT
  rw [hTc]
  have HTc := hide hTc
  clear hTp hTb hT hTc
  obtain ⟨A, hA, hAT⟩ : ∃ A : Nat, pickF one T = A ∧ A < T := ⟨(pickF one T).toNat, by have := pickF_nonneg one (n := T) (by omega); omega, by have := pickF_lt one (n := T) (by omega); omega⟩
  obtain ⟨B0, hB0, hBT⟩ : ∃ A : Nat, pickF two T = A ∧ A < T := ⟨(pickF two T).toNat, by have := pickF_nonneg two (n := T) (by omega); omega, by have := pickF_lt two (n := T) (by omega); omega⟩
  have HB0 := hide hB0
  refine (pickl_any one T _ h1.1 h1.2 (by omega) (by omega)).mono ?_
  rintro e w4 ⟨rfl, hw4⟩
  obtain rfl := hw4.symm
  rw [hA]
  clear hA hB0
  go_wp2_with fail
  rw [HTc.out]
  refine (pickl_any two T _ h2.1 h2.2 (by omega) (by omega)).mono ?_
  rintro e w4 ⟨rfl, hw4⟩
  obtain rfl := hw4.symm
  rw [HB0.out]
  obtain ⟨B, hB⟩ : ∃ B, notIn B0 A = B := ⟨_, rfl⟩
  have hAN : bits BinOp.andNot IntKind.i64 (B0 : Int) (A : Int) = (B : Int) := by rw [bits_andNot_nat (by omega), hB]
  have hBT : B < T := by have := notIn_le B0 A (by omega); omega
  obtain ⟨C, hC⟩ : ∃ C, C = A ||| B := ⟨_, rfl⟩
  have hor : bits BinOp.or IntKind.i64 (A : Int) (B : Int) = (C : Int) := by rw [bits_or_nat (by omega) (by omega), hC]
  have hCT : C < T := by
    have h1 : A ||| B < 2 ^ n := Nat.or_lt_two_pow (by have := HT.out; omega) (by have := HT.out; omega)
    have := HT.out; omega
  have HD : Hid (∀ l, chosenF l C = chosenF l A + chosenF l B) := hide fun l => by
    rw [hC]; exact chosenF_or (fun k hk => notIn_bit (a := B0) (by rw [hB]; exact hk)) l
  clear HB0 hB hC
  go_wp2_with fail
  clear hAN
  have hAn : A < 2 ^ n := by have := HT.out; omega
  have hBn : B < 2 ^ n := by have := HT.out; omega
  have hCn : C < 2 ^ n := by have := HT.out; omega
  refine (broken_any ⟨n, rows, gain⟩ _ _ A _ hr3 hg3).mono ?_
  rintro e w5 ⟨lv, rfl, hlv, hb5⟩
  rw [brokenF_in hV rfl hAn] at hlv
  change IntsIn _ _ (brokenUp rows A rows.length) at hlv
  have hl5 : IntsAt w5 lv (brokenUp rows A rows.length) := hlv.keeps (keeps_frm _ _)
  have bP5 := bP.later hb5
  have hr5 := hr3.below hb5
  have hg5 := hg3.below hb5
  have hbw5 := below2 hbw3 hb5
  have q0 := bP5.cell 0 rfl
  have q1 := bP5.cell 1 rfl
  have q2 := bP5.cell 2 rfl
  obtain ⟨la, lc, rfl, -, hlm, hlc⟩ := id hl5
  have hllen := brokenUp_le rows A rows.length
  have HKP := hide (keepsB_in hV rfl hAn)
  have HGA := hide (gainF_in hV rfl hAn)
  have HGB := hide (gainF_in hV rfl hBn)
  have HGC := hide (gainF_in hV rfl hCn)
  have hgb : coefsB gain = true ∧ gain.length ≤ 12 := by obtain ⟨-, v12, -, -, h1, h2⟩ := valid_parts hV; exact ⟨h2, by simp at h1 v12; omega⟩
  have HSUM : Hid (∀ r ∈ rows, sumF r A = chosenF r.coef A ∧ sumF r B = chosenF r.coef B ∧ sumF r C = chosenF r.coef C ∧ r.coef.length ≤ 12 ∧ coefsB r.coef = true) := hide fun r hr => by
    have h1 := valid_right hV hr
    have h2 := (valid_parts hV).2.2.2.1 r hr
    exact ⟨sumF_in (by omega) h1 hAn, sumF_in (by omega) h1 hBn, sumF_in (by omega) h1 hCn, by have := h2.1; simp at this; omega, h2.2.1⟩
  clear p0 p1 p2 bP hr3 hg3 hbw3 hlv hV hAn hBn hCn
  go_wp2_with fail
  go_loopw [16, 17] (fun s i wr => ∃ k : Nat, k ≤ rows.length ∧ i = .int .i64 k ∧ s = .int .i64 (brokenUp rows A k).length ∧ Below w5.heap.size w5 wr) (fun _ i _ => rows.length - (intOf i).toNat)
  case atStart => exact ⟨0, by omega, rfl, rfl, Below.refl _ _⟩
  case round =>
    obtain ⟨k, hk, rfl, rfl, hbr⟩ := hrel
    have bPr := bP5.later hbr
    have s0 := bPr.cell 0 rfl
    have s1 := bPr.cell 1 rfl
    have s2 := bPr.cell 2 rfl
    clear q0 q1 q2
    by_cases hlt : k < rows.length
    · have hrr := hr5.below hbr
      obtain ⟨a', n', e', -, -, hrc⟩ := id hrr
      cases e'
      obtain ⟨b, o, cv, rfl, hck⟩ := hrc k hlt
      have hm := getD_mem rows k (d := row0) hlt
      have HY := hide (brokenUp_yes (l := rows) (s := A) (k := k))
      have HN := hide (brokenUp_no (l := rows) (s := A) (k := k))
      have hlek := brokenUp_le rows A k
      have HBA := hide (broken_at (l := rows) (s := A) (k := k) hlt)
      obtain ⟨HA1, HB1, HC1, hcl, hcb⟩ := HSUM.out _ hm
      generalize rows.getD k row0 = y at hck hm HY HN HBA HA1 HB1 HC1 hcl hcb
      obtain ⟨e0, e1, e2, e3, e4, e5, e6⟩ := hck
      obtain ⟨ca, cc, rfl, -, -, -⟩ := id e6
      clear hrc
      have hbd := chosenF_bound y.coef C hcb
      have hsum : IntKind.i64.wrap (sumF y A + sumF y B) = sumF y C := by
        rw [HA1, HB1, HC1, HD.out, IntKind.wrap_i64]
        have := HD.out y.coef
        omega
      have hneq : (sumF y C != sumF y C) = false := by simp
      have HKB : Hid (keptB y A = decide (sumF y A ≤ y.most)) := hide (by rw [HA1]; rfl)
      clear HA1 HB1 HC1 hbd
      go_wp2_with fail
      generalize hW6 : World.alloc wr _ = W6
      have bR : Blk W6 wr.heap.size (rowCells y (.slice ca y.coef.length cc)) 26 := by rw [← hW6]; exact Blk.new wr _ _
      have hb6 : Below wr.heap.size wr W6 := by rw [← hW6]; exact bal wr _
      have e66 : IntsAt W6 _ _ := IntsIn.keeps (keeps_of_below hb6) e6
      clear hW6 e0 e1 e2 e3 e4 e5 s0 s1 s2
      have r0 := bwc (bR.cell 0 rfl)
      have r1 := bwc (bR.cell 1 rfl)
      have r2 := bwc (bR.cell 2 rfl)
      have r3 := bwc (bR.cell 3 rfl)
      have r4 := bwc (bR.cell 4 rfl)
      have r5 := bwc (bR.cell 5 rfl)
      refine wp_region_bw (by kernel_rfl) (by kernel_rfl) ?_
      repeat (go_big_quiet_step ((go_at_call 28; exact quiet (sum_any y _ _ _ (e66.below (Bw.h _))))))
      refine wpQuiet_nil ?_
      rintro _ ⟨i, rfl⟩
      clear r0 r1 r2 r3 r4 r5
      have bRi := bR.later i.h
      have hbi := bwb i ((hbr.trans (hb6.mono hbr.size))) (hbr.trans (hb6.mono hbr.size)).size
      have e67 : IntsAt i.W _ _ := IntsIn.keeps (keeps_of_below i.h) e66
      generalize i.W = W7 at bRi hbi e67 ⊢
      have r0 := bwc (bRi.cell 0 rfl)
      have r1 := bwc (bRi.cell 1 rfl)
      have r2 := bwc (bRi.cell 2 rfl)
      have r3 := bwc (bRi.cell 3 rfl)
      have r4 := bwc (bRi.cell 4 rfl)
      have r5 := bwc (bRi.cell 5 rfl)
      by_cases hyk : sumF y A ≤ y.most
      · have HK : Hid (keptB y A = true) := hide (by rw [HKB.out]; exact decide_eq_true hyk)
        go_wp2_with fail
        refine wp_region_bw (by kernel_rfl) (by kernel_rfl) ?_
        repeat (go_big_quiet_step ((go_at_call 28; exact quiet (sum_any y _ _ _ (e67.below (Bw.h _))))))
        refine wpQuiet_nil ?_
        rintro _ ⟨i', rfl⟩
        go_wp2_with fail
        go_roundw
        case rel => exact ⟨k + 1, by omega, by go_num, by rw [HY.out HK.out], bwb i' hbi hbi.size⟩
        case measure => simp [intOf]; omega
      · have HK : Hid (keptB y A = false) := hide (by rw [HKB.out]; exact decide_eq_false hyk)
        have hyk' : y.most < sumF y A := by omega
        obtain ⟨hat, hget⟩ := HBA.out HK.out
        clear hyk
        have hlc' := hlc _ hat
        rw [hget] at hlc'
        obtain ⟨b', o', rfl, hcell⟩ := hlc'
        have HNK := hide (HN.out HK.out)
        have HGET := hide hget
        clear hget
        go_wp2_with fail
        refine wp_region_bw (by kernel_rfl) (by kernel_rfl) ?_
        repeat (go_big_quiet_step ((go_at_call 28; exact quiet (sum_any y _ _ _ (e67.below (Bw.h _))))))
        refine wpQuiet_nil ?_
        rintro _ ⟨i', rfl⟩
        have hbi' := bwb i' hbi hbi.size
        have cc' := keep hbi' hcell
        have hnk : ((k : Int) != (k : Int)) = false := by simp
        go_wp2_with fail
        go_roundw
        case rel => exact ⟨k + 1, by omega, by go_num, by rw [HNK.out]; simp, hbi'⟩
        case measure => simp [intOf]; omega
    · obtain rfl : k = rows.length := by omega
      have hrr := hr5.below hbr
      have hgg := hg5.below hbr
      have t0 := bwc s0
      have t1 := bwc s1
      have t2 := bwc s2
      have hkk : (((brokenUp rows A rows.length).length : Int) == ((brokenUp rows A rows.length).length : Int)) = true := by simp
      have hemp : (((brokenUp rows A rows.length).length : Int) == 0) = keptAll rows A := by
        rw [← brokenUp_empty, Bool.eq_iff_iff, beq_iff_eq, decide_eq_true_eq]; omega
      have hgain : IntKind.i64.wrap (gainF ⟨n, rows, gain⟩ A + gainF ⟨n, rows, gain⟩ B) = gainF ⟨n, rows, gain⟩ C := by
        have h1 := chosenF_bound gain C hgb.1
        have h2 := HD.out gain
        have h3 : gainF ⟨n, rows, gain⟩ A = chosenF gain A := HGA.out
        have h4 : gainF ⟨n, rows, gain⟩ B = chosenF gain B := HGB.out
        have h5 : gainF ⟨n, rows, gain⟩ C = chosenF gain C := HGC.out
        rw [h3, h4, h5, IntKind.wrap_i64]
        omega
      have hgeq : (gainF ⟨n, rows, gain⟩ C == gainF ⟨n, rows, gain⟩ C) = true := by simp
      have HKEEP : Hid (∀ i : Bw wr.heap.size wr, Calls Try.prog 22 #[progV ⟨n, rows, gain⟩ (.slice ra rows.length rc) (.slice ga gain.length gc), .int .i64 A] i.W (Ret (.bool (keptAll rows A)) i.W)) := hide fun i => by
        have h := keepsP_any ⟨n, rows, gain⟩ _ _ A i.W (hrr.below i.h) (hgg.below i.h)
        have h2 : keepsB ⟨n, rows, gain⟩ A = keptAll rows A := HKP.out
        rwa [h2] at h
      clear hgb
      generalize keptAll rows A = bb at hemp HKEEP
      cases bb
      all_goals
        go_wp2_with fail
        refine wp_region_bw (by kernel_rfl) (by kernel_rfl) ?_
        repeat (go_big_quiet_step ((first | (go_at_call 22; exact quiet (HKEEP.out _)) | (go_at_call 24; exact quiet (gain_any ⟨n, rows, gain⟩ _ _ _ _ (hrr.below (Bw.h _)) (hgg.below (Bw.h _)))))))
        refine wpQuiet_nil ?_
        rintro _ ⟨i', rfl⟩
        go_wp2_with fail
        go_ret
        exact ⟨rfl, below2 hbw5 (bwb i' hbr hbr.size)⟩
end Go.Proofs.Ytcaklldmcbpbfaa
