/- The walk of ProgramBest. Conditions: how the arguments lie in memory; that integers are of 64 bits. -/
import Derived.Test.YtcaklldmcbpbfaaLwB
import Derived.Deep.DeepCutAuto
namespace Go.Proofs.Ytcaklldmcbpbfaa
open Go.RowKit

set_option maxRecDepth 100000 in
set_option maxHeartbeats 4000000 in
theorem best_any (v : Int) (x : List Tri) (xv : Value) (g : List Int) (w : World) (hv : i64B v) (hx : TrisIn w.cell? xv x) (hx64 : ∀ t ∈ x, tri64 t) (hg : g.length = 8) (hg64 : ∀ y ∈ g, i64B y) :
    Calls Try.prog 4 #[.int .i64 v, xv, .agg (g.map (Value.int .i64)).toArray] w (Ret (.bool true) w) := by
  obtain ⟨g0, g1, g2, g3, g4, g5, g6, g7, rfl⟩ : ∃ g0 g1 g2 g3 g4 g5 g6 g7, g = [g0, g1, g2, g3, g4, g5, g6, g7] := by
    match g, hg with
    | [a, b, c, d, e, f, g, h], _ => exact ⟨_, _, _, _, _, _, _, _, rfl⟩
  obtain ⟨xa, xn, rfl, hx1, hx2, -⟩ := id hx
  have HM := hide (fun W (h : Below w.heap.size w W) => made_any v x (.slice xa x.length xn) [g0, g1, g2, g3, g4, g5, g6, g7] W hv (TrisIn.keeps (keeps_of_below h) hx) hx64 hg hg64)
  clear hx hx64 hg hg64
  go_enter Try.func4, Try.ntmps4
  go_wp2_with fail
  generalize hW0 : World.alloc w _ = W0
  have hb0 : Below w.heap.size w W0 := by rw [← hW0]; exact bal w _
  have bG : Blk W0 w.heap.size ([g0, g1, g2, g3, g4, g5, g6, g7].map (Value.int .i64)) 23 := by rw [← hW0]; exact Blk.new w _ _
  clear hW0
  refine (sane_any _).mono ?_
  rintro e w1 ⟨rfl, hb1⟩
  have bG1 := bG.later hb1
  have c0 := bG1.cell 0 rfl
  have c1 := bG1.cell 1 rfl
  have c2 := bG1.cell 2 rfl
  have c3 := bG1.cell 3 rfl
  have c4 := bG1.cell 4 rfl
  have c5 := bG1.cell 5 rfl
  have c6 := bG1.cell 6 rfl
  have c7 := bG1.cell 7 rfl
  go_wp2_with fail
  refine (HM.out _ (below2 hb0 hb1)).mono ?_
  rintro e w2 ⟨pv, rfl, hpv, hb2⟩
  clear c0 c1 c2 c3 c4 c5 c6 c7 HM bG1 bG
  obtain ⟨n, rows, gain, hmf, hn8, hr8, hV⟩ := made_form v x [g0, g1, g2, g3, g4, g5, g6, g7]
  rw [hmf] at hpv
  clear hmf
  obtain ⟨rv, gv, rfl, hr, hgn⟩ := hpv
  have hr2 : RowsAt w2 rv rows := hr.keeps (keeps_frm _ _)
  have hg2 : IntsAt w2 gv gain := hgn.keeps (keeps_frm _ _)
  obtain ⟨ra, rc, rfl, -, hrm, -⟩ := id hr2
  obtain ⟨ga, gc, rfl, -, hgm, -⟩ := id hg2
  have hbw2 := below2 (below2 hb0 hb1) hb2
  clear hr hgn hb0 hb1 hb2
  go_wp2_with fail
  generalize hW3 : World.alloc w2 _ = W3
  have bP : Blk W3 w2.heap.size [.int .i64 n, .slice ra rows.length rc, .slice ga gain.length gc] 29 := by rw [← hW3]; exact Blk.new w2 _ _
  have hb3 : Below w2.heap.size w2 W3 := by rw [← hW3]; exact bal w2 _
  have hr3 := hr2.below hb3
  have hg3 := hg2.below hb3
  have hbw3 := below2 hbw2 hb3
  have p0 := bP.cell 0 rfl
  have p1 := bP.cell 1 rfl
  have p2 := bP.cell 2 rfl
  clear hW3 hb3 hr2 hg2 hbw2
  refine (solve_any ⟨n, rows, gain⟩ _ _ _ hr3 hg3).mono ?_
  rintro e w4 ⟨sv, u, rfl, ⟨⟨pv, rfl, hpv⟩, rfl⟩, hb4⟩
  obtain ⟨pa, pn, rfl, -, -, -⟩ := hpv
  obtain ⟨s1, s2, s3, -⟩ := solveF_in hV
  obtain ⟨BN, BY⟩ := bestF_spec (p := ⟨n, rows, gain⟩) rfl
  rw [s1, s2, s3, errF_in hV]
  have bP4 := bP.later hb4
  have hr4 := hr3.below hb4
  have hg4 := hg3.below hb4
  have hbw4 := below2 hbw3 hb4
  have HB := hide (And.intro BN BY)
  have HV := hide hV
  generalize (solveF ⟨n, rows, gain⟩).proof.length = pl
  have HGL : Hid (gain.length = n) := hide (by obtain ⟨-, -, -, -, h1, -⟩ := valid_parts hV; exact Int.ofNat.inj h1)
  have hgc : coefsB gain = true := by obtain ⟨-, -, -, -, -, h1⟩ := valid_parts hV; exact h1
  have HRO : Hid (∀ r ∈ rows, r.coef.length = n ∧ coefsB r.coef = true) := hide fun r hr => by
    have h1 := (valid_parts hV).2.2.2.1 r hr
    exact ⟨Int.ofNat.inj h1.1, h1.2.1⟩
  clear s1 s2 s3 BN BY hV p0 p1 p2 bP hr3 hg3 hbw3
  generalize bestF ⟨n, rows, gain⟩ = BB at HB ⊢
  obtain ⟨bf, bs, bg⟩ := BB
  obtain ⟨T, hT, hT1, hT2, hTc, hTi⟩ := pow_T hn8
  have HT := hide hT
  have HTc := hide hTc
  have HTi := hide hTi
  have HBS : Hid (bf = true → bs < T) := hide fun h => by
    have h1 : bs < 2 ^ n := (HB.out.2 h).1
    have := HT.out; omega
  clear hT
  have q0 := bP4.cell 0 rfl
  have q1 := bP4.cell 1 rfl
  have q2 := bP4.cell 2 rfl
  go_wp2_with fail
  generalize hW5 : World.alloc w4 _ = W5
  have hb5 : Below w4.heap.size w4 W5 := by rw [← hW5]; exact bal w4 _
  have bS : Blk W5 w4.heap.size [.bool bf, .int .i64 bs, .int .i64 bg, .slice pa pl pn] 37 := by rw [← hW5]; exact Blk.new w4 _ _
  have bP5 := bP4.later hb5
  have hr5 := hr4.below hb5
  have hg5 := hg4.below hb5
  have hbw5 := below2 hbw4 hb5
  clear hW5 q0 q1 q2 bP4 hr4 hg4 hbw4 hb5 hTc hTi
  have q0 := bwc (bP5.cell 0 rfl)
  have s0 := bwc (bS.cell 0 rfl)
  have s1 := bwc (bS.cell 1 rfl)
  have s2 := bwc (bS.cell 2 rfl)
  go_cut [64] (fun s wx => s = .bool false ∧ Below W5.heap.size W5 wx)
  case first =>
    have hTi := HTi.out
    cases bf
    · obtain ⟨e1, e2⟩ : bs = 0 ∧ bg = 0 := ⟨(HB.out.1 rfl).1, (HB.out.1 rfl).2.1⟩
      subst e1
      subst e2
      refine wp_region_bw (by kernel_rfl) (by kernel_rfl) ?_
      repeat (go_big_quiet_step (fail))
      refine wpQuiet_nil ?_
      rintro _ ⟨i, rfl⟩
      go_wp2_with fail
      go_meet
      exact ⟨rfl, i.h⟩
    · have hbs : bs < T := HBS.out rfl
      have e1 : ¬ (bs : Int) < 0 := by omega
      have e2 : ¬ (T : Int) ≤ bs := by omega
      refine wp_region_bw (by kernel_rfl) (by kernel_rfl) ?_
      repeat (go_big_quiet_step (fail))
      refine wpQuiet_nil ?_
      rintro _ ⟨i, rfl⟩
      go_wp2_with fail
      go_meet
      exact ⟨rfl, i.h⟩
  case rest =>
    obtain ⟨rfl, hb6⟩ := hcut
    clear q0 s0 s1 s2
    have bP6 := bP5.later hb6
    have bS6 := bS.later hb6
    have hr6 := hr5.below hb6
    have hg6 := hg5.below hb6
    have hbw6 := below2 hbw5 hb6
    obtain ⟨W6, rfl⟩ : ∃ W : World, W = wc := ⟨_, rfl⟩
    clear bP5 bS hr5 hg5 hbw5 hb6
    go_wp2_with fail
    go_loopw [11, 12] (fun t s wr => ∃ k : Nat, k ≤ T ∧ s = .int .i64 k ∧ t = .bool (bf && decide (bs < k)) ∧ Below W6.heap.size W6 wr) (fun _ s _ => T - (intOf s).toNat)
    case atStart => exact ⟨0, by omega, rfl, by simp, Below.refl _ _⟩
    case round =>
      obtain ⟨k, hk, rfl, rfl, hbr⟩ := hrel
      obtain ⟨wo, rfl⟩ : ∃ W : World, W = wr := ⟨_, rfl⟩
      have bPo := bP6.later hbr
      have bSo := bS6.later hbr
      have hro := hr6.below hbr
      have hgo := hg6.below hbr
      have p0 := bPo.cell 0 rfl
      have hTc := HTc.out
      by_cases hlt : k < T
      · have hk8 : k < 256 := by omega
        go_wp2_with fail
        go_loopw [14, 15] (fun s i wt => ∃ j : Nat, j ≤ n ∧ i = .int .i64 j ∧ s = .int .i64 (chosK gain k j) ∧ Below wo.heap.size wo wt) (fun _ i _ => n - (intOf i).toNat)
        case atStart => exact ⟨0, by omega, rfl, rfl, Below.refl _ _⟩
        case round =>
          obtain ⟨j, hj, rfl, rfl, hbj⟩ := hrel
          have bPj := bPo.later hbj
          have p0 := bPj.cell 0 rfl
          by_cases hjn : j < n
          · obtain ⟨a', n', e', -, -, hgcell⟩ := id (hgo.below hbj)
            cases e'
            have hjg : j < gain.length := by have := HGL.out; omega
            obtain ⟨b, o, rfl, hck⟩ := hgcell j hjg
            clear hgcell
            have hbd := chosK_bound gain k hgc j (by omega)
            have hbk : bndB (gain.getD j 0) = true := all_at (d := 0) hgc (k := j) hjg
            simp only [bndB, decide_eq_true_eq] at hbk
            have hfin : chosK gain k (j + 1) = chosK gain k j + gain.getD j 0 * ((k / 2 ^ j % 2 : Nat) : Int) := by
              simp only [chosK]; rcases bit01 k j with h | h <;> simp [h]
            generalize gain.getD j 0 = y at hck hbk hfin
            generalize chosK gain k j = t at hbd hfin ⊢
            have HF := hide hfin
            clear hfin
            have c1 := bwc hck
            have c2 := bwc (bPj.cell 2 rfl)
            go_wp2_with fail
            refine wp_region_bw (by kernel_rfl) (by kernel_rfl) ?_
            repeat (go_big_quiet_step (fail))
            refine wpQuiet_nil ?_
            rintro _ ⟨i, rfl⟩
            go_wp2_with fail
            go_roundw
            case rel => exact ⟨j + 1, by omega, by go_num, i64_eq (by rw [HF.out, tot_step k j y t hbk hbd (by omega)]), bwb i hbj hbj.size⟩
            case measure => simp [intOf]; omega
          · obtain rfl : j = n := by omega
            have hcg : chosK gain k j = chosenF gain k := by unfold chosenF; rw [HGL.out]
            rw [hcg]
            clear hcg
            obtain ⟨wp, rfl⟩ : ∃ W : World, W = wr := ⟨_, rfl⟩
            have bPp := bPo.later hbj
            have hrp := hro.below hbj
            have p1 := bPp.cell 1 rfl
            go_wp2_with fail
            go_loopw [13, 16] (fun kv i wt => ∃ m : Nat, m ≤ rows.length ∧ i = .int .i64 m ∧ kv = .bool (keptTo rows k m) ∧ Below wp.heap.size wp wt) (fun _ i _ => rows.length - (intOf i).toNat)
            case atStart => exact ⟨0, by omega, rfl, rfl, Below.refl _ _⟩
            case round =>
              obtain ⟨m, hm, rfl, rfl, hbm⟩ := hrel
              have bPm := bPp.later hbm
              have p1 := bPm.cell 1 rfl
              by_cases hmr : m < rows.length
              · obtain ⟨a', n', e', -, -, hrc⟩ := id (hrp.below hbm)
                cases e'
                obtain ⟨b, o, cv, rfl, hck⟩ := hrc m hmr
                obtain ⟨e0, e1, e2, e3, e4, e5, e6⟩ := hck
                obtain ⟨hyl, hyc⟩ := HRO.out _ (getD_mem rows m (d := row0) hmr)
                have HKS := hide (keptTo_succ (l := rows) (s := k) hmr)
                clear hrc e0 e1 e2 e3
                generalize rows.getD m row0 = y at e4 e5 e6 hyl hyc HKS
                obtain ⟨wq, rfl⟩ : ∃ W : World, W = wr := ⟨_, rfl⟩
                go_wp2_with fail
                go_loopw [17, 18] (fun s i wt => ∃ q : Nat, q ≤ j ∧ i = .int .i64 q ∧ s = .int .i64 (chosK y.coef k q) ∧ Below wq.heap.size wq wt) (fun _ i _ => j - (intOf i).toNat)
                case atStart => exact ⟨0, by omega, rfl, rfl, Below.refl _ _⟩
                case round =>
                  obtain ⟨q, hq, rfl, rfl, hbq⟩ := hrel
                  have bPq := bPm.later hbq
                  have p0 := bPq.cell 0 rfl
                  by_cases hqn : q < j
                  · obtain ⟨a', n', e', -, -, hycell⟩ := id (IntsIn.keeps (keeps_of_below hbq) e6)
                    subst e'
                    obtain ⟨b', o', rfl, hck⟩ := hycell q (by omega)
                    clear hycell
                    have hbd := chosK_bound y.coef k hyc q (by omega)
                    have hbk : bndB (y.coef.getD q 0) = true := all_at (d := 0) hyc (k := q) (by omega)
                    simp only [bndB, decide_eq_true_eq] at hbk
                    have hfin : chosK y.coef k (q + 1) = chosK y.coef k q + y.coef.getD q 0 * ((k / 2 ^ q % 2 : Nat) : Int) := by
                      simp only [chosK]; rcases bit01 k q with h | h <;> simp [h]
                    generalize y.coef.getD q 0 = z at hck hbk hfin
                    generalize chosK y.coef k q = t at hbd hfin ⊢
                    have HF := hide hfin
                    clear hfin
                    have c0 := bwc hck
                    have c1 := bwc (bPq.cell 1 rfl)
                    have c2 := bwc (keep hbq e4)
                    have hqg : q < y.coef.length := by omega
                    go_wp2_with fail
                    refine wp_region_bw (by kernel_rfl) (by kernel_rfl) ?_
                    repeat (go_big_quiet_step (fail))
                    refine wpQuiet_nil ?_
                    rintro _ ⟨i, rfl⟩
                    go_wp2_with fail
                    go_roundw
                    case rel => exact ⟨q + 1, by omega, by go_num, i64_eq (by rw [HF.out, tot_step k q z t hbk hbd (by omega)]), bwb i hbq hbq.size⟩
                    case measure => simp [intOf]; omega
                  · obtain rfl : q = j := by omega
                    have hcg : chosK y.coef k q = chosenF y.coef k := by unfold chosenF; rw [hyl]
                    rw [hcg]
                    clear hcg
                    have p1 := bPq.cell 1 rfl
                    have e5' := keep hbq e5
                    have hbm' := below2 hbm hbq
                    have HKB : Hid (keptB y k = decide (chosenF y.coef k ≤ y.most)) := hide rfl
                    cases hkt : keptTo rows k m
                    · have HKF : Hid (keptTo rows k (m + 1) = false) := hide (by rw [HKS.out, hkt]; rfl)
                      go_wp2_with fail
                      go_roundw
                      case rel => exact ⟨m + 1, by omega, by go_num, by rw [HKF.out], hbm'⟩
                      case measure => simp [intOf]; omega
                    · by_cases hle : chosenF y.coef k ≤ y.most
                      · have HKF : Hid (keptTo rows k (m + 1) = true) := hide (by rw [HKS.out, hkt, HKB.out, decide_eq_true hle]; rfl)
                        go_wp2_with fail
                        go_roundw
                        case rel => exact ⟨m + 1, by omega, by go_num, by rw [HKF.out], hbm'⟩
                        case measure => simp [intOf]; omega
                      · have HKF : Hid (keptTo rows k (m + 1) = false) := hide (by rw [HKS.out, hkt, HKB.out, decide_eq_false hle]; rfl)
                        go_wp2_with fail
                        go_roundw
                        case rel => exact ⟨m + 1, by omega, by go_num, by rw [HKF.out], hbm'⟩
                        case measure => simp [intOf]; omega
              · obtain rfl : m = rows.length := by omega
                rw [keptTo_end]
                have hbT := below2 hbr (below2 hbj hbm)
                have p0 := bPm.cell 0 rfl
                have p2 := bPm.cell 2 rfl
                have hrT := hrp.below hbm
                have hgT := (hgo.below hbj).below hbm
                have bST := bSo.later (below2 hbj hbm)
                have bPT := bPm
                have hk2 : k < 2 ^ j := by have := HT.out; omega
                have HKP : Hid (keepsB ⟨j, rows, gain⟩ k = keptAll rows k) := hide (keepsB_in HV.out rfl hk2)
                have HGP : Hid (gainF ⟨j, rows, gain⟩ k = chosenF gain k) := hide (gainF_in HV.out rfl hk2)
                have HF0 : Hid (keptAll rows k = false → (bf && decide (bs < k)) = (bf && decide (bs < k + 1))) := hide fun h => by
                  cases bf
                  · rfl
                  · have h1 : keptAll rows bs = true := (HB.out.2 rfl).2.1
                    have h2 : bs ≠ k := by rintro rfl; rw [h1] at h; cases h
                    simp; omega
                have HF1 : Hid (keptAll rows k = true → bf = true ∧ chosenF gain k ≤ bg ∧ (chosenF gain k = bg → bs ≤ k) ∧ (k = bs → chosenF gain k = bg)) := hide fun h => by
                  cases bf
                  · have h1 : keptAll rows k = false := (HB.out.1 rfl).2.2 k hk2
                    rw [h1] at h; cases h
                  · obtain ⟨h1, h2⟩ : chosenF gain k ≤ bg ∧ (chosenF gain k = bg → bs ≤ k) := (HB.out.2 rfl).2.2.2 k hk2 h
                    have h3 : bg = chosenF gain bs := (HB.out.2 rfl).2.2.1
                    exact ⟨rfl, h1, h2, fun e => by rw [e, h3]⟩
                generalize keptAll rows k = kp at HKP HF0 HF1 ⊢
                generalize chosenF gain k = sm at HGP HF1 ⊢
                have hsm : (sm != sm) = false := by simp
                cases kp
                · have HR := hide (HF0.out rfl)
                  go_wp2_with fail
                  refine (keepsP_any ⟨j, rows, gain⟩ _ _ k _ hrT hgT).mono ?_
                  rw [HKP.out]
                  rintro e w7 ⟨rfl, hb7⟩
                  have q0 := keep hb7 p0
                  have q1 := keep hb7 p1
                  have q2 := keep hb7 p2
                  go_wp2_with fail
                  refine (gain_any ⟨j, rows, gain⟩ _ _ k _ (hrT.below hb7) (hgT.below hb7)).mono ?_
                  rw [HGP.out]
                  rintro e w8 ⟨rfl, hb8⟩
                  go_wp2_with fail
                  go_roundw
                  case rel => exact ⟨k + 1, by omega, by go_num, by rw [HR.out], below2 hbT (below2 hb7 hb8)⟩
                  case measure => simp [intOf]; omega
                · obtain ⟨hbf, f1, f2, f3⟩ := HF1.out rfl
                  subst hbf
                  have HF2 := hide f2
                  have HF3 := hide f3
                  clear f2 f3
                  go_wp2_with fail
                  refine (keepsP_any ⟨j, rows, gain⟩ _ _ k _ hrT hgT).mono ?_
                  rw [HKP.out]
                  rintro e w7 ⟨rfl, hb7⟩
                  have q0 := keep hb7 p0
                  have q1 := keep hb7 p1
                  have q2 := keep hb7 p2
                  go_wp2_with fail
                  refine (gain_any ⟨j, rows, gain⟩ _ _ k _ (hrT.below hb7) (hgT.below hb7)).mono ?_
                  rw [HGP.out]
                  rintro e w8 ⟨rfl, hb8⟩
                  have bS8 := bST.later (below2 hb7 hb8)
                  have s0 := bS8.cell 0 rfl
                  have s1 := bS8.cell 1 rfl
                  have s2 := bS8.cell 2 rfl
                  have hb9 := below2 hbT (below2 hb7 hb8)
                  clear q0 q1 q2 p0 p1 p2
                  by_cases hkb : k = bs
                  · have hse := HF3.out hkb
                    subst hkb
                    subst hse
                    have hlts : ¬ (sm < sm) := by omega
                    have heqs : (sm == sm) = true := by simp
                    have heqk : ((k : Int) == (k : Int)) = true := by simp
                    have hltk : ¬ ((k : Int) < (k : Int)) := by omega
                    go_wp2_with fail
                    all_goals
                      go_roundw
                      case rel => exact ⟨k + 1, by omega, by go_num, by simp, hb9⟩
                      case measure => simp [intOf]; omega
                  · have heqk : ((k : Int) == (bs : Int)) = false := by simp; omega
                    have hlts : ¬ (bg < sm) := by omega
                    by_cases hse : sm = bg
                    · have h5 := HF2.out hse
                      subst hse
                      have heqs : (sm == sm) = true := by simp
                      have hltk : ¬ ((k : Int) < (bs : Int)) := by omega
                      have hbk : bs < k := by omega
                      go_wp2_with fail
                      all_goals
                        go_roundw
                        case rel => exact ⟨k + 1, by omega, by go_num, by simp; omega, hb9⟩
                        case measure => simp [intOf]; omega
                    · have heqs : (sm == bg) = false := by simpa using hse
                      go_wp2_with fail
                      all_goals
                        go_roundw
                        case rel => exact ⟨k + 1, by omega, by go_num, by simp; omega, hb9⟩
                        case measure => simp [intOf]; omega
      · obtain rfl : k = T := by omega
        have s0 := bSo.cell 0 rfl
        have HBS' : Hid ((bf && decide (bs < k)) = bf) := hide (by
          cases bf
          · rfl
          · simp; exact HBS.out rfl)
        rw [HBS'.out]
        cases bf
        all_goals
          go_wp2_with fail
          go_ret
          exact ⟨rfl, below2 hbw6 hbr⟩
end Go.Proofs.Ytcaklldmcbpbfaa
