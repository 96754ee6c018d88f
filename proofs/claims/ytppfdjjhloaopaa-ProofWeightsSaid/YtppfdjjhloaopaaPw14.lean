/- The walk of Without of package program. Conditions: how the arguments lie in memory; sizes. -/
import Derived.Test.YtppfdjjhloaopaaProw
import Derived.Test.YtppfdjjhloaopaaPw13
import Derived.Test.YtppfdjjhloaopaaBlkI
namespace Go.Proofs.Ytppfdjjhloaopaa
open Go.RowKit

/-- a program in memory -/
theorem RowsIn.nil (c : Rd) : RowsIn c (.slice none 0 0) [] := ⟨none, 0, rfl, Nat.le_refl _, by omega, fun k hk => by simp at hk⟩
set_option maxRecDepth 100000 in
set_option maxHeartbeats 2000000 in
theorem without_any (p : ProgD) (rv gv lv : Value) (l : List Int) (w : World) (hr : RowsAt w rv p.rows) (hg : IntsAt w gv p.gain) (hl : IntsAt w lv l) (hp : p.rows.length < 1000000) :
    Calls Try.prog 30 #[progV p rv gv, lv] w (RetM2 (fun c v u => ProgIn c v (withoutF p l) ∧ u = .int .i64 (errW p l)) w) := by
  obtain ⟨ra, rc, rfl, hrl, hrm, hrc⟩ := id hr
  obtain ⟨la, lc, rfl, hll, hlm, hlc⟩ := id hl
  obtain ⟨w0, hw0, hb0, -, -, -⟩ := boxedProg w p.vars (.slice ra p.rows.length rc) gv
  obtain ⟨w1, hw1, hb1, -, -⟩ := boxed w0 #[.int .i64 0, .slice none 0 0, .slice none 0 0] 27
  have hz0 : w0.heap.size = w.heap.size + 1 := by rw [← hw0]; simp
  have bP : Blk w1 w.heap.size [.int .i64 p.vars, .slice ra p.rows.length rc, gv] 27 := by rw [← hw1, ← hw0]; exact (Blk.new w _ _).old _
  have bR : Blk w1 (w.heap.size + 1) [.int .i64 0, .slice none 0 0, .slice none 0 0] 27 := by rw [← hw1, ← hz0]; exact Blk.new w0 _ _
  have hb01 := below2 hb0 hb1
  have hz1 : w1.heap.size = w.heap.size + 1 + 1 := by rw [← hw1, World.size_alloc, hz0]
  have HW1 := hide hw1
  have HW0 := hide hw0
  have HZ := hide hz1
  have HNO : Hid (okW p l = false → withoutF p l = ⟨0, [], []⟩ ∧ errW p l = 330) := hide fun h => ⟨by unfold withoutF; rw [h]; rfl, by unfold errW; rw [h]; rfl⟩
  have HYES : Hid (okW p l = true → withoutF p l = ⟨p.vars, keptUp p.rows l p.rows.length, p.gain⟩ ∧ errW p l = 0) := hide fun h => ⟨by unfold withoutF; rw [h]; rfl, by unfold errW; rw [h]; rfl⟩
  have HOK : Hid (okW p l = (okUp l p.rows.length l.length && validB p)) := hide rfl
  have hm1 : (p.rows.length : Int) ≤ 9223372036854775807 := by omega
  clear hw0 hw1 hz0 hz1 hb0 hb1
  go_enter Try.func30, Try.ntmps30
  go_wp2_with fail
  rw [HW0.out, HW1.out]
  go_loopw [6, 7, 15] (fun _ _ i wr => ∃ k : Nat, k ≤ l.length ∧ i = .int .i64 k ∧ Hid (okUp l p.rows.length k = true) ∧ Below w1.heap.size w1 wr) (fun _ _ i _ => l.length - (intOf i).toNat)
  case atStart => exact ⟨0, by omega, rfl, rfl, Below.refl _ _⟩
  case round =>
    obtain ⟨k, hk, rfl, HU, hbr⟩ := hrel
    have bPr := bP.later hbr
    have bRr := bR.later hbr
    have hbw := below2 hb01 hbr
    have p1 := bPr.cell 1 rfl
    by_cases hlt : k < l.length
    · obtain ⟨b, o, rfl, hck⟩ := hlc k hlt
      have HNk := hide (fun h => okUp_no (l := l) (n := p.rows.length) (k := k) (m := l.length) h hlt)
      have HS := hide (okUp_succ (l := l) (n := p.rows.length) (k := k))
      have HA : Hid (okAt l p.rows.length k = (isInB 0 (l.getD k 0) ((p.rows.length : Int) - 1) && (decide (k = 0) || decide (l.getD (k - 1) 0 < l.getD k 0)))) := hide rfl
      have hprev : 0 < k → w.cell? ⟨b, o + (k - 1), none⟩ = some (.int .i64 (l.getD (k - 1) 0)) := fun h => by
        obtain ⟨b', o', e, hc⟩ := hlc (k - 1) (by omega); cases e; exact hc
      generalize l.getD k 0 = x at hck HA
      generalize l.getD (k - 1) 0 = y at hprev HA
      have ck := keep hbw hck
      cases hI : isInB 0 x ((p.rows.length : Int) - 1)
      · have HO := HNO.out (by rw [HOK.out, HNk.out (by rw [HA.out, hI]; rfl)]; rfl)
        have HOp := hide HO
        clear HO
        go_wp2_with fail
        refine (isIn_any _ _ _ _).mono ?_
        rw [hI]
        rintro e w2 ⟨rfl, hb2⟩
        have bR2 := bRr.later hb2
        have t0 := bR2.cell 0 rfl
        have t1 := bR2.cell 1 rfl
        have t2 := bR2.cell 2 rfl
        have f0 := bR2.frozen 0
        have f1 := bR2.frozen 1
        have f2 := bR2.frozen 2
        go_wp2_with fail
        obtain ⟨z1, z2, -⟩ := set3 bR2 (.int .i64 0) (.slice none 0 0) (.slice none 0 0)
        have z3 := z2 _ _ (below2 hbw hb2) (by omega)
        generalize World.setCell (World.setCell _ _ _) ⟨w.heap.size + 1, 2, none⟩ _ = Wf at z1 z3 ⊢
        have y0 := z1.cell 0 rfl
        have y1 := z1.cell 1 rfl
        have y2 := z1.cell 2 rfl
        refine bodyPost_ret (v := .tuple #[.agg #[.int .i64 0, .slice none 0 0, .slice none 0 0], .int .i64 330]) (by simp [results, Try.results30, go_sem, y0, y1, y2]) rfl ?_
        exact ⟨_, _, rfl, ⟨⟨_, _, by rw [HOp.out.1], by rw [HOp.out.1]; exact RowsIn.nil _, by rw [HOp.out.1]; exact IntsIn.nil _⟩, by rw [HOp.out.2]⟩, z3⟩
      · by_cases hk0 : k = 0
        · have HOK1 : Hid (okAt l p.rows.length k = true) := hide (by rw [HA.out, hI, decide_eq_true hk0]; rfl)
          subst hk0
          have ck0 : wr.cell? ⟨b, o, none⟩ = some (.int .i64 x) := ck
          clear hprev hrc hlc hck
          go_wp2_with fail
          refine (isIn_any _ _ _ _).mono ?_
          rw [hI]
          rintro e w2 ⟨rfl, hb2⟩
          go_wp2_with fail
          go_roundw
          case rel => exact ⟨0 + 1, by omega, by go_num, by show okUp _ _ _ = true; rw [HS.out, HU.out, HOK1.out]; rfl, below2 hbr hb2⟩
          case measure => simp [intOf]; omega
        · have hk1 : (0 : Int) < (k : Int) := by omega
          have cy := keep hbw (hprev (by omega))
          clear hprev hrc hlc hck
          by_cases hxy : y < x
          · have HOK1 : Hid (okAt l p.rows.length k = true) := hide (by rw [HA.out, hI, decide_eq_true hxy]; simp)
            have hxy' : ¬ x ≤ y := by omega
            go_wp2_with fail
            refine (isIn_any _ _ _ _).mono ?_
            rw [hI]
            rintro e w2 ⟨rfl, hb2⟩
            have cy2 := keep hb2 cy
            go_wp2_with fail
            go_roundw
            case rel => exact ⟨k + 1, by omega, by go_num, by show okUp _ _ _ = true; rw [HS.out, HU.out, HOK1.out]; rfl, below2 hbr hb2⟩
            case measure => simp [intOf]; omega
          · have HO := HNO.out (by rw [HOK.out, HNk.out (by rw [HA.out, hI, decide_eq_false hxy, decide_eq_false hk0]; rfl)]; rfl)
            have HOp := hide HO
            have hxy' : x ≤ y := by omega
            clear HO
            go_wp2_with fail
            refine (isIn_any _ _ _ _).mono ?_
            rw [hI]
            rintro e w2 ⟨rfl, hb2⟩
            have cy2 := keep hb2 cy
            have bR2 := bRr.later hb2
            have t0 := bR2.cell 0 rfl
            have t1 := bR2.cell 1 rfl
            have t2 := bR2.cell 2 rfl
            have f0 := bR2.frozen 0
            have f1 := bR2.frozen 1
            have f2 := bR2.frozen 2
            go_wp2_with fail
            obtain ⟨z1, z2, -⟩ := set3 bR2 (.int .i64 0) (.slice none 0 0) (.slice none 0 0)
            have z3 := z2 _ _ (below2 hbw hb2) (by omega)
            generalize World.setCell (World.setCell _ _ _) ⟨w.heap.size + 1, 2, none⟩ _ = Wf at z1 z3 ⊢
            have y0 := z1.cell 0 rfl
            have y1 := z1.cell 1 rfl
            have y2 := z1.cell 2 rfl
            refine bodyPost_ret (v := .tuple #[.agg #[.int .i64 0, .slice none 0 0, .slice none 0 0], .int .i64 330]) (by simp [results, Try.results30, go_sem, y0, y1, y2]) rfl ?_
            exact ⟨_, _, rfl, ⟨⟨_, _, by rw [HOp.out.1], by rw [HOp.out.1]; exact RowsIn.nil _, by rw [HOp.out.1]; exact IntsIn.nil _⟩, by rw [HOp.out.2]⟩, z3⟩
    · obtain rfl : k = l.length := by omega
      have p0 := bPr.cell 0 rfl
      have p2 := bPr.cell 2 rfl
      cases hV : validB p
      · have HO := HNO.out (by rw [HOK.out, hV, Bool.and_false])
        have HOp := hide HO
        clear HO
        go_wp2_with fail
        refine (valid_any p _ _ _ (hr.below hbw) (hg.below hbw)).mono ?_
        rw [hV]
        rintro e w2 ⟨rfl, hb2⟩
        have bR2 := bRr.later hb2
        have t0 := bR2.cell 0 rfl
        have t1 := bR2.cell 1 rfl
        have t2 := bR2.cell 2 rfl
        have f0 := bR2.frozen 0
        have f1 := bR2.frozen 1
        have f2 := bR2.frozen 2
        go_wp2_with fail
        obtain ⟨z1, z2, -⟩ := set3 bR2 (.int .i64 0) (.slice none 0 0) (.slice none 0 0)
        have z3 := z2 _ _ (below2 hbw hb2) (by omega)
        generalize World.setCell (World.setCell _ _ _) ⟨w.heap.size + 1, 2, none⟩ _ = Wf at z1 z3 ⊢
        have y0 := z1.cell 0 rfl
        have y1 := z1.cell 1 rfl
        have y2 := z1.cell 2 rfl
        refine bodyPost_ret (v := .tuple #[.agg #[.int .i64 0, .slice none 0 0, .slice none 0 0], .int .i64 330]) (by simp [results, Try.results30, go_sem, y0, y1, y2]) rfl ?_
        exact ⟨_, _, rfl, ⟨⟨_, _, by rw [HOp.out.1], by rw [HOp.out.1]; exact RowsIn.nil _, by rw [HOp.out.1]; exact IntsIn.nil _⟩, by rw [HOp.out.2]⟩, z3⟩
      · have HO := HYES.out (by rw [HOK.out, hV, HU.out]; rfl)
        have HOp := hide HO
        clear HO
        go_wp2_with fail
        refine (valid_any p _ _ _ (hr.below hbw) (hg.below hbw)).mono ?_
        rw [hV]
        rintro e w2 ⟨rfl, hb2⟩
        have bR2 := bRr.later hb2
        have bP2 := bPr.later hb2
        have q0 := bP2.cell 0 rfl
        have q1 := bP2.cell 1 rfl
        have q2 := bP2.cell 2 rfl
        have hbw2 := below2 hbw hb2
        have hgl : p.gain.length < 1000000 := by obtain ⟨v0, v12, -, -, h1, -⟩ := valid_parts hV; omega
        have hrs : ∀ r ∈ p.rows, r.coef.length < 1000000 := by obtain ⟨v0, v12, -, h1, -⟩ := valid_parts hV; exact fun r hr => by have := (h1 r hr).1; omega
        have HRS := hide hrs
        have HAS := hide (okUp_asc HU.out)
        have HLL := hide (okUp_len HU.out)
        clear p0 p1 p2 hrs
        go_wp2_with fail
        have hne : w.heap.size < w2.heap.size := by have := hbw2.size; have := bP2.lt; omega
        have hq := hide (And.intro q0 q2)
        go_region_held3 (fun w' => w'.cell? ⟨w.heap.size, 0, none⟩ = some (.int .i64 p.vars) ∧ w'.cell? ⟨w.heap.size, 2, none⟩ = some gv)
          (first | go_keep | (exact ⟨keep hb4 hq.out.1, keep hb4 hq.out.2⟩) | (exact ⟨keep (below2 hb4 (bal w3 _)) hq.out.1, keep (below2 hb4 (bal w3 _)) hq.out.2⟩) | (exact ⟨keep ((set3 bO _ _ _).2.1 _ _ hb4 (Nat.le_refl _)) hq.out.1, keep ((set3 bO _ _ _).2.1 _ _ hb4 (Nat.le_refl _)) hq.out.2⟩))
          (first | (go_at_call 54; refine (clone_any p.gain _ _ ((hg.below hbw2).below (by first | exact (Below.refl _ _).drew | exact (bal _ _).drew)) hgl).mono ?_; rintro e w3 ⟨gv', rfl, hgv', hb3⟩; obtain ⟨ga', gn', rfl, -, -, -⟩ := id hgv'; have hb4 : Below w2.heap.size w2 w3 := (by first | exact below2 (Below.refl _ w2).drew hb3 | exact below2 (bal w2.drew _) hb3 | exact below2 (bal w2 _).drew hb3); try (have bO : Blk w3 w2.heap.size [.int .i64 0, .slice none 0 0, .slice none 0 0] 27 := Blk.later (Blk.new w2.drew _ _) hb3; have o0 := bO.cell 0 rfl; have o1 := bO.cell 1 rfl; have o2 := bO.cell 2 rfl; have of0 := bO.frozen 0; have of1 := bO.frozen 1; have of2 := bO.frozen 2)))
        all_goals first
          | (obtain ⟨z1, z2, -⟩ := set3 bO (.int .i64 p.vars) (.slice none 0 0) (.slice ga' p.gain.length gn')
             have hb5 := z2 _ _ hb4 (Nat.le_refl _)
             have hg5 := (((hgv'.keeps (keeps_frmY_le _ w3 (B' := w.heap.size) (by have := hbw2.size; first | exact this | (simp; omega)))).keeps (keeps_frmY_set bO (by decide) 0 (.int .i64 p.vars))).keeps (keeps_frmY_set (bO.set 0 _) (by decide) 1 (.slice none 0 0))).keeps (keeps_frmY_set ((bO.set 0 _).set 1 _) (by decide) 2 (.slice ga' p.gain.length gn'))
             clear o0 o1 o2 of0 of1 of2 bO
             generalize World.setCell (World.setCell (World.setCell w3 _ _) _ _) _ _ = W4 at z1 hb5 hg5 ⊢
             have hob : w2.heap.size ≤ w2.heap.size := Nat.le_refl _)
          | (have z1 := Blk.new w3 [.int .i64 p.vars, .slice none 0 0, .slice ga' p.gain.length gn'] 27
             have hb5 := below2 hb4 (bal w3 (.cells #[.int .i64 p.vars, .slice none 0 0, .slice ga' p.gain.length gn'] 27))
             have hg5 := (hgv'.keeps (keeps_frmY_le _ w3 (B' := w.heap.size) (by have := hbw2.size; first | exact this | (simp; omega)))).keeps (keeps_frmY_below (bal w3 (.cells #[.int .i64 p.vars, .slice none 0 0, .slice ga' p.gain.length gn'] 27)))
             generalize World.alloc w3 _ = W4 at z1 hb5 hg5 ⊢
             have hob : w2.heap.size ≤ w3.heap.size := hb4.size)
        · skip
          have q1' := keep hb5 q1
          have hnb : w3.heap.size < W4.heap.size := z1.lt
          have hgq := hide hg5
          have hob2 := hbw2.size
          clear hg5 hq
          go_wp2_with fail
          go_loopw [55] (fun i wr => ∃ (k : Nat) (v : Value), k ≤ p.rows.length ∧ i = .int .i64 k ∧ RowsOwn wr w.heap.size W4.heap.size v (keptUp p.rows l k) ∧ Blk wr w3.heap.size [.int .i64 p.vars, v, .slice ga' p.gain.length gn'] 27 ∧ IntsIn (frmY w.heap.size 3 wr) (.slice ga' p.gain.length gn') p.gain ∧ Below w2.heap.size w2 wr ∧ W4.heap.size ≤ wr.heap.size) (fun i _ => p.rows.length - (intOf i).toNat)
          case atStart => exact ⟨0, _, by omega, rfl, RowsOwn.nil _ _ _, z1, hgq, hb5, Nat.le_refl _⟩
          case round =>
            obtain ⟨k, v, hk, rfl, hRO, bO, hgr, hbr, hz⟩ := hrel
            by_cases hlt : k < p.rows.length
            · obtain ⟨b, o, cv, rfl, hck⟩ := hrc k hlt
              have hm := getD_mem p.rows k (d := row0) hlt
              have HKY := hide (keptUp_yes (l := p.rows) (rows := l) (k := k))
              have HKN := hide (keptUp_no (l := p.rows) (rows := l) (k := k))
              have hle := keptUp_le p.rows l k
              have hql := HRS.out _ hm
              generalize p.rows.getD k row0 = x at hck hm HKY HKN hql
              obtain ⟨e0, e1, e2, e3, e4, e5, e6⟩ := hck.below (below2 hbw2 hbr)
              obtain ⟨ca, cc, rfl, -, -, -⟩ := id e6
              clear hck
              have HRC := hide hrc
              clear hrc hlc hm
              have hlr := (hl.below hbw2).below hbr
              go_wp2_with fail
              refine (bin_any l _ _ _ (hlr.below (bal wr _)) (by have := HLL.out; omega) HAS.out).mono ?_
              rintro e w5 ⟨ix, rfl, hb6⟩
              have hb7 := below2 (bal wr _) hb6
              have bB := (Blk.new wr (rowCells x (.slice ca x.coef.length cc)) 67).later hb6
              cases hM : memB l k
              · have r4 := bB.cell 4 rfl
                have r0 := bB.cell 0 rfl
                have r1 := bB.cell 1 rfl
                have r2 := bB.cell 2 rfl
                have r3 := bB.cell 3 rfl
                have r5 := bB.cell 5 rfl
                have hsk := hb7.size
                have hoblt : w3.heap.size < wr.heap.size := bO.lt
                have hne1 : w3.heap.size ≠ wr.heap.size := by omega
                have hne2 : wr.heap.size ≠ w3.heap.size := by omega
                go_wp2_with (first | (go_at_call 54; refine (clone_any x.coef _ _ ((e6.below hb7)) hql).mono ?_; rintro e w6 ⟨cvn, rfl, hcn, hb8⟩; obtain ⟨na, nc, rfl, -, -, -⟩ := id hcn; have t0 := keep hb8 r0; have t1 := keep hb8 r1; have t2 := keep hb8 r2; have t3 := keep hb8 r3; have t4 := keep hb8 r4; have t5 := keep hb8 r5; have bB8 := bB.later hb8; have f4 := bB8.frozen 4; have hb9 := below2 hb7 hb8; have o6 := keep hb9 (bO.cell 1 rfl)) | (at_builtin; have hb10 : Below wr.heap.size wr (w6.setCell ⟨wr.heap.size, 4, none⟩ (.slice na x.coef.length nc)) := hb9.setCell (p := ⟨wr.heap.size, 4, none⟩) (Nat.le_refl _) _; obtain ⟨L, hOR, hLl, hLs⟩ := hRO.later hb10; have hs10 := hb10.size; have bO10 := bO.later hb10; refine app_rec infoRow rfl (by decide) rfl rfl _ _ rfl W4.heap.size _ L rfl hOR (rowCells x (.slice na x.coef.length nc)) rfl cells6 _ rfl (by simp) (by omega) (by omega) (by omega) ?_; intro g7 c7 w7 hO7 hE7 hz7; have bO7 := hE7.blk bO10 (by decide); have o71 := bO7.cell 1 rfl; have of7 := bO7.frozen 1))
                go_roundw
                case rel =>
                  have hxc := ((hcn.keeps (keeps_frmY_le _ w6 (B' := w.heap.size) (by omega))).keeps (keeps_frmY_set bB8 (by decide) 4 (.slice na x.coef.length nc)))
                  rw [List.length_append, hLl] at hO7
                  have hRO7 := (RowsOwn.app hLl hLs hxc hO7 hE7).set bO7 hnb (by decide) 1 (.slice (some ⟨g7, 0, none⟩) ((keptUp p.rows l k).length + 1) c7)
                  refine ⟨k + 1, _, by omega, by go_num, by rw [HKY.out hM]; exact hRO7, bO7.set 1 _, ((hgr.keeps (keeps_frmY_below hb10)).keeps (keeps_frmY_eff hE7 (by decide))).keeps (keeps_frmY_set bO7 (by decide) 1 _), ?_, ?_⟩
                  · exact ((hbr.trans (hb10.mono hbr.size)).trans ((hE7.below (by omega)).mono (by omega))).setCell (p := ⟨w3.heap.size, 1, none⟩) hob _
                  · simp [World.setCell] at hz7 hs10 ⊢; omega
                case measure => simp [intOf]; omega
              · go_wp2_with fail
                go_roundw
                case rel => exact ⟨k + 1, v, by omega, by go_num, by rw [HKN.out hM]; exact hRO.later hb7, bO.later hb7, hgr.keeps (keeps_frmY_below hb7), below2 hbr hb7, by have := hb7.size; omega⟩
                case measure => simp [intOf]; omega
            · obtain rfl : k = p.rows.length := by omega
              obtain ⟨va, vc, rfl⟩ := hRO.form
              have bRr2 := bR2.later hbr
              have o0 := bO.cell 0 rfl
              have o1 := bO.cell 1 rfl
              have o2 := bO.cell 2 rfl
              have t0 := bRr2.cell 0 rfl
              have t1 := bRr2.cell 1 rfl
              have t2 := bRr2.cell 2 rfl
              have f0 := bRr2.frozen 0
              have f1 := bRr2.frozen 1
              have f2 := bRr2.frozen 2
              have hwR : w.heap.size + 1 < W4.heap.size := by have := bR2.lt; have := hbr.size; have := z1.lt; omega
              go_wp2_with fail
              obtain ⟨y1, y2, -⟩ := set3 bRr2 (.int .i64 p.vars) (.slice va (keptUp p.rows l p.rows.length).length vc) (.slice ga' p.gain.length gn')
              have y3 := y2 _ _ (below2 hbw2 hbr) (by omega)
              have hRf := ((hRO.set bRr2 hwR (by decide) 0 (.int .i64 p.vars)).set (bRr2.set 0 _) hwR (by decide) 1 (.slice va (keptUp p.rows l p.rows.length).length vc)).set ((bRr2.set 0 _).set 1 _) hwR (by decide) 2 (.slice ga' p.gain.length gn')
              have hgf := ((hgr.keeps (keeps_frmY_set bRr2 (by decide) 0 (.int .i64 p.vars))).keeps (keeps_frmY_set (bRr2.set 0 _) (by decide) 1 (.slice va (keptUp p.rows l p.rows.length).length vc))).keeps (keeps_frmY_set ((bRr2.set 0 _).set 1 _) (by decide) 2 (.slice ga' p.gain.length gn'))
              generalize World.setCell (World.setCell _ _ _) ⟨w.heap.size + 1, 2, none⟩ _ = Wf at y1 y3 hRf hgf ⊢
              have x0 := y1.cell 0 rfl
              have x1 := y1.cell 1 rfl
              have x2 := y1.cell 2 rfl
              refine bodyPost_ret (v := .tuple #[.agg #[.int .i64 p.vars, .slice va (keptUp p.rows l p.rows.length).length vc, .slice ga' p.gain.length gn'], .int .i64 0]) (by simp [results, Try.results30, go_sem, x0, x1, x2]) rfl ?_
              exact ⟨_, _, rfl, ⟨⟨_, _, by rw [HOp.out.1], by rw [HOp.out.1]; exact hRf.at (Nat.le_refl _) (by omega), by rw [HOp.out.1]; exact hgf.keeps (keeps_frmY _ _ _)⟩, by rw [HOp.out.2]⟩, y3⟩
        · skip
          have q1' := keep hb5 q1
          have hnb : w2.heap.size < W4.heap.size := z1.lt
          have hgq := hide hg5
          have hob2 := hbw2.size
          clear hg5 hq
          go_wp2_with fail
          go_loopw [55] (fun i wr => ∃ (k : Nat) (v : Value), k ≤ p.rows.length ∧ i = .int .i64 k ∧ RowsOwn wr w.heap.size W4.heap.size v (keptUp p.rows l k) ∧ Blk wr w2.heap.size [.int .i64 p.vars, v, .slice ga' p.gain.length gn'] 27 ∧ IntsIn (frmY w.heap.size 3 wr) (.slice ga' p.gain.length gn') p.gain ∧ Below w2.heap.size w2 wr ∧ W4.heap.size ≤ wr.heap.size) (fun i _ => p.rows.length - (intOf i).toNat)
          case atStart => exact ⟨0, _, by omega, rfl, RowsOwn.nil _ _ _, z1, hgq, hb5, Nat.le_refl _⟩
          case round =>
            obtain ⟨k, v, hk, rfl, hRO, bO, hgr, hbr, hz⟩ := hrel
            by_cases hlt : k < p.rows.length
            · obtain ⟨b, o, cv, rfl, hck⟩ := hrc k hlt
              have hm := getD_mem p.rows k (d := row0) hlt
              have HKY := hide (keptUp_yes (l := p.rows) (rows := l) (k := k))
              have HKN := hide (keptUp_no (l := p.rows) (rows := l) (k := k))
              have hle := keptUp_le p.rows l k
              have hql := HRS.out _ hm
              generalize p.rows.getD k row0 = x at hck hm HKY HKN hql
              obtain ⟨e0, e1, e2, e3, e4, e5, e6⟩ := hck.below (below2 hbw2 hbr)
              obtain ⟨ca, cc, rfl, -, -, -⟩ := id e6
              clear hck
              have HRC := hide hrc
              clear hrc hlc hm
              have hlr := (hl.below hbw2).below hbr
              go_wp2_with fail
              refine (bin_any l _ _ _ (hlr.below (bal wr _)) (by have := HLL.out; omega) HAS.out).mono ?_
              rintro e w5 ⟨ix, rfl, hb6⟩
              have hb7 := below2 (bal wr _) hb6
              have bB := (Blk.new wr (rowCells x (.slice ca x.coef.length cc)) 67).later hb6
              cases hM : memB l k
              · have r4 := bB.cell 4 rfl
                have r0 := bB.cell 0 rfl
                have r1 := bB.cell 1 rfl
                have r2 := bB.cell 2 rfl
                have r3 := bB.cell 3 rfl
                have r5 := bB.cell 5 rfl
                have hsk := hb7.size
                have hoblt : w2.heap.size < wr.heap.size := bO.lt
                have hne1 : w2.heap.size ≠ wr.heap.size := by omega
                have hne2 : wr.heap.size ≠ w2.heap.size := by omega
                go_wp2_with (first | (go_at_call 54; refine (clone_any x.coef _ _ ((e6.below hb7)) hql).mono ?_; rintro e w6 ⟨cvn, rfl, hcn, hb8⟩; obtain ⟨na, nc, rfl, -, -, -⟩ := id hcn; have t0 := keep hb8 r0; have t1 := keep hb8 r1; have t2 := keep hb8 r2; have t3 := keep hb8 r3; have t4 := keep hb8 r4; have t5 := keep hb8 r5; have bB8 := bB.later hb8; have f4 := bB8.frozen 4; have hb9 := below2 hb7 hb8; have o6 := keep hb9 (bO.cell 1 rfl)) | (at_builtin; have hb10 : Below wr.heap.size wr (w6.setCell ⟨wr.heap.size, 4, none⟩ (.slice na x.coef.length nc)) := hb9.setCell (p := ⟨wr.heap.size, 4, none⟩) (Nat.le_refl _) _; obtain ⟨L, hOR, hLl, hLs⟩ := hRO.later hb10; have hs10 := hb10.size; have bO10 := bO.later hb10; refine app_rec infoRow rfl (by decide) rfl rfl _ _ rfl W4.heap.size _ L rfl hOR (rowCells x (.slice na x.coef.length nc)) rfl cells6 _ rfl (by simp) (by omega) (by omega) (by omega) ?_; intro g7 c7 w7 hO7 hE7 hz7; have bO7 := hE7.blk bO10 (by decide); have o71 := bO7.cell 1 rfl; have of7 := bO7.frozen 1))
                go_roundw
                case rel =>
                  have hxc := ((hcn.keeps (keeps_frmY_le _ w6 (B' := w.heap.size) (by omega))).keeps (keeps_frmY_set bB8 (by decide) 4 (.slice na x.coef.length nc)))
                  rw [List.length_append, hLl] at hO7
                  have hRO7 := (RowsOwn.app hLl hLs hxc hO7 hE7).set bO7 hnb (by decide) 1 (.slice (some ⟨g7, 0, none⟩) ((keptUp p.rows l k).length + 1) c7)
                  refine ⟨k + 1, _, by omega, by go_num, by rw [HKY.out hM]; exact hRO7, bO7.set 1 _, ((hgr.keeps (keeps_frmY_below hb10)).keeps (keeps_frmY_eff hE7 (by decide))).keeps (keeps_frmY_set bO7 (by decide) 1 _), ?_, ?_⟩
                  · exact ((hbr.trans (hb10.mono hbr.size)).trans ((hE7.below (by omega)).mono (by omega))).setCell (p := ⟨w2.heap.size, 1, none⟩) hob _
                  · simp [World.setCell] at hz7 hs10 ⊢; omega
                case measure => simp [intOf]; omega
              · go_wp2_with fail
                go_roundw
                case rel => exact ⟨k + 1, v, by omega, by go_num, by rw [HKN.out hM]; exact hRO.later hb7, bO.later hb7, hgr.keeps (keeps_frmY_below hb7), below2 hbr hb7, by have := hb7.size; omega⟩
                case measure => simp [intOf]; omega
            · obtain rfl : k = p.rows.length := by omega
              obtain ⟨va, vc, rfl⟩ := hRO.form
              have bRr2 := bR2.later hbr
              have o0 := bO.cell 0 rfl
              have o1 := bO.cell 1 rfl
              have o2 := bO.cell 2 rfl
              have t0 := bRr2.cell 0 rfl
              have t1 := bRr2.cell 1 rfl
              have t2 := bRr2.cell 2 rfl
              have f0 := bRr2.frozen 0
              have f1 := bRr2.frozen 1
              have f2 := bRr2.frozen 2
              have hwR : w.heap.size + 1 < W4.heap.size := by have := bR2.lt; have := hbr.size; have := z1.lt; omega
              go_wp2_with fail
              obtain ⟨y1, y2, -⟩ := set3 bRr2 (.int .i64 p.vars) (.slice va (keptUp p.rows l p.rows.length).length vc) (.slice ga' p.gain.length gn')
              have y3 := y2 _ _ (below2 hbw2 hbr) (by omega)
              have hRf := ((hRO.set bRr2 hwR (by decide) 0 (.int .i64 p.vars)).set (bRr2.set 0 _) hwR (by decide) 1 (.slice va (keptUp p.rows l p.rows.length).length vc)).set ((bRr2.set 0 _).set 1 _) hwR (by decide) 2 (.slice ga' p.gain.length gn')
              have hgf := ((hgr.keeps (keeps_frmY_set bRr2 (by decide) 0 (.int .i64 p.vars))).keeps (keeps_frmY_set (bRr2.set 0 _) (by decide) 1 (.slice va (keptUp p.rows l p.rows.length).length vc))).keeps (keeps_frmY_set ((bRr2.set 0 _).set 1 _) (by decide) 2 (.slice ga' p.gain.length gn'))
              generalize World.setCell (World.setCell _ _ _) ⟨w.heap.size + 1, 2, none⟩ _ = Wf at y1 y3 hRf hgf ⊢
              have x0 := y1.cell 0 rfl
              have x1 := y1.cell 1 rfl
              have x2 := y1.cell 2 rfl
              refine bodyPost_ret (v := .tuple #[.agg #[.int .i64 p.vars, .slice va (keptUp p.rows l p.rows.length).length vc, .slice ga' p.gain.length gn'], .int .i64 0]) (by simp [results, Try.results30, go_sem, x0, x1, x2]) rfl ?_
              exact ⟨_, _, rfl, ⟨⟨_, _, by rw [HOp.out.1], by rw [HOp.out.1]; exact hRf.at (Nat.le_refl _) (by omega), by rw [HOp.out.1]; exact hgf.keeps (keeps_frmY _ _ _)⟩, by rw [HOp.out.2]⟩, y3⟩
end Go.Proofs.Ytppfdjjhloaopaa
