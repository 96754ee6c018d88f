/- Walks of Valid, isChoice, Sum, kept, Keeps, Gain of package program. Conditions: how the arguments lie in memory. -/
import Derived.Test.YtppfdjjhloaopaaPw3
namespace Go.Proofs.Ytppfdjjhloaopaa
open Go.RowKit

set_option maxHeartbeats 1000000 in
theorem valid_any (p : ProgD) (rv gv : Value) (w : World) (hr : RowsAt w rv p.rows) (hg : IntsAt w gv p.gain) :
    Calls Try.prog 46 #[progV p rv gv] w (Ret (.bool (validB p)) w) := by
  obtain ⟨ra, rc, rfl, hrl, hrm, -⟩ := id hr
  obtain ⟨ga, gc, rfl, hgl, hgm, -⟩ := id hg
  have hm1 : (p.rows.length : Int) ≤ 9223372036854775807 := by omega
  have hm2 : (p.gain.length : Int) ≤ 9223372036854775807 := by omega
  obtain ⟨w0, hw0, hb0, c0, c1, c2⟩ := boxedProg w p.vars (.slice ra p.rows.length rc) (.slice ga p.gain.length gc)
  rw [← hw0] at hb0 c0 c1 c2
  have HO : OnRows 68 #[.pointer (some ⟨w.heap.size, 0, none⟩)] (rightB · p.vars) p.rows (w.alloc (.cells #[.int .i64 p.vars, .slice ra p.rows.length rc, .slice ga p.gain.length gc] 27)) :=
    fun W hb r _ cv hcv => valid1_any r cv _ _ W hcv (keep hb c0)
  have HH := hide HO
  have HF : Hid (validB p = (isInB 0 p.vars 12 && fewB p.rows.length && rowsB p.rows p.vars && lenB p.gain.length p.vars && coefsB p.gain)) := hide rfl
  have HR : Hid (rowsB p.rows p.vars = p.rows.all (rightB · p.vars)) := hide rfl
  have HE : Hid (fewB p.rows.length = decide ((p.rows.length : Int) ≤ 300)) := hide rfl
  have HL : Hid (lenB p.gain.length p.vars = ((p.gain.length : Int) == p.vars)) := hide (by simp [lenB]; rfl)
  clear hw0 HO
  generalize hB1 : isInB 0 p.vars 12 = B1 at HF
  generalize hB2 : fewB p.rows.length = B2 at HF HE
  generalize hB3 : rowsB p.rows p.vars = B3 at HF HR
  generalize hB4 : lenB p.gain.length p.vars = B4 at HF HL
  generalize hB5 : coefsB p.gain = B5 at HF
  have h2 := HE.out.symm
  have h3 := HR.out.symm
  have h4 := HL.out.symm
  have H3 := hide h3
  have hg0 := hg.below hb0
  clear h3
  cases B1
  · skip
    go_enter Try.func46, Try.ntmps46
    go_wp2_with (go_at_call 67; refine (allrow_any _ _ (Go.Proofs.enters_of Try.func68 (by kernel_rfl) rfl) _ p.rows _ _ (hr.below hb0) HH.out).mono ?_; rw [H3.out]; rintro e w1 ⟨rfl, hb1⟩; have d0 := keep hb1 c0; have d1 := keep hb1 c1; have d2 := keep hb1 c2)
    go_wp2_with (go_at_call 53; refine (isIn_any _ _ _ _).mono ?_; rw [hB1]; rintro e w2 ⟨rfl, hb2⟩; have e0 := keep hb2 d0; have e1 := keep hb2 d1; have e2 := keep hb2 d2)
    go_ret
    exact ⟨ret_bool (by rw [HF.out]; rfl), below2 hb0 (below2 hb1 hb2)⟩
  · cases B2
    · skip
      go_enter Try.func46, Try.ntmps46
      go_wp2_with (go_at_call 67; refine (allrow_any _ _ (Go.Proofs.enters_of Try.func68 (by kernel_rfl) rfl) _ p.rows _ _ (hr.below hb0) HH.out).mono ?_; rw [H3.out]; rintro e w1 ⟨rfl, hb1⟩; have d0 := keep hb1 c0; have d1 := keep hb1 c1; have d2 := keep hb1 c2)
      go_wp2_with (go_at_call 53; refine (isIn_any _ _ _ _).mono ?_; rw [hB1]; rintro e w2 ⟨rfl, hb2⟩; have e0 := keep hb2 d0; have e1 := keep hb2 d1; have e2 := keep hb2 d2)
      go_ret
      exact ⟨ret_bool (by rw [HF.out]; rfl), below2 hb0 (below2 hb1 hb2)⟩
    · cases B3
      · skip
        go_enter Try.func46, Try.ntmps46
        go_wp2_with (go_at_call 67; refine (allrow_any _ _ (Go.Proofs.enters_of Try.func68 (by kernel_rfl) rfl) _ p.rows _ _ (hr.below hb0) HH.out).mono ?_; rw [H3.out]; rintro e w1 ⟨rfl, hb1⟩; have d0 := keep hb1 c0; have d1 := keep hb1 c1; have d2 := keep hb1 c2)
        go_wp2_with (go_at_call 53; refine (isIn_any _ _ _ _).mono ?_; rw [hB1]; rintro e w2 ⟨rfl, hb2⟩; have e0 := keep hb2 d0; have e1 := keep hb2 d1; have e2 := keep hb2 d2)
        go_ret
        exact ⟨ret_bool (by rw [HF.out]; rfl), below2 hb0 (below2 hb1 hb2)⟩
      · cases B4
        · skip
          go_enter Try.func46, Try.ntmps46
          go_wp2_with (go_at_call 67; refine (allrow_any _ _ (Go.Proofs.enters_of Try.func68 (by kernel_rfl) rfl) _ p.rows _ _ (hr.below hb0) HH.out).mono ?_; rw [H3.out]; rintro e w1 ⟨rfl, hb1⟩; have d0 := keep hb1 c0; have d1 := keep hb1 c1; have d2 := keep hb1 c2)
          go_wp2_with (go_at_call 53; refine (isIn_any _ _ _ _).mono ?_; rw [hB1]; rintro e w2 ⟨rfl, hb2⟩; have e0 := keep hb2 d0; have e1 := keep hb2 d1; have e2 := keep hb2 d2)
          go_ret
          exact ⟨ret_bool (by rw [HF.out]; rfl), below2 hb0 (below2 hb1 hb2)⟩
        · cases B5
          all_goals
            go_enter Try.func46, Try.ntmps46
            go_wp2_with (go_at_call 67; refine (allrow_any _ _ (Go.Proofs.enters_of Try.func68 (by kernel_rfl) rfl) _ p.rows _ _ (hr.below hb0) HH.out).mono ?_; rw [H3.out]; rintro e w1 ⟨rfl, hb1⟩; have d0 := keep hb1 c0; have d1 := keep hb1 c1; have d2 := keep hb1 c2)
            go_wp2_with (go_at_call 53; refine (isIn_any _ _ _ _).mono ?_; rw [hB1]; rintro e w2 ⟨rfl, hb2⟩; have e0 := keep hb2 d0; have e1 := keep hb2 d1; have e2 := keep hb2 d2)
            go_wp2_with (go_at_call 70; refine (coefs_any p.gain _ _ (hg0.below (below2 hb1 hb2))).mono ?_; rw [hB5]; rintro e w3 ⟨rfl, hb3⟩)
            go_ret
            exact ⟨ret_bool (by rw [HF.out]; rfl), below2 hb0 (below2 hb1 (below2 hb2 hb3))⟩

end Go.Proofs.Ytppfdjjhloaopaa
