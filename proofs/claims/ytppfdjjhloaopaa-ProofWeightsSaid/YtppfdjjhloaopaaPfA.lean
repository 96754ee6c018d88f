/- Walks of the functions of package proof that test a program, and of need: each returns what its plain word says, and turns nothing that was there; need panics with the step's number where its condition is false. Conditions: how the arguments lie in memory. -/
import Derived.Test.YtppfdjjhloaopaaPw4
namespace Go.Proofs.Ytppfdjjhloaopaa
open Go.RowKit

set_option maxHeartbeats 400000 in
theorem isInP_any (n lo hi : Int) (w : World) :
    Calls Try.prog 45 #[.int .i64 n, .int .i64 lo, .int .i64 hi] w (Ret (.bool (isInB lo n hi)) w) := by
  by_cases h1 : lo ≤ n
  · by_cases h2 : n ≤ hi
    all_goals
      have h3 := h1
      have h4 := h2
      go_enter Try.func45, Try.ntmps45
      go_wp2
      go_ret
      exact ⟨ret_bool (by simp [isInB]; omega), Below.refl _ _⟩
  · have h3 := h1
    go_enter Try.func45, Try.ntmps45
    go_wp2
    go_ret
    exact ⟨ret_bool (by simp [isInB]; omega), Below.refl _ _⟩
/-- the same, with the world as it was -/
theorem isInP_eq (n lo hi : Int) (w : World) :
    Calls Try.prog 45 #[.int .i64 n, .int .i64 lo, .int .i64 hi] w fun e w' => e = .returned (.bool (isInB lo n hi)) ∧ w' = w := by
  by_cases h1 : lo ≤ n
  · by_cases h2 : n ≤ hi
    all_goals
      have h3 := h1
      have h4 := h2
      go_enter Try.func45, Try.ntmps45
      go_wp2
      go_ret
      exact ⟨ret_bool (by simp [isInB]; omega), rfl⟩
  · have h3 := h1
    go_enter Try.func45, Try.ntmps45
    go_wp2
    go_ret
    exact ⟨ret_bool (by simp [isInB]; omega), rfl⟩
theorem num1_any (n : Int) (w : World) : Calls Try.prog 92 #[.int .i64 n] w (Ret (.bool (!bndB n)) w) := by
  go_enter Try.func92, Try.ntmps92
  go_wp2_with (go_at_call 45; refine (isInP_any _ _ _ _).mono ?_; rintro e w' ⟨rfl, hb⟩)
  go_ret
  exact ⟨rfl, hb⟩
set_option maxHeartbeats 400000 in
theorem idxnum_any (l : List Int) (v : Value) (w : World) (hv : IntsAt w v l) :
    Calls Try.prog 104 #[v, .func (.func 92) #[] #[]] w (Ret (.int .i64 (idxF (fun n => !bndB n) l)) w) := by
  obtain ⟨a, c, rfl, hlc, hcm, hc⟩ := hv
  go_enter Try.func104, Try.ntmps104
  go_wp2
  go_loopw [8] (fun i wr => ∃ (k : Nat), k ≤ l.length ∧ i = .int .i64 k ∧ Hid ((l.take k).any (fun n => !bndB n) = false) ∧ Below w.heap.size w wr) (fun i _ => l.length - (intOf i).toNat)
  case atStart => exact ⟨0, by omega, rfl, rfl, Below.refl _ _⟩
  case round =>
    obtain ⟨k, hk, rfl, HA, hbr⟩ := hrel
    by_cases hlt : k < l.length
    · obtain ⟨b, o, rfl, hck⟩ := hc k hlt
      have HT := hide (any_take_succ (d := 0) (p := fun n => !bndB n) hlt HA.out)
      have HN := hide (idxF_found (d := 0) (fun n => !bndB n) l k hlt HA.out)
      generalize l.getD k 0 = x at hck HT HN
      have ck := keep hbr hck
      clear hc
      cases hx : bndB x
      · go_wp2_with (go_at_call 92; refine (num1_any _ _).mono ?_; rintro e w' ⟨rfl, hb⟩)
        go_ret
        exact ⟨ret_int (HN.out (by simp [hx])).symm, below2 hbr hb⟩
      · go_wp2_with (go_at_call 92; refine (num1_any _ _).mono ?_; rintro e w' ⟨rfl, hb⟩)
        go_roundw
        case rel => exact ⟨k + 1, by omega, by go_num, HT.out (by simp [hx]), below2 hbr hb⟩
        case measure => simp [intOf]; omega
    · go_wp2
      go_ret
      exact ⟨ret_int (idxF_none _ l (any_take_end (by omega) HA.out)).symm, hbr⟩
set_option maxHeartbeats 400000 in
theorem hasnum_any (l : List Int) (v : Value) (w : World) (hv : IntsAt w v l) :
    Calls Try.prog 91 #[v, .func (.func 92) #[] #[]] w (Ret (.bool (!coefsB l)) w) := by
  have hfin : decide (0 ≤ idxF (fun n => !bndB n) l) = !coefsB l := by rw [idxF_any, any_not_all]
  have HF := hide hfin
  clear hfin
  go_enter Try.func91, Try.ntmps91
  go_wp2_with (go_at_call 104; refine (idxnum_any _ _ _ hv).mono ?_; rintro e w' ⟨rfl, hb⟩)
  go_ret
  exact ⟨ret_bool HF.out, hb⟩
theorem numbers_any (l : List Int) (many : Int) (v : Value) (w : World) (hv : IntsAt w v l) :
    Calls Try.prog 81 #[v, .int .i64 many] w (Ret (.bool (lenB l.length many && coefsB l)) w) := by
  obtain ⟨a, c, rfl, hlc, hcm, hc⟩ := id hv
  have hm1 : (l.length : Int) ≤ 9223372036854775807 := by omega
  clear hc
  by_cases h1 : (l.length : Int) = many
  · have H1 : Hid (lenB l.length many = true) := by show lenB _ _ = true; simp [lenB, h1]
    have e1 : ((l.length : Int) == many) = true := by simp [h1]
    clear h1
    go_enter Try.func81, Try.ntmps81
    go_wp2_with (go_at_call 91; refine (hasnum_any l _ _ hv).mono ?_; rintro e w' ⟨rfl, hb⟩)
    go_ret
    exact ⟨ret_bool (by rw [H1.out]; simp), hb⟩
  · have H1 : Hid (lenB l.length many = false) := by show lenB _ _ = false; simp [lenB, h1]
    have e1 : ((l.length : Int) == many) = false := by simp [h1]
    clear h1
    go_enter Try.func81, Try.ntmps81
    go_wp2_with fail
    go_ret
    exact ⟨ret_bool (by rw [H1.out]; simp), Below.refl _ _⟩
set_option maxHeartbeats 400000 in
theorem validp1_any (r : RowD) (cv : Value) (B : Nat) (vars : Int) (w : World) (hv : IntsAt w cv r.coef) (hB : w.cell? ⟨B, 0, none⟩ = some (.int .i64 vars)) :
    Calls Try.prog 83 #[rowV r cv, .pointer (some ⟨B, 0, none⟩)] w (Ret (.bool (!rightB r vars)) w) := by
  obtain ⟨w0, hw0, hb0, d0, d1, d2, d3, d4, d5⟩ := boxedRow w r cv
  have cB := keep hb0 hB
  have hlt := lt_of_cell hB
  have hv0 := hv.below hb0
  rw [← hw0] at hb0 d4 d5 hv0 cB
  clear hw0 d0 d1 d2 d3
  have HF : Hid (rightB r vars = (lenB r.coef.length vars && coefsB r.coef && isInB (-1000000000000) r.most 1000000000000)) := hide rfl
  generalize hN : (lenB r.coef.length vars && coefsB r.coef) = bn at HF
  have HC := hide (numbers_any r.coef vars cv _ hv0)
  rw [hN] at HC
  clear hN
  cases bn
  · go_enter Try.func83, Try.ntmps83
    go_wp2_with (go_at_call 81; refine HC.out.mono ?_; rintro e w' ⟨rfl, hb⟩)
    go_ret
    exact ⟨ret_bool (by rw [HF.out]; rfl), below2 hb0 hb⟩
  · go_enter Try.func83, Try.ntmps83
    go_wp2_with (go_at_call 81; refine HC.out.mono ?_; rintro e w' ⟨rfl, hb⟩; have d5' := keep hb d5)
    go_wp2_with (go_at_call 45; refine (isInP_any _ _ _ _).mono ?_; rintro e w' ⟨rfl, hb'⟩)
    go_ret
    exact ⟨ret_bool (by rw [HF.out]; rfl), below2 hb0 (below2 hb hb')⟩
set_option maxHeartbeats 1000000 in
theorem validp_any (p : ProgD) (rv gv : Value) (w : World) (hr : RowsAt w rv p.rows) (hg : IntsAt w gv p.gain) :
    Calls Try.prog 58 #[progV p rv gv] w (Ret (.bool (validB p)) w) := by
  obtain ⟨ra, rc, rfl, hrl, hrm, -⟩ := id hr
  obtain ⟨ga, gc, rfl, hgl, hgm, -⟩ := id hg
  have hm1 : (p.rows.length : Int) ≤ 9223372036854775807 := by omega
  have hm2 : (p.gain.length : Int) ≤ 9223372036854775807 := by omega
  obtain ⟨w0, hw0, hb0, c0, c1, c2⟩ := boxedProg w p.vars (.slice ra p.rows.length rc) (.slice ga p.gain.length gc)
  rw [← hw0] at hb0 c0 c1 c2
  have HO : OnRows 83 #[.pointer (some ⟨w.heap.size, 0, none⟩)] (fun r => !rightB r p.vars) p.rows (w.alloc (.cells #[.int .i64 p.vars, .slice ra p.rows.length rc, .slice ga p.gain.length gc] 27)) :=
    fun W hb r _ cv hcv => validp1_any r cv _ _ W hcv (keep hb c0)
  have HH := hide HO
  have HF : Hid (validB p = (isInB 0 p.vars 12 && fewB p.rows.length && rowsB p.rows p.vars && lenB p.gain.length p.vars && coefsB p.gain)) := hide rfl
  have HR : Hid (p.rows.any (fun r => !rightB r p.vars) = !rowsB p.rows p.vars) := hide (by simp [rowsB, List.all_eq_not_any_not])
  have HE : Hid (fewB p.rows.length = decide ((p.rows.length : Int) ≤ 300)) := hide rfl
  have HN := hide (numbers_any p.gain p.vars _ _ (hg.below hb0))
  have hr0 := hr.below hb0
  clear hw0 HO
  generalize hB1 : isInB 0 p.vars 12 = B1 at HF
  generalize hB2 : fewB p.rows.length = B2 at HF HE
  generalize hB3 : rowsB p.rows p.vars = B3 at HF HR
  generalize hB4 : (lenB p.gain.length p.vars && coefsB p.gain) = B4 at HN
  have HG : Hid (validB p = (B1 && B2 && B4 && B3)) := hide (by rw [HF.out, ← hB4]; cases B1 <;> cases B2 <;> cases B3 <;> simp)
  clear HF hB2 hB3 hB4
  have h2 := HE.out.symm
  cases B1
  · skip
    go_enter Try.func58, Try.ntmps58
    go_wp2_with (go_at_call 45; refine (isInP_eq _ _ _ _).mono ?_; rw [hB1]; rintro e w1 ⟨rfl, rfl⟩)
    go_ret
    exact ⟨ret_bool (by rw [HG.out]; rfl), hb0⟩
  · cases B2
    · have h3 : ¬ (p.rows.length : Int) ≤ 300 := by simpa using h2
      clear h2
      go_enter Try.func58, Try.ntmps58
      go_wp2_with (go_at_call 45; refine (isInP_eq _ _ _ _).mono ?_; rw [hB1]; rintro e w1 ⟨rfl, rfl⟩)
      go_ret
      exact ⟨ret_bool (by rw [HG.out]; rfl), hb0⟩
    · have h3 : (p.rows.length : Int) ≤ 300 := by simpa using h2
      clear h2
      cases B4
      · skip
        go_enter Try.func58, Try.ntmps58
        go_wp2_with (go_at_call 45; refine (isInP_eq _ _ _ _).mono ?_; rw [hB1]; rintro e w1 ⟨rfl, rfl⟩)
        go_wp2_with (go_at_call 81; refine HN.out.mono ?_; rintro e w2 ⟨rfl, hb2⟩; have e0 := keep hb2 c0; have e1 := keep hb2 c1)
        go_ret
        exact ⟨ret_bool (by rw [HG.out]; rfl), below2 hb0 hb2⟩
      · skip
        go_enter Try.func58, Try.ntmps58
        go_wp2_with (go_at_call 45; refine (isInP_eq _ _ _ _).mono ?_; rw [hB1]; rintro e w1 ⟨rfl, rfl⟩)
        go_wp2_with (go_at_call 81; refine HN.out.mono ?_; rintro e w2 ⟨rfl, hb2⟩; have e0 := keep hb2 c0; have e1 := keep hb2 c1)
        go_wp2_with (go_at_call 82; refine (hasrow_any _ _ (Go.Proofs.enters_of Try.func83 (by kernel_rfl) rfl) _ p.rows _ _ (hr0.below hb2) (HH.out.later hb2)).mono ?_; rw [HR.out]; rintro e w3 ⟨rfl, hb3⟩)
        go_ret
        exact ⟨ret_bool (by rw [HG.out]; simp), below2 hb0 (below2 hb2 hb3)⟩
/-- the panic that need makes -/
abbrev wrongV (at_ : Int) : Value := .iface 97 (.agg #[.int .i64 at_])
abbrev wrongC (at_ : Int) : List PanicEntry := [{ v := wrongV at_, recovered := false }]
theorem need_yes (at_ : Int) (w : World) : Calls Try.prog 60 #[.bool true, .int .i64 at_] w fun e w' => e = .returned (.tuple #[]) ∧ w' = w := by
  go_enter Try.func60, Try.ntmps60
  go_wp2
  first | go_end0 | skip
  all_goals exact ⟨rfl, rfl⟩
theorem need_no (at_ : Int) (w : World) : Calls Try.prog 60 #[.bool false, .int .i64 at_] w fun e w' => e = .panicked (wrongC at_) ∧ w' = w := by
  go_enter Try.func60, Try.ntmps60
  go_wp2
  exact ⟨rfl, rfl, rfl⟩
end Go.Proofs.Ytppfdjjhloaopaa
