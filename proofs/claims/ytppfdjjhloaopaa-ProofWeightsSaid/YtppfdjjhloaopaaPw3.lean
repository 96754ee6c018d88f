/- Walks of the functions of package program that test rows and programs. Conditions: how the arguments lie in memory; sizes where a theorem says so. -/
import Derived.Test.YtppfdjjhloaopaaPw2
namespace Go.Proofs.Ytppfdjjhloaopaa
open Go.RowKit

set_option maxHeartbeats 400000 in
theorem right_any (r : RowD) (cv : Value) (vars : Int) (w : World) (hv : IntsAt w cv r.coef) :
    Calls Try.prog 69 #[rowV r cv, .int .i64 vars] w (Ret (.bool (rightB r vars)) w) := by
  obtain ⟨a, c, rfl, hlc, hcm, hc⟩ := id hv
  have hm1 : (r.coef.length : Int) ≤ 9223372036854775807 := by omega
  generalize hw0 : (w.alloc (.cells #[.int .i64 r.kind, .int .i64 r.a, .int .i64 r.b, .int .i64 r.at_, .slice a r.coef.length c, .int .i64 r.most] 67)) = w0
  have hb0 : Below w.heap.size w w0 := by rw [← hw0]; exact (Below.refl _ w).alloc (Nat.le_refl _) _
  have hv0 := hv.below hb0
  have c4 : w0.cell? ⟨w.heap.size, 4, none⟩ = some (.slice a r.coef.length c) := by rw [← hw0]; simp
  have c5 : w0.cell? ⟨w.heap.size, 5, none⟩ = some (.int .i64 r.most) := by rw [← hw0]; simp
  have HF : Hid (rightB r vars = (lenB r.coef.length vars && coefsB r.coef && isInB (-1000000000000) r.most 1000000000000)) := hide rfl
  have HW := hide hw0
  clear hw0 hc

  by_cases h1 : (r.coef.length : Int) = vars
  · have H1 : Hid (lenB r.coef.length vars = true) := by show lenB _ _ = true; simp [lenB, h1]
    have e1 : ((r.coef.length : Int) == vars) = true := by simp [h1]
    clear h1
    cases h2 : coefsB r.coef
    · go_enter Try.func69, Try.ntmps69
      go_wp2_with fail
      rw [HW.out]
      go_wp2_with (go_at_call 70; refine (coefs_any r.coef _ _ hv0).mono ?_; rintro e w' ⟨rfl, hb⟩)
      go_ret
      exact ⟨ret_bool (by rw [HF.out, H1.out, h2]; rfl), below2 hb0 hb⟩
    · go_enter Try.func69, Try.ntmps69
      go_wp2_with fail
      rw [HW.out]
      go_wp2_with (go_at_call 70; refine (coefs_any r.coef _ _ hv0).mono ?_; rintro e w1 ⟨rfl, hb⟩; have c5' := keep hb c5)
      go_wp2_with (go_at_call 53; refine (isIn_any _ _ _ _).mono ?_; rintro e w' ⟨rfl, hb'⟩)
      go_ret
      exact ⟨ret_bool (by rw [HF.out, H1.out, h2]; rfl), below2 hb0 (below2 hb hb')⟩
  · have H1 : Hid (lenB r.coef.length vars = false) := by show lenB _ _ = false; simp [lenB, h1]
    have e1 : ((r.coef.length : Int) == vars) = false := by simp [h1]
    clear h1
    go_enter Try.func69, Try.ntmps69
    go_wp2_with fail
    rw [HW.out]
    go_wp2_with fail
    go_ret
    exact ⟨ret_bool (by rw [HF.out, H1.out]; rfl), hb0⟩

theorem valid1_any (r : RowD) (cv : Value) (B : Nat) (vars : Int) (w : World) (hv : IntsAt w cv r.coef) (hB : w.cell? ⟨B, 0, none⟩ = some (.int .i64 vars)) :
    Calls Try.prog 68 #[rowV r cv, .pointer (some ⟨B, 0, none⟩)] w (Ret (.bool (rightB r vars)) w) := by
  have hlt : B < w.heap.size := lt_of_cell hB
  go_enter Try.func68, Try.ntmps68
  go_wp2_with (go_at_call 69; refine (right_any r _ _ _ (hv.below (bal _ _))).mono ?_; rintro e w' ⟨rfl, hb⟩)
  go_ret
  exact ⟨rfl, below2 (bal _ _) hb⟩
set_option maxHeartbeats 400000 in
theorem chosen_any (l : List Int) (s : Nat) (v : Value) (w : World) (hv : IntsAt w v l) (hl : l.length ≤ 13) (hb : coefsB l = true) :
    Calls Try.prog 50 #[v, .int .i64 s] w (Ret (.int .i64 (chosenF l s)) w) := by
  obtain ⟨a, c, rfl, -, -, hc⟩ := hv
  go_enter Try.func50, Try.ntmps50
  go_wp2
  go_loopw [5, 10] (fun s5 i wr => ∃ (k : Nat), k ≤ l.length ∧ i = .int .i64 k ∧ s5 = .int .i64 (chosK l s k) ∧ Below w.heap.size w wr) (fun _ i _ => l.length - (intOf i).toNat)
  case atStart => exact ⟨0, by omega, rfl, rfl, Below.refl _ _⟩
  case round =>
    obtain ⟨k, hk, rfl, rfl, hbr⟩ := hrel
    by_cases hlt : k < l.length
    · obtain ⟨b, o, rfl, hck⟩ := hc k hlt
      have hbd := chosK_bound l s hb k (by omega)
      have hbk := all_at (d := 0) hb hlt
      simp only [bndB, decide_eq_true_eq] at hbk
      have hfin : chosK l s (k + 1) = chosK l s k + (if s / 2 ^ k % 2 = 1 then l.getD k 0 else 0) := rfl
      generalize l.getD k 0 = x at hck hbk hfin
      generalize chosK l s k = t at hbd hfin ⊢
      have ck := keep hbr hck
      have HF := hide hfin
      clear hc hb hfin
      by_cases h1 : s / 2 ^ k % 2 = 1
      · have e1 := bit_yes h1
        have H1 := hide h1
        clear h1
        go_wp2
        go_roundw
        case rel => exact ⟨k + 1, by omega, by go_num, i64_eq (by rw [HF.out, if_pos H1.out]), hbr⟩
        case measure => simp [intOf]; omega
      · have e1 := bit_no h1
        have H1 := hide h1
        clear h1
        go_wp2
        go_roundw
        case rel => exact ⟨k + 1, by omega, by go_num, i64_eq (by rw [HF.out, if_neg H1.out]; simp), hbr⟩
        case measure => simp [intOf]; omega
    · obtain rfl : k = l.length := by omega
      go_wp2
      go_ret
      exact ⟨rfl, hbr⟩
/-- what is asked of a function value that is handed rows -/
def OnRows (g : Nat) (lb : Array Value) (q : RowD → Bool) (l : List RowD) (w : World) : Prop :=
  ∀ W, Below w.heap.size w W → ∀ r, r ∈ l → ∀ cv, IntsAt W cv r.coef → Calls Try.prog g (#[rowV r cv] ++ lb) W (Ret (.bool (q r)) W)
theorem OnRows.later {g : Nat} {lb : Array Value} {q : RowD → Bool} {l : List RowD} {w W : World} (h : OnRows g lb q l w) (hb : Below w.heap.size w W) : OnRows g lb q l W :=
  fun W' hb' => h W' (below2 hb hb')
theorem allrow1_any (g : Nat) (lb : Array Value) (eg : ∀ args w, (callFunc g args).run Try.prog w = .ok (.enter g args) w) (q : RowD → Bool) (r : RowD) (cv : Value) (B : Nat) (w : World)
    (hB : w.cell? ⟨B, 0, none⟩ = some (.func (.func g) #[] lb)) (H : ∀ W, Below w.heap.size w W → IntsAt W cv r.coef → Calls Try.prog g (#[rowV r cv] ++ lb) W (Ret (.bool (q r)) W)) (hv : IntsAt w cv r.coef) :
    Calls Try.prog 87 #[rowV r cv, .pointer (some ⟨B, 0, none⟩)] w (Ret (.bool (!q r)) w) := by
  have hlt : B < w.heap.size := lt_of_cell hB
  have hv1 := hide (H _ (bal _ _) (hv.below (bal _ (.cells #[.int .i64 r.kind, .int .i64 r.a, .int .i64 r.b, .int .i64 r.at_, cv, .int .i64 r.most] 67))))
  clear H
  go_enter Try.func87, Try.ntmps87
  go_wp2_with (go_at_fn g; refine hv1.out.mono ?_; rintro e w' ⟨rfl, hb⟩)
  go_ret
  exact ⟨rfl, below2 (bal _ _) hb⟩
set_option maxHeartbeats 400000 in
theorem idxrow_any (g : Nat) (lb : Array Value) (eg : ∀ args w, (callFunc g args).run Try.prog w = .ok (.enter g args) w) (q : RowD → Bool) (l : List RowD) (v : Value) (w : World) (hv : RowsAt w v l) (H : OnRows g lb q l w) :
    Calls Try.prog 76 #[v, .func (.func g) #[] lb] w (Ret (.int .i64 (idxF q l)) w) := by
  obtain ⟨a, c, rfl, hlc, hcm, hc⟩ := hv
  go_enter Try.func76, Try.ntmps76
  go_wp2
  go_loopw [8] (fun i wr => ∃ (k : Nat), k ≤ l.length ∧ i = .int .i64 k ∧ Hid ((l.take k).any q = false) ∧ Below w.heap.size w wr) (fun i _ => l.length - (intOf i).toNat)
  case atStart => exact ⟨0, by omega, rfl, rfl, Below.refl _ _⟩
  case round =>
    obtain ⟨k, hk, rfl, HA, hbr⟩ := hrel
    by_cases hlt : k < l.length
    · obtain ⟨b, o, cv, rfl, hck⟩ := hc k hlt
      have HT := hide (any_take_succ (d := row0) (p := q) hlt HA.out)
      have HN := hide (idxF_found (d := row0) q l k hlt HA.out)
      have hm := getD_mem l k (d := row0) hlt
      generalize l.getD k row0 = x at hck HT HN hm
      obtain ⟨c0, c1, c2, c3, c4, c5, c6⟩ := hck.below hbr
      have HC := hide (H wr hbr x hm cv c6)
      clear hc H hck
      cases hx : q x
      · go_wp2_with (go_at_fn g; refine HC.out.mono ?_; rintro e w' ⟨rfl, hb⟩)
        go_roundw
        case rel => exact ⟨k + 1, by omega, by go_num, HT.out hx, below2 hbr hb⟩
        case measure => simp [intOf]; omega
      · go_wp2_with (go_at_fn g; refine HC.out.mono ?_; rintro e w' ⟨rfl, hb⟩)
        go_ret
        exact ⟨ret_int (HN.out hx).symm, below2 hbr hb⟩
    · go_wp2
      go_ret
      exact ⟨ret_int (idxF_none _ l (any_take_end (by omega) HA.out)).symm, hbr⟩
set_option maxHeartbeats 400000 in
theorem hasrow_any (g : Nat) (lb : Array Value) (eg : ∀ args w, (callFunc g args).run Try.prog w = .ok (.enter g args) w) (q : RowD → Bool) (l : List RowD) (v : Value) (w : World) (hv : RowsAt w v l) (H : OnRows g lb q l w) :
    Calls Try.prog 82 #[v, .func (.func g) #[] lb] w (Ret (.bool (l.any q)) w) := by
  have HF := hide (idxF_any q l)
  have HH := hide H
  clear H
  go_enter Try.func82, Try.ntmps82
  go_wp2_with (go_at_call 76; refine (idxrow_any g lb eg q l _ _ hv HH.out).mono ?_; rintro e w' ⟨rfl, hb⟩)
  go_ret
  exact ⟨ret_bool HF.out, hb⟩
set_option maxHeartbeats 400000 in
theorem allrow_any (g : Nat) (lb : Array Value) (eg : ∀ args w, (callFunc g args).run Try.prog w = .ok (.enter g args) w) (q : RowD → Bool) (l : List RowD) (v : Value) (w : World) (hv : RowsAt w v l) (H : OnRows g lb q l w) :
    Calls Try.prog 67 #[v, .func (.func g) #[] lb] w (Ret (.bool (l.all q)) w) := by
  have hw : Below w.heap.size w (w.alloc (.cells #[.func (.func g) #[] lb] 112)) := bal _ _
  have H1 : OnRows 87 #[.pointer (some ⟨w.heap.size, 0, none⟩)] (fun r => !q r) l (w.alloc (.cells #[.func (.func g) #[] lb] 112)) :=
    fun W hb r hr cv hcv => allrow1_any g lb eg q r cv _ W (keep hb (by simp)) (fun W' hb' hv' => H W' (below2 hw (below2 hb hb')) r hr cv hv') hcv
  have HF : Hid (l.all q = !(l.any fun r => !q r)) := hide (List.all_eq_not_any_not ..)
  have HH := hide H1
  clear H H1
  go_enter Try.func67, Try.ntmps67
  go_wp2_with (go_at_call 82; refine (hasrow_any _ _ (Go.Proofs.enters_of Try.func87 (by kernel_rfl) rfl) _ l _ _ (hv.below hw) HH.out).mono ?_; rintro e w' ⟨rfl, hb⟩)
  go_ret
  exact ⟨ret_bool HF.out.symm, below2 hw hb⟩
end Go.Proofs.Ytppfdjjhloaopaa
