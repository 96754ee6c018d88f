/- Walks of least and goal of package program. Conditions: how the arguments lie in memory; sizes. -/
import Derived.Test.YtppfdjjhloaopaaPw7
import Derived.Test.YtppfdjjhloaopaaPmodB
import Derived.Test.YtppfdjjhloaopaaBlk
namespace Go.Proofs.Ytppfdjjhloaopaa
open Go.RowKit

theorem ints_take {w : World} {a : Option Addr} {n c : Nat} {l : List Int} (h : IntsAt w (.slice a n c) l) {d : Nat} (hd : d ≤ l.length) : IntsAt w (.slice a d c) (l.take d) := by
  obtain ⟨a', c', e, h1, h2, h3⟩ := h
  cases e
  have e1 : (l.take d).length = d := by rw [List.length_take]; omega
  refine ⟨a, c, by rw [e1], by omega, h2, fun k hk => ?_⟩
  obtain ⟨b, o, e2, hc⟩ := h3 k (by omega)
  exact ⟨b, o, e2, by rw [getD_take (by omega)]; exact hc⟩
set_option maxHeartbeats 1000000 in
theorem least_any (r : RowD) (cv : Value) (d s : Nat) (w : World) (hv : IntsAt w cv r.coef) (hl : r.coef.length ≤ 13) (hb : coefsB r.coef = true) (hd : d ≤ r.coef.length) :
    Calls Try.prog 78 #[rowV r cv, .int .i64 d, .int .i64 s] w (Ret (.int .i64 (leastF r.coef d s)) w) := by
  obtain ⟨a, c, rfl, hlc, hcm, hc⟩ := id hv
  obtain ⟨w0, hw0, hb0, c0, c1, c2, c3, c4, c5⟩ := boxedRow w r (.slice a r.coef.length c)
  rw [← hw0] at hb0 c0 c1 c2 c3 c4 c5
  have hv0 := ints_take (hv.below hb0) hd
  have HF : Hid (leastF r.coef d s = chosenF (r.coef.take d) s + negK (r.coef.drop d) (r.coef.drop d).length) := hide rfl
  have hcb := chosenF_bound (r.coef.take d) s (coefsB_take d hb)
  have htl : (r.coef.take d).length ≤ 13 := by rw [List.length_take]; omega
  have hdl : (r.coef.drop d).length = r.coef.length - d := List.length_drop
  have HB := hide (coefsB_take d hb)
  have HD := hide (coefsB_drop d hb)
  have HL := hide hdl
  rw [hdl] at HF
  have hdc : d ≤ c := by omega
  clear hw0 hdl
  rcases Nat.lt_or_ge d c with hdc' | hdc'
  · go_enter Try.func78, Try.ntmps78
    go_wp2_with (go_at_call 50; refine (chosen_any (r.coef.take d) s _ _ hv0 htl HB.out).mono ?_; rintro e w1 ⟨rfl, hb1⟩; have d4 := keep hb1 c4)
    go_loopw [7, 21] (fun s5 i wr => ∃ (k : Nat), k ≤ r.coef.length - d ∧ i = .int .i64 k ∧ s5 = .int .i64 (chosenF (r.coef.take d) s + negK (r.coef.drop d) k) ∧ Below w.heap.size w wr) (fun _ i _ => r.coef.length - d - (intOf i).toNat)
    case atStart => exact ⟨0, by omega, rfl, by simp [negK], below2 hb0 hb1⟩
    case round =>
      obtain ⟨k, hk, rfl, rfl, hbr⟩ := hrel
      by_cases hlt : k < r.coef.length - d
      · obtain ⟨b, o, rfl, hck⟩ := hc (d + k) (by omega)
        have hbd := negK_bound (r.coef.drop d) HD.out k (by rw [HL.out]; omega)
        have hbk := all_at (d := 0) hb (k := d + k) (by omega)
        simp only [bndB, decide_eq_true_eq] at hbk
        have hfin : negK (r.coef.drop d) (k + 1) = negK (r.coef.drop d) k + (if r.coef.getD (d + k) 0 < 0 then r.coef.getD (d + k) 0 else 0) := by simp only [negK, getD_drop]
        generalize r.coef.getD (d + k) 0 = x at hck hbk hfin
        generalize negK (r.coef.drop d) k = t at hbd hfin ⊢
        generalize chosenF (r.coef.take d) s = t0 at hcb ⊢
        rw [← Nat.add_assoc] at hck
        have ck := keep hbr hck
        have htl2 : (r.coef.take d).length ≤ 13 := htl
        have HF2 := hide hfin
        clear hc hb hfin
        by_cases hx : x < 0
        · go_wp2
          go_roundw
          case rel => exact ⟨k + 1, by omega, by go_num, i64_eq (by rw [HF2.out, if_pos hx]; omega), hbr⟩
          case measure => simp [intOf]; omega
        · go_wp2
          go_roundw
          case rel => exact ⟨k + 1, by omega, by go_num, i64_eq (by rw [HF2.out, if_neg (by omega)]; omega), hbr⟩
          case measure => simp [intOf]; omega
      · obtain rfl : k = r.coef.length - d := by omega
        go_wp2
        go_ret
        exact ⟨ret_int (HF.out).symm, hbr⟩
  · obtain rfl : d = c := by omega
    go_enter Try.func78, Try.ntmps78
    go_wp2_with (go_at_call 50; refine (chosen_any (r.coef.take d) s _ _ hv0 htl HB.out).mono ?_; rintro e w1 ⟨rfl, hb1⟩; have d4 := keep hb1 c4)
    have hn : r.coef.length - d = 0 := by omega
    go_loopw [7, 21] (fun s7 i wr => s7 = .int .i64 (chosenF (r.coef.take d) s) ∧ i = .int .i64 0 ∧ Below w.heap.size w wr) (fun _ _ _ => 0)
    case atStart => exact ⟨rfl, rfl, below2 hb0 hb1⟩
    case round =>
      obtain ⟨rfl, rfl, hbr⟩ := hrel
      go_wp2
      go_ret
      exact ⟨ret_int (by rw [HF.out, hn]; simp [negK]), hbr⟩
set_option maxHeartbeats 1000000 in
theorem goal_any (p : ProgD) (rv gv : Value) (g : Int) (w : World) (hg : IntsAt w gv p.gain) (hgl : p.gain.length ≤ 13) (hgc : coefsB p.gain = true) (hg1 : -100000000000 ≤ g) (hg2 : g ≤ 100000000000) :
    Calls Try.prog 51 #[progV p rv gv, .int .i64 g] w (RetM (fun c v => ∃ cv, v = rowV (goalF p.gain g) cv ∧ IntsIn c cv (goalF p.gain g).coef) w) := by
  obtain ⟨a, c, rfl, hlc, hcm, hc⟩ := id hg
  have HG : Hid (p.gain.map (fun x => -x) = negs p.gain p.gain.length) := hide (by simp [negs])
  have HB := hide hgc
  clear hgc
  go_enter Try.func51, Try.ntmps51
  go_wp2_with fail
  generalize hW : World.alloc (World.alloc (World.alloc w _) _) _ = w3
  have hsz : w3.heap.size = w.heap.size + 1 + 1 + 1 := by rw [← hW]; simp
  have hb3 : Below w.heap.size w w3 := by rw [← hW]; exact (((Below.refl _ _).alloc (Nat.le_refl _) _).alloc (by simp) _).alloc (by simp; omega) _
  have hR : Blk w3 (w.heap.size + 1) [.int .i64 0, .int .i64 0, .int .i64 0, .int .i64 0, .slice none 0 0, .int .i64 0] 67 := by
    rw [← hW]
    have := (Blk.new (World.alloc w (.cells #[.int .i64 p.vars, rv, .slice a p.gain.length c] 27)) [.int .i64 0, .int .i64 0, .int .i64 0, .int .i64 0, .slice none 0 0, .int .i64 0] 67).old (.cells [.int .i64 0, .int .i64 0, .int .i64 0, .int .i64 0, .slice none 0 0, .int .i64 (-(g + 1))].toArray 67)
    simpa using this
  have hX : Blk w3 (w.heap.size + 1 + 1) [.int .i64 0, .int .i64 0, .int .i64 0, .int .i64 0, .slice none 0 0, .int .i64 (-(g + 1))] 67 := by
    rw [← hW]
    have := Blk.new (World.alloc (World.alloc w (.cells #[.int .i64 p.vars, rv, .slice a p.gain.length c] 27)) (.cells #[.int .i64 0, .int .i64 0, .int .i64 0, .int .i64 0, .slice none 0 0, .int .i64 0] 67)) [.int .i64 0, .int .i64 0, .int .i64 0, .int .i64 0, .slice none 0 0, .int .i64 (-(g + 1))] 67
    simpa using this
  have hz1 : w.heap.size + 1 + 1 < w3.heap.size := by omega
  have HS := hide hsz
  clear hW hsz
  go_loopw [15] (fun i wr => ∃ (k : Nat) (v : Value), k ≤ p.gain.length ∧ i = .int .i64 k ∧ OwnI wr w3.heap.size v (negs p.gain k) ∧ Blk wr (w.heap.size + 1 + 1) [.int .i64 0, .int .i64 0, .int .i64 0, .int .i64 0, v, .int .i64 (-(g + 1))] 67 ∧
      Blk wr (w.heap.size + 1) [.int .i64 0, .int .i64 0, .int .i64 0, .int .i64 0, .slice none 0 0, .int .i64 0] 67 ∧ Below w.heap.size w wr ∧ w3.heap.size ≤ wr.heap.size) (fun i _ => p.gain.length - (intOf i).toNat)
  case atStart => exact ⟨0, _, by omega, rfl, OwnI.nil _ _, hX, hR, hb3, Nat.le_refl _⟩
  case round =>
    obtain ⟨k, v, hk, rfl, hown, hX, hR, hbr, hz3⟩ := hrel
    by_cases hlt : k < p.gain.length
    · obtain ⟨b, o, rfl, hck⟩ := hc k hlt
      have hbk := all_at (d := 0) HB.out hlt
      simp only [bndB, decide_eq_true_eq] at hbk
      have HN := hide (negs_succ (l := p.gain) hlt)
      have hnl : (negs p.gain k).length = k := negs_len (by omega)
      have HL := hide hnl
      have hnl2 : (negs p.gain k).length < 1000000 := by omega
      generalize p.gain.getD k 0 = x at hck hbk HN
      have ck := keep hbr hck
      have x4 := hX.cell 4 rfl
      have f4 := hX.frozen 4
      clear hc hnl
      go_wp2_with (at_builtin; refine app_int rfl _ _ rfl w3.heap.size _ _ rfl hown (-x) rfl hnl2 hz3 ?_; intro v' w4 hown4 hb4 hz4; obtain ⟨g4, c4, rfl⟩ := hown4.succ; have hX4 := hX.below hb4 hz1; have hR4 := hR.below hb4 (by omega); have y4 := hX4.cell 4 rfl; have g4 := hX4.frozen 4)
      go_roundw
      case rel => exact ⟨k + 1, _, by omega, by go_num, by rw [HN.out]; exact hown4.set hz1 _ _, hX4.set 4 _, hR4.other (by omega) _ _, (hbr.trans (hb4.mono (by omega))).setCell (by simp; omega) _, by simp [World.setCell]; omega⟩
      case measure => simp [intOf]; omega
    · obtain rfl : k = p.gain.length := by omega
      obtain ⟨av, cv, rfl⟩ := hown.form
      have x0 := hX.cell 0 rfl
      have x1 := hX.cell 1 rfl
      have x2 := hX.cell 2 rfl
      have x3 := hX.cell 3 rfl
      have x4 := hX.cell 4 rfl
      have x5 := hX.cell 5 rfl
      have y0 := hR.cell 0 rfl
      have y1 := hR.cell 1 rfl
      have y2 := hR.cell 2 rfl
      have y3 := hR.cell 3 rfl
      have y4 := hR.cell 4 rfl
      have y5 := hR.cell 5 rfl
      have g0 := hR.frozen 0
      have g1 := hR.frozen 1
      have g2 := hR.frozen 2
      have g3 := hR.frozen 3
      have g4 := hR.frozen 4
      have g5 := hR.frozen 5
      go_wp2
      obtain ⟨hF1, hF2, hF3⟩ := set6 hR (.int .i64 0) (.int .i64 0) (.int .i64 0) (.int .i64 0) (.slice av (negs p.gain p.gain.length).length cv) (.int .i64 (-(g + 1)))
      generalize hwf : World.setCell _ ⟨w.heap.size + 1, 5, none⟩ _ = wf at hF1 hF2 hF3 ⊢
      have r0 := hF1.cell 0 rfl
      have r1 := hF1.cell 1 rfl
      have r2 := hF1.cell 2 rfl
      have r3 := hF1.cell 3 rfl
      have r4 := hF1.cell 4 rfl
      have r5 := hF1.cell 5 rfl
      refine bodyPost_ret (v := rowV (goalF p.gain g) (.slice av (negs p.gain p.gain.length).length cv)) (by simp [results, Try.results51, go_sem, goalF, r0, r1, r2, r3, r4, r5]) rfl ?_
      refine ⟨_, rfl, ⟨_, rfl, ?_⟩, hF2 _ _ hbr (by omega)⟩
      show IntsIn _ _ (p.gain.map fun x => -x)
      rw [HG.out]
      exact (hF3 _ _ _ hown (by omega)).intsF hb3.size
end Go.Proofs.Ytppfdjjhloaopaa
