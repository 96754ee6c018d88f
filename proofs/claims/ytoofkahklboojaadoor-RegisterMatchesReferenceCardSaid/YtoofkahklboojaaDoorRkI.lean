/- Register: walks of what asks whether one of many boxes has a place, and of search. Conditions: how the arguments and the global tables lie in memory; that points are valid. -/
import Derived.Test.YtoofkahklboojaaDoorRkH
namespace Go.Proofs.YtoofkahklboojaaDoor
open Go.RowKit

set_option maxRecDepth 20000 in
set_option maxHeartbeats 1000000 in
theorem srch3_any (b : BoxD) (x y : Int) (X Y : Nat) (w : World) (hX : w.cell? ⟨X, 0, none⟩ = some (iV x)) (hY : w.cell? ⟨Y, 0, none⟩ = some (iV y)) :
    Calls Tryd.prog 72 #[boxV b, .pointer (some ⟨X, 0, none⟩), .pointer (some ⟨Y, 0, none⟩)] w (Ret (.bool (hasB b x y)) w) := by
  have HH := hide (fun W => has_any b x y W)
  have lX := lt_of_cell hX
  have lY := lt_of_cell hY
  generalize hasB b x y = R at *
  obtain ⟨xl, xh, yl, yh⟩ := b
  go_enter Tryd.func72, Tryd.ntmps72
  go_wp2_with fail
  have hb := bal w (.cells #[iV xl, iV xh, iV yl, iV yh] 80)
  refine (HH.out _).mono ?_
  rintro e w1 ⟨rfl, hb1⟩
  go_wp2_with fail
  go_ret
  exact ⟨rfl, below2 hb hb1⟩
/-- what is asked of a function value that is handed boxes -/
def OnBoxes (g : Nat) (lb : Array Value) (q : BoxD → Bool) (w : World) : Prop :=
  ∀ W, Below w.heap.size w W → ∀ b, Calls Tryd.prog g (#[boxV b] ++ lb) W (Ret (.bool (q b)) W)
theorem OnBoxes.later {g : Nat} {lb : Array Value} {q : BoxD → Bool} {w W : World} (h : OnBoxes g lb q w) (hb : Below w.heap.size w W) : OnBoxes g lb q W :=
  fun W' hb' => h W' (below2 hb hb')
set_option maxRecDepth 20000 in
set_option maxHeartbeats 1000000 in
theorem idxbox_any (g : Nat) (lb : Array Value) (eg : ∀ args w, (callFunc g args).run Tryd.prog w = .ok (.enter g args) w) (q : BoxD → Bool) (l : List BoxD) (v : Value) (w : World) (hv : BoxesAt w v l) (H : OnBoxes g lb q w) :
    Calls Tryd.prog 75 #[v, .func (.func g) #[] lb] w (Ret (.int .i64 (idxF q l)) w) := by
  obtain ⟨a, c, rfl, hlc, hcm, hc⟩ := hv
  have HC := hide hc
  have HH := hide H
  clear hc H
  go_enter Tryd.func75, Tryd.ntmps75
  go_wp2
  go_loopw [8] (fun i wr => ∃ (k : Nat), k ≤ l.length ∧ i = .int .i64 k ∧ Hid ((l.take k).any q = false) ∧ Below w.heap.size w wr) (fun i _ => l.length - (intOf i).toNat)
  case atStart => exact ⟨0, by omega, rfl, rfl, Below.refl _ _⟩
  case round =>
    obtain ⟨k, hk, rfl, HA, hbr⟩ := hrel
    by_cases hlt : k < l.length
    · obtain ⟨bl, o, rfl, hck⟩ := HC.out k hlt
      have HT := hide (any_take_succ (d := ⟨0, 0, 0, 0⟩) (p := q) hlt HA.out)
      have HN := hide (idxF_found (d := ⟨0, 0, 0, 0⟩) q l k hlt HA.out)
      have HQ := hide (HH.out wr hbr (l.getD k ⟨0, 0, 0, 0⟩))
      generalize l.getD k ⟨0, 0, 0, 0⟩ = x at hck HT HN HQ
      obtain ⟨xl, xh, yl, yh⟩ := x
      have e0 : wr.cell? ⟨bl, o + k * 4, none⟩ = some (iV xl) := keep hbr (hck 0 _ rfl)
      have e1 : wr.cell? ⟨bl, o + k * 4 + 1, none⟩ = some (iV xh) := keep hbr (hck 1 _ rfl)
      have e2 : wr.cell? ⟨bl, o + k * 4 + 2, none⟩ = some (iV yl) := keep hbr (hck 2 _ rfl)
      have e3 : wr.cell? ⟨bl, o + k * 4 + 3, none⟩ = some (iV yh) := keep hbr (hck 3 _ rfl)
      clear hck
      cases hx : q ⟨xl, xh, yl, yh⟩
      · rw [hx] at HQ
        go_wp2_with (go_at_fn g; refine HQ.out.mono ?_; rintro e w' ⟨rfl, hb⟩)
        go_roundw
        case rel => exact ⟨k + 1, by omega, by go_num, HT.out hx, below2 hbr hb⟩
        case measure => simp [intOf]; omega
      · rw [hx] at HQ
        go_wp2_with (go_at_fn g; refine HQ.out.mono ?_; rintro e w' ⟨rfl, hb⟩)
        go_ret
        exact ⟨ret_int (HN.out hx).symm, below2 hbr hb⟩
    · go_wp2
      go_ret
      exact ⟨ret_int (idxF_none _ l (any_take_end (by omega) HA.out)).symm, hbr⟩
set_option maxRecDepth 20000 in
set_option maxHeartbeats 1000000 in
theorem hasbox_any (g : Nat) (lb : Array Value) (eg : ∀ args w, (callFunc g args).run Tryd.prog w = .ok (.enter g args) w) (q : BoxD → Bool) (l : List BoxD) (v : Value) (w : World) (hv : BoxesAt w v l) (H : OnBoxes g lb q w) :
    Calls Tryd.prog 71 #[v, .func (.func g) #[] lb] w (Ret (.bool (l.any q)) w) := by
  have HF := hide (idxF_any q l)
  have HH := hide H
  clear H
  go_enter Tryd.func71, Tryd.ntmps71
  go_wp2_with (go_at_call 75; refine (idxbox_any g lb eg q l _ _ hv HH.out).mono ?_; rintro e w' ⟨rfl, hb⟩)
  go_ret
  exact ⟨ret_bool HF.out, hb⟩
end Go.Proofs.YtoofkahklboojaaDoor
