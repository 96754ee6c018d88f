/- slices.IndexFunc and ContainsFunc at ints for a function value that remembers (an invariant for each place of the list); statute.ascends. Conditions: how the list lies in memory; the bound is small. -/
import Derived.Test.YtdjldidfnddpmaaGreatDoorStP
import Derived.Shelf.Abstract
namespace Go.Proofs.YtdjldidfnddpmaaGreatDoor
open Go.RowKit
set_option maxHeartbeats 1000000
theorem idx_intsK (J : Nat → World → Prop) (I : World → Prop) (hJ : ∀ k W, J k W → I W) (g : Nat) (lb : Array Value) (eg : ∀ args w, (callFunc g args).run Tryz.prog w = .ok (.enter g args) w) (q : Nat → Bool) (l : List Int) (v : Value) (w : World) (hv : ∀ W, I W → IntsIn W.cell? v l) (hI0 : J 0 w)
    (H : ∀ k, k < l.length → ∀ W, J k W → Calls Tryz.prog g (#[.int .i64 (l.getD k 0)] ++ lb) W (fun e w' => e = .returned (.bool (q k)) ∧ I w' ∧ (q k = false → J (k + 1) w'))) :
    Calls Tryz.prog 34 #[v, .func (.func g) #[] lb] w (RetI I (.int .i64 (idxF q (List.range l.length)))) := by
  obtain ⟨a, c, rfl, hlc, hcm, -⟩ := id (hv w (hJ _ _ hI0))
  have hlI : (l.length : Int) ≤ 9223372036854775807 := by omega
  have hI := hide hI0
  have HV := hide hv
  have HJ := hide hJ
  have H' := hide H
  clear H hJ
  have H := H'
  clear hv hlc hcm hI0
  go_enter Tryz.func34, Tryz.ntmps34
  go_wp2
  go_loopw [8] (fun i wr => ∃ (k : Nat), k ≤ l.length ∧ i = .int .i64 k ∧ Hid (((List.range l.length).take k).any q = false) ∧ Hid (J k wr)) (fun i _ => l.length - (intOf i).toNat)
  case atStart => exact ⟨0, by omega, rfl, rfl, hI⟩
  case round =>
    obtain ⟨k, hk, rfl, HA, hIr⟩ := hrel
    by_cases hlt : k < l.length
    · have HK1 := hide hlt
      obtain ⟨a', n', e', -, -, hc⟩ := HV.out wr (HJ.out _ _ hIr.out)
      cases e'
      obtain ⟨b, o, rfl, hck⟩ := hc k hlt
      have hl' : k < (List.range l.length).length := by rw [List.length_range]; exact hlt
      have hg' : (List.range l.length).getD k 0 = k := by rw [List.getD_eq_getElem?_getD, List.getElem?_range hlt]; rfl
      have HT := hide (any_take_succ (d := 0) (p := q) hl' HA.out)
      have HN := hide (idxF_found (d := 0) q (List.range l.length) k hl' HA.out)
      rw [hg'] at HT HN
      have HC := hide (H.out k hlt wr hIr.out)
      clear hl' hg'
      generalize l.getD k 0 = x at hck HC
      have c0 := hck
      clear hc hck
      cases hx : q k
      · rw [hx] at HC
        have HT' := hide (HT.out hx)
        clear hx
        go_wp2_with fail
        refine HC.out.mono ?_
        rintro e w' ⟨rfl, -, hI''⟩
        have hI' := hide (hI'' trivial)
        clear hI''
        go_wp2_with fail
        go_roundw
        case rel => exact ⟨k + 1, by have := HK1.out; omega, by go_num, HT', hI'⟩
        case measure => have := HK1.out; simp [intOf]; omega
      · rw [hx] at HC
        have HN' := hide (HN.out hx)
        clear hx
        go_wp2_with fail
        refine HC.out.mono ?_
        rintro e w' ⟨rfl, hI'', -⟩
        have hI' := hide hI''
        clear hI''
        go_wp2_with fail
        go_ret
        exact ⟨ret_int HN'.out.symm, hI'.out⟩
    · go_wp2
      go_ret
      exact ⟨ret_int (idxF_none _ _ (any_take_end (by rw [List.length_range]; omega) HA.out)).symm, HJ.out _ _ hIr.out⟩
theorem has_intsK (J : Nat → World → Prop) (I : World → Prop) (hJ : ∀ k W, J k W → I W) (g : Nat) (lb : Array Value) (eg : ∀ args w, (callFunc g args).run Tryz.prog w = .ok (.enter g args) w) (q : Nat → Bool) (l : List Int) (v : Value) (w : World) (hv : ∀ W, I W → IntsIn W.cell? v l) (hI0 : J 0 w)
    (H : ∀ k, k < l.length → ∀ W, J k W → Calls Tryz.prog g (#[.int .i64 (l.getD k 0)] ++ lb) W (fun e w' => e = .returned (.bool (q k)) ∧ I w' ∧ (q k = false → J (k + 1) w'))) :
    Calls Tryz.prog 61 #[v, .func (.func g) #[] lb] w (RetI I (.bool ((List.range l.length).any q))) := by
  have HF := hide (idxF_any q (List.range l.length))
  have HH := hide (idx_intsK J I hJ g lb eg q l v w hv hI0 H)
  clear H hI0 hJ
  go_enter Tryz.func61, Tryz.ntmps61
  go_wp2_with fail
  refine HH.out.mono ?_
  rintro e w' ⟨rfl, hI''⟩
  have hI' := hide hI''
  clear hI''
  go_wp2_with fail
  go_ret
  exact ⟨ret_bool HF.out, hI'.out⟩
/-- the number ahead of a place -/
def prevF (last : Int) (l : List Int) (k : Nat) : Int := if k = 0 then last else l.getD (k - 1) 0
theorem ascF_range : ∀ (l : List Int) (last below : Int), ascF last l below = !(List.range l.length).any fun k => !inB (l.getD k 0) (prevF last l k + 1) (below - 1)
  | [], _, _ => rfl
  | n :: l, last, below => by
    have ih := ascF_range l n below
    rw [ascF, ih, Bool.eq_iff_iff]
    simp only [Bool.and_eq_true, Bool.not_eq_true', List.any_eq_false, List.mem_range, Bool.not_eq_false, List.length_cons]
    constructor
    · rintro ⟨h1, h2⟩ k hk
      cases k with
      | zero => simpa [prevF] using h1
      | succ k =>
        have := h2 k (by omega)
        cases k with
        | zero => simpa [prevF] using this
        | succ k => simpa [prevF] using this
    · intro h
      refine ⟨by simpa [prevF] using h 0 (by omega), fun k hk => ?_⟩
      have := h (k + 1) (by omega)
      cases k with
      | zero => simpa [prevF] using this
      | succ k => simpa [prevF] using this
/-- what the function value of ascends remembers -/
structure AscJ (w0 : World) (l : List Int) (below : Int) (k : Nat) (W : World) : Prop where
  lo : -1 ≤ prevF (-1) l k
  hi : prevF (-1) l k ≤ 1000
  pt : Below w0.heap.size w0 W
  bl : Blk W w0.heap.size [.int .i64 below] 3
  la : Blk W (w0.heap.size + 1) [.int .i64 (prevF (-1) l k)] 3
theorem ascc_any (w0 : World) (l : List Int) (below : Int) (h0 : 0 ≤ below) (h1 : below ≤ 1000) (k : Nat) (W : World) (hJ : AscJ w0 l below k W) :
    Calls Tryz.prog 60 #[.int .i64 (l.getD k 0), .pointer (some ⟨w0.heap.size + 1, 0, none⟩), .pointer (some ⟨w0.heap.size, 0, none⟩)] W (fun e w' => e = .returned (.bool (!inB (l.getD k 0) (prevF (-1) l k + 1) (below - 1))) ∧ Below w0.heap.size w0 w' ∧ ((!inB (l.getD k 0) (prevF (-1) l k + 1) (below - 1)) = false → AscJ w0 l below (k + 1) w')) := by
  obtain ⟨lo, hi, pt, bl, la⟩ := hJ
  have HS := hide (fun W' => isInS_eq (l.getD k 0) (prevF (-1) l k + 1) (below - 1) W')
  have hpn : prevF (-1) l (k + 1) = l.getD k 0 := rfl
  have HJ : Hid (∀ W', Below w0.heap.size w0 W' → Blk W' (w0.heap.size) [.int .i64 below] 3 → Blk W' (w0.heap.size + 1) [.int .i64 (l.getD k 0)] 3 → inB (l.getD k 0) (prevF (-1) l k + 1) (below - 1) = true → AscJ w0 l below (k + 1) W') := hide fun W' a b c d => by
    simp only [inB, decide_eq_true_eq] at d
    exact ⟨by rw [hpn]; omega, by rw [hpn]; omega, a, b, by rw [hpn]; exact c⟩
  clear hpn
  have e1 : IntKind.i64.wrap (prevF (-1) l k + 1) = prevF (-1) l k + 1 := IntWalk.i64_in _ ⟨by omega, by omega⟩
  have e2 : IntKind.i64.wrap (below - 1) = below - 1 := IntWalk.i64_in _ ⟨by omega, by omega⟩
  generalize inB (l.getD k 0) (prevF (-1) l k + 1) (below - 1) = b at HS HJ
  generalize prevF (-1) l k = p at lo hi la HS e1
  generalize l.getD k 0 = x at HS HJ
  clear lo hi h0 h1
  have cl := la.cell 0 rfl
  have fl := la.frozen 0
  have la' := la.set 0 (.int .i64 x)
  have bl' := bl.other (show w0.heap.size ≠ w0.heap.size + 1 by omega) 0 (.int .i64 x)
  have pt' := Below.setCell pt (p := ⟨w0.heap.size + 1, 0, none⟩) (Nat.le_succ _) (.int .i64 x)
  have cb := bl'.cell 0 rfl
  go_enter Tryz.func60, Tryz.ntmps60
  go_wp2_with fail
  generalize W.setCell ⟨w0.heap.size + 1, 0, none⟩ (.int .i64 x) = X at la' bl' pt' cb
  refine (HS.out _).mono ?_
  rintro e w' ⟨rfl, hw⟩; obtain rfl := hw.symm
  go_wp2_with fail
  go_ret
  exact ⟨rfl, pt', fun h => HJ.out _ pt' bl' la' (by cases b <;> simp_all)⟩
theorem ascendsS_any (l : List Int) (below : Int) (v : Value) (w : World) (h0 : 0 ≤ below) (h1 : below ≤ 1000) (hv : IntsIn w.cell? v l) : Calls Tryz.prog 44 #[v, .int .i64 below] w (Ret (.bool (termsB l below)) w) := by
  have HC := hide (fun W (hW : AscJ w l below 0 W) => has_intsK (AscJ w l below) (fun W => Below w.heap.size w W) (fun _ _ h => h.pt) 60 #[.pointer (some ⟨w.heap.size + 1, 0, none⟩), .pointer (some ⟨w.heap.size, 0, none⟩)] (Go.Proofs.enters_of Tryz.func60 (by kernel_rfl) rfl) (fun k => !inB (l.getD k 0) (prevF (-1) l k + 1) (below - 1)) l v W (fun W' h => IntsAt.below h hv) hW (fun k _ W' hJ => ascc_any w l below h0 h1 k W' hJ))
  have HF : Hid (termsB l below = (decide (l.length ≤ 4) && !(List.range l.length).any fun k => !inB (l.getD k 0) (prevF (-1) l k + 1) (below - 1))) := hide (by rw [termsB, ascF_range])
  have HI : Hid (∀ W, Below w.heap.size w W → Blk W w.heap.size [.int .i64 below] 3 → Blk W (w.heap.size + 1) [.int .i64 (-1)] 3 → AscJ w l below 0 W) := hide fun W a b c => ⟨by simp [prevF], by simp [prevF], a, b, c⟩
  generalize ((List.range l.length).any fun k => !inB (l.getD k 0) (prevF (-1) l k + 1) (below - 1)) = b at HC HF
  obtain ⟨a, n, rfl, hlc, hcm, -⟩ := id hv
  clear hv
  by_cases h4 : l.length ≤ 4
  · have HE : Hid (decide (l.length ≤ 4) = true) := hide (decide_eq_true h4)
    go_enter Tryz.func44, Tryz.ntmps44
    go_wp2_with fail
    generalize hX1 : World.alloc w _ = X1
    have zX1 : X1.heap.size = w.heap.size + 1 := by rw [← hX1]; simp
    have bX1 : Below w.heap.size w X1 := by rw [← hX1]; exact bal w _
    have bB_1 : Blk X1 (w.heap.size) [.int .i64 below] 3 := by rw [← hX1]; exact Blk.newA w _ (by first | rfl | simp)
    generalize hX2 : World.alloc X1 _ = X2
    have zX2 : X2.heap.size = w.heap.size + 1 + 1 := by rw [← hX2]; simp [zX1]
    have bX2 : Below X1.heap.size X1 X2 := by rw [← hX2]; exact bal X1 _
    have bL : Blk X2 (w.heap.size + 1) [.int .i64 (-1)] 3 := by rw [← hX2, ← zX1]; exact Blk.newA X1 _ (by first | rfl | simp)
    have bB := bB_1.later bX2
    have Xb := below2 (bX1) bX2
    have Xz := zX2
    clear hX1 zX1 bX1 hX2 zX2 bX2 bB_1
    refine (HC.out _ (HI.out _ Xb bB bL)).mono ?_
    rintro e w' ⟨rfl, hw⟩
    go_wp2_with fail
    go_ret
    exact ⟨ret_bool (by rw [HF.out, HE.out]; rfl), hw⟩
  · have HE : Hid (decide (l.length ≤ 4) = false) := hide (decide_eq_false h4)
    go_enter Tryz.func44, Tryz.ntmps44
    go_wp2_with fail
    generalize hX1 : World.alloc w _ = X1
    have zX1 : X1.heap.size = w.heap.size + 1 := by rw [← hX1]; simp
    have bX1 : Below w.heap.size w X1 := by rw [← hX1]; exact bal w _
    have bB_1 : Blk X1 (w.heap.size) [.int .i64 below] 3 := by rw [← hX1]; exact Blk.newA w _ (by first | rfl | simp)
    generalize hX2 : World.alloc X1 _ = X2
    have zX2 : X2.heap.size = w.heap.size + 1 + 1 := by rw [← hX2]; simp [zX1]
    have bX2 : Below X1.heap.size X1 X2 := by rw [← hX2]; exact bal X1 _
    have bL : Blk X2 (w.heap.size + 1) [.int .i64 (-1)] 3 := by rw [← hX2, ← zX1]; exact Blk.newA X1 _ (by first | rfl | simp)
    have bB := bB_1.later bX2
    have Xb := below2 (bX1) bX2
    have Xz := zX2
    clear hX1 zX1 bX1 hX2 zX2 bX2 bB_1
    go_ret
    exact ⟨ret_bool (by rw [HF.out, HE.out]; rfl), Xb⟩
end Go.Proofs.YtdjldidfnddpmaaGreatDoor
