/- Register: walks of the axes, of what asks whether a box has a place, and of candidates. Conditions: how the arguments lie in memory; sizes. -/
import Derived.Test.YtoofkahklboojaaDoorRkG
import Derived.Test.YtoofkahklboojaaDoorSortK
namespace Go.Proofs.YtoofkahklboojaaDoor
open Go.RowKit

abbrev BoxesIn (c : Rd) (v : Value) (l : List BoxD) : Prop := RecIn boxC ⟨0, 0, 0, 0⟩ 4 c v l
abbrev BoxesAt (w : World) (v : Value) (l : List BoxD) : Prop := RecIn boxC ⟨0, 0, 0, 0⟩ 4 w.cell? v l
def axX (b : BoxD) : Int × Int := (b.xl, b.xh)
def axY (b : BoxD) : Int × Int := (b.yl, b.yh)
set_option maxRecDepth 20000 in
set_option maxHeartbeats 1000000 in
theorem ax1_any (b : BoxD) (w : World) : Calls Tryd.prog 69 #[boxV b] w (Ret (.agg #[iV (axY b).1, iV (axY b).2]) w) := by
  obtain ⟨xl, xh, yl, yh⟩ := b
  go_enter Tryd.func69, Tryd.ntmps69
  go_wp2_with fail
  generalize hX1 : World.alloc w _ = X1
  have zX1 : X1.heap.size = w.heap.size + 1 := by rw [← hX1]; simp
  have bX1 : Below w.heap.size w X1 := by rw [← hX1]; exact bal w _
  have bA_1 : Blk X1 (w.heap.size) [iV xl, iV xh, iV yl, iV yh] 80 := by rw [← hX1]; exact Blk.newA w _ (by first | rfl | simp)
  generalize hX2 : World.alloc X1 _ = X2
  have zX2 : X2.heap.size = w.heap.size + 1 + 1 := by rw [← hX2]; simp [zX1]
  have bX2 : Below X1.heap.size X1 X2 := by rw [← hX2]; exact bal X1 _
  have bC : Blk X2 (w.heap.size + 1) [iV yl, iV yh] 78 := by rw [← hX2, ← zX1]; exact Blk.newA X1 _ (by first | rfl | simp)
  have bA := bA_1.later bX2
  have Xb := below2 (bX1) bX2
  have Xz := zX2
  clear hX1 zX1 bX1 hX2 zX2 bX2 bA_1
  refine bodyPost_ret (results_cell_row (p := 2) rfl _ _ (w.heap.size + 1) _ _ _ _ rfl bC Tryd.underlying78 rfl (by kernel_rfl)) rfl ?_
  exact ⟨rfl, Xb⟩
set_option maxRecDepth 20000 in
set_option maxHeartbeats 1000000 in
theorem ax2_any (b : BoxD) (w : World) : Calls Tryd.prog 70 #[boxV b] w (Ret (.agg #[iV (axX b).1, iV (axX b).2]) w) := by
  obtain ⟨xl, xh, yl, yh⟩ := b
  go_enter Tryd.func70, Tryd.ntmps70
  go_wp2_with fail
  generalize hX1 : World.alloc w _ = X1
  have zX1 : X1.heap.size = w.heap.size + 1 := by rw [← hX1]; simp
  have bX1 : Below w.heap.size w X1 := by rw [← hX1]; exact bal w _
  have bA_1 : Blk X1 (w.heap.size) [iV xl, iV xh, iV yl, iV yh] 80 := by rw [← hX1]; exact Blk.newA w _ (by first | rfl | simp)
  generalize hX2 : World.alloc X1 _ = X2
  have zX2 : X2.heap.size = w.heap.size + 1 + 1 := by rw [← hX2]; simp [zX1]
  have bX2 : Below X1.heap.size X1 X2 := by rw [← hX2]; exact bal X1 _
  have bC : Blk X2 (w.heap.size + 1) [iV xl, iV xh] 78 := by rw [← hX2, ← zX1]; exact Blk.newA X1 _ (by first | rfl | simp)
  have bA := bA_1.later bX2
  have Xb := below2 (bX1) bX2
  have Xz := zX2
  clear hX1 zX1 bX1 hX2 zX2 bX2 bA_1
  refine bodyPost_ret (results_cell_row (p := 2) rfl _ _ (w.heap.size + 1) _ _ _ _ rfl bC Tryd.underlying78 rfl (by kernel_rfl)) rfl ?_
  exact ⟨rfl, Xb⟩
theorem run_field0 (a b : Int) (w : World) : (Instr.field 78 (.agg #[iV a, iV b]) 0).run Tryd.prog w = .ok (iV a) w := by kernel_rfl
theorem run_field1 (a b : Int) (w : World) : (Instr.field 78 (.agg #[iV a, iV b]) 1).run Tryd.prog w = .ok (iV b) w := by kernel_rfl
theorem run_index0 (a b : Int) (w : World) : (Instr.index 58 (.agg #[iV a, iV b]) (.int .i64 0)).run Tryd.prog w = .ok (iV a) w := by kernel_rfl
theorem run_index1 (a b : Int) (w : World) : (Instr.index 58 (.agg #[iV a, iV b]) (.int .i64 1)).run Tryd.prog w = .ok (iV b) w := by kernel_rfl
def edgesK (lo hi : Int) (ax : BoxD → Int × Int) (l : List BoxD) : List Int := edgesD lo hi (l.map ax)
def inR (lo hi n : Int) : List Int := if isInN lo n hi then [n] else []
theorem edgesK_succ (lo hi : Int) (ax : BoxD → Int × Int) (l : List BoxD) (k : Nat) (h : k < l.length) : edgesK lo hi ax (l.take (k + 1)) = edgesK lo hi ax (l.take k) ++ inR lo hi (ax (l.getD k ⟨0, 0, 0, 0⟩)).1 ++ inR lo hi ((ax (l.getD k ⟨0, 0, 0, 0⟩)).2 + 1) := by
  rw [take_succ' l k ⟨0, 0, 0, 0⟩ h]
  unfold edgesK edgesD inR isInN
  simp only [List.map_append, List.flatMap_append, List.filter_append, List.map_cons, List.map_nil, List.flatMap_cons, List.flatMap_nil, List.append_nil, List.cons_append, List.append_assoc]
  congr 2
  generalize ax (l.getD k ⟨0, 0, 0, 0⟩) = s
  cases h1 : decide (lo ≤ s.1 ∧ s.1 ≤ hi) <;> cases h2 : decide (lo ≤ s.2 + 1 ∧ s.2 + 1 ≤ hi) <;> simp only [List.filter_cons, List.filter_nil, h1, h2] <;> rfl
theorem inR_len (lo hi n : Int) : (inR lo hi n).length ≤ 1 := by unfold inR; split <;> simp
theorem two_len (l : List (Int × Int)) : (l.flatMap fun s => [s.1, s.2 + 1]).length = 2 * l.length := by
  induction l with
  | nil => rfl
  | cons x t ih => rw [List.flatMap_cons, List.length_append, ih]; simp; omega
theorem edgesK_len (lo hi : Int) (ax : BoxD → Int × Int) (l : List BoxD) : (edgesK lo hi ax l).length ≤ 1 + 2 * l.length := by
  unfold edgesK edgesD
  rw [List.length_cons]
  have h1 := List.length_filter_le (fun n : Int => decide (lo ≤ n ∧ n ≤ hi)) ((l.map ax).flatMap fun s => [s.1, s.2 + 1])
  rw [two_len, List.length_map] at h1
  omega
def osF (l : List Int) : List Int := Lib.compact (sortF l)
theorem osF_mem (l : List Int) (x : Int) : x ∈ osF l ↔ x ∈ l := (compact_mem _ _).trans (sortF_mem _ _)
theorem osF_lt (l : List Int) : (osF l).Pairwise (· < ·) := compact_lt _ (sortF_le l)
theorem own_block {w : World} {B : Nat} {v : Value} {l : List Int} (h : OwnI w B v l) (h0 : 0 < l.length) : ∃ g c, v = .slice (some ⟨g, 0, none⟩) l.length c := by
  rcases h.2 with ⟨-, e⟩ | ⟨g', cap, cur, e1, -⟩
  · omega
  · exact ⟨g', cap, e1⟩
set_option maxRecDepth 100000 in
set_option maxHeartbeats 2000000 in
theorem cand_any (g : Nat) (eg : ∀ args w, (callFunc g args).run Tryd.prog w = .ok (.enter g args) w) (ax : BoxD → Int × Int) (hax : ∀ b W, Calls Tryd.prog g #[boxV b] W (Ret (.agg #[iV (ax b).1, iV (ax b).2]) W))
    (lo hi : Int) (l : List BoxD) (v : Value) (w : World) (hv : BoxesAt w v l) (hl : l.length < 1000) (hb : ∀ b ∈ l, i64N (ax b).1 ∧ i64N (ax b).2) :
    Calls Tryd.prog 68 #[.agg #[iV lo, iV hi], v, .func (.func g) #[] #[]] w (OwnTo w.heap.size (osF (edgesK lo hi ax l)) w) := by
  obtain ⟨a, c, rfl, hlc, hcm, hc⟩ := hv
  have HC := hide hc
  have HB := hide hb
  have HAX := hide hax
  have hel := edgesK_len lo hi ax l
  clear hc hb hax
  go_enter Tryd.func68, Tryd.ntmps68
  go_wp2_with fail
  generalize hX1 : World.alloc w _ = X1
  have zX1 : X1.heap.size = w.heap.size + 1 := by rw [← hX1]; simp
  have bX1 : Below w.heap.size w X1 := by rw [← hX1]; exact bal w _
  have bA_1 : Blk X1 (w.heap.size) [iV lo, iV hi] 78 := by rw [← hX1]; exact Blk.newA w _ (by first | rfl | simp)
  generalize hX2 : World.alloc X1 _ = X2
  have zX2 : X2.heap.size = w.heap.size + 1 + 1 := by rw [← hX2]; simp [zX1]
  have bX2 : Below X1.heap.size X1 X2 := by rw [← hX2]; exact bal X1 _
  have bL : Blk X2 (w.heap.size + 1) [iV lo] 3 := by rw [← hX2, ← zX1]; exact Blk.newA X1 _ (by first | rfl | simp)
  have bA := bA_1.later bX2
  have Xb := below2 (bX1) bX2
  have Xz := zX2
  clear hX1 zX1 bX1 hX2 zX2 bX2 bA_1
  have hO : OwnI X2 w.heap.size (.slice (some ⟨w.heap.size + 1, 0, none⟩) 1 1) [lo] :=
    ⟨rfl, .inr ⟨w.heap.size + 1, 1, _, rfl, by omega, bL, Nat.le_refl _, by decide, rfl, rfl⟩⟩
  go_loopw [7, 17] (fun v i wr => ∃ (k : Nat), k ≤ l.length ∧ i = .int .i64 k ∧ OwnI wr w.heap.size v (edgesK lo hi ax (l.take k)) ∧ Blk wr w.heap.size [iV lo, iV hi] 78 ∧ Below w.heap.size w wr) (fun _ i _ => l.length - (intOf i).toNat)
  case atStart => exact ⟨0, by omega, rfl, hO, bA, Xb⟩
  case round =>
    obtain ⟨k, hk, rfl, hown, bA, hbr⟩ := hrel
    by_cases hlt : k < l.length
    · obtain ⟨bl, o, rfl, hck⟩ := HC.out k hlt
      have HS := hide (edgesK_succ lo hi ax l k hlt)
      have hsz := HB.out _ (getD_mem l k (d := ⟨0, 0, 0, 0⟩) hlt)
      have hel2 := edgesK_len lo hi ax (l.take k)
      rw [List.length_take, Nat.min_eq_left hk] at hel2
      generalize edgesK lo hi ax (l.take k) = E at HS hown hel2
      have HA := hide (fun W => HAX.out (l.getD k ⟨0, 0, 0, 0⟩) W)
      generalize l.getD k ⟨0, 0, 0, 0⟩ = b at HS hsz hck HA
      generalize ax b = s at HS hsz HA
      obtain ⟨sl, sh⟩ := s
      obtain ⟨⟨s1, s2⟩, s3, s4⟩ := hsz
      dsimp only at HS s1 s2 s3 s4
      obtain ⟨xl, xh, yl, yh⟩ := b
      have e0 : wr.cell? ⟨bl, o + k * 4, none⟩ = some (iV xl) := keep hbr (hck 0 _ rfl)
      have e1 : wr.cell? ⟨bl, o + k * 4 + 1, none⟩ = some (iV xh) := keep hbr (hck 1 _ rfl)
      have e2 : wr.cell? ⟨bl, o + k * 4 + 2, none⟩ = some (iV yl) := keep hbr (hck 2 _ rfl)
      have e3 : wr.cell? ⟨bl, o + k * 4 + 3, none⟩ = some (iV yh) := keep hbr (hck 3 _ rfl)
      clear hck
      go_wp2_with fail
      generalize hXX : World.alloc wr _ = X
      have hbX : Below wr.heap.size wr X := by rw [← hXX]; exact bal wr _
      have bB : Blk X wr.heap.size [iV xl, iV xh, iV yl, iV yh] 80 := by rw [← hXX]; exact Blk.newA wr _ rfl
      have hownX := hown.later hbX
      have bAX := bA.later hbX
      have hbrX := below2 hbr hbX
      have Q0 := bwc (bB.cell 0 rfl)
      have Q1 := bwc (bB.cell 1 rfl)
      have Q2 := bwc (bB.cell 2 rfl)
      have Q3 := bwc (bB.cell 3 rfl)
      have F0 := fun W => run_field0 sl sh W
      have F1 := fun W => run_field1 sl sh W
      clear hXX e0 e1 e2 e3
      refine wp_region_bw (by kernel_rfl) (by kernel_rfl) ?_
      repeat (go_big_quiet_step ((go_at_fn g; exact quiet (HA.out _))))
      refine wpQuiet_nil ?_
      rintro _ ⟨ii, rfl⟩
      have hown1 := hownX.later ii.h
      have bA1 := bAX.later ii.h
      have hbr1 := below2 hbrX ii.h
      clear Q0 Q1 Q2 Q3 F0 F1
      go_wp2_with fail
      go_loopw [7, 31] (fun v i wr => ∃ (j : Nat), j ≤ 2 ∧ i = .int .i64 j ∧ OwnI wr w.heap.size v (E ++ (if 1 ≤ j then inR lo hi sl else []) ++ (if 2 ≤ j then inR lo hi (sh + 1) else [])) ∧ Blk wr w.heap.size [iV lo, iV hi] 78 ∧ Below w.heap.size w wr) (fun _ i _ => 2 - (intOf i).toNat)
      case atStart => exact ⟨0, by omega, rfl, by simpa using hown1, bA1, hbr1⟩
      case round =>
        obtain ⟨j, hj, rfl, hown, bA, hbr⟩ := hrel
        have c0 := bA.cell 0 rfl
        have c1 := bA.cell 1 rfl
        have I0 := fun W => run_index0 sl (sh + 1) W
        have I1 := fun W => run_index1 sl (sh + 1) W
        obtain rfl | rfl | rfl : j = 0 ∨ j = 1 ∨ j = 2 := by omega
        · rw [if_neg (by omega), if_neg (by omega), List.append_nil, List.append_nil] at hown
          cases ht : isInN lo (sl) hi
          · have hE : Hid (inR lo hi (sl) = []) := hide (by unfold inR; rw [ht]; rfl)
            go_wp2_with fail
            refine (risIn_any _ _ _ _).mono ?_
            rw [ht]
            rintro e w5 ⟨rfl, hb5⟩
            have bA5 := bA.later hb5
            have hown5 := hown.later hb5
            have hbr5 := below2 hbr hb5
            go_wp2_with fail
            go_roundw
            case rel => exact ⟨1, by omega, by rfl, by rw [if_pos (by omega), if_neg (by omega), List.append_nil]; rw [hE.out, List.append_nil]; exact hown5, bA5, hbr5⟩
            case measure => simp [intOf]
          · have hE : Hid (inR lo hi (sl) = [sl]) := hide (by unfold inR; rw [ht]; rfl)
            go_wp2_with fail
            refine (risIn_any _ _ _ _).mono ?_
            rw [ht]
            rintro e w5 ⟨rfl, hb5⟩
            have bA5 := bA.later hb5
            have hown5 := hown.later hb5
            have hbr5 := below2 hbr hb5
            have hlE : Hid ((E).length < 1000000) := hide (by have := inR_len lo hi sl; (try simp only [List.length_append]); omega)
            go_wp2_with (at_builtin; refine app_intE rfl _ _ rfl w.heap.size _ _ rfl hown5 (sl) rfl hlE.out hbr5.size ?_; intro v' w6 hown6 hE6 hob6; have bA6 := bA5.eff hE6 (fun e => hown5.neT bA5 (by decide) e.symm); have hbr6 := hbr5.trans (hE6.below hbr5.size (fun k hk => (hown5.heap hk.symm).1)))
            go_roundw
            case rel => exact ⟨1, by omega, by rfl, by rw [if_pos (by omega), if_neg (by omega), List.append_nil]; rw [hE.out]; exact hown6, bA6, hbr6⟩
            case measure => simp [intOf]
        · rw [if_pos (by omega), if_neg (by omega), List.append_nil] at hown
          cases ht : isInN lo (sh + 1) hi
          · have hE : Hid (inR lo hi (sh + 1) = []) := hide (by unfold inR; rw [ht]; rfl)
            go_wp2_with fail
            refine (risIn_any _ _ _ _).mono ?_
            rw [ht]
            rintro e w5 ⟨rfl, hb5⟩
            have bA5 := bA.later hb5
            have hown5 := hown.later hb5
            have hbr5 := below2 hbr hb5
            go_wp2_with fail
            go_roundw
            case rel => exact ⟨2, by omega, by rfl, by rw [if_pos (by omega), if_pos (by omega)]; rw [hE.out, List.append_nil]; exact hown5, bA5, hbr5⟩
            case measure => simp [intOf]
          · have hE : Hid (inR lo hi (sh + 1) = [sh + 1]) := hide (by unfold inR; rw [ht]; rfl)
            go_wp2_with fail
            refine (risIn_any _ _ _ _).mono ?_
            rw [ht]
            rintro e w5 ⟨rfl, hb5⟩
            have bA5 := bA.later hb5
            have hown5 := hown.later hb5
            have hbr5 := below2 hbr hb5
            have hlE : Hid ((E ++ inR lo hi sl).length < 1000000) := hide (by have := inR_len lo hi sl; (try simp only [List.length_append]); omega)
            go_wp2_with (at_builtin; refine app_intE rfl _ _ rfl w.heap.size _ _ rfl hown5 (sh + 1) rfl hlE.out hbr5.size ?_; intro v' w6 hown6 hE6 hob6; have bA6 := bA5.eff hE6 (fun e => hown5.neT bA5 (by decide) e.symm); have hbr6 := hbr5.trans (hE6.below hbr5.size (fun k hk => (hown5.heap hk.symm).1)))
            go_roundw
            case rel => exact ⟨2, by omega, by rfl, by rw [if_pos (by omega), if_pos (by omega)]; rw [hE.out]; exact hown6, bA6, hbr6⟩
            case measure => simp [intOf]
        · rw [if_pos (by omega), if_pos (by omega)] at hown
          go_wp2_with fail
          go_roundw
          case rel => exact ⟨k + 1, by omega, by go_num, by rw [HS.out]; exact hown, bA, hbr⟩
          case measure => simp [intOf]; omega
    · obtain rfl : k = l.length := by omega
      rw [List.take_length] at hown
      have hne : 0 < (edgesK lo hi ax l).length := by unfold edgesK edgesD; simp
      have hlen : (edgesK lo hi ax l).length < 1000000 := by omega
      generalize edgesK lo hi ax l = E at *
      obtain ⟨gg, cc, rfl⟩ := own_block hown hne
      have HSO := hide (sort_in hown rfl hlen hbr.size)
      have HSL := hide (sortF_len E)
      have HOS : Hid (osF E = Lib.compact (sortF E)) := hide rfl
      generalize osF E = O at *
      clear hown hel
      go_wp2_with fail
      refine HSO.out.mono ?_
      rintro e w2 ⟨rfl, hown2, hb2⟩
      go_wp2_with fail
      refine (compact_any (sortF E) _ w.heap.size w2 hown2 (Nat.le_trans hbr.size hb2.size) (by rw [HSL.out]; exact hlen)).mono ?_
      rintro e w3 ⟨v3, rfl, hown3, hb3⟩
      go_wp2_with fail
      go_ret
      exact ⟨_, rfl, by rw [HOS.out]; exact hown3, (hbr.trans hb2).trans hb3⟩
end Go.Proofs.YtoofkahklboojaaDoor
