/- Register: the walk of search. Conditions: how the arguments and the global tables lie in memory; that points are valid. -/
import Derived.Test.YtoofkahklboojaaDoorRkI
namespace Go.Proofs.YtoofkahklboojaaDoor
open Go.RowKit

theorem results_cell_tmp_row {P : Program} {fn : Func} {p u : Tmp} {ty : TypeId} (h : fn.results = #[.cell p ty, .tmp u]) (tmps : Array Value) (w : World) (g : Nat) (t : TypeId) (cs : Array Value) (fr : Nat × Nat) (d : TypeDesc) (v : Value)
    (hp : tmps.getD p undef = .pointer (some ⟨g, 0, none⟩)) (hg : w.heap[g]? = some (.cells cs t fr))
    (hu : P.underlying ty = some d) (hd : (match d with | .struct _ | .array _ _ => true | _ => false) = true) (hi : (P.info? ty).map (·.size) = some cs.size) (hv : tmps.getD u undef = v) :
    (results fn tmps).run P w = .ok (.tuple #[.agg cs, v]) w := by
  have hp' : tmps[p]?.getD undef = .pointer (some ⟨g, 0, none⟩) := by simpa using hp
  have hv' : tmps[u]?.getD undef = v := by simpa using hv
  simp [results, h, hp', hv', asAddr, run_loadVar_row w g t ty cs fr d hg hu hd hi]
def resM (s : Option MotD) : MotD := s.getD ⟨0, 0, 0⟩
theorem four_hit {α : Type} {f : Nat → Option α} {k : Nat} {m : α} (hk : k < 4) (h : ∀ j, j < k → f j = none) (hm : f k = some m) : [0, 1, 2, 3].findSome? f = some m := by
  have h0 := h 0
  have h1 := h 1
  have h2 := h 2
  obtain rfl | rfl | rfl | rfl : k = 0 ∨ k = 1 ∨ k = 2 ∨ k = 3 := by omega
  · simp [hm]
  · simp [hm, h0]
  · simp [hm, h0, h1]
  · simp [hm, h0, h1, h2]
theorem four_none {α : Type} {f : Nat → Option α} (h : ∀ j, j < 4 → f j = none) : [0, 1, 2, 3].findSome? f = none := by
  rw [List.findSome?_eq_none_iff]
  intro x hx
  exact h x (by simp at hx; omega)
theorem fs_hit {α β : Type} {f : α → Option β} {A B : List α} {a : α} {m : β} (h : ∀ p ∈ A, f p = none) (ha : f a = some m) : (A ++ a :: B).findSome? f = some m := by
  rw [List.findSome?_append, List.findSome?_eq_none_iff.2 h, List.findSome?_cons, ha]; rfl
theorem mem_getD {l : List Int} {x : Int} (h : x ∈ l) : ∃ i, i < l.length ∧ l.getD i 0 = x := by
  obtain ⟨i, hi, e⟩ := List.getElem_of_mem h
  exact ⟨i, hi, by rw [List.getD_eq_getElem?_getD, List.getElem?_eq_getElem hi]; exact e⟩
theorem mem_take_getD {l : List Int} {x : Int} {n : Nat} (h : x ∈ l.take n) : ∃ i, i < n ∧ i < l.length ∧ l.getD i 0 = x := by
  obtain ⟨i, hi, e⟩ := List.getElem_of_mem h
  rw [List.length_take] at hi
  exact ⟨i, by omega, by omega, by rw [List.getD_eq_getElem?_getD, List.getElem?_eq_getElem (by omega)]; rw [List.getElem_take] at e; exact e⟩
theorem split_at {l : List Int} {i : Nat} (hi : i < l.length) : l = l.take i ++ (l.getD i 0 :: l.drop (i + 1)) := by
  rw [List.getD_eq_getElem?_getD, List.getElem?_eq_getElem hi]
  show l = l.take i ++ (l[i] :: l.drop (i + 1))
  rw [← List.drop_eq_getElem_cons hi, List.take_append_drop]
theorem at_hit {bs : List BoxD} {can : Bool} {xs ys : List Int} {k i j : Nat} (hi : i < xs.length) (hj : j < ys.length) (h1 : ∀ i', i' < i → ∀ j', j' < ys.length → (anyB bs (xs.getD i' 0) (ys.getD j' 0) == can) = false)
    (h2 : ∀ j', j' < j → (anyB bs (xs.getD i 0) (ys.getD j' 0) == can) = false) (h : (anyB bs (xs.getD i 0) (ys.getD j 0) == can) = true) : searchAt bs can xs ys k = some ⟨k, xs.getD i 0, ys.getD j 0⟩ := by
  have e : (xs.flatMap fun x => ys.map fun y => (x, y)) = ((xs.take i).flatMap fun x => ys.map fun y => (x, y)) ++ ((ys.take j).map fun y => (xs.getD i 0, y)) ++ (xs.getD i 0, ys.getD j 0) :: (((ys.drop (j + 1)).map fun y => (xs.getD i 0, y)) ++ (xs.drop (i + 1)).flatMap fun x => ys.map fun y => (x, y)) := by
    have e1 : (xs.flatMap fun x => ys.map fun y => (x, y)) = ((xs.take i).flatMap fun x => ys.map fun y => (x, y)) ++ ((ys.map fun y => (xs.getD i 0, y)) ++ (xs.drop (i + 1)).flatMap fun x => ys.map fun y => (x, y)) := by
      conv => lhs; rw [split_at hi]
      rw [List.flatMap_append, List.flatMap_cons]
    have e2 : (ys.map fun y => (xs.getD i 0, y)) = ((ys.take j).map fun y => (xs.getD i 0, y)) ++ ((xs.getD i 0, ys.getD j 0) :: ((ys.drop (j + 1)).map fun y => (xs.getD i 0, y))) := by
      conv => lhs; rw [split_at hj]
      rw [List.map_append, List.map_cons]
    rw [e1, e2]; simp
  unfold searchAt
  rw [e]
  refine fs_hit (fun p hp => ?_) (by show (if (anyB bs (xs.getD i 0) (ys.getD j 0) == can) = true then some _ else none) = _; rw [h]; rfl)
  rcases List.mem_append.1 hp with hp | hp
  · obtain ⟨x, hx, hy⟩ := List.mem_flatMap.1 hp
    obtain ⟨y, hz, rfl⟩ := List.mem_map.1 hy
    obtain ⟨i', a1, a2, rfl⟩ := mem_take_getD hx
    obtain ⟨j', b1, rfl⟩ := mem_getD hz
    show (if (anyB bs (xs.getD i' 0) (ys.getD j' 0) == can) = true then some _ else none) = none
    rw [h1 i' a1 j' b1]; rfl
  · obtain ⟨y, hy, rfl⟩ := List.mem_map.1 hp
    obtain ⟨j', b1, b2, rfl⟩ := mem_take_getD hy
    show (if (anyB bs (xs.getD i 0) (ys.getD j' 0) == can) = true then some _ else none) = none
    rw [h2 j' b1]; rfl
theorem at_none {bs : List BoxD} {can : Bool} {xs ys : List Int} {k : Nat} (h1 : ∀ i', i' < xs.length → ∀ j', j' < ys.length → (anyB bs (xs.getD i' 0) (ys.getD j' 0) == can) = false) : searchAt bs can xs ys k = none := by
  unfold searchAt
  rw [List.findSome?_eq_none_iff]
  intro p hp
  obtain ⟨x, hx, hy⟩ := List.mem_flatMap.1 hp
  obtain ⟨y, hz, rfl⟩ := List.mem_map.1 hy
  obtain ⟨i', a1, rfl⟩ := mem_getD hx
  obtain ⟨j', b1, rfl⟩ := mem_getD hz
  show (if (anyB bs (xs.getD i' 0) (ys.getD j' 0) == can) = true then some _ else none) = none
  rw [h1 i' a1 j' b1]; rfl
theorem shift_bd {k : Nat} {p q : DotD} (hp : dotOk p = true) (hq : dotOk q = true) : (i64N (shiftD k p q).xl ∧ i64N (shiftD k p q).xh) ∧ i64N (shiftD k p q).yl ∧ i64N (shiftD k p q).yh := by
  simp only [dotOk, decide_eq_true_eq] at hp hq
  have h := turn_bd k p.x p.y 1000 ⟨hp.2.2.1, hp.2.2.2.1⟩ ⟨hp.2.2.2.2.1, hp.2.2.2.2.2.1⟩
  unfold shiftD i64N
  dsimp only
  omega
theorem kindBox : RKind boxC 4 80 := ⟨fun x => rfl, fun x u hu => by simp [boxC] at hu; rcases hu with rfl | rfl | rfl | rfl <;> rfl⟩
theorem infoBox : (Tryd.prog.info? 80).map (fun i => (i.zero, i.size, i.bytes)) = some (some (.agg #[iV 0, iV 0, iV 0, iV 0]), 4, 32) := by kernel_rfl
theorem boxes_succ (finds : List DotD) (q : DotD) (k j : Nat) (h : j < finds.length) : boxesD (finds.take (j + 1)) q k = boxesD (finds.take j) q k ++ [shiftD k (finds.getD j dot0) q] := by
  unfold boxesD
  rw [take_succ' finds j dot0 h, List.map_append]; rfl
set_option maxRecDepth 100000 in
set_option maxHeartbeats 4000000 in
theorem search_any (l : List (DotD × DotD)) (finds : List DotD) (q : DotD) (can : Bool) (vl vf : Value) (w : World) (hl : PairsAt w vl l) (hf : DotsAt w vf finds) (hd : DotsOk l) (hfd : ∀ p ∈ finds, dotOk p = true) (hq : dotOk q = true) (hfl : finds.length ≤ 100) (hG : Glob w) :
    Calls Tryd.prog 54 #[vl, vf, dotV q, .bool can] w (Ret (.tuple #[motV (resM (searchD osF l finds q can)), .bool (searchD osF l finds q can).isSome]) w) := by
  have HHIT := hide (fun k m (h1 : k < 4) h2 h3 => four_hit (f := searchK osF l finds q can) (k := k) (m := m) h1 h2 h3)
  have HNONE := hide (fun h => four_none (f := searchK osF l finds q can) h)
  have HK : Hid (∀ k, searchK osF l finds q can k = if emptyB (fitD l k) then none else searchAt (boxesD finds q k) can (osF (xsD (fitD l k) (boxesD finds q k))) (osF (ysD (fitD l k) (boxesD finds q k))) k) := hide fun k => rfl
  have HFIT := hide (fun (W : World) k hb (hk : k ≤ 3) => fit_any l vl k W (hl.below hb) hk hd (hG.later hb))
  have HSD : Hid (searchD osF l finds q can = [0, 1, 2, 3].findSome? (searchK osF l finds q can)) := hide rfl
  rw [← HSD.out] at HHIT HNONE
  generalize searchD osF l finds q can = R at *
  generalize searchK osF l finds q can = SK at *
  clear HSD
  obtain ⟨la, lc, rfl, -, -, -⟩ := id hl
  obtain ⟨fa, fc, rfl, -, -, hfc⟩ := id hf
  have HFC := hide hfc
  have HFD := hide hfd
  have HD := hide hd
  clear hfc hfd hd
  obtain ⟨qi, qx, qy, qt⟩ := q
  go_enter Tryd.func54, Tryd.ntmps54
  go_wp2_with fail
  generalize hX1 : World.alloc w _ = X1
  have zX1 : X1.heap.size = w.heap.size + 1 := by rw [← hX1]; simp
  have bX1 : Below w.heap.size w X1 := by rw [← hX1]; exact bal w _
  have bQ_1 : Blk X1 (w.heap.size) [iV qi, iV qx, iV qy, iV qt] 53 := by rw [← hX1]; exact Blk.newA w _ (by first | rfl | simp)
  generalize hX2 : World.alloc X1 _ = X2
  have zX2 : X2.heap.size = w.heap.size + 1 + 1 := by rw [← hX2]; simp [zX1]
  have bX2 : Below X1.heap.size X1 X2 := by rw [← hX2]; exact bal X1 _
  have bR : Blk X2 (w.heap.size + 1) [iV 0, iV 0, iV 0] 32 := by rw [← hX2, ← zX1]; exact Blk.newA X1 _ (by first | rfl | simp)
  have bQ := bQ_1.later bX2
  have Xb := below2 (bX1) bX2
  have Xz := zX2
  clear hX1 zX1 bX1 hX2 zX2 bX2 bQ_1
  have hBX : w.heap.size + 1 + 1 = X2.heap.size := Xz.symm
  have HBX := hide hBX
  clear hBX Xz
  go_loopw [20] (fun i wr => ∃ (k : Nat), k ≤ 4 ∧ i = .int .i64 k ∧ Hid (∀ j, j < k → SK j = none) ∧ Below X2.heap.size X2 wr) (fun i _ => 4 - (intOf i).toNat)
  case atStart => exact ⟨0, by omega, rfl, hide fun j hj => absurd hj (by omega), Below.refl _ _⟩
  case round =>
    obtain ⟨k, hk, rfl, HN, hbr⟩ := hrel
    by_cases hlt : k < 4
    · have hk4 : decide ((k : Int) < 4) = true := by simp; omega
      have hbw := below2 Xb hbr
      have HF := hide (HFIT.out wr k hbw (by omega))
      have HKK := hide (HK.out k)
      have HEM := hide (fun W => isempty_any (fitD l k) W)
      generalize fitD l k = F at *
      obtain ⟨fl, fh, gl, gh⟩ := F
      go_wp2_with fail
      refine HF.out.mono ?_
      rintro e w3 ⟨rfl, hb3⟩
      go_wp2_with fail
      generalize hXX : World.alloc w3 _ = W4
      have hb4 : Below w3.heap.size w3 W4 := by rw [← hXX]; exact bal w3 _
      have bF : Blk W4 w3.heap.size [iV fl, iV fh, iV gl, iV gh] 80 := by rw [← hXX]; exact Blk.newA w3 _ rfl
      clear hXX
      cases hem : emptyB ⟨fl, fh, gl, gh⟩
      · rw [hem, if_neg (by decide)] at HKK
        rw [hem] at HEM
        have HKE : Hid (SK k = searchAt (boxesD finds ⟨qi, qx, qy, qt⟩ k) can (osF (edgesK fl fh axX (boxesD finds ⟨qi, qx, qy, qt⟩ k))) (osF (edgesK gl gh axY (boxesD finds ⟨qi, qx, qy, qt⟩ k))) k) := hide HKK.out
        clear HKK HK
        refine (HEM.out _).mono ?_
        rintro e w5 ⟨rfl, hb5⟩
        have bF5 := bF.later hb5
        have hbr5 := below2 hbr (below2 hb3 (below2 hb4 hb5))
        have hbw5 := below2 Xb hbr5
        have bQ5 := bQ.later hbr5
        have bR5 := bR.later hbr5
        clear bF HEM
        go_wp2_with fail
        go_loopw [12, 30] (fun v i wr => ∃ (j : Nat), j ≤ finds.length ∧ i = .int .i64 j ∧ OwnR wr w5.heap.size 80 4 v ((boxesD (finds.take j) ⟨qi, qx, qy, qt⟩ k).map boxC) ∧ Below w5.heap.size w5 wr) (fun _ i _ => finds.length - (intOf i).toNat)
        case atStart => exact ⟨0, by omega, rfl, OwnR.nil _ _ _ _, Below.refl _ _⟩
        case round =>
          obtain ⟨j, hj, rfl, hown, hbr⟩ := hrel
          have hbwr := below2 hbw5 hbr
          have bQr := bQ5.later hbr
          by_cases hlj : j < finds.length
          · obtain ⟨bl, o, rfl, hck⟩ := HFC.out j hlj
            have HS := hide (boxes_succ finds ⟨qi, qx, qy, qt⟩ k j hlj)
            have hok := HFD.out _ (getD_mem finds j (d := dot0) hlj)
            have HSH := hide (fun (W : World) hG => shifts_any k (finds.getD j dot0) ⟨qi, qx, qy, qt⟩ W (by omega) hok hq hG)
            have hbl : (boxesD (finds.take j) ⟨qi, qx, qy, qt⟩ k).length = j := by unfold boxesD; rw [List.length_map, List.length_take]; omega
            have HBL : Hid ((boxesD (finds.take j) ⟨qi, qx, qy, qt⟩ k).length < 1000000) := hide (by omega)
            generalize boxesD (finds.take j) ⟨qi, qx, qy, qt⟩ k = BS at HS hown HBL
            generalize finds.getD j dot0 = p at HS HSH hck
            generalize shiftD k p ⟨qi, qx, qy, qt⟩ = S at HS HSH
            obtain ⟨pi, px, py, pt⟩ := p
            obtain ⟨sl, sh, tl, th⟩ := S
            have e0 : wr.cell? ⟨bl, o + j * 4, none⟩ = some (iV pi) := keep hbwr (hck 0 _ rfl)
            have e1 : wr.cell? ⟨bl, o + j * 4 + 1, none⟩ = some (iV px) := keep hbwr (hck 1 _ rfl)
            have e2 : wr.cell? ⟨bl, o + j * 4 + 2, none⟩ = some (iV py) := keep hbwr (hck 2 _ rfl)
            have e3 : wr.cell? ⟨bl, o + j * 4 + 3, none⟩ = some (iV pt) := keep hbwr (hck 3 _ rfl)
            have q0 := bQr.cell 0 rfl
            have q1 := bQr.cell 1 rfl
            have q2 := bQr.cell 2 rfl
            have q3 := bQr.cell 3 rfl
            have lQ := bQr.lt
            clear hck hok hbl
            go_wp2_with fail
            have hbX := bal wr (.cells #[iV pi, iV px, iV py, iV pt] 53)
            refine (HSH.out _ (hG.later (below2 hbwr hbX))).mono ?_
            rintro e w6 ⟨rfl, hb6⟩
            have hb36 := below2 hbX hb6
            have hown6 := hown.later' hb36
            have hbr6 := below2 hbr hb36
            go_wp2_with (at_builtin; refine app_recM kindBox infoBox rfl (by decide) Tryd.underlying115 (by decide) rfl _ _ rfl w5.heap.size _ _ rfl hown6 ⟨sl, sh, tl, th⟩ _ rfl rfl HBL.out hbr6.size ?_; intro g cc w7 hown7 hE7 hz7)
            go_roundw
            case rel => exact ⟨j + 1, by omega, by go_num, by rw [HS.out]; exact hown7, hbr6.trans (hE7.below hbr6.size)⟩
            case measure => simp [intOf]; omega
          · obtain rfl : j = finds.length := by omega
            rw [List.take_length] at hown
            have hbB : ∀ b ∈ boxesD finds ⟨qi, qx, qy, qt⟩ k, (i64N b.xl ∧ i64N b.xh) ∧ i64N b.yl ∧ i64N b.yh := fun b hb => by
              obtain ⟨p, hp, rfl⟩ := List.mem_map.1 hb
              exact shift_bd (HFD.out p hp) hq
            have hBl : (boxesD finds ⟨qi, qx, qy, qt⟩ k).length < 1000 := by unfold boxesD; rw [List.length_map]; omega
            have HBB := hide hbB
            clear hbB
            generalize boxesD finds ⟨qi, qx, qy, qt⟩ k = BS at *
            have hBx : BoxesAt wr _ BS := (RecIn.of_own (d := (⟨0, 0, 0, 0⟩ : BoxD)) hown (fun _ => rfl) (Nat.le_refl _)).at
            obtain ⟨ba, bc, rfl, -, -, -⟩ := id hBx
            have bFr := bF5.later hbr
            have bRr := bR5.later hbr
            have f2 := bFr.cell 2 rfl
            have f3 := bFr.cell 3 rfl
            have lF := bFr.lt
            go_wp2_with fail
            refine (cand_any 69 (Go.Proofs.enters_of Tryd.func69 (by kernel_rfl) rfl) axY ax1_any gl gh BS _ wr hBx hBl (fun b hb => (HBB.out b hb).2)).mono ?_
            rintro e w6 ⟨v6, rfl, hown6, hb6⟩
            have hBx6 := hBx.below hb6
            have bFr6 := bFr.later hb6
            have f0 := bFr6.cell 0 rfl
            have f1 := bFr6.cell 1 rfl
            go_wp2_with fail
            refine (cand_any 70 (Go.Proofs.enters_of Tryd.func70 (by kernel_rfl) rfl) axX ax2_any fl fh BS _ w6 hBx6 hBl (fun b hb => (HBB.out b hb).1)).mono ?_
            rintro e w7 ⟨v7, rfl, hown7, hb7⟩
            have hBx7 := hBx6.below hb7
            have bR7 := bRr.later (below2 hb6 hb7)
            have hY : IntsAt w7 v6 _ := (hown6.later hb7).ints
            have hX : IntsAt w7 v7 _ := hown7.ints
            obtain ⟨ya, yc, rfl, hy1, hy2, hyc⟩ := hY
            obtain ⟨xa, xc, rfl, hx1, hx2, hxc⟩ := hX
            have HYC := hide hyc
            have HXC := hide hxc
            have HAT := hide (fun i j h1 h2 h3 h4 h5 => at_hit (bs := BS) (can := can) (xs := osF (edgesK fl fh axX BS)) (ys := osF (edgesK gl gh axY BS)) (k := k) (i := i) (j := j) h1 h2 h3 h4 h5)
            have HANO := hide (fun h => at_none (bs := BS) (can := can) (xs := osF (edgesK fl fh axX BS)) (ys := osF (edgesK gl gh axY BS)) (k := k) h)
            rw [← HKE.out] at HAT HANO
            have hbw7 := below2 hbwr (below2 hb6 hb7)
            have hbr7 := below2 hbr5 (below2 hbr (below2 hb6 hb7))
            generalize osF (edgesK fl fh axX BS) = xs at *
            generalize osF (edgesK gl gh axY BS) = ys at *
            clear hown6 hown7 hyc hxc f0 f1 f2 f3 HKE
            go_wp2_with fail
            go_loopw [51] (fun i wr => ∃ (a : Nat), a ≤ xs.length ∧ i = .int .i64 a ∧ Hid (∀ i', i' < a → ∀ j', j' < ys.length → (anyB BS (xs.getD i' 0) (ys.getD j' 0) == can) = false) ∧ Below w7.heap.size w7 wr) (fun i _ => xs.length - (intOf i).toNat)
            case atStart => exact ⟨0, by omega, rfl, hide fun i hi => absurd hi (by omega), Below.refl _ _⟩
            case round =>
              obtain ⟨a, ha, rfl, HA, hbra⟩ := hrel
              by_cases hla : a < xs.length
              · obtain ⟨bx, ox, rfl, hcx⟩ := HXC.out a hla
                have hla2 : decide (a < xs.length) = true := by simpa using hla
                have hcx' := keep hbra hcx
                have HX0 : Hid (xs.getD a 0 = xs.getD a 0) := hide rfl
                obtain ⟨x, hx⟩ : ∃ x, xs.getD a 0 = x := ⟨_, rfl⟩
                rw [hx] at hcx'
                have HX := hide hx
                clear hx hcx HX0
                go_wp2_with fail
                generalize hXX : World.alloc wr _ = W8
                have hb8 : Below wr.heap.size wr W8 := by rw [← hXX]; exact bal wr _
                have bX : Blk W8 wr.heap.size [iV x] 3 := by rw [← hXX]; exact Blk.newA wr _ rfl
                have hbr8 := below2 hbra hb8
                generalize wr.heap.size = XB at *
                clear hXX
                go_loopw [57] (fun i wr => ∃ (c : Nat), c ≤ ys.length ∧ i = .int .i64 c ∧ Hid (∀ j', j' < c → (anyB BS x (ys.getD j' 0) == can) = false) ∧ Blk wr XB [iV x] 3 ∧ Below w7.heap.size w7 wr) (fun i _ => ys.length - (intOf i).toNat)
                case atStart => exact ⟨0, by omega, rfl, hide fun i hi => absurd hi (by omega), bX, hbr8⟩
                case round =>
                  obtain ⟨c, hc, rfl, HC, bX, hbrc⟩ := hrel
                  by_cases hlc : c < ys.length
                  · obtain ⟨bY, oY, rfl, hcy⟩ := HYC.out c hlc
                    have hlc2 : decide (c < ys.length) = true := by simpa using hlc
                    have hcy' := keep hbrc hcy
                    obtain ⟨y, hy⟩ : ∃ y, ys.getD c 0 = y := ⟨_, rfl⟩
                    rw [hy] at hcy'
                    have HY := hide hy
                    have lX := bX.lt
                    clear hy hcy
                    have HHIT2 := hide (fun h3 h4 h5 => HAT.out a c hla hlc h3 h4 h5)
                    rw [HX.out, HY.out] at HHIT2
                    have HST := hide (fun (h : (anyB BS x y == can) = false) (j' : Nat) (hj : j' < c + 1) => show (anyB BS x (ys.getD j' 0) == can) = false by
                      rcases Nat.lt_or_ge j' c with h6 | h6
                      · exact HC.out j' h6
                      · obtain rfl : j' = c := by omega
                        rw [HY.out]; exact h)
                    go_wp2_with fail
                    generalize hXX : World.alloc wr _ = W9
                    have hb9 : Below wr.heap.size wr W9 := by rw [← hXX]; exact bal wr _
                    have bYb : Blk W9 wr.heap.size [iV y] 3 := by rw [← hXX]; exact Blk.newA wr _ rfl
                    have bX9 := bX.later hb9
                    have hbr9 := below2 hbrc hb9
                    clear hXX
                    have HON : Hid (OnBoxes 72 #[.pointer (some ⟨XB, 0, none⟩), .pointer (some ⟨wr.heap.size, 0, none⟩)] (fun b => hasB b x y) W9) := hide fun W hb b =>
                      srch3_any b x y XB wr.heap.size W ((bX9.later hb).cell 0 rfl) ((bYb.later hb).cell 0 rfl)
                    have HAN : Hid (BS.any (fun b => hasB b x y) = anyB BS x y) := hide rfl
                    have HCALL := hide (hasbox_any 72 _ (Go.Proofs.enters_of Tryd.func72 (by kernel_rfl) rfl) _ BS _ W9 (hBx7.below hbr9) HON.out)
                    rw [HAN.out] at HCALL
                    generalize anyB BS x y = E at *
                    refine HCALL.out.mono ?_
                    rintro e w10 ⟨rfl, hb10⟩
                    have bX10 := bX9.later hb10
                    have bY10 := bYb.later hb10
                    have hbr10 := below2 hbr9 hb10
                    cases hEc : (E == can)
                    · have HST2 := hide (HST.out hEc)
                      go_wp2_with fail
                      go_roundw
                      case rel => exact ⟨c + 1, by omega, by go_num, HST2, bX10, hbr10⟩
                      case measure => simp [intOf]; omega
                    · have HRES := hide (HHIT.out k _ hlt HN.out (HHIT2.out HA.out HC.out hEc))
                      have bR10 := bR7.later hbr10
                      have x0 := bX10.cell 0 rfl
                      have y0 := bY10.cell 0 rfl
                      have g0 := bR10.frozen 0
                      have g1 := bR10.frozen 1
                      have g2 := bR10.frozen 2
                      have r0 := bR10.cell 0 rfl
                      have r1 := bR10.cell 1 rfl
                      have r2 := bR10.cell 2 rfl
                      go_wp2_with fail
                      have hS := set3 bR10 (iV k) (iV x) (iV y)
                      refine bodyPost_ret (results_cell_tmp_row (p := 8) (u := 9) rfl _ _ (w.heap.size + 1) _ _ _ _ _ rfl hS.1 Tryd.underlying32 rfl (by kernel_rfl) rfl) rfl ?_
                      exact ⟨by rw [HRES.out]; rfl, hS.2.1 _ _ (below2 hbw7 hbr10) (by omega)⟩
                  · obtain rfl : c = ys.length := by omega
                    have HA2 : Hid (∀ i', i' < a + 1 → ∀ j', j' < ys.length → (anyB BS (xs.getD i' 0) (ys.getD j' 0) == can) = false) := hide fun i' hi j' hj => by
                      rcases Nat.lt_or_ge i' a with h6 | h6
                      · exact HA.out i' h6 j' hj
                      · obtain rfl : i' = a := by omega
                        rw [HX.out]; exact HC.out j' hj
                    go_wp2_with fail
                    go_roundw
                    case rel => exact ⟨a + 1, by omega, by go_num, HA2, hbrc⟩
                    case measure => simp [intOf]; omega
              · obtain rfl : a = xs.length := by omega
                have HNK := hide (HANO.out HA.out)
                have hbrE := below2 hbr7 hbra
                go_wp2_with fail
                go_roundw
                case rel =>
                  refine ⟨k + 1, by omega, by go_num, hide fun j hj => ?_, hbrE⟩
                  rcases Nat.lt_or_ge j k with h | h
                  · exact HN.out j h
                  · obtain rfl : j = k := by omega
                    exact HNK.out
                case measure => simp [intOf]; omega
      · rw [hem, if_pos rfl] at HKK
        rw [hem] at HEM
        refine (HEM.out _).mono ?_
        rintro e w5 ⟨rfl, hb5⟩
        have hbr5 := below2 hbr (below2 hb3 (below2 hb4 hb5))
        go_wp2_with fail
        go_roundw
        case rel =>
          refine ⟨k + 1, by omega, by go_num, hide fun j hj => ?_, hbr5⟩
          rcases Nat.lt_or_ge j k with h | h
          · exact HN.out j h
          · obtain rfl : j = k := by omega
            exact HKK.out
        case measure => simp [intOf]; omega
    · obtain rfl : k = 4 := by omega
      have HR := hide (HNONE.out HN.out)
      have bR4 := bR.later hbr
      have g0 := bR4.frozen 0
      have g1 := bR4.frozen 1
      have g2 := bR4.frozen 2
      have r0 := bR4.cell 0 rfl
      have r1 := bR4.cell 1 rfl
      have r2 := bR4.cell 2 rfl
      go_wp2_with fail
      have hS := set3 bR4 (iV 0) (iV 0) (iV 0)
      refine bodyPost_ret (results_cell_tmp_row (p := 8) (u := 9) rfl _ _ (w.heap.size + 1) _ _ _ _ _ rfl hS.1 Tryd.underlying32 rfl (by kernel_rfl) rfl) rfl ?_
      exact ⟨by rw [HR.out]; rfl, hS.2.1 _ _ (below2 Xb hbr) (by omega)⟩
end Go.Proofs.YtoofkahklboojaaDoor
