/- Walks of the reference of chapter 31: So, Answer. Conditions: how the laws lie in memory. -/
import Derived.Test.YtdjldidfnddpmaaGreatSrE
import Derived.Deep.DeepCutAuto
import Derived.Deep.MidRow
namespace Go.Proofs.YtdjldidfnddpmaaGreat
open Go.RowKit
theorem load_soV (W : World) (b : Nat) (S : Nat → Bool) (h : Blk W b (soL S) 95) : (Instr.loadAt 95 (.pointer (some ⟨b, 0, none⟩))).run Tryz.prog W = .ok (soV S) W :=
  run_loadAt_mid W b 0 95 (soL S) _ (fun j v hv => by rw [Nat.zero_add]; exact h.cell j hv) Tryz.underlying95 rfl (by kernel_rfl)
theorem store_soV (W : World) (b : Nat) (S S' : Nat → Bool) (h : Blk W b (soL S') 95) : (Instr.storeAt 95 (.pointer (some ⟨b, 0, none⟩)) (soV S)).run Tryz.prog W = .ok () (W.setCells b 0 (soL S)) :=
  run_storeAt_mid W b 0 95 (soL S).toArray (fun j hj => by
    rw [Nat.zero_add]
    have hj : j < 20 := hj
    refine ⟨?_, h.frozen j⟩
    rw [h.cell j (soL_get S' j hj)]; rfl) (by kernel_rfl) (by simp [Value.oneCell'])
theorem quiet_soV {C : World → Prop} {a : Act} {o : Oper} {K : Act → Prop} (x : Operand) (b : Nat) (S : Nat → Bool) (ho : o.op = .load 95 x) (hx : a.eval x = .pointer (some ⟨b, 0, none⟩)) (hC : ∀ w, C w → Blk w b (soL S) 95) (hk : K (a.put o.dst (soV S))) : o.quiet Tryz.prog a C K :=
  ⟨_, fun w hw => by
    have h1 := load_soV w b S (hC w hw)
    have h2 : (execOp a.eval o).run Tryz.prog w = .ok (.value (soV S)) w := by
      unfold execOp
      simp only [ho, hx]
      rw [Sem.run_bind, h1]; rfl
    unfold Oper.quietAt; rw [h2]; exact ⟨rfl, rfl⟩, hk⟩
def setLs : List Value → Nat → List Value → List Value
  | xs, _, [] => xs
  | xs, o, v :: r => setLs (xs.set o v) (o + 1) r
theorem Blk.setCells {b : Nat} {t : TypeId} : ∀ {vs xs : List Value} {o : Nat} {w : World}, Blk w b xs t → Blk (w.setCells b o vs) b (setLs xs o vs) t
  | [], _, _, _, h => h
  | v :: r, _, o, _, h => Blk.setCells (vs := r) (o := o + 1) (h.set o v)
theorem Below.setCellsB {B b : Nat} {w0 : World} (hB : B ≤ b) : ∀ {vs : List Value} {o : Nat} {w : World}, Below B w0 w → Below B w0 (w.setCells b o vs)
  | [], _, _, h => h
  | v :: r, o, _, h => Below.setCellsB (vs := r) (o := o + 1) hB (h.setCell (p := ⟨b, o, none⟩) hB v)
abbrev SoG (w X : World) (O : Nat) (S : Nat → Bool) (W : World) : Prop := BoxG w X O 95 (soL S) (soL S) true W
theorem SoG.put {w X W : World} {O : Nat} {S : Nat → Bool} (h : SoG w X O S W) (hO : w.heap.size ≤ O) {n : Nat} (hn : n < 20) (b : Bool) : SoG w X O (updS S n b) (W.setCell ⟨O, n, none⟩ (.bool b)) :=
  ⟨h.hb.setCell (p := ⟨O, n, none⟩) hO _, h.hE.trans (Eff.setCell _ _ _ _), by
    have := h.done.set n (.bool b)
    rw [soL_set S b n hn] at this
    exact this⟩
theorem SoG.eq {w X W : World} {O : Nat} {S S' : Nat → Bool} (h : SoG w X O S W) (e : S = S') : SoG w X O S' W := e ▸ h
set_option maxRecDepth 100000 in
set_option maxHeartbeats 4000000 in
theorem sor_any (c : CodeD) (q : QueryD) (cv rv fv : Value) (w : World) (h : CodeIn w.cell? cv rv fv c) (hV : validC c = true) : Calls Tryz.prog 49 #[codeV cv rv fv, queryV q] w (Ret (soV (soF c q 20)) w) := by
  have H := hide h
  have HV := hide hV
  obtain ⟨⟨ca, cn, rfl, -, -, -⟩, ⟨ra, rn, rfl, -, -, -⟩, ⟨fa, fn, rfl, -, -, -⟩⟩ := id h
  have hl1 : c.facts.length ≤ 20 := by have hv := hV; simp only [validC, Bool.and_eq_true, decide_eq_true_eq] at hv; exact hv.1.1.1.2
  have hl2 : c.clauses.length ≤ 20 := by have hv := hV; simp only [validC, Bool.and_eq_true, decide_eq_true_eq] at hv; exact hv.1.1.1.1.1
  have HS0 := hide (soF_zero c q)
  have HSS := hide (fun n => soF_succ c q n)
  have HAT := hide (fun n => soF_at c q n)
  have HK0 : Hid (∀ n, sayK c q n 0 = false) := hide (fun _ => rfl)
  have HF0 : Hid (∀ n, fireK c q n 0 = false) := hide (fun _ => rfl)
  have HKS : Hid (∀ n k, sayK c q n (k + 1) = (sayK c q n k || (statesB (c.facts.getD k fact0) q && saysB c n k))) := hide (fun n k => anyr_succ _ k)
  have HFS : Hid (∀ n k, fireK c q n (k + 1) = (fireK c q n k || (rulesB c k q && firesB c (fun m => soF c q n m.toNat) n k))) := hide (fun n k => anyr_succ _ k)
  generalize hSF : soF c q = SF at HS0 HSS HAT HFS ⊢
  generalize sayK c q = SK at HK0 HKS HSS
  generalize fireK c q = FK at HF0 HFS HSS
  clear h hV hSF
  go_enter Tryz.func49, Tryz.ntmps49
  go_wp2_with fail
  generalize hX1 : World.alloc w _ = X1
  have zX1 : X1.heap.size = w.heap.size + 1 := by rw [← hX1]; simp
  have bX1 : Below w.heap.size w X1 := by rw [← hX1]; exact bal w _
  have bC_1 : Blk X1 (w.heap.size) [.slice ca c.clauses.length cn, .slice ra c.repeals.length rn, .slice fa c.facts.length fn] 30 := by rw [← hX1]; exact Blk.newA w _ (by first | rfl | simp)
  generalize hX2 : World.alloc X1 _ = X2
  have zX2 : X2.heap.size = w.heap.size + 1 + 1 := by rw [← hX2]; simp [zX1]
  have bX2 : Below X1.heap.size X1 X2 := by rw [← hX2]; exact bal X1 _
  have bQ_2 : Blk X2 (w.heap.size + 1) (queryC q) 33 := by rw [← hX2, ← zX1]; exact Blk.newA X1 _ (by first | rfl | simp)
  have bC_2 := bC_1.later bX2
  generalize hX3 : World.alloc X2 _ = X3
  have zX3 : X3.heap.size = w.heap.size + 1 + 1 + 1 := by rw [← hX3]; simp [zX2]
  have bX3 : Below X2.heap.size X2 X3 := by rw [← hX3]; exact bal X2 _
  have bR_3 : Blk X3 (w.heap.size + 1 + 1) [.bool false, .bool false, .bool false, .bool false, .bool false, .bool false, .bool false, .bool false, .bool false, .bool false, .bool false, .bool false, .bool false, .bool false, .bool false, .bool false, .bool false, .bool false, .bool false, .bool false] 95 := by rw [← hX3, ← zX2]; exact Blk.newA X2 _ (by first | rfl | simp)
  have bC_3 := bC_2.later bX3
  have bQ_3 := bQ_2.later bX3
  generalize hX4 : World.alloc X3 _ = X4
  have zX4 : X4.heap.size = w.heap.size + 1 + 1 + 1 + 1 := by rw [← hX4]; simp [zX3]
  have bX4 : Below X3.heap.size X3 X4 := by rw [← hX4]; exact bal X3 _
  have bS : Blk X4 (w.heap.size + 1 + 1 + 1) [.bool false, .bool false, .bool false, .bool false, .bool false, .bool false, .bool false, .bool false, .bool false, .bool false, .bool false, .bool false, .bool false, .bool false, .bool false, .bool false, .bool false, .bool false, .bool false, .bool false] 95 := by rw [← hX4, ← zX3]; exact Blk.newA X3 _ (by first | rfl | simp)
  have bC := bC_3.later bX4
  have bQ := bQ_3.later bX4
  have bR := bR_3.later bX4
  have Xb := below2 (below2 (below2 (bX1) bX2) bX3) bX4
  have Xz := zX4
  clear hX1 zX1 bX1 hX2 zX2 bX2 hX3 zX3 bX3 hX4 zX4 bX4 bC_1 bC_2 bC_3 bQ_2 bQ_3 bR_3
  have hG0 : SoG w X4 (w.heap.size + 1 + 1 + 1) (SF 0) X4 := ⟨Xb, Eff.of_below (Below.refl _ _) _, by rw [HS0.out]; exact bS⟩
  clear bS
  go_loopw [6] (fun i wr => ∃ n : Nat, n ≤ 20 ∧ i = .int .i64 n ∧ SoG w X4 (w.heap.size + 1 + 1 + 1) (SF n) wr) (fun i _ => 20 - (intOf i).toNat)
  case atStart => exact ⟨0, by omega, rfl, hG0⟩
  case round =>
    obtain ⟨n, hn, rfl, hG⟩ := hrel
    by_cases hlt : n < 20
    · have HN := hide hlt
      have hltI : (n : Int) < 20 := by omega
      have hG1 : SoG w X4 (w.heap.size + 1 + 1 + 1) (updS (SF n) n (SK n 0)) wr := hG.eq (by rw [HK0.out, updS_same _ _ (HAT.out n)])
      go_wp2_with fail
      go_loopw [7] (fun j wz => ∃ k : Nat, k ≤ c.facts.length ∧ j = .int .i64 k ∧ SoG w X4 (w.heap.size + 1 + 1 + 1) (updS (SF n) n (SK n k)) wz) (fun j _ => c.facts.length - (intOf j).toNat)
      case atStart => exact ⟨0, by omega, rfl, hG1⟩
      case round =>
        obtain ⟨k, hk, rfl, hGz⟩ := hrel
        have bCz := hGz.blk bC (show w.heap.size ≠ w.heap.size + 1 + 1 + 1 by omega)
        have bQz := hGz.blk bQ (show w.heap.size + 1 ≠ w.heap.size + 1 + 1 + 1 by omega)
        have g2 := bCz.cell 2 rfl
        by_cases hlk : k < c.facts.length
        · have HK := hide hlk
          have hlkI : (k : Int) < c.facts.length := by omega
          obtain ⟨fb, fo, e, hcf⟩ := ((H.out.below hGz.hb).fa).cell hlk
          cases e
          have HS := hide (fun W => factr_any (c.facts.getD k fact0) q W)
          have HKK := hide (HKS.out n k)
          rw [show saysB c n k = decide ((c.facts.getD k fact0).says = n) from rfl] at HKK
          generalize c.facts.getD k fact0 = x at hcf HS HKK
          generalize statesB x q = sb at HS HKK
          generalize hsk1 : SK n (k + 1) = sk1 at HKK
          have HSK1 := hide hsk1
          generalize SK n k = sk at HKK hGz
          have f0 := bwc (show wr.cell? ⟨fb, fo + k * 6, none⟩ = some (.int .i64 x.thing) from hcf 0 _ rfl)
          have f1 := bwc (show wr.cell? ⟨fb, fo + k * 6 + 1, none⟩ = some (.int .i64 x.says) from hcf 1 _ rfl)
          have f2 := bwc (show wr.cell? ⟨fb, fo + k * 6 + 2, none⟩ = some (.int .i64 x.sf) from hcf 2 _ rfl)
          have f3 := bwc (show wr.cell? ⟨fb, fo + k * 6 + 3, none⟩ = some (.int .i64 x.st) from hcf 3 _ rfl)
          have f4 := bwc (show wr.cell? ⟨fb, fo + k * 6 + 4, none⟩ = some (.int .i64 x.kf) from hcf 4 _ rfl)
          have f5 := bwc (show wr.cell? ⟨fb, fo + k * 6 + 5, none⟩ = some (.int .i64 x.kt) from hcf 5 _ rfl)
          have q0 := bwc (bQz.cell 0 rfl)
          have q1 := bwc (bQz.cell 1 rfl)
          have q2 := bwc (bQz.cell 2 rfl)
          have q3 := bwc (bQz.cell 3 rfl)
          have g2b := bwc g2
          clear hcf hsk1
          cases sb
          · have HK2 : Hid (sk1 = sk) := hide (by rw [HKK.out, Bool.false_and, Bool.or_false])
            go_wp2_with fail
            refine wp_region_bw (by kernel_rfl) (by kernel_rfl) ?_
            repeat (go_big_quiet_step ((go_at_call 53; exact quiet (HS.out _))))
            refine wpQuiet_nil ?_
            rintro _ ⟨ix, rfl⟩
            have HGG := hide (hGz.later ix.h)
            go_wp2_with fail
            go_roundw
            case rel => exact ⟨k + 1, by have := HK.out; omega, by go_num, SoG.eq HGG.out (by rw [HSK1.out, HK2.out])⟩
            case measure => have := HK.out; simp [intOf]; omega
          · by_cases hx : x.says = n
            · have dx : (x.says == (n : Int)) = true := by simpa using hx
              have HK2 : Hid (sk1 = true) := hide (by rw [HKK.out, decide_eq_true hx]; simp)
              clear hx
              go_wp2_with fail
              refine wp_region_bw (by kernel_rfl) (by kernel_rfl) ?_
              repeat (go_big_quiet_step ((go_at_call 53; exact quiet (HS.out _))))
              refine wpQuiet_nil ?_
              rintro _ ⟨ix, rfl⟩
              have hGG := hGz.later ix.h
              generalize ix.W = w4 at hGG ⊢
              have fz := hGG.done.frozen n
              have cz := hGG.done.cell n (soL_get _ n HN.out)
              have HG4 := hide (SoG.put hGG (by omega) HN.out true)
              clear f0 f1 f2 f3 f4 f5 q0 q1 q2 q3 g2b hGG
              go_wp2_with fail
              go_roundw
              case rel => exact ⟨k + 1, by have := HK.out; omega, by go_num, SoG.eq HG4.out (by rw [updS_upd, HSK1.out, HK2.out])⟩
              case measure => have := HK.out; simp [intOf]; omega
            · have dx : (x.says == (n : Int)) = false := by simpa using hx
              have HK2 : Hid (sk1 = sk) := hide (by rw [HKK.out, decide_eq_false hx]; simp)
              clear hx
              go_wp2_with fail
              refine wp_region_bw (by kernel_rfl) (by kernel_rfl) ?_
              repeat (go_big_quiet_step ((go_at_call 53; exact quiet (HS.out _))))
              refine wpQuiet_nil ?_
              rintro _ ⟨ix, rfl⟩
              have HGG := hide (hGz.later ix.h)
              go_wp2_with fail
              go_roundw
              case rel => exact ⟨k + 1, by have := HK.out; omega, by go_num, SoG.eq HGG.out (by rw [HSK1.out, HK2.out])⟩
              case measure => have := HK.out; simp [intOf]; omega
        · obtain rfl : k = c.facts.length := by omega
          have HSN := hide (HSS.out n)
          have HFF := hide (HF0.out n)
          have hG2 : SoG w X4 (w.heap.size + 1 + 1 + 1) (updS (SF n) n (SK n c.facts.length || FK n 0)) wr := hGz.eq (by rw [HFF.out, Bool.or_false])
          generalize SK n c.facts.length = B1 at HSN hG2
          clear hGz bCz bQz hk hlk
          go_wp2_with fail
          go_loopw [8] (fun j wy => ∃ k : Nat, k ≤ c.clauses.length ∧ j = .int .i64 k ∧ SoG w X4 (w.heap.size + 1 + 1 + 1) (updS (SF n) n (B1 || FK n k)) wy) (fun j _ => c.clauses.length - (intOf j).toNat)
          case atStart => exact ⟨0, by omega, rfl, hG2⟩
          case round =>
            obtain ⟨k, hk, rfl, hGy⟩ := hrel
            have bCy := hGy.blk bC (show w.heap.size ≠ w.heap.size + 1 + 1 + 1 by omega)
            have bQy := hGy.blk bQ (show w.heap.size + 1 ≠ w.heap.size + 1 + 1 + 1 by omega)
            have g0 := bCy.cell 0 rfl
            by_cases hlk : k < c.clauses.length
            · have HK := hide hlk
              have hlkI : (k : Int) < c.clauses.length := by omega
              obtain ⟨a', n', e', -, -, hcc⟩ := (H.out.below hGy.hb).cl
              cases e'
              obtain ⟨kb, ko, nv, bv, rfl, k0, k1, k2, k3, k4, k5, hnn, hbb⟩ := hcc k hlk
              have HVT := hide (valid_terms HV.out hlk)
              have HFK := hide (HFS.out n k)
              rw [show firesB c (fun m => SF n m.toNat) n k = (decide ((c.clauses.getD k clause0).gives = n) && ((c.clauses.getD k clause0).needs.all fun m => SF n m.toNat) && (c.clauses.getD k clause0).bars.all fun m => !SF n m.toNat) from rfl] at HFK
              obtain ⟨na, nn, rfl, -⟩ := id hnn
              obtain ⟨ba, bn, rfl, -⟩ := id hbb
              have HCL := hide (fun W (hb : Below w.heap.size w W) => clauser_any c k q _ _ _ W (H.out.below hb) hlk)
              generalize rulesB c k q = rb at HCL HFK
              generalize c.clauses.getD k clause0 = y at HVT HFK k0 k1 k2 k3 k4 k5 hnn hbb
              obtain ⟨⟨hg0, hg1⟩, ht1, ht2⟩ := HVT.out
              generalize hfk1 : FK n (k + 1) = fk1 at HFK
              have HFK1 := hide hfk1
              generalize FK n k = fk at HFK hGy
              have hS' : ∀ m : Int, y.gives = n → 0 ≤ m → m < y.gives → updS (SF n) n (B1 || fk) m.toNat = SF n m.toNat := fun m hg h0 h1 => by
                unfold updS
                rw [if_neg (by omega)]
              have HCN : Hid (y.gives = n → (y.needs.all fun m => SF n m.toNat) = decide (cntS (updS (SF n) n (B1 || fk)) y.needs = y.needs.length)) := hide (fun hg => by
                rw [cnt_all]; exact all_congr fun m hm => (hS' m hg (ht1 m hm).1 (ht1 m hm).2).symm)
              have HCB : Hid (y.gives = n → (y.bars.all fun m => !SF n m.toNat) = decide (cntS (updS (SF n) n (B1 || fk)) y.bars = 0)) := hide (fun hg => by
                rw [cnt_none]; exact all_congr fun m hm => by rw [hS' m hg (ht2 m hm).1 (ht2 m hm).2])
              have HUP : Hid (∀ b, updS (updS (SF n) n (B1 || fk)) n b = updS (SF n) n b) := hide (fun b => updS_upd _ _ _ _)
              generalize (y.needs.all fun m => SF n m.toNat) = AN at HCN HFK
              generalize (y.bars.all fun m => !SF n m.toNat) = AB at HCB HFK
              generalize hSS' : updS (SF n) n (B1 || fk) = S at *
              have HSS' := hide hSS'
              have HC1 := hide (fun W (hb : Below wr.heap.size wr W) => countr_any y.needs S _ W (IntsAt.below hb hnn) (fun m hm => by have := ht1 m hm; omega))
              have HC2 := hide (fun W (hb : Below wr.heap.size wr W) => countr_any y.bars S _ W (IntsAt.below hb hbb) (fun m hm => by have := ht2 m hm; omega))
              generalize cntS S y.needs = K1 at HC1 HCN
              generalize cntS S y.bars = K2 at HC2 HCB
              obtain ⟨cd, HCD⟩ : ∃ cd : Bool, Hid (cd = (rb && (decide (y.gives = n) && AN && AB))) := ⟨_, hide rfl⟩
              have HFK2 : Hid (fk1 = (fk || cd)) := hide (by rw [HFK.out, HCD.out])
              clear hcc hnn hbb ht1 ht2 hS' hfk1 hSS' HFK
              go_wp2_with fail
              generalize hY1 : World.alloc wr _ = Y1
              have zY1 : Y1.heap.size = wr.heap.size + 1 := by rw [← hY1]; simp
              have bY1 : Below wr.heap.size wr Y1 := by rw [← hY1]; exact bal wr _
              have bY : Blk Y1 (wr.heap.size) (clauseC y (.slice na y.needs.length nn) (.slice ba y.bars.length bn)) 67 := by rw [← hY1]; exact Blk.newA wr _ (by first | rfl | simp)
              have Yb := bY1
              have Yz := zY1
              clear hY1 zY1 bY1
              have hGY := hGy.later Yb
              have HC1' := hide (fun W (hb : Below Y1.heap.size Y1 W) => HC1.out W (below2 Yb hb))
              have HC2' := hide (fun W (hb : Below Y1.heap.size Y1 W) => HC2.out W (below2 Yb hb))
              have HCL' := hide (fun W (hb : Below Y1.heap.size Y1 W) => HCL.out W (below2 hGY.hb hb))
              have bCz := bCy.later Yb
              have bQz := bQy.later Yb
              have y3 := bwc (bY.cell 3 rfl)
              have y4 := bwc (bY.cell 4 rfl)
              have y5 := bwc (bY.cell 5 rfl)
              have d0 := bwc (bCz.cell 0 rfl)
              have d1 := bwc (bCz.cell 1 rfl)
              have d2 := bwc (bCz.cell 2 rfl)
              have q0 := bwc (bQz.cell 0 rfl)
              have q1 := bwc (bQz.cell 1 rfl)
              have q2 := bwc (bQz.cell 2 rfl)
              have q3 := bwc (bQz.cell 3 rfl)
              have HLD := hide (fun (W : World) (h : ∃ i : Bw Y1.heap.size Y1, W = i.W) => show Blk W (w.heap.size + 1 + 1 + 1) (soL S) 95 from by obtain ⟨i, rfl⟩ := h; exact hGY.done.later i.h)
              clear Yb Yz bY k0 k1 k2 k3 k4 k5 HC1 HC2 HCL g0 hGy bCy bQy
              go_wp2_with fail
              go_cut [78] (fun s wx => s = .bool cd ∧ Below Y1.heap.size Y1 wx)
              case first =>
                by_cases hg : y.gives = n
                · have dg : (y.gives == (n : Int)) = true := by simpa using hg
                  have HN1 := hide (HCN.out hg)
                  have HB1 := hide (HCB.out hg)
                  have HD1 := HCD.out
                  rw [decide_eq_true hg] at HD1
                  have HD2 := hide HD1
                  clear hg HD1
                  cases rb
                  · skip
                    refine wp_region_bw (by kernel_rfl) (by kernel_rfl) ?_
                    repeat (first | go_big_quiet_skip | (go_big_quiet_want; refine quiet_soV _ (w.heap.size + 1 + 1 + 1) S rfl rfl HLD.out ?_; simp only [Act.put, List.setIfInBounds_toArray, List.set_cons_zero, List.set_cons_succ]; go_big_quiet_on) | go_big_quiet_step ((first | (go_at_call 54; exact quiet (HCL'.out _ (Bw.h _))) | (go_at_call 63; first | (with_reducible exact quiet (HC1'.out _ (Bw.h _))) | (with_reducible exact quiet (HC2'.out _ (Bw.h _)))))))
                    refine wpQuiet_nil ?_
                    rintro _ ⟨ix, rfl⟩
                    go_wp2_with fail
                    go_meet
                    exact ⟨by rw [HD2.out]; rfl, ix.h⟩
                  · by_cases hk1 : K1 = y.needs.length
                    · have dk1 : (K1 == (y.needs.length : Int)) = true := by simpa using hk1
                      have HAN : Hid (AN = true) := hide (by rw [HN1.out]; exact decide_eq_true hk1)
                      clear hk1
                      by_cases hk2 : K2 = 0
                      · have dk2 : (K2 == 0) = true := by simpa using hk2
                        have HAB : Hid (AB = true) := hide (by rw [HB1.out]; exact decide_eq_true hk2)
                        clear hk2
                        refine wp_region_bw (by kernel_rfl) (by kernel_rfl) ?_
                        repeat (first | go_big_quiet_skip | (go_big_quiet_want; refine quiet_soV _ (w.heap.size + 1 + 1 + 1) S rfl rfl HLD.out ?_; simp only [Act.put, List.setIfInBounds_toArray, List.set_cons_zero, List.set_cons_succ]; go_big_quiet_on) | go_big_quiet_step ((first | (go_at_call 54; exact quiet (HCL'.out _ (Bw.h _))) | (go_at_call 63; first | (with_reducible exact quiet (HC1'.out _ (Bw.h _))) | (with_reducible exact quiet (HC2'.out _ (Bw.h _)))))))
                        refine wpQuiet_nil ?_
                        rintro _ ⟨ix, rfl⟩
                        go_wp2_with fail
                        go_meet
                        exact ⟨by rw [HD2.out, HAN.out, HAB.out]; rfl, ix.h⟩
                      · have dk2 : (K2 == 0) = false := by simpa using hk2
                        have HAB : Hid (AB = false) := hide (by rw [HB1.out]; exact decide_eq_false hk2)
                        clear hk2
                        refine wp_region_bw (by kernel_rfl) (by kernel_rfl) ?_
                        repeat (first | go_big_quiet_skip | (go_big_quiet_want; refine quiet_soV _ (w.heap.size + 1 + 1 + 1) S rfl rfl HLD.out ?_; simp only [Act.put, List.setIfInBounds_toArray, List.set_cons_zero, List.set_cons_succ]; go_big_quiet_on) | go_big_quiet_step ((first | (go_at_call 54; exact quiet (HCL'.out _ (Bw.h _))) | (go_at_call 63; first | (with_reducible exact quiet (HC1'.out _ (Bw.h _))) | (with_reducible exact quiet (HC2'.out _ (Bw.h _)))))))
                        refine wpQuiet_nil ?_
                        rintro _ ⟨ix, rfl⟩
                        go_wp2_with fail
                        go_meet
                        exact ⟨by rw [HD2.out, HAN.out, HAB.out]; rfl, ix.h⟩
                    · have dk1 : (K1 == (y.needs.length : Int)) = false := by simpa using hk1
                      have HAN : Hid (AN = false) := hide (by rw [HN1.out]; exact decide_eq_false hk1)
                      clear hk1
                      refine wp_region_bw (by kernel_rfl) (by kernel_rfl) ?_
                      repeat (first | go_big_quiet_skip | (go_big_quiet_want; refine quiet_soV _ (w.heap.size + 1 + 1 + 1) S rfl rfl HLD.out ?_; simp only [Act.put, List.setIfInBounds_toArray, List.set_cons_zero, List.set_cons_succ]; go_big_quiet_on) | go_big_quiet_step ((first | (go_at_call 54; exact quiet (HCL'.out _ (Bw.h _))) | (go_at_call 63; first | (with_reducible exact quiet (HC1'.out _ (Bw.h _))) | (with_reducible exact quiet (HC2'.out _ (Bw.h _)))))))
                      refine wpQuiet_nil ?_
                      rintro _ ⟨ix, rfl⟩
                      go_wp2_with fail
                      go_meet
                      exact ⟨by rw [HD2.out, HAN.out]; rfl, ix.h⟩
                · have dg : (y.gives == (n : Int)) = false := by simpa using hg
                  have HD2 : Hid (cd = false) := hide (by rw [HCD.out, decide_eq_false hg]; simp)
                  clear hg
                  refine wp_region_bw (by kernel_rfl) (by kernel_rfl) ?_
                  repeat (first | go_big_quiet_skip | (go_big_quiet_want; refine quiet_soV _ (w.heap.size + 1 + 1 + 1) S rfl rfl HLD.out ?_; simp only [Act.put, List.setIfInBounds_toArray, List.set_cons_zero, List.set_cons_succ]; go_big_quiet_on) | go_big_quiet_step ((first | (go_at_call 54; exact quiet (HCL'.out _ (Bw.h _))) | (go_at_call 63; first | (with_reducible exact quiet (HC1'.out _ (Bw.h _))) | (with_reducible exact quiet (HC2'.out _ (Bw.h _)))))))
                  refine wpQuiet_nil ?_
                  rintro _ ⟨ix, rfl⟩
                  go_wp2_with fail
                  go_meet
                  exact ⟨by rw [HD2.out], ix.h⟩
              case rest =>
                obtain ⟨rfl, hbx⟩ := hcut
                have hGG := hGY.later hbx
                clear HLD y3 y4 y5 d0 d1 d2 q0 q1 q2 q3 hbx hGY bCz bQz
                cases cd
                · have HGG := hide hGG
                  clear hGG
                  go_wp2_with fail
                  go_roundw
                  case rel => exact ⟨k + 1, by have := HK.out; omega, by go_num, SoG.eq HGG.out (by rw [← HSS'.out, HFK1.out, HFK2.out, Bool.or_false])⟩
                  case measure => have := HK.out; simp [intOf]; omega
                · have fz := hGG.done.frozen n
                  have cz := hGG.done.cell n (soL_get _ n HN.out)
                  have HG4 := hide (SoG.put hGG (by omega) HN.out true)
                  clear hGG
                  go_wp2_with fail
                  go_roundw
                  case rel => exact ⟨k + 1, by have := HK.out; omega, by go_num, SoG.eq HG4.out (by rw [← HSS'.out, updS_upd, HFK1.out, HFK2.out, Bool.or_true, Bool.or_true])⟩
                  case measure => have := HK.out; simp [intOf]; omega
            · obtain rfl : k = c.clauses.length := by omega
              have HGF := hide (hGy.eq HSN.out.symm)
              go_wp2_with fail
              go_roundw
              case rel => exact ⟨n + 1, by have := HN.out; omega, by go_num, HGF.out⟩
              case measure => have := HN.out; simp [intOf]; omega
    · obtain rfl : n = 20 := by omega
      generalize hS20 : SF 20 = S at hG
      have HS20 := hide hS20
      clear hS20
      have bR2 := hG.blk bR (show w.heap.size + 1 + 1 ≠ w.heap.size + 1 + 1 + 1 by omega)
      have bS2 := hG.done
      have hbf := hG.hb
      have hle : w.heap.size ≤ w.heap.size + 1 + 1 := by omega
      have hWB : Blk (wr.setCells (w.heap.size + 1 + 1) 0 (soL S)) (w.heap.size + 1 + 1) (soL S) 95 := Blk.setCells bR2
      have hWF := Below.setCellsB (vs := soL S) (o := 0) hle hbf
      have HRA := hide (show wr.rangeAt (w.heap.size + 1 + 1 + 1) 0 (soL S) from fun j v hv => by rw [Nat.zero_add]; exact bS2.cell j hv)
      have HTH := hide (show wr.there (w.heap.size + 1 + 1) 0 20 from fun j hj => by
        rw [Nat.zero_add]
        refine ⟨?_, bR2.frozen j⟩
        rw [bR2.cell j (soL_get (fun _ => false) j hj)]; rfl)
      have HWB := hide hWB
      have HWF := hide hWF
      clear hG bR2 bS2 hWB hWF
      go_wp2_with (first | (refine wpList_load_mid rfl 95 _ rfl (w.heap.size + 1 + 1 + 1) 0 rfl (soL S) _ HRA.out Tryz.underlying95 rfl (by kernel_rfl) ?_) | (refine wpList_store_mid rfl 95 _ _ rfl (w.heap.size + 1 + 1) 0 (soL S).toArray rfl rfl HTH.out (by kernel_rfl) (by simp [Value.oneCell']) ?_))
      have hWB := HWB.out
      refine bodyPost_ret (results_cell_row (p := 4) rfl _ _ (w.heap.size + 1 + 1) _ _ _ _ rfl hWB Tryz.underlying95 rfl (by kernel_rfl)) rfl ?_
      exact ⟨by rw [HS20.out], HWF.out⟩
end Go.Proofs.YtdjldidfnddpmaaGreat
