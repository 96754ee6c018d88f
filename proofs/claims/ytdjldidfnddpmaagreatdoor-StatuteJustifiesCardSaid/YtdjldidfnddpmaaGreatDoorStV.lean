/- Walks of package statute: Applies. Conditions: how the laws lie in memory. -/
import Derived.Test.YtdjldidfnddpmaaGreatDoorStT
import Derived.Test.YtdjldidfnddpmaaGreatDoorStU
import Derived.OwnWalk
namespace Go.Proofs.YtdjldidfnddpmaaGreatDoor
open Go.RowKit
/-- the numbers below k with something, as integers -/
def upTo (p : Nat → Bool) (k : Nat) : List Int := ((List.range k).filter p).map fun (i : Nat) => (i : Int)
theorem upTo_succ (p : Nat → Bool) (k : Nat) : upTo p (k + 1) = upTo p k ++ (if p k then [(k : Int)] else []) := by
  unfold upTo
  rw [List.range_succ, List.filter_append, List.map_append]
  congr 1
  cases h : p k
  · rw [List.filter_cons_of_neg (by rw [h]; simp)]; rfl
  · rw [List.filter_cons_of_pos (by rw [h])]; rfl
theorem upTo_lt {p : Nat → Bool} {k : Nat} {m : Int} (h : m ∈ upTo p k) : 0 ≤ m ∧ m < k := by
  unfold upTo at h
  obtain ⟨i, hi, rfl⟩ := List.mem_map.1 h
  have := List.mem_range.1 (List.mem_filter.1 hi).1
  omega
theorem upTo_asc (p : Nat → Bool) (k : Nat) : AscI (upTo p k) := by
  unfold AscI upTo
  rw [List.pairwise_map]
  exact (List.Pairwise.filter _ List.pairwise_lt_range).imp fun h => by omega
theorem upTo_len (p : Nat → Bool) (k : Nat) : (upTo p k).length ≤ k := by
  unfold upTo
  rw [List.length_map]
  exact Nat.le_trans (List.length_filter_le _ _) (by simp)
theorem upTo_ins {p : Nat → Bool} {k : Nat} (h : p k = true) : insertedF (upTo p k) k = upTo p (k + 1) :=
  asc_eq _ _ (inserted_pair (upTo_asc p k)) (upTo_asc p (k + 1)) fun x => by
    rw [mem_inserted, upTo_succ, if_pos h, List.mem_append, List.mem_singleton, Or.comm]
theorem upTo_not {p : Nat → Bool} {k : Nat} (h : p k = false) : upTo p k = upTo p (k + 1) := by
  rw [upTo_succ, h]; simp
/-- two lists and an error -/
def Ret3 (F C : List Int) (n : Int) (w : World) (e : Ending) (w' : World) : Prop :=
  ∃ fv cv, e = .returned (.tuple #[fv, cv, .int .i64 n]) ∧ IntsIn (frm w.heap.size w') fv F ∧ IntsIn (frm w.heap.size w') cv C ∧ Below w.heap.size w w'
def intsN (l : List Nat) : List Int := l.map fun (i : Nat) => (i : Int)
def appliesF (c : CodeD) (q : QueryD) : List Int := if validC c && asksB q then intsN (factsF c q) else []
def appliesC (c : CodeD) (q : QueryD) : List Int := if validC c && asksB q then intsN (clausesF c q) else []
def errS (c : CodeD) (q : QueryD) : Int := if validC c && asksB q then 0 else 310
theorem OwnToE.low {B : Nat} {v0 : Value} {l l0 : List Int} {w w' : World} {e : Ending} (h : OwnToE B v0 l w e w') (h0 : OwnI w B v0 l0) (hB : B ≤ w.heap.size) : ∃ v, e = .returned v ∧ OwnI w' B v l ∧ Below B w w' := by
  obtain ⟨v, rfl, ho, hE, -⟩ := h
  exact ⟨v, rfl, ho, hE.below hB fun k hk => (h0.heap hk.symm).1⟩
theorem one_in (w : World) (y : Int) : IntsAt (w.alloc (.cells #[.int .i64 y] 3)) (.slice (some ⟨w.heap.size, 0, none⟩) 1 1) [y] :=
  ⟨some ⟨w.heap.size, 0, none⟩, 1, rfl, by simp, by omega, fun k hk => ⟨w.heap.size, 0, rfl, by
    have e : k = 0 := by simp at hk; exact hk
    subst e
    exact (Blk.new w [.int .i64 y] 3).cell 0 rfl⟩⟩
set_option maxHeartbeats 2000000
theorem appliesS_any (c : CodeD) (q : QueryD) (cv rv fv : Value) (w : World) (h : CodeIn w.cell? cv rv fv c) : Calls Tryz.prog 7 #[codeV cv rv fv, queryV q] w (Ret3 (appliesF c q) (appliesC c q) (errS c q) w) := by
  have HV := hide (fun W (hb : Below w.heap.size w W) => validS_any c cv rv fv W (h.below hb))
  have HA := hide (fun W => asksS_any q W)
  obtain ⟨P, hP⟩ : ∃ P : Nat → Bool, (fun i => statesB (c.facts.getD i fact0) q) = P := ⟨_, rfl⟩
  obtain ⟨R, hR⟩ : ∃ R : Nat → Bool, (fun i => rulesB c i q) = R := ⟨_, rfl⟩
  have HP := hide (fun i => congrFun hP i)
  have HR := hide (fun i => congrFun hR i)
  have HQ : Hid (validC c = true → asksB q = true → appliesF c q = upTo P c.facts.length ∧ appliesC c q = upTo R c.clauses.length ∧ errS c q = 0) := hide fun h1 h2 => by
    unfold appliesF appliesC errS; rw [h1, h2, ← hP, ← hR]; exact ⟨rfl, rfl, rfl⟩
  have HN : Hid ((validC c && asksB q) = false → appliesF c q = [] ∧ appliesC c q = [] ∧ errS c q = 310) := hide fun h1 => by
    unfold appliesF appliesC errS; rw [h1]; exact ⟨rfl, rfl, rfl⟩
  clear hP hR
  generalize appliesF c q = AF at HQ HN ⊢
  generalize appliesC c q = AC at HQ HN ⊢
  generalize errS c q = AE at HQ HN ⊢
  have H := hide h
  obtain ⟨⟨ca, cn, rfl, -, -, -⟩, ⟨ra, rn, rfl, -, -, -⟩, ⟨fa, fn, rfl, hf1, hf2, -⟩⟩ := id h
  clear h
  go_enter Tryz.func7, Tryz.ntmps7
  go_wp2_with fail
  generalize hX1 : World.alloc w _ = X1
  have zX1 : X1.heap.size = w.heap.size + 1 := by rw [← hX1]; simp
  have bX1 : Below w.heap.size w X1 := by rw [← hX1]; exact bal w _
  have bC_1 : Blk X1 (w.heap.size) [.slice ca c.clauses.length cn, .slice ra c.repeals.length rn, .slice fa c.facts.length fn] 32 := by rw [← hX1]; exact Blk.newA w _ (by first | rfl | simp)
  generalize hX2 : World.alloc X1 _ = X2
  have zX2 : X2.heap.size = w.heap.size + 1 + 1 := by rw [← hX2]; simp [zX1]
  have bX2 : Below X1.heap.size X1 X2 := by rw [← hX2]; exact bal X1 _
  have bQ : Blk X2 (w.heap.size + 1) (queryC q) 40 := by rw [← hX2, ← zX1]; exact Blk.newA X1 _ (by first | rfl | simp)
  have bC := bC_1.later bX2
  have Xb := below2 (bX1) bX2
  have Xz := zX2
  clear hX1 zX1 bX1 hX2 zX2 bX2 bC_1
  have c0 := bC.cell 0 rfl
  have c1 := bC.cell 1 rfl
  have c2 := bC.cell 2 rfl
  go_wp2_with fail
  refine (HV.out _ Xb).mono ?_
  rintro e w2 ⟨rfl, hw2⟩
  have X2 := below2 Xb hw2
  have bQ2 := bQ.later hw2
  have q0 := bQ2.cell 0 rfl
  have q1 := bQ2.cell 1 rfl
  have q2 := bQ2.cell 2 rfl
  have q3 := bQ2.cell 3 rfl
  cases hv : validC c
  · obtain ⟨rfl, rfl, rfl⟩ := HN.out (by rw [hv]; rfl)
    go_wp2_with fail
    go_ret3
    exact ⟨_, _, rfl, IntsIn.nil _, IntsIn.nil _, X2⟩
  go_wp2_with fail
  refine (HA.out _).mono ?_
  rintro e w3 ⟨rfl, hw3⟩
  have X3 := below2 X2 hw3
  cases hq : asksB q
  · obtain ⟨rfl, rfl, rfl⟩ := HN.out (by rw [hv, hq]; rfl)
    go_wp2_with fail
    go_ret3
    exact ⟨_, _, rfl, IntsIn.nil _, IntsIn.nil _, X3⟩
  obtain ⟨rfl, rfl, rfl⟩ := HQ.out hv hq
  have bC3 := (bC.later hw2).later hw3
  have bQ3 := bQ2.later hw3
  have d2 := bC3.cell 2 rfl
  go_wp2_with fail
  have hl1 : c.facts.length ≤ 20 := by simp only [validC, Bool.and_eq_true, decide_eq_true_eq] at hv; exact hv.1.1.1.2
  have hl2 : c.clauses.length ≤ 20 := by simp only [validC, Bool.and_eq_true, decide_eq_true_eq] at hv; exact hv.1.1.1.1.1
  have HL1 := hide hl1
  have HL2 := hide hl2
  have HVV := hide hv
  have hV2 := hide hv
  clear hv hq c0 c1 c2 q0 q1 q2 q3 d2
  go_loopw [7, 23] (fun v i wr => ∃ (k : Nat), k ≤ c.facts.length ∧ i = .int .i64 k ∧ OwnI wr w3.heap.size v (upTo P k) ∧ Below w3.heap.size w3 wr) (fun _ i _ => c.facts.length - (intOf i).toNat)
  case atStart => exact ⟨0, by omega, rfl, OwnI.nil _ _, Below.refl _ _⟩
  case round =>
    obtain ⟨k, hk, rfl, hown, hbr⟩ := hrel
    by_cases hlt : k < c.facts.length
    · have Xr := below2 X3 hbr
      obtain ⟨fb, fo, e, hcf⟩ := ((H.out.below Xr).fa).cell hlt
      cases e
      have bQr := bQ3.later hbr
      have hs := fact_spell (valid_fact hV2.out hlt)
      have HS := hide (fun W => statesS_any (c.facts.getD k fact0) q W (by omega) (by omega) (by omega) (by omega))
      rw [show statesB (c.facts.getD k fact0) q = P k from HP.out k] at HS
      have HT := hide (fun h => upTo_ins (p := P) (k := k) h)
      have HU := hide (fun h => upTo_not (p := P) (k := k) h)
      have ha := upTo_asc P k
      have hln := upTo_len P k
      have q0 := fun o => keep (bal wr o) (bQr.cell 0 rfl)
      have q1 := fun o => keep (bal wr o) (bQr.cell 1 rfl)
      have q2 := fun o => keep (bal wr o) (bQr.cell 2 rfl)
      have q3 := fun o => keep (bal wr o) (bQr.cell 3 rfl)
      clear hs
      generalize c.facts.getD k fact0 = x at hcf HS
      have f0 : wr.cell? ⟨fb, fo + k * 6, none⟩ = some (.int .i64 x.thing) := hcf 0 _ rfl
      have f1 : wr.cell? ⟨fb, fo + k * 6 + 1, none⟩ = some (.int .i64 x.says) := hcf 1 _ rfl
      have f2 : wr.cell? ⟨fb, fo + k * 6 + 2, none⟩ = some (.int .i64 x.sf) := hcf 2 _ rfl
      have f3 : wr.cell? ⟨fb, fo + k * 6 + 3, none⟩ = some (.int .i64 x.st) := hcf 3 _ rfl
      have f4 : wr.cell? ⟨fb, fo + k * 6 + 4, none⟩ = some (.int .i64 x.kf) := hcf 4 _ rfl
      have f5 : wr.cell? ⟨fb, fo + k * 6 + 5, none⟩ = some (.int .i64 x.kt) := hcf 5 _ rfl
      clear hcf
      go_wp2_with fail
      generalize hwx : wr.alloc _ = wx
      have bx : Below wr.heap.size wr wx := by rw [← hwx]; exact bal wr _
      clear hwx q0 q1 q2 q3 f0 f1 f2 f3 f4 f5
      refine (HS.out _).mono ?_
      rintro e w4 ⟨rfl, hw4⟩
      have b4 := below2 bx hw4
      have own4 := hown.later b4
      have B4 := hbr.trans (b4.mono hbr.size)
      cases hp : P k
      · rw [HU.out hp] at own4
        go_wp2_with fail
        go_roundw
        case rel => exact ⟨k + 1, by omega, by go_num, own4, B4⟩
        case measure => simp [intOf]; omega
      · go_wp2_with fail
        have hone := one_in w4 (k : Int)
        generalize hwy : w4.alloc _ = wy at hone ⊢
        have by4 : Below w4.heap.size w4 wy := by rw [← hwy]; exact bal w4 _
        clear hwy
        have own5 := own4.later by4
        have B5 := B4.trans (by4.mono B4.size)
        refine (insertS_any _ _ _ _ w3.heap.size wy own5 hone ha (by have := HL1.out; omega) B5.size).mono ?_
        rintro e w6 h6
        obtain ⟨v6, rfl, own6, hb6⟩ := h6.low own5 B5.size
        rw [HT.out hp] at own6
        have B6 := B5.trans hb6
        clear own4 own5 hone h6 ha hln hown
        go_wp2_with fail
        go_roundw
        case rel => exact ⟨k + 1, by omega, by go_num, own6, B6⟩
        case measure => simp [intOf]; omega
    · obtain rfl : k = c.facts.length := by omega
      have Xr := below2 X3 hbr
      have bC4 := bC3.later hbr
      have bQ4 := bQ3.later hbr
      have c0 := bC4.cell 0 rfl
      go_wp2_with fail
      obtain ⟨wf, rfl⟩ : ∃ wf, wf = wr := ⟨_, rfl⟩
      go_loopw [8, 39] (fun v i wz => ∃ (k : Nat), k ≤ c.clauses.length ∧ i = .int .i64 k ∧ OwnI wz wf.heap.size v (upTo R k) ∧ Below wf.heap.size wf wz) (fun _ i _ => c.clauses.length - (intOf i).toNat)
      case atStart => exact ⟨0, by omega, rfl, OwnI.nil _ _, Below.refl _ _⟩
      case round =>
        obtain ⟨k, hk, rfl, hown2, hbz⟩ := hrel
        by_cases hlt2 : k < c.clauses.length
        · have Xz := below2 Xr hbz
          have bCz := bC4.later hbz
          have bQz := bQ4.later hbz
          have HS := hide (fun W (hb : Below w.heap.size w W) => rulesS_any c k q _ _ _ W (H.out.below hb) hV2.out hlt2)
          rw [show rulesB c k q = R k from HR.out k] at HS
          have HT := hide (fun h => upTo_ins (p := R) (k := k) h)
          have HU := hide (fun h => upTo_not (p := R) (k := k) h)
          have ha := upTo_asc R k
          have hln := upTo_len R k
          have g0 := bCz.cell 0 rfl
          have g1 := bCz.cell 1 rfl
          have g2 := bCz.cell 2 rfl
          have q0 := bQz.cell 0 rfl
          have q1 := bQz.cell 1 rfl
          have q2 := bQz.cell 2 rfl
          have q3 := bQz.cell 3 rfl
          go_wp2_with fail
          refine (HS.out _ Xz).mono ?_
          rintro e w4 ⟨rfl, hw4⟩
          have own4 := hown2.later hw4
          have B4 := hbz.trans (hw4.mono hbz.size)
          cases hp : R k
          · rw [HU.out hp] at own4
            go_wp2_with fail
            go_roundw
            case rel => exact ⟨k + 1, by omega, by go_num, own4, B4⟩
            case measure => simp [intOf]; omega
          · go_wp2_with fail
            have hone := one_in w4 (k : Int)
            generalize hwy : w4.alloc _ = wy at hone ⊢
            have by4 : Below w4.heap.size w4 wy := by rw [← hwy]; exact bal w4 _
            clear hwy
            have own5 := own4.later by4
            have B5 := B4.trans (by4.mono B4.size)
            refine (insertS_any _ _ _ _ wf.heap.size wy own5 hone ha (by have := HL2.out; omega) B5.size).mono ?_
            rintro e w6 h6
            obtain ⟨v6, rfl, own6, hb6⟩ := h6.low own5 B5.size
            rw [HT.out hp] at own6
            have B6 := B5.trans hb6
            clear own4 own5 hone h6 ha hln hown2
            go_wp2_with fail
            go_roundw
            case rel => exact ⟨k + 1, by omega, by go_num, own6, B6⟩
            case measure => simp [intOf]; omega
        · obtain rfl : k = c.clauses.length := by omega
          have own1 := hown.later hbz
          go_wp2_with fail
          go_ret3
          exact ⟨_, _, rfl, own1.intsF X3.size, hown2.intsF Xr.size, below2 Xr hbz⟩
end Go.Proofs.YtdjldidfnddpmaaGreatDoor
