/- Register: slices of records in memory; the walk of Valid. Conditions: how the arguments lie in memory. -/
import Derived.Test.YtoofkahklboojaaDoorRkB
namespace Go.Proofs.YtoofkahklboojaaDoor
open Go.RowKit

/-- a slice of records of k cells each -/
def RecIn {α : Type} (f : α → List Value) (d : α) (k : Nat) (c : Rd) (v : Value) (l : List α) : Prop :=
  ∃ a n, v = .slice a l.length n ∧ l.length ≤ n ∧ n ≤ 9223372036854775807 ∧ ∀ i, i < l.length → ∃ b o, a = some ⟨b, o, none⟩ ∧ ∀ j u, (f (l.getD i d))[j]? = some u → c ⟨b, o + i * k + j, none⟩ = some u
section
variable {α : Type} {f : α → List Value} {d : α} {k : Nat}
theorem RecIn.keeps {c c' : Rd} {v : Value} {l : List α} (hk : Keeps c c') (h : RecIn f d k c v l) : RecIn f d k c' v l := by
  obtain ⟨a, n, h1, h2, h3, h4⟩ := h
  exact ⟨a, n, h1, h2, h3, fun i hi => let ⟨b, o, e, hc⟩ := h4 i hi; ⟨b, o, e, fun j u hu => hk _ _ (hc j u hu)⟩⟩
theorem RecIn.below {w W : World} {v : Value} {l : List α} (hb : Below w.heap.size w W) (h : RecIn f d k w.cell? v l) : RecIn f d k W.cell? v l := h.keeps (keeps_of_below hb)
theorem RecIn.nil (c : Rd) : RecIn f d k c (.slice none 0 0) [] := ⟨none, 0, rfl, Nat.le_refl _, by omega, fun i hi => by simp at hi⟩
theorem RecIn.of_own {w : World} {B B' : Nat} {e : TypeId} {v : Value} {l : List α} (h : OwnR w B e k v (l.map f)) (hk : ∀ x, (f x).length = k) (hB : B' ≤ B) : RecIn f d k (frm B' w) v l := by
  rcases h.form with ⟨rfl, e2⟩ | ⟨g, c, cur, rfl, e1, e2, e3, e4⟩
  · obtain rfl : l = [] := by cases l with | nil => rfl | cons => simp at e2
    exact RecIn.nil _
  · rw [List.length_map] at e3
    refine ⟨some ⟨g, 0, none⟩, c, by rw [List.length_map], e3, by simpa [maxLen] using e4, fun i hi => ⟨g, 0, rfl, fun j u hu => ?_⟩⟩
    rw [Nat.zero_add]
    have hi' : (l.map f).getD i [] = f (l.getD i d) := by
      rw [List.getD_eq_getElem?_getD, List.getElem?_map, List.getElem?_eq_getElem hi, List.getD_eq_getElem?_getD, List.getElem?_eq_getElem hi]; rfl
    have hj : j < k := by rw [← hk (l.getD i d)]; exact (List.getElem?_eq_some_iff.1 hu).1
    exact frm_pos (by omega) (h.cell i j (by rw [List.length_map]; exact hi) hj (by rw [hi']; exact hu))
theorem RecIn.at {B : Nat} {w : World} {v : Value} {l : List α} (h : RecIn f d k (frm B w) v l) : RecIn f d k w.cell? v l := h.keeps (keeps_frm B w)
end
def dot0 : DotD := ⟨0, 0, 0, 0⟩
def dotC (p : DotD) : List Value := [iV p.id, iV p.x, iV p.y, iV p.tol]
abbrev DotsIn (c : Rd) (v : Value) (l : List DotD) : Prop := RecIn dotC dot0 4 c v l
abbrev DotsAt (w : World) (v : Value) (l : List DotD) : Prop := RecIn dotC dot0 4 w.cell? v l
/-- is the element k in order? -/
def okAt (l : List DotD) (k : Nat) : Bool := (k == 0 || decide ((l.getD (k - 1) dot0).id < (l.getD k dot0).id)) && dotOk (l.getD k dot0)
theorem okAt_succ (p q : DotD) (t : List DotD) (k : Nat) : okAt (p :: q :: t) (k + 2) = okAt (q :: t) (k + 1) := by
  unfold okAt; simp
theorem valid_ups : ∀ (l : List DotD), (ascB l && l.all dotOk) = true ↔ ∀ i, i < l.length → okAt l i = true
  | [] => by simp [ascB]
  | [p] => by
    simp only [ascB, List.all_cons, List.all_nil, Bool.and_true, Bool.true_and]
    constructor
    · intro h i hi
      obtain rfl : i = 0 := by simpa using hi
      simp [okAt, h]
    · intro h
      have := h 0 (by simp)
      simpa [okAt] using this
  | p :: q :: t => by
    have ih := valid_ups (q :: t)
    rw [ascB, List.all_cons]
    constructor
    · intro h i hi
      simp only [Bool.and_eq_true, decide_eq_true_eq] at h
      obtain ⟨⟨h1, h2⟩, h3, h4⟩ := h
      match i with
      | 0 => simp [okAt, h3]
      | 1 => 
        have := ih.1 (by rw [h2, h4]; rfl) 0 (by simp)
        simp [okAt] at this ⊢
        exact ⟨h1, this⟩
      | i + 2 =>
        rw [okAt_succ]
        exact ih.1 (by rw [h2, h4]; rfl) (i + 1) (by simp at hi ⊢; omega)
    · intro h
      have h0 := h 0 (by simp)
      have h1 := h 1 (by simp)
      have hh := ih.2 (fun i hi => by
        match i with
        | 0 => simp [okAt] at h1 ⊢; exact h1.2
        | i + 1 => rw [← okAt_succ p]; exact h (i + 2) (by simp at hi ⊢; omega))
      simp only [Bool.and_eq_true, decide_eq_true_eq] at hh ⊢
      simp [okAt] at h0 h1
      exact ⟨⟨h1.1, hh.1⟩, h0, hh.2⟩
theorem valid_bad {l : List DotD} {k : Nat} (hk : k < l.length) (h : okAt l k = false) : validD l = false := by
  unfold validD
  cases hv : (ascB l && l.all dotOk)
  · simp
  · rw [(valid_ups l).1 hv k hk] at h; cases h
theorem valid_end {l : List DotD} (h : ∀ i, i < l.length → okAt l i = true) : validD l = decide (l.length ≤ 12) := by
  unfold validD; rw [(valid_ups l).2 h, Bool.true_and]
theorem dotOk_in (p : DotD) : dotOk p = (isInN 0 p.id 99 && isInN (-1000) p.x 1000 && isInN (-1000) p.y 1000 && isInN 0 p.tol 50) := by
  unfold dotOk isInN; rw [Bool.eq_iff_iff]; simp; omega
set_option maxRecDepth 20000 in
set_option maxHeartbeats 4000000 in
theorem rvalid_any (l : List DotD) (v : Value) (w : World) (hv : DotsAt w v l) :
    Calls Tryd.prog 22 #[v] w (Ret (.bool (validD l)) w) := by
  obtain ⟨a, c, rfl, hlc, hcm, hc⟩ := hv
  have hm1 : (l.length : Int) ≤ 9223372036854775807 := by omega
  go_enter Tryd.func22, Tryd.ntmps22
  go_wp2_with fail
  go_loopw [8] (fun i wr => ∃ (k : Nat), k ≤ l.length ∧ i = .int .i64 k ∧ Hid (∀ i, i < k → okAt l i = true) ∧ Below w.heap.size w wr) (fun i _ => l.length - (intOf i).toNat)
  case atStart => exact ⟨0, by omega, rfl, hide fun i hi => absurd hi (by omega), Below.refl _ _⟩
  case round =>
    obtain ⟨k, hk, rfl, HA, hbr⟩ := hrel
    by_cases hlt : k < l.length
    · obtain ⟨b, o, rfl, hck⟩ := hc k hlt
      have HN := hide (fun h => valid_bad (l := l) hlt h)
      have HK : Hid (okAt l k = ((k == 0 || decide ((l.getD (k - 1) dot0).id < (l.getD k dot0).id)) && (isInN 0 (l.getD k dot0).id 99 && isInN (-1000) (l.getD k dot0).x 1000 && isInN (-1000) (l.getD k dot0).y 1000 && isInN 0 (l.getD k dot0).tol 50))) := hide (by
        unfold okAt; rw [dotOk_in])
      have hpr : 0 < k → w.cell? ⟨b, o + (k - 1) * 4, none⟩ = some (iV (l.getD (k - 1) dot0).id) := fun h0 => by
        obtain ⟨b', o', e, hp⟩ := hc (k - 1) (by omega)
        cases e
        exact hp 0 _ rfl
      generalize l.getD (k - 1) dot0 = y at HK hpr
      generalize l.getD k dot0 = x at HK hck
      obtain ⟨xi, xx, xy, xt⟩ := x
      obtain ⟨yi, yx, yy, yt⟩ := y
      have e0 : wr.cell? ⟨b, o + k * 4, none⟩ = some (iV xi) := keep hbr (hck 0 _ rfl)
      have e1 : wr.cell? ⟨b, o + k * 4 + 1, none⟩ = some (iV xx) := keep hbr (hck 1 _ rfl)
      have e2 : wr.cell? ⟨b, o + k * 4 + 2, none⟩ = some (iV xy) := keep hbr (hck 2 _ rfl)
      have e3 : wr.cell? ⟨b, o + k * 4 + 3, none⟩ = some (iV xt) := keep hbr (hck 3 _ rfl)
      dsimp only at HK hpr
      clear hck hc
      by_cases h0 : k = 0
      · have q0 : ((k : Int) == 0) = true := by simp [h0]
        have HK1 : Hid (okAt l k = (isInN 0 xi 99 && isInN (-1000) xx 1000 && isInN (-1000) xy 1000 && isInN 0 xt 50)) := hide (by rw [HK.out, h0]; rfl)
        clear hpr h0 HK
        go_wp2_with fail
        generalize hXX : World.alloc wr _ = X
        have hbX : Below wr.heap.size wr X := by rw [← hXX]; exact bal wr _
        have bX0 : Blk X wr.heap.size [iV xi, iV xx, iV xy, iV xt] 53 := by rw [← hXX]; exact Blk.newA wr _ rfl
        have D0 := bwc (bX0.cell 0 rfl)
        skip
        clear hXX
        refine wp_region_bw (by kernel_rfl) (by kernel_rfl) ?_
        repeat (go_big_quiet_step (fail))
        refine wpQuiet_nil ?_
        rintro _ ⟨i, rfl⟩
        have bX := bX0.later i.h
        have hbr2 := below2 hbr (below2 hbX i.h)
        have c0 := bX.cell 0 rfl
        clear D0 q0
        go_wp2_with fail
        cases h1 : isInN 0 xi 99
        · refine (risIn_any _ _ _ _).mono ?_
          rw [h1]
          rintro e w1 ⟨rfl, hw1⟩
          go_wp2_with fail
          go_ret
          exact ⟨ret_bool (HN.out (by rw [HK1.out]; simp [h1])).symm, below2 hbr2 hw1⟩
        · refine (risIn_any _ _ _ _).mono ?_
          rw [h1]
          rintro e w1 ⟨rfl, hw1⟩
          have c1 := (bX.later hw1).cell 1 rfl
          go_wp2_with fail
          cases h2 : isInN (-1000) xx 1000
          · refine (risIn_any _ _ _ _).mono ?_
            rw [h2]
            rintro e w2 ⟨rfl, hw2⟩
            go_wp2_with fail
            go_ret
            exact ⟨ret_bool (HN.out (by rw [HK1.out]; simp [h2])).symm, below2 hbr2 (below2 hw1 hw2)⟩
          · refine (risIn_any _ _ _ _).mono ?_
            rw [h2]
            rintro e w2 ⟨rfl, hw2⟩
            have c2 := (bX.later (below2 hw1 hw2)).cell 2 rfl
            go_wp2_with fail
            cases h3 : isInN (-1000) xy 1000
            · refine (risIn_any _ _ _ _).mono ?_
              rw [h3]
              rintro e w3 ⟨rfl, hw3⟩
              go_wp2_with fail
              go_ret
              exact ⟨ret_bool (HN.out (by rw [HK1.out]; simp [h3])).symm, below2 hbr2 (below2 hw1 (below2 hw2 hw3))⟩
            · refine (risIn_any _ _ _ _).mono ?_
              rw [h3]
              rintro e w3 ⟨rfl, hw3⟩
              have c3 := (bX.later (below2 hw1 (below2 hw2 hw3))).cell 3 rfl
              go_wp2_with fail
              cases h4 : isInN 0 xt 50
              · refine (risIn_any _ _ _ _).mono ?_
                rw [h4]
                rintro e w4 ⟨rfl, hw4⟩
                go_wp2_with fail
                go_ret
                exact ⟨ret_bool (HN.out (by rw [HK1.out]; simp [h4])).symm, below2 hbr2 (below2 hw1 (below2 hw2 (below2 hw3 hw4)))⟩
              · refine (risIn_any _ _ _ _).mono ?_
                rw [h4]
                rintro e w4 ⟨rfl, hw4⟩
                have HOK : Hid (okAt l k = true) := hide (by rw [HK1.out, h1, h2, h3, h4]; rfl)
                go_wp2_with fail
                go_roundw
                case rel =>
                  refine ⟨k + 1, by omega, by go_num, hide fun i hi => ?_, below2 hbr2 (below2 hw1 (below2 hw2 (below2 hw3 hw4)))⟩
                  rcases Nat.lt_or_ge i k with h | h
                  · exact HA.out i h
                  · obtain rfl : i = k := by omega
                    exact HOK.out
                case measure => simp [intOf]; omega
      · have q0 : ((k : Int) == 0) = false := by simp; omega
        have ep := keep hbr (hpr (by omega))
        have hk1 : 1 ≤ k := by omega
        have hq : (k == 0) = false := by simp; omega
        have HQ := hide hq
        clear hpr h0 hq
        by_cases hlp : yi < xi
        · have HK1 : Hid (okAt l k = (isInN 0 xi 99 && isInN (-1000) xx 1000 && isInN (-1000) xy 1000 && isInN 0 xt 50)) := hide (by rw [HK.out, HQ.out]; simp [hlp])
          clear HK
          have ht : decide (yi < xi) = true := by simpa using hlp
          go_wp2_with fail
          generalize hXX : World.alloc wr _ = X
          have hbX : Below wr.heap.size wr X := by rw [← hXX]; exact bal wr _
          have bX0 : Blk X wr.heap.size [iV xi, iV xx, iV xy, iV xt] 53 := by rw [← hXX]; exact Blk.newA wr _ rfl
          have D0 := bwc (bX0.cell 0 rfl)
          have Dp := bwc (keep hbX ep)
          clear hXX
          refine wp_region_bw (by kernel_rfl) (by kernel_rfl) ?_
          repeat (go_big_quiet_step (fail))
          refine wpQuiet_nil ?_
          rintro _ ⟨i, rfl⟩
          have bX := bX0.later i.h
          have hbr2 := below2 hbr (below2 hbX i.h)
          have c0 := bX.cell 0 rfl
          clear D0 Dp q0 ep
          go_wp2_with fail
          cases h1 : isInN 0 xi 99
          · refine (risIn_any _ _ _ _).mono ?_
            rw [h1]
            rintro e w1 ⟨rfl, hw1⟩
            go_wp2_with fail
            go_ret
            exact ⟨ret_bool (HN.out (by rw [HK1.out]; simp [h1])).symm, below2 hbr2 hw1⟩
          · refine (risIn_any _ _ _ _).mono ?_
            rw [h1]
            rintro e w1 ⟨rfl, hw1⟩
            have c1 := (bX.later hw1).cell 1 rfl
            go_wp2_with fail
            cases h2 : isInN (-1000) xx 1000
            · refine (risIn_any _ _ _ _).mono ?_
              rw [h2]
              rintro e w2 ⟨rfl, hw2⟩
              go_wp2_with fail
              go_ret
              exact ⟨ret_bool (HN.out (by rw [HK1.out]; simp [h2])).symm, below2 hbr2 (below2 hw1 hw2)⟩
            · refine (risIn_any _ _ _ _).mono ?_
              rw [h2]
              rintro e w2 ⟨rfl, hw2⟩
              have c2 := (bX.later (below2 hw1 hw2)).cell 2 rfl
              go_wp2_with fail
              cases h3 : isInN (-1000) xy 1000
              · refine (risIn_any _ _ _ _).mono ?_
                rw [h3]
                rintro e w3 ⟨rfl, hw3⟩
                go_wp2_with fail
                go_ret
                exact ⟨ret_bool (HN.out (by rw [HK1.out]; simp [h3])).symm, below2 hbr2 (below2 hw1 (below2 hw2 hw3))⟩
              · refine (risIn_any _ _ _ _).mono ?_
                rw [h3]
                rintro e w3 ⟨rfl, hw3⟩
                have c3 := (bX.later (below2 hw1 (below2 hw2 hw3))).cell 3 rfl
                go_wp2_with fail
                cases h4 : isInN 0 xt 50
                · refine (risIn_any _ _ _ _).mono ?_
                  rw [h4]
                  rintro e w4 ⟨rfl, hw4⟩
                  go_wp2_with fail
                  go_ret
                  exact ⟨ret_bool (HN.out (by rw [HK1.out]; simp [h4])).symm, below2 hbr2 (below2 hw1 (below2 hw2 (below2 hw3 hw4)))⟩
                · refine (risIn_any _ _ _ _).mono ?_
                  rw [h4]
                  rintro e w4 ⟨rfl, hw4⟩
                  have HOK : Hid (okAt l k = true) := hide (by rw [HK1.out, h1, h2, h3, h4]; rfl)
                  go_wp2_with fail
                  go_roundw
                  case rel =>
                    refine ⟨k + 1, by omega, by go_num, hide fun i hi => ?_, below2 hbr2 (below2 hw1 (below2 hw2 (below2 hw3 hw4)))⟩
                    rcases Nat.lt_or_ge i k with h | h
                    · exact HA.out i h
                    · obtain rfl : i = k := by omega
                      exact HOK.out
                  case measure => simp [intOf]; omega
        · have HK1 : Hid (okAt l k = false) := hide (by rw [HK.out, HQ.out]; simp; intro h; omega)
          have ht : decide (yi < xi) = false := by simpa using hlp
          clear HK
          go_wp2_with fail
          generalize hXX : World.alloc wr _ = X
          have hbX : Below wr.heap.size wr X := by rw [← hXX]; exact bal wr _
          have bX0 : Blk X wr.heap.size [iV xi, iV xx, iV xy, iV xt] 53 := by rw [← hXX]; exact Blk.newA wr _ rfl
          have D0 := bwc (bX0.cell 0 rfl)
          have Dp := bwc (keep hbX ep)
          clear hXX
          refine wp_region_bw (by kernel_rfl) (by kernel_rfl) ?_
          repeat (go_big_quiet_step (fail))
          refine wpQuiet_nil ?_
          rintro _ ⟨i, rfl⟩
          have bX := bX0.later i.h
          have hbr2 := below2 hbr (below2 hbX i.h)
          have c0 := bX.cell 0 rfl
          clear D0 Dp q0 ep
          go_wp2_with fail
          go_ret
          exact ⟨ret_bool (HN.out HK1.out).symm, hbr2⟩
    · obtain rfl : k = l.length := by omega
      have HV := hide (valid_end HA.out)
      go_wp2_with fail
      go_ret
      exact ⟨ret_bool (by rw [HV.out]; exact decide_eq_decide.2 (by omega)), hbr⟩
end Go.Proofs.YtoofkahklboojaaDoor
