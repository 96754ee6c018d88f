/- Register: walks of Way and Measured. Conditions: how the truth lies in memory; that integers are of 64 bits; sizes. -/
import Derived.Test.YtoofkahklboojaaDoorRkM
import Derived.IntWalk
namespace Go.Proofs.YtoofkahklboojaaDoor
open Go.RowKit

def triC (p : Int × Int × Int) : List Value := [iV p.1, iV p.2.1, iV p.2.2]
def quadC (p : Int × Int × Int × Int) : List Value := [iV p.1, iV p.2.1, iV p.2.2.1, iV p.2.2.2]
/-- a truth in memory -/
structure TruthIn (c : Rd) (mv fv tv ev : Value) (t : TruthD) : Prop where
  marks : RecIn idsC (0, 0) 2 c mv t.marks
  finds : RecIn triC (0, 0, 0) 3 c fv t.finds
  tols : IntsIn c tv t.tols
  errs : RecIn quadC (0, 0, 0, 0) 4 c ev t.errs
/-- its integers are of 64 bits -/
structure Truth64 (t : TruthD) : Prop where
  marks : ∀ p ∈ t.marks, i64B p.1 ∧ i64B p.2
  finds : ∀ p ∈ t.finds, i64B p.1 ∧ i64B p.2.1 ∧ i64B p.2.2
  mot : i64B t.mot.1 ∧ i64B t.mot.2.1 ∧ i64B t.mot.2.2
  tols : ∀ x ∈ t.tols, i64B x
  errs : ∀ p ∈ t.errs, i64B p.1 ∧ i64B p.2.1 ∧ i64B p.2.2.1 ∧ i64B p.2.2.2
abbrev TruthAt (w : World) (mv fv tv ev : Value) (t : TruthD) : Prop := TruthIn w.cell? mv fv tv ev t
theorem TruthIn.below {w W : World} {mv fv tv ev : Value} {t : TruthD} (hb : Below w.heap.size w W) (h : TruthAt w mv fv tv ev t) : TruthAt W mv fv tv ev t :=
  ⟨h.marks.below hb, h.finds.below hb, h.tols.keeps (keeps_of_below hb), h.errs.below hb⟩
abbrev truthC (mv fv tv ev : Value) (t : TruthD) : List Value := [mv, fv, iV t.mot.1, iV t.mot.2.1, iV t.mot.2.2, tv, ev]
abbrev truthV (mv fv tv ev : Value) (t : TruthD) : Value := .agg #[mv, fv, iV t.mot.1, iV t.mot.2.1, iV t.mot.2.2, tv, ev]
set_option maxRecDepth 20000 in
set_option maxHeartbeats 1000000 in
theorem way_any (mv fv tv ev : Value) (t : TruthD) (w : World) (hm : i64B t.mot.1 ∧ i64B t.mot.2.1 ∧ i64B t.mot.2.2) (h1 : ∃ a n c, mv = .slice a n c) (h2 : ∃ a n c, fv = .slice a n c) (h3 : ∃ a n c, tv = .slice a n c) (h4 : ∃ a n c, ev = .slice a n c) :
    Calls Tryd.prog 14 #[truthV mv fv tv ev t] w (Ret (motV (wayD t)) w) := by
  have HF : Hid (wayD t = ⟨pickR t.mot.1 4, pickR t.mot.2.1 601 - 300, pickR t.mot.2.2 601 - 300⟩) := hide rfl
  have HP0 := hide (fun W => pickr_any t.mot.1 4 W hm.1 (by decide) (by decide))
  have HP1 := hide (fun W => pickr_any t.mot.2.1 601 W hm.2.1 (by decide) (by decide))
  have HP2 := hide (fun W => pickr_any t.mot.2.2 601 W hm.2.2 (by decide) (by decide))
  have p1 := pickR_in t.mot.2.1 (n := 601) (by decide)
  have p2 := pickR_in t.mot.2.2 (n := 601) (by decide)
  generalize wayD t = R at *
  generalize pickR t.mot.1 4 = q0 at *
  generalize pickR t.mot.2.1 601 = q1 at *
  generalize pickR t.mot.2.2 601 = q2 at *
  obtain ⟨ms, fs, ⟨m0, m1, m2⟩, ts, es⟩ := t
  dsimp only at *
  obtain ⟨ma, mn, mc, rfl⟩ := h1
  obtain ⟨fa, fn, fc, rfl⟩ := h2
  obtain ⟨ta, tn, tc, rfl⟩ := h3
  obtain ⟨ea, en, ec, rfl⟩ := h4
  obtain ⟨p11, p12⟩ := p1
  obtain ⟨p21, p22⟩ := p2
  clear hm
  go_enter Tryd.func14, Tryd.ntmps14
  go_wp2_with fail
  generalize hX1 : World.alloc w _ = X1
  have zX1 : X1.heap.size = w.heap.size + 1 := by rw [← hX1]; simp
  have bX1 : Below w.heap.size w X1 := by rw [← hX1]; exact bal w _
  have bA_1 : Blk X1 (w.heap.size) [.slice ma mn mc, .slice fa fn fc, iV m0, iV m1, iV m2, .slice ta tn tc, .slice ea en ec] 28 := by rw [← hX1]; exact Blk.newA w _ (by first | rfl | simp)
  generalize hX2 : World.alloc X1 _ = X2
  have zX2 : X2.heap.size = w.heap.size + 1 + 1 := by rw [← hX2]; simp [zX1]
  have bX2 : Below X1.heap.size X1 X2 := by rw [← hX2]; exact bal X1 _
  have bR : Blk X2 (w.heap.size + 1) [iV 0, iV 0, iV 0] 32 := by rw [← hX2, ← zX1]; exact Blk.newA X1 _ (by first | rfl | simp)
  have bA := bA_1.later bX2
  have Xb := below2 (bX1) bX2
  have Xz := zX2
  clear hX1 zX1 bX1 hX2 zX2 bX2 bA_1
  have hne := hide (show w.heap.size ≠ w.heap.size + 1 by omega)
  have w1 : IntKind.i64.wrap (q1 - 300) = q1 - 300 := IntWalk.i64_in _ (by omega)
  have w2 : IntKind.i64.wrap (q2 - 300) = q2 - 300 := IntWalk.i64_in _ (by omega)
  refine wp_region_inv [some 3, some 4, some 5, some 6, some 7, some 8, some 9, some 10, some 11, some 12, some 13, some 14, some 15, some 16, some 17, none] (fun L vs W => match vs with | [x0, x1, x2, x3, x4, x5, x6, x7, x8, x9, x10, x11, x12, x13, x14, x15] => (BoxG w X2 (w.heap.size + 1) 32 [iV 0, iV 0, iV 0] [iV q0, iV (q1 - 300), iV (q2 - 300)] (L 15) W) ∧ (L 0 = true → x0 = .pointer (some ⟨w.heap.size, 2, none⟩)) ∧ (L 1 = true → x1 = .pointer (some ⟨w.heap.size, 2, none⟩)) ∧ (L 2 = true → x2 = iV m0) ∧ (L 3 = true → x3 = iV q0) ∧ (L 4 = true → x4 = .pointer (some ⟨w.heap.size, 2, none⟩)) ∧ (L 5 = true → x5 = .pointer (some ⟨w.heap.size, 3, none⟩)) ∧ (L 6 = true → x6 = iV m1) ∧ (L 7 = true → x7 = iV q1) ∧ (L 8 = true → x8 = iV (q1 - 300)) ∧ (L 9 = true → x9 = .pointer (some ⟨w.heap.size, 2, none⟩)) ∧ (L 10 = true → x10 = .pointer (some ⟨w.heap.size, 4, none⟩)) ∧ (L 11 = true → x11 = iV m2) ∧ (L 12 = true → x12 = iV q2) ∧ (L 13 = true → x13 = iV (q2 - 300)) ∧ (L 14 = true → x14 = motV ⟨q0, q1 - 300, q2 - 300⟩) ∧ (L 15 = true → True) | _ => False) [_, _, _, _, _, _, _, _, _, _, _, _, _, _, _, undef] (by kernel_rfl) (by kernel_rfl) rfl (by simp only [puts, Act.put, List.setIfInBounds_toArray, List.set_cons_zero, List.set_cons_succ] <;> rfl) ?_ ?_ ?_
  · exact ⟨BoxG.first Xb bR, (fun h => by cases h), (fun h => by cases h), (fun h => by cases h), (fun h => by cases h), (fun h => by cases h), (fun h => by cases h), (fun h => by cases h), (fun h => by cases h), (fun h => by cases h), (fun h => by cases h), (fun h => by cases h), (fun h => by cases h), (fun h => by cases h), (fun h => by cases h), (fun h => by cases h), (fun h => by cases h)⟩
  · refine ⟨?_, ?_, ?_, ?_, ?_, ?_, ?_, ?_, ?_, ?_, ?_, ?_, ?_, ?_, ?_, ?_, trivial⟩
    · intro L vs W hlen hL hD hI K hK
      obtain ⟨x0, x1, x2, x3, x4, x5, x6, x7, x8, x9, x10, x11, x12, x13, x14, x15, rfl⟩ := len16 hlen
      have hG := hI.1
      replace hI := hI.2
      have f0 := hide hI.1
      replace hI := hI.2
      have f1 := hide hI.1
      replace hI := hI.2
      have f2 := hide hI.1
      replace hI := hI.2
      have f3 := hide hI.1
      replace hI := hI.2
      have f4 := hide hI.1
      replace hI := hI.2
      have f5 := hide hI.1
      replace hI := hI.2
      have f6 := hide hI.1
      replace hI := hI.2
      have f7 := hide hI.1
      replace hI := hI.2
      have f8 := hide hI.1
      replace hI := hI.2
      have f9 := hide hI.1
      replace hI := hI.2
      have f10 := hide hI.1
      replace hI := hI.2
      have f11 := hide hI.1
      replace hI := hI.2
      have f12 := hide hI.1
      replace hI := hI.2
      have f13 := hide hI.1
      replace hI := hI.2
      have f14 := hide hI.1
      replace hI := hI.2
      have f15 := hide hI
      clear hI
      have bA' := hG.blk bA hne.out
      have a2 := bA'.cell 2 rfl
      have a3 := bA'.cell 3 rfl
      have a4 := bA'.cell 4 rfl
      try simp only [puts, Act.put, List.setIfInBounds_toArray, List.set_cons_zero, List.set_cons_succ]
      try go_simp
      exact hK.out _ _ _ (by simp only [puts, Act.put, List.setIfInBounds_toArray, List.set_cons_zero, List.set_cons_succ] <;> rfl) ⟨hG, (fun _ => rfl), (fun h => f1.out h), (fun h => f2.out h), (fun h => f3.out h), (fun h => f4.out h), (fun h => f5.out h), (fun h => f6.out h), (fun h => f7.out h), (fun h => f8.out h), (fun h => f9.out h), (fun h => f10.out h), (fun h => f11.out h), (fun h => f12.out h), (fun h => f13.out h), (fun h => f14.out h), (fun h => f15.out h)⟩
    · intro L vs W hlen hL hD hI K hK
      obtain ⟨x0, x1, x2, x3, x4, x5, x6, x7, x8, x9, x10, x11, x12, x13, x14, x15, rfl⟩ := len16 hlen
      have hG := hI.1
      replace hI := hI.2
      have f0 := hide hI.1
      replace hI := hI.2
      have f1 := hide hI.1
      replace hI := hI.2
      have f2 := hide hI.1
      replace hI := hI.2
      have f3 := hide hI.1
      replace hI := hI.2
      have f4 := hide hI.1
      replace hI := hI.2
      have f5 := hide hI.1
      replace hI := hI.2
      have f6 := hide hI.1
      replace hI := hI.2
      have f7 := hide hI.1
      replace hI := hI.2
      have f8 := hide hI.1
      replace hI := hI.2
      have f9 := hide hI.1
      replace hI := hI.2
      have f10 := hide hI.1
      replace hI := hI.2
      have f11 := hide hI.1
      replace hI := hI.2
      have f12 := hide hI.1
      replace hI := hI.2
      have f13 := hide hI.1
      replace hI := hI.2
      have f14 := hide hI.1
      replace hI := hI.2
      have f15 := hide hI
      clear hI
      have bA' := hG.blk bA hne.out
      have a2 := bA'.cell 2 rfl
      have a3 := bA'.cell 3 rfl
      have a4 := bA'.cell 4 rfl
      obtain rfl := f0.out (hD.on 0 (by kernel_rfl))
      try simp only [puts, Act.put, List.setIfInBounds_toArray, List.set_cons_zero, List.set_cons_succ]
      try go_simp
      exact hK.out _ _ _ (by simp only [puts, Act.put, List.setIfInBounds_toArray, List.set_cons_zero, List.set_cons_succ] <;> rfl) ⟨hG, (fun h => f0.out h), (fun _ => rfl), (fun h => f2.out h), (fun h => f3.out h), (fun h => f4.out h), (fun h => f5.out h), (fun h => f6.out h), (fun h => f7.out h), (fun h => f8.out h), (fun h => f9.out h), (fun h => f10.out h), (fun h => f11.out h), (fun h => f12.out h), (fun h => f13.out h), (fun h => f14.out h), (fun h => f15.out h)⟩
    · intro L vs W hlen hL hD hI K hK
      obtain ⟨x0, x1, x2, x3, x4, x5, x6, x7, x8, x9, x10, x11, x12, x13, x14, x15, rfl⟩ := len16 hlen
      have hG := hI.1
      replace hI := hI.2
      have f0 := hide hI.1
      replace hI := hI.2
      have f1 := hide hI.1
      replace hI := hI.2
      have f2 := hide hI.1
      replace hI := hI.2
      have f3 := hide hI.1
      replace hI := hI.2
      have f4 := hide hI.1
      replace hI := hI.2
      have f5 := hide hI.1
      replace hI := hI.2
      have f6 := hide hI.1
      replace hI := hI.2
      have f7 := hide hI.1
      replace hI := hI.2
      have f8 := hide hI.1
      replace hI := hI.2
      have f9 := hide hI.1
      replace hI := hI.2
      have f10 := hide hI.1
      replace hI := hI.2
      have f11 := hide hI.1
      replace hI := hI.2
      have f12 := hide hI.1
      replace hI := hI.2
      have f13 := hide hI.1
      replace hI := hI.2
      have f14 := hide hI.1
      replace hI := hI.2
      have f15 := hide hI
      clear hI
      have bA' := hG.blk bA hne.out
      have a2 := bA'.cell 2 rfl
      have a3 := bA'.cell 3 rfl
      have a4 := bA'.cell 4 rfl
      obtain rfl := f1.out (hD.on 1 (by kernel_rfl))
      try simp only [puts, Act.put, List.setIfInBounds_toArray, List.set_cons_zero, List.set_cons_succ]
      try go_simp
      exact hK.out _ _ _ (by simp only [puts, Act.put, List.setIfInBounds_toArray, List.set_cons_zero, List.set_cons_succ] <;> rfl) ⟨hG, (fun h => f0.out h), (fun h => f1.out h), (fun _ => rfl), (fun h => f3.out h), (fun h => f4.out h), (fun h => f5.out h), (fun h => f6.out h), (fun h => f7.out h), (fun h => f8.out h), (fun h => f9.out h), (fun h => f10.out h), (fun h => f11.out h), (fun h => f12.out h), (fun h => f13.out h), (fun h => f14.out h), (fun h => f15.out h)⟩
    · intro L vs W hlen hL hD hI K hK
      obtain ⟨x0, x1, x2, x3, x4, x5, x6, x7, x8, x9, x10, x11, x12, x13, x14, x15, rfl⟩ := len16 hlen
      have hG := hI.1
      replace hI := hI.2
      have f0 := hide hI.1
      replace hI := hI.2
      have f1 := hide hI.1
      replace hI := hI.2
      have f2 := hide hI.1
      replace hI := hI.2
      have f3 := hide hI.1
      replace hI := hI.2
      have f4 := hide hI.1
      replace hI := hI.2
      have f5 := hide hI.1
      replace hI := hI.2
      have f6 := hide hI.1
      replace hI := hI.2
      have f7 := hide hI.1
      replace hI := hI.2
      have f8 := hide hI.1
      replace hI := hI.2
      have f9 := hide hI.1
      replace hI := hI.2
      have f10 := hide hI.1
      replace hI := hI.2
      have f11 := hide hI.1
      replace hI := hI.2
      have f12 := hide hI.1
      replace hI := hI.2
      have f13 := hide hI.1
      replace hI := hI.2
      have f14 := hide hI.1
      replace hI := hI.2
      have f15 := hide hI
      clear hI
      have bA' := hG.blk bA hne.out
      have a2 := bA'.cell 2 rfl
      have a3 := bA'.cell 3 rfl
      have a4 := bA'.cell 4 rfl
      obtain rfl := f2.out (hD.on 2 (by kernel_rfl))
      try simp only [puts, Act.put, List.setIfInBounds_toArray, List.set_cons_zero, List.set_cons_succ]
      try go_simp
      refine (HP0.out _).mono ?_
      rintro e W' ⟨rfl, hb⟩
      try go_simp
      exact hK.out _ _ _ (by simp only [puts, Act.put, List.setIfInBounds_toArray, List.set_cons_zero, List.set_cons_succ] <;> rfl) ⟨hG.later hb, (fun h => f0.out h), (fun h => f1.out h), (fun h => f2.out h), (fun _ => rfl), (fun h => f4.out h), (fun h => f5.out h), (fun h => f6.out h), (fun h => f7.out h), (fun h => f8.out h), (fun h => f9.out h), (fun h => f10.out h), (fun h => f11.out h), (fun h => f12.out h), (fun h => f13.out h), (fun h => f14.out h), (fun h => f15.out h)⟩
    · intro L vs W hlen hL hD hI K hK
      obtain ⟨x0, x1, x2, x3, x4, x5, x6, x7, x8, x9, x10, x11, x12, x13, x14, x15, rfl⟩ := len16 hlen
      have hG := hI.1
      replace hI := hI.2
      have f0 := hide hI.1
      replace hI := hI.2
      have f1 := hide hI.1
      replace hI := hI.2
      have f2 := hide hI.1
      replace hI := hI.2
      have f3 := hide hI.1
      replace hI := hI.2
      have f4 := hide hI.1
      replace hI := hI.2
      have f5 := hide hI.1
      replace hI := hI.2
      have f6 := hide hI.1
      replace hI := hI.2
      have f7 := hide hI.1
      replace hI := hI.2
      have f8 := hide hI.1
      replace hI := hI.2
      have f9 := hide hI.1
      replace hI := hI.2
      have f10 := hide hI.1
      replace hI := hI.2
      have f11 := hide hI.1
      replace hI := hI.2
      have f12 := hide hI.1
      replace hI := hI.2
      have f13 := hide hI.1
      replace hI := hI.2
      have f14 := hide hI.1
      replace hI := hI.2
      have f15 := hide hI
      clear hI
      have bA' := hG.blk bA hne.out
      have a2 := bA'.cell 2 rfl
      have a3 := bA'.cell 3 rfl
      have a4 := bA'.cell 4 rfl
      try simp only [puts, Act.put, List.setIfInBounds_toArray, List.set_cons_zero, List.set_cons_succ]
      try go_simp
      exact hK.out _ _ _ (by simp only [puts, Act.put, List.setIfInBounds_toArray, List.set_cons_zero, List.set_cons_succ] <;> rfl) ⟨hG, (fun h => f0.out h), (fun h => f1.out h), (fun h => f2.out h), (fun h => f3.out h), (fun _ => rfl), (fun h => f5.out h), (fun h => f6.out h), (fun h => f7.out h), (fun h => f8.out h), (fun h => f9.out h), (fun h => f10.out h), (fun h => f11.out h), (fun h => f12.out h), (fun h => f13.out h), (fun h => f14.out h), (fun h => f15.out h)⟩
    · intro L vs W hlen hL hD hI K hK
      obtain ⟨x0, x1, x2, x3, x4, x5, x6, x7, x8, x9, x10, x11, x12, x13, x14, x15, rfl⟩ := len16 hlen
      have hG := hI.1
      replace hI := hI.2
      have f0 := hide hI.1
      replace hI := hI.2
      have f1 := hide hI.1
      replace hI := hI.2
      have f2 := hide hI.1
      replace hI := hI.2
      have f3 := hide hI.1
      replace hI := hI.2
      have f4 := hide hI.1
      replace hI := hI.2
      have f5 := hide hI.1
      replace hI := hI.2
      have f6 := hide hI.1
      replace hI := hI.2
      have f7 := hide hI.1
      replace hI := hI.2
      have f8 := hide hI.1
      replace hI := hI.2
      have f9 := hide hI.1
      replace hI := hI.2
      have f10 := hide hI.1
      replace hI := hI.2
      have f11 := hide hI.1
      replace hI := hI.2
      have f12 := hide hI.1
      replace hI := hI.2
      have f13 := hide hI.1
      replace hI := hI.2
      have f14 := hide hI.1
      replace hI := hI.2
      have f15 := hide hI
      clear hI
      have bA' := hG.blk bA hne.out
      have a2 := bA'.cell 2 rfl
      have a3 := bA'.cell 3 rfl
      have a4 := bA'.cell 4 rfl
      obtain rfl := f4.out (hD.on 4 (by kernel_rfl))
      try simp only [puts, Act.put, List.setIfInBounds_toArray, List.set_cons_zero, List.set_cons_succ]
      try go_simp
      exact hK.out _ _ _ (by simp only [puts, Act.put, List.setIfInBounds_toArray, List.set_cons_zero, List.set_cons_succ] <;> rfl) ⟨hG, (fun h => f0.out h), (fun h => f1.out h), (fun h => f2.out h), (fun h => f3.out h), (fun h => f4.out h), (fun _ => rfl), (fun h => f6.out h), (fun h => f7.out h), (fun h => f8.out h), (fun h => f9.out h), (fun h => f10.out h), (fun h => f11.out h), (fun h => f12.out h), (fun h => f13.out h), (fun h => f14.out h), (fun h => f15.out h)⟩
    · intro L vs W hlen hL hD hI K hK
      obtain ⟨x0, x1, x2, x3, x4, x5, x6, x7, x8, x9, x10, x11, x12, x13, x14, x15, rfl⟩ := len16 hlen
      have hG := hI.1
      replace hI := hI.2
      have f0 := hide hI.1
      replace hI := hI.2
      have f1 := hide hI.1
      replace hI := hI.2
      have f2 := hide hI.1
      replace hI := hI.2
      have f3 := hide hI.1
      replace hI := hI.2
      have f4 := hide hI.1
      replace hI := hI.2
      have f5 := hide hI.1
      replace hI := hI.2
      have f6 := hide hI.1
      replace hI := hI.2
      have f7 := hide hI.1
      replace hI := hI.2
      have f8 := hide hI.1
      replace hI := hI.2
      have f9 := hide hI.1
      replace hI := hI.2
      have f10 := hide hI.1
      replace hI := hI.2
      have f11 := hide hI.1
      replace hI := hI.2
      have f12 := hide hI.1
      replace hI := hI.2
      have f13 := hide hI.1
      replace hI := hI.2
      have f14 := hide hI.1
      replace hI := hI.2
      have f15 := hide hI
      clear hI
      have bA' := hG.blk bA hne.out
      have a2 := bA'.cell 2 rfl
      have a3 := bA'.cell 3 rfl
      have a4 := bA'.cell 4 rfl
      obtain rfl := f5.out (hD.on 5 (by kernel_rfl))
      try simp only [puts, Act.put, List.setIfInBounds_toArray, List.set_cons_zero, List.set_cons_succ]
      try go_simp
      exact hK.out _ _ _ (by simp only [puts, Act.put, List.setIfInBounds_toArray, List.set_cons_zero, List.set_cons_succ] <;> rfl) ⟨hG, (fun h => f0.out h), (fun h => f1.out h), (fun h => f2.out h), (fun h => f3.out h), (fun h => f4.out h), (fun h => f5.out h), (fun _ => rfl), (fun h => f7.out h), (fun h => f8.out h), (fun h => f9.out h), (fun h => f10.out h), (fun h => f11.out h), (fun h => f12.out h), (fun h => f13.out h), (fun h => f14.out h), (fun h => f15.out h)⟩
    · intro L vs W hlen hL hD hI K hK
      obtain ⟨x0, x1, x2, x3, x4, x5, x6, x7, x8, x9, x10, x11, x12, x13, x14, x15, rfl⟩ := len16 hlen
      have hG := hI.1
      replace hI := hI.2
      have f0 := hide hI.1
      replace hI := hI.2
      have f1 := hide hI.1
      replace hI := hI.2
      have f2 := hide hI.1
      replace hI := hI.2
      have f3 := hide hI.1
      replace hI := hI.2
      have f4 := hide hI.1
      replace hI := hI.2
      have f5 := hide hI.1
      replace hI := hI.2
      have f6 := hide hI.1
      replace hI := hI.2
      have f7 := hide hI.1
      replace hI := hI.2
      have f8 := hide hI.1
      replace hI := hI.2
      have f9 := hide hI.1
      replace hI := hI.2
      have f10 := hide hI.1
      replace hI := hI.2
      have f11 := hide hI.1
      replace hI := hI.2
      have f12 := hide hI.1
      replace hI := hI.2
      have f13 := hide hI.1
      replace hI := hI.2
      have f14 := hide hI.1
      replace hI := hI.2
      have f15 := hide hI
      clear hI
      have bA' := hG.blk bA hne.out
      have a2 := bA'.cell 2 rfl
      have a3 := bA'.cell 3 rfl
      have a4 := bA'.cell 4 rfl
      obtain rfl := f6.out (hD.on 6 (by kernel_rfl))
      try simp only [puts, Act.put, List.setIfInBounds_toArray, List.set_cons_zero, List.set_cons_succ]
      try go_simp
      refine (HP1.out _).mono ?_
      rintro e W' ⟨rfl, hb⟩
      try go_simp
      exact hK.out _ _ _ (by simp only [puts, Act.put, List.setIfInBounds_toArray, List.set_cons_zero, List.set_cons_succ] <;> rfl) ⟨hG.later hb, (fun h => f0.out h), (fun h => f1.out h), (fun h => f2.out h), (fun h => f3.out h), (fun h => f4.out h), (fun h => f5.out h), (fun h => f6.out h), (fun _ => rfl), (fun h => f8.out h), (fun h => f9.out h), (fun h => f10.out h), (fun h => f11.out h), (fun h => f12.out h), (fun h => f13.out h), (fun h => f14.out h), (fun h => f15.out h)⟩
    · intro L vs W hlen hL hD hI K hK
      obtain ⟨x0, x1, x2, x3, x4, x5, x6, x7, x8, x9, x10, x11, x12, x13, x14, x15, rfl⟩ := len16 hlen
      have hG := hI.1
      replace hI := hI.2
      have f0 := hide hI.1
      replace hI := hI.2
      have f1 := hide hI.1
      replace hI := hI.2
      have f2 := hide hI.1
      replace hI := hI.2
      have f3 := hide hI.1
      replace hI := hI.2
      have f4 := hide hI.1
      replace hI := hI.2
      have f5 := hide hI.1
      replace hI := hI.2
      have f6 := hide hI.1
      replace hI := hI.2
      have f7 := hide hI.1
      replace hI := hI.2
      have f8 := hide hI.1
      replace hI := hI.2
      have f9 := hide hI.1
      replace hI := hI.2
      have f10 := hide hI.1
      replace hI := hI.2
      have f11 := hide hI.1
      replace hI := hI.2
      have f12 := hide hI.1
      replace hI := hI.2
      have f13 := hide hI.1
      replace hI := hI.2
      have f14 := hide hI.1
      replace hI := hI.2
      have f15 := hide hI
      clear hI
      have bA' := hG.blk bA hne.out
      have a2 := bA'.cell 2 rfl
      have a3 := bA'.cell 3 rfl
      have a4 := bA'.cell 4 rfl
      obtain rfl := f7.out (hD.on 7 (by kernel_rfl))
      try simp only [puts, Act.put, List.setIfInBounds_toArray, List.set_cons_zero, List.set_cons_succ]
      try go_simp
      exact hK.out _ _ _ (by simp only [puts, Act.put, List.setIfInBounds_toArray, List.set_cons_zero, List.set_cons_succ] <;> rfl) ⟨hG, (fun h => f0.out h), (fun h => f1.out h), (fun h => f2.out h), (fun h => f3.out h), (fun h => f4.out h), (fun h => f5.out h), (fun h => f6.out h), (fun h => f7.out h), (fun _ => rfl), (fun h => f9.out h), (fun h => f10.out h), (fun h => f11.out h), (fun h => f12.out h), (fun h => f13.out h), (fun h => f14.out h), (fun h => f15.out h)⟩
    · intro L vs W hlen hL hD hI K hK
      obtain ⟨x0, x1, x2, x3, x4, x5, x6, x7, x8, x9, x10, x11, x12, x13, x14, x15, rfl⟩ := len16 hlen
      have hG := hI.1
      replace hI := hI.2
      have f0 := hide hI.1
      replace hI := hI.2
      have f1 := hide hI.1
      replace hI := hI.2
      have f2 := hide hI.1
      replace hI := hI.2
      have f3 := hide hI.1
      replace hI := hI.2
      have f4 := hide hI.1
      replace hI := hI.2
      have f5 := hide hI.1
      replace hI := hI.2
      have f6 := hide hI.1
      replace hI := hI.2
      have f7 := hide hI.1
      replace hI := hI.2
      have f8 := hide hI.1
      replace hI := hI.2
      have f9 := hide hI.1
      replace hI := hI.2
      have f10 := hide hI.1
      replace hI := hI.2
      have f11 := hide hI.1
      replace hI := hI.2
      have f12 := hide hI.1
      replace hI := hI.2
      have f13 := hide hI.1
      replace hI := hI.2
      have f14 := hide hI.1
      replace hI := hI.2
      have f15 := hide hI
      clear hI
      have bA' := hG.blk bA hne.out
      have a2 := bA'.cell 2 rfl
      have a3 := bA'.cell 3 rfl
      have a4 := bA'.cell 4 rfl
      try simp only [puts, Act.put, List.setIfInBounds_toArray, List.set_cons_zero, List.set_cons_succ]
      try go_simp
      exact hK.out _ _ _ (by simp only [puts, Act.put, List.setIfInBounds_toArray, List.set_cons_zero, List.set_cons_succ] <;> rfl) ⟨hG, (fun h => f0.out h), (fun h => f1.out h), (fun h => f2.out h), (fun h => f3.out h), (fun h => f4.out h), (fun h => f5.out h), (fun h => f6.out h), (fun h => f7.out h), (fun h => f8.out h), (fun _ => rfl), (fun h => f10.out h), (fun h => f11.out h), (fun h => f12.out h), (fun h => f13.out h), (fun h => f14.out h), (fun h => f15.out h)⟩
    · intro L vs W hlen hL hD hI K hK
      obtain ⟨x0, x1, x2, x3, x4, x5, x6, x7, x8, x9, x10, x11, x12, x13, x14, x15, rfl⟩ := len16 hlen
      have hG := hI.1
      replace hI := hI.2
      have f0 := hide hI.1
      replace hI := hI.2
      have f1 := hide hI.1
      replace hI := hI.2
      have f2 := hide hI.1
      replace hI := hI.2
      have f3 := hide hI.1
      replace hI := hI.2
      have f4 := hide hI.1
      replace hI := hI.2
      have f5 := hide hI.1
      replace hI := hI.2
      have f6 := hide hI.1
      replace hI := hI.2
      have f7 := hide hI.1
      replace hI := hI.2
      have f8 := hide hI.1
      replace hI := hI.2
      have f9 := hide hI.1
      replace hI := hI.2
      have f10 := hide hI.1
      replace hI := hI.2
      have f11 := hide hI.1
      replace hI := hI.2
      have f12 := hide hI.1
      replace hI := hI.2
      have f13 := hide hI.1
      replace hI := hI.2
      have f14 := hide hI.1
      replace hI := hI.2
      have f15 := hide hI
      clear hI
      have bA' := hG.blk bA hne.out
      have a2 := bA'.cell 2 rfl
      have a3 := bA'.cell 3 rfl
      have a4 := bA'.cell 4 rfl
      obtain rfl := f9.out (hD.on 9 (by kernel_rfl))
      try simp only [puts, Act.put, List.setIfInBounds_toArray, List.set_cons_zero, List.set_cons_succ]
      try go_simp
      exact hK.out _ _ _ (by simp only [puts, Act.put, List.setIfInBounds_toArray, List.set_cons_zero, List.set_cons_succ] <;> rfl) ⟨hG, (fun h => f0.out h), (fun h => f1.out h), (fun h => f2.out h), (fun h => f3.out h), (fun h => f4.out h), (fun h => f5.out h), (fun h => f6.out h), (fun h => f7.out h), (fun h => f8.out h), (fun h => f9.out h), (fun _ => rfl), (fun h => f11.out h), (fun h => f12.out h), (fun h => f13.out h), (fun h => f14.out h), (fun h => f15.out h)⟩
    · intro L vs W hlen hL hD hI K hK
      obtain ⟨x0, x1, x2, x3, x4, x5, x6, x7, x8, x9, x10, x11, x12, x13, x14, x15, rfl⟩ := len16 hlen
      have hG := hI.1
      replace hI := hI.2
      have f0 := hide hI.1
      replace hI := hI.2
      have f1 := hide hI.1
      replace hI := hI.2
      have f2 := hide hI.1
      replace hI := hI.2
      have f3 := hide hI.1
      replace hI := hI.2
      have f4 := hide hI.1
      replace hI := hI.2
      have f5 := hide hI.1
      replace hI := hI.2
      have f6 := hide hI.1
      replace hI := hI.2
      have f7 := hide hI.1
      replace hI := hI.2
      have f8 := hide hI.1
      replace hI := hI.2
      have f9 := hide hI.1
      replace hI := hI.2
      have f10 := hide hI.1
      replace hI := hI.2
      have f11 := hide hI.1
      replace hI := hI.2
      have f12 := hide hI.1
      replace hI := hI.2
      have f13 := hide hI.1
      replace hI := hI.2
      have f14 := hide hI.1
      replace hI := hI.2
      have f15 := hide hI
      clear hI
      have bA' := hG.blk bA hne.out
      have a2 := bA'.cell 2 rfl
      have a3 := bA'.cell 3 rfl
      have a4 := bA'.cell 4 rfl
      obtain rfl := f10.out (hD.on 10 (by kernel_rfl))
      try simp only [puts, Act.put, List.setIfInBounds_toArray, List.set_cons_zero, List.set_cons_succ]
      try go_simp
      exact hK.out _ _ _ (by simp only [puts, Act.put, List.setIfInBounds_toArray, List.set_cons_zero, List.set_cons_succ] <;> rfl) ⟨hG, (fun h => f0.out h), (fun h => f1.out h), (fun h => f2.out h), (fun h => f3.out h), (fun h => f4.out h), (fun h => f5.out h), (fun h => f6.out h), (fun h => f7.out h), (fun h => f8.out h), (fun h => f9.out h), (fun h => f10.out h), (fun _ => rfl), (fun h => f12.out h), (fun h => f13.out h), (fun h => f14.out h), (fun h => f15.out h)⟩
    · intro L vs W hlen hL hD hI K hK
      obtain ⟨x0, x1, x2, x3, x4, x5, x6, x7, x8, x9, x10, x11, x12, x13, x14, x15, rfl⟩ := len16 hlen
      have hG := hI.1
      replace hI := hI.2
      have f0 := hide hI.1
      replace hI := hI.2
      have f1 := hide hI.1
      replace hI := hI.2
      have f2 := hide hI.1
      replace hI := hI.2
      have f3 := hide hI.1
      replace hI := hI.2
      have f4 := hide hI.1
      replace hI := hI.2
      have f5 := hide hI.1
      replace hI := hI.2
      have f6 := hide hI.1
      replace hI := hI.2
      have f7 := hide hI.1
      replace hI := hI.2
      have f8 := hide hI.1
      replace hI := hI.2
      have f9 := hide hI.1
      replace hI := hI.2
      have f10 := hide hI.1
      replace hI := hI.2
      have f11 := hide hI.1
      replace hI := hI.2
      have f12 := hide hI.1
      replace hI := hI.2
      have f13 := hide hI.1
      replace hI := hI.2
      have f14 := hide hI.1
      replace hI := hI.2
      have f15 := hide hI
      clear hI
      have bA' := hG.blk bA hne.out
      have a2 := bA'.cell 2 rfl
      have a3 := bA'.cell 3 rfl
      have a4 := bA'.cell 4 rfl
      obtain rfl := f11.out (hD.on 11 (by kernel_rfl))
      try simp only [puts, Act.put, List.setIfInBounds_toArray, List.set_cons_zero, List.set_cons_succ]
      try go_simp
      refine (HP2.out _).mono ?_
      rintro e W' ⟨rfl, hb⟩
      try go_simp
      exact hK.out _ _ _ (by simp only [puts, Act.put, List.setIfInBounds_toArray, List.set_cons_zero, List.set_cons_succ] <;> rfl) ⟨hG.later hb, (fun h => f0.out h), (fun h => f1.out h), (fun h => f2.out h), (fun h => f3.out h), (fun h => f4.out h), (fun h => f5.out h), (fun h => f6.out h), (fun h => f7.out h), (fun h => f8.out h), (fun h => f9.out h), (fun h => f10.out h), (fun h => f11.out h), (fun _ => rfl), (fun h => f13.out h), (fun h => f14.out h), (fun h => f15.out h)⟩
    · intro L vs W hlen hL hD hI K hK
      obtain ⟨x0, x1, x2, x3, x4, x5, x6, x7, x8, x9, x10, x11, x12, x13, x14, x15, rfl⟩ := len16 hlen
      have hG := hI.1
      replace hI := hI.2
      have f0 := hide hI.1
      replace hI := hI.2
      have f1 := hide hI.1
      replace hI := hI.2
      have f2 := hide hI.1
      replace hI := hI.2
      have f3 := hide hI.1
      replace hI := hI.2
      have f4 := hide hI.1
      replace hI := hI.2
      have f5 := hide hI.1
      replace hI := hI.2
      have f6 := hide hI.1
      replace hI := hI.2
      have f7 := hide hI.1
      replace hI := hI.2
      have f8 := hide hI.1
      replace hI := hI.2
      have f9 := hide hI.1
      replace hI := hI.2
      have f10 := hide hI.1
      replace hI := hI.2
      have f11 := hide hI.1
      replace hI := hI.2
      have f12 := hide hI.1
      replace hI := hI.2
      have f13 := hide hI.1
      replace hI := hI.2
      have f14 := hide hI.1
      replace hI := hI.2
      have f15 := hide hI
      clear hI
      have bA' := hG.blk bA hne.out
      have a2 := bA'.cell 2 rfl
      have a3 := bA'.cell 3 rfl
      have a4 := bA'.cell 4 rfl
      obtain rfl := f12.out (hD.on 12 (by kernel_rfl))
      try simp only [puts, Act.put, List.setIfInBounds_toArray, List.set_cons_zero, List.set_cons_succ]
      try go_simp
      exact hK.out _ _ _ (by simp only [puts, Act.put, List.setIfInBounds_toArray, List.set_cons_zero, List.set_cons_succ] <;> rfl) ⟨hG, (fun h => f0.out h), (fun h => f1.out h), (fun h => f2.out h), (fun h => f3.out h), (fun h => f4.out h), (fun h => f5.out h), (fun h => f6.out h), (fun h => f7.out h), (fun h => f8.out h), (fun h => f9.out h), (fun h => f10.out h), (fun h => f11.out h), (fun h => f12.out h), (fun _ => rfl), (fun h => f14.out h), (fun h => f15.out h)⟩
    · intro L vs W hlen hL hD hI K hK
      obtain ⟨x0, x1, x2, x3, x4, x5, x6, x7, x8, x9, x10, x11, x12, x13, x14, x15, rfl⟩ := len16 hlen
      have hG := hI.1
      replace hI := hI.2
      have f0 := hide hI.1
      replace hI := hI.2
      have f1 := hide hI.1
      replace hI := hI.2
      have f2 := hide hI.1
      replace hI := hI.2
      have f3 := hide hI.1
      replace hI := hI.2
      have f4 := hide hI.1
      replace hI := hI.2
      have f5 := hide hI.1
      replace hI := hI.2
      have f6 := hide hI.1
      replace hI := hI.2
      have f7 := hide hI.1
      replace hI := hI.2
      have f8 := hide hI.1
      replace hI := hI.2
      have f9 := hide hI.1
      replace hI := hI.2
      have f10 := hide hI.1
      replace hI := hI.2
      have f11 := hide hI.1
      replace hI := hI.2
      have f12 := hide hI.1
      replace hI := hI.2
      have f13 := hide hI.1
      replace hI := hI.2
      have f14 := hide hI.1
      replace hI := hI.2
      have f15 := hide hI
      clear hI
      have bA' := hG.blk bA hne.out
      have a2 := bA'.cell 2 rfl
      have a3 := bA'.cell 3 rfl
      have a4 := bA'.cell 4 rfl
      obtain rfl := f3.out (hD.on 3 (by kernel_rfl))
      obtain rfl := f8.out (hD.on 8 (by kernel_rfl))
      obtain rfl := f13.out (hD.on 13 (by kernel_rfl))
      try simp only [puts, Act.put, List.setIfInBounds_toArray, List.set_cons_zero, List.set_cons_succ]
      try go_simp
      exact hK.out _ _ _ (by simp only [puts, Act.put, List.setIfInBounds_toArray, List.set_cons_zero, List.set_cons_succ] <;> rfl) ⟨hG, (fun h => f0.out h), (fun h => f1.out h), (fun h => f2.out h), (fun h => f3.out h), (fun h => f4.out h), (fun h => f5.out h), (fun h => f6.out h), (fun h => f7.out h), (fun h => f8.out h), (fun h => f9.out h), (fun h => f10.out h), (fun h => f11.out h), (fun h => f12.out h), (fun h => f13.out h), (fun _ => rfl), (fun h => f15.out h)⟩
    · intro L vs W hlen hL hD hI K hK
      obtain ⟨x0, x1, x2, x3, x4, x5, x6, x7, x8, x9, x10, x11, x12, x13, x14, x15, rfl⟩ := len16 hlen
      have hG := hI.1
      replace hI := hI.2
      have f0 := hide hI.1
      replace hI := hI.2
      have f1 := hide hI.1
      replace hI := hI.2
      have f2 := hide hI.1
      replace hI := hI.2
      have f3 := hide hI.1
      replace hI := hI.2
      have f4 := hide hI.1
      replace hI := hI.2
      have f5 := hide hI.1
      replace hI := hI.2
      have f6 := hide hI.1
      replace hI := hI.2
      have f7 := hide hI.1
      replace hI := hI.2
      have f8 := hide hI.1
      replace hI := hI.2
      have f9 := hide hI.1
      replace hI := hI.2
      have f10 := hide hI.1
      replace hI := hI.2
      have f11 := hide hI.1
      replace hI := hI.2
      have f12 := hide hI.1
      replace hI := hI.2
      have f13 := hide hI.1
      replace hI := hI.2
      have f14 := hide hI.1
      replace hI := hI.2
      have f15 := hide hI
      clear hI
      have bA' := hG.blk bA hne.out
      have a2 := bA'.cell 2 rfl
      have a3 := bA'.cell 3 rfl
      have a4 := bA'.cell 4 rfl
      obtain rfl := f14.out (hD.on 14 (by kernel_rfl))
      try simp only [puts, Act.put, List.setIfInBounds_toArray, List.set_cons_zero, List.set_cons_succ]
      rw [hL] at hG
      have g0 := hG.box.frozen 0
      have g1 := hG.box.frozen 1
      have g2 := hG.box.frozen 2
      have r0 := hG.box.cell 0 rfl
      have r1 := hG.box.cell 1 rfl
      have r2 := hG.box.cell 2 rfl
      go_simp
      have hb := Below.refl W.heap.size W
      exact hK.out _ undef _ (by simp only [puts, Act.put, List.setIfInBounds_toArray, List.set_cons_zero, List.set_cons_succ] <;> rfl) ⟨hG.put3 (by omega), (fun h => f0.out h), (fun h => f1.out h), (fun h => f2.out h), (fun h => f3.out h), (fun h => f4.out h), (fun h => f5.out h), (fun h => f6.out h), (fun h => f7.out h), (fun h => f8.out h), (fun h => f9.out h), (fun h => f10.out h), (fun h => f11.out h), (fun h => f12.out h), (fun h => f13.out h), (fun h => f14.out h), (fun _ => trivial)⟩
  intro L vs W hlen hall hI
  obtain ⟨x0, x1, x2, x3, x4, x5, x6, x7, x8, x9, x10, x11, x12, x13, x14, x15, rfl⟩ := len16 hlen
  have hG := hI.1
  replace hI := hI.2
  have f0 := hide hI.1
  replace hI := hI.2
  have f1 := hide hI.1
  replace hI := hI.2
  have f2 := hide hI.1
  replace hI := hI.2
  have f3 := hide hI.1
  replace hI := hI.2
  have f4 := hide hI.1
  replace hI := hI.2
  have f5 := hide hI.1
  replace hI := hI.2
  have f6 := hide hI.1
  replace hI := hI.2
  have f7 := hide hI.1
  replace hI := hI.2
  have f8 := hide hI.1
  replace hI := hI.2
  have f9 := hide hI.1
  replace hI := hI.2
  have f10 := hide hI.1
  replace hI := hI.2
  have f11 := hide hI.1
  replace hI := hI.2
  have f12 := hide hI.1
  replace hI := hI.2
  have f13 := hide hI.1
  replace hI := hI.2
  have f14 := hide hI.1
  replace hI := hI.2
  have f15 := hide hI
  clear hI
  obtain rfl := f0.out (hall 0 (by decide))
  obtain rfl := f1.out (hall 1 (by decide))
  obtain rfl := f2.out (hall 2 (by decide))
  obtain rfl := f3.out (hall 3 (by decide))
  obtain rfl := f4.out (hall 4 (by decide))
  obtain rfl := f5.out (hall 5 (by decide))
  obtain rfl := f6.out (hall 6 (by decide))
  obtain rfl := f7.out (hall 7 (by decide))
  obtain rfl := f8.out (hall 8 (by decide))
  obtain rfl := f9.out (hall 9 (by decide))
  obtain rfl := f10.out (hall 10 (by decide))
  obtain rfl := f11.out (hall 11 (by decide))
  obtain rfl := f12.out (hall 12 (by decide))
  obtain rfl := f13.out (hall 13 (by decide))
  obtain rfl := f14.out (hall 14 (by decide))
  have hal := hide hall
  clear hall f0 f1 f2 f3 f4 f5 f6 f7 f8 f9 f10 f11 f12 f13 f14 f15
  try simp only [puts, Act.put, List.setIfInBounds_toArray, List.set_cons_zero, List.set_cons_succ]
  rw [hal.out 15 (by decide)] at hG
  have bR' := hG.done
  go_wp2_with fail
  refine bodyPost_ret (results_cell_row (p := 2) rfl _ _ (w.heap.size + 1) _ _ _ _ rfl bR' Tryd.underlying32 rfl (by kernel_rfl)) rfl ?_
  exact ⟨by rw [HF.out], hG.hb⟩
end Go.Proofs.YtoofkahklboojaaDoor
