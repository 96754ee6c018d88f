/- The walk of step. Conditions: how both disks lie in memory; sizes. -/
import Derived.Test.YtednelejpkchbaaLnB
import Derived.Test.YtednelejpkchbaaRegM
namespace Go.Proofs.Ytednelejpkchbaa
open Go.RowKit

theorem ref_off {w : World} {X : Nat} {sv lv : Value} {r : RefD} (h : RefAt w X sv lv r) {b : Nat} {l : List Value} {t : TypeId} (hb : Blk w b l t) (h1 : t ≠ 43) (h2 : t ≠ 5) (h3 : t ≠ 80) : ¬ RSet X sv lv b := by
  rintro (rfl | hk | hk)
  · exact hb.neT h.hX h1 rfl
  · exact h.hS.neT hb h2 hk.symm
  · exact h.hL.neT hb h3 hk.symm
/-- what holds while both are called -/
def StG (n B : Nat) (w : World) (D U V X bx : Nat) (cs : List Value) (d d' : DiskD) (r r' : RefD) (b1 b2 : Bool) (W : World) : Prop :=
  ∃ pv sv lv, Both n B W D U V pv X sv lv (cond b1 d' d) (cond b2 r' r) ∧ Blk W bx cs 39 ∧ Below B w W ∧ B ≤ W.heap.size
section
variable {n B : Nat} {w : World} {D U V X bx : Nat} {cs : List Value} {d d' : DiskD} {b1 b2 : Bool} {W : World}
theorem StG.drew {r r' : RefD} (h : StG n B w D U V X bx cs d d' r r' b1 b2 W) : StG n B w D U V X bx cs d d' r r' b1 b2 W.drew := by
  obtain ⟨pv, sv, lv, h1, h2, h3, h4⟩ := h
  exact ⟨pv, sv, lv, h1.later (Below.refl _ _).drew, h2.later (Below.refl _ _).drew, h3.drew, h4⟩
theorem StG.cell {r r' : RefD} (h : StG n B w D U V X bx cs d d' r r' b1 b2 W) (j : Nat) {v : Value} (hv : cs[j]? = some v) : W.cell? ⟨bx, j, none⟩ = some v := by
  obtain ⟨pv, sv, lv, h1, h2, h3, h4⟩ := h
  exact h2.cell j hv
theorem StG.callD {r r' : RefD} {f g : FuncId} {args : List Value} {k : Int} (hc : CallB f g args k d d' n B) (h : StG n B w D U V X bx cs d d' r r' false b2 W) :
    Calls Try.prog f (Value.pointer (some ⟨D, 0, none⟩) :: args).toArray W (fun e W' => e = .returned (.int .i64 k) ∧ StG n B w D U V X bx cs d d' r r' true b2 W') := by
  obtain ⟨pv, sv, lv, h1, h2, h3, h4⟩ := h
  refine (hc.disk D U V pv W h1.A h4).mono ?_
  rintro e W' ⟨he, pv', hA, hE, ho⟩
  exact ⟨he, pv', sv, lv, h1.disk hA hE ho, h2.eff hE (off_typ h1.A.hA h2 (by decide) (by decide) (by decide)), h3.trans (hE.below h4 h1.A.low), Nat.le_trans h4 hE.size⟩
theorem StG.callR {f g : FuncId} {args : List Value} {k : Int} (hc : CallB f g args k d d' n B) (h : StG n B w D U V X bx cs d d' (toR d) (toR d') b1 false W) :
    Calls Try.prog g (Value.pointer (some ⟨X, 0, none⟩) :: args).toArray W (fun e W' => e = .returned (.int .i64 k) ∧ StG n B w D U V X bx cs d d' (toR d) (toR d') b1 true W') := by
  obtain ⟨pv, sv, lv, h1, h2, h3, h4⟩ := h
  refine (hc.ref X sv lv W h1.R).mono ?_
  rintro e W' ⟨he, sv', lv', hR, hE, o1, o2⟩
  exact ⟨he, pv, sv', lv', h1.ref h4 hR hE o1 o2, h2.eff hE (ref_off h1.R h2 (by decide) (by decide) (by decide)), h3.trans (hE.below h4 h1.low), Nat.le_trans h4 hE.size⟩
end
theorem ints_take {c : Rd} {a : Option Addr} {q : Nat} {K : List Int} (m : Nat) (h : IntsIn c (.slice a K.length q) K) : IntsIn c (.slice a (min K.length m) q) (K.take m) := by
  obtain ⟨a', n, e, h2, h3, h4⟩ := h
  cases e
  refine ⟨a, q, by rw [List.length_take, Nat.min_comm], by rw [List.length_take]; omega, h3, fun k hk => ?_⟩
  have hk' : k < K.length ∧ k < m := by rw [List.length_take] at hk; omega
  obtain ⟨b, o, e, hc⟩ := h4 k hk'.1
  refine ⟨b, o, e, ?_⟩
  have : (K.take m).getD k 0 = K.getD k 0 := by rw [List.getD_eq_getElem?_getD, List.getD_eq_getElem?_getD, List.getElem?_take, if_pos hk'.2]
  rw [this]; exact hc
theorem low_at {B : Nat} {w W : World} {v : Value} {l : List Int} (h : IntsIn (rng 0 B w) v l) (hb : Below B w W) : IntsAt W v l :=
  IntsIn.keeps (fun a u e => by
    unfold rng at e; split at e
    · rename_i hB; rw [hb.cell hB.2]; exact e
    · cases e) h
/-- the call returns true; both disks agree still -/
def StepQ (n B : Nat) (D U V X : Nat) (d : DiskD) (w : World) (e : Ending) (w' : World) : Prop :=
  e = .returned (.bool true) ∧ ∃ pv sv lv d', Both n B w' D U V pv X sv lv d' (toR d') ∧ d'.vis = replay d'.dur d'.pend ∧ d'.pend.length ≤ d.pend.length + 1 ∧ Below B w w'
set_option maxRecDepth 20000 in
set_option maxHeartbeats 4000000 in
theorem step_any (n B D U V X : Nat) (pv sv lv : Value) (d : DiskD) (yc yo yn : Int) (ys : ByteArray) (ka : Option Addr) (kc : Nat) (K : List Int) (w : World) (hB0 : B ≤ w.heap.size) (hn1 : 1 ≤ n) (hn : n ≤ 4194304) (hpl : d.pend.length < 100000)
    (h : Both n B w D U V pv X sv lv d (toR d)) (hv : d.vis = replay d.dur d.pend) (i1 : i64B yc) (i2 : i64B yo) (i3 : i64B yn) (hs : (ys.size : Int) ≤ 9223372036854775807) (hK : IntsIn (rng 0 B w) (.slice ka K.length kc) K) :
    Calls Try.prog 19 #[.pointer (some ⟨D, 0, none⟩), .pointer (some ⟨X, 0, none⟩), .agg #[.int .i64 yc, .int .i64 yo, .int .i64 yn, .string ys, .slice ka K.length kc]] w (StepQ n B D U V X d w) := by
  obtain ⟨q, hq, hq6⟩ : ∃ q : Nat, pickF yc 6 = q ∧ q < 6 := ⟨(pickF yc 6).toNat, by have := pickF_nonneg yc (n := 6) (by decide); omega, by have := pickF_lt yc (n := 6) (by decide); omega⟩
  have HPK := hide (fun W => pick_any yc 6 W i1.1 i1.2 (by decide) (by decide))
  rw [hq] at HPK
  clear hq
  have HVI := hide hv
  have HAN : Hid (∃ W D U V pv, AnyDisk n B W D U V pv d) := hide ⟨w, D, U, V, pv, h.A⟩
  have HBO := hide h
  have HKI := hide hK
  have HCT := hide (fun W => cut_any ys 300 W hs (by omega))
  have hKl : K.length ≤ kc ∧ kc ≤ 9223372036854775807 := by
    obtain ⟨a', c', e, h1, h2, -⟩ := hK
    cases e; exact ⟨h1, h2⟩
  obtain ⟨hk1, hk2⟩ := hKl
  clear h hv hK
  go_enter Try.func19, Try.ntmps19
  go_wp2_with fail
  generalize hX1 : World.alloc w _ = W1
  have hb1 : Below w.heap.size w W1 := by rw [← hX1]; exact bal w _
  have bY : Blk W1 w.heap.size [.int .i64 yc, .int .i64 yo, .int .i64 yn, .string ys, .slice ka K.length kc] 39 := by rw [← hX1]; exact Blk.newA w _ rfl
  have hB1 := HBO.out.later hb1
  have hbw1 : Below B w W1 := hb1.mono hB0
  have hK1 := low_at HKI.out hbw1
  clear hX1
  refine (HPK.out W1).mono ?_
  rintro e w2 ⟨rfl, hw2⟩
  obtain rfl := hw2.symm
  have c1 := bY.cell 1 rfl
  have c2 := bY.cell 2 rfl
  have c3 := bY.cell 3 rfl
  have c4 := bY.cell 4 rfl
  match q, hq6 with
  | 0, _ =>
    obtain ⟨k, d', hcb⟩ := write_both (B := B) HAN.out hn1 hn yo (cutS ys 300) i2 (by rw [cutS_size]; omega) (by omega)
    have HCB := hide hcb
    clear hcb
    go_wp2_with fail
    refine (HCT.out W1).mono ?_
    rintro e w2 ⟨rfl, hw2⟩
    obtain rfl := hw2
    go_wp2_with fail
    refine wp_region_inv [some 22, some 23, some 24, some 25, some 26, some 27, some 28, some 29, some 30, some 31, some 32, some 6] (fun L vs W => match vs with | [x0, x1, x2, x3, x4, x5, x6, x7, x8, x9, x10, x11] => (StG n B w D U V X w.heap.size [.int .i64 yc, .int .i64 yo, .int .i64 yn, .string ys, .slice ka K.length kc] d d' (toR d) (toR d') (L 4) (L 9) W) ∧ (L 0 = true → x0 = .pointer (some ⟨D, 0, none⟩)) ∧ (L 1 = true → x1 = .pointer (some ⟨w.heap.size, 1, none⟩)) ∧ (L 2 = true → x2 = .int .i64 yo) ∧ (L 3 = true → x3 = .string (cutS ys 300)) ∧ (L 4 = true → x4 = .int .i64 k) ∧ (L 5 = true → x5 = .pointer (some ⟨X, 0, none⟩)) ∧ (L 6 = true → x6 = .pointer (some ⟨w.heap.size, 1, none⟩)) ∧ (L 7 = true → x7 = .int .i64 yo) ∧ (L 8 = true → x8 = .string (cutS ys 300)) ∧ (L 9 = true → x9 = .int .i64 k) ∧ (L 10 = true → x10 = .bool true) ∧ (L 11 = true → x11 = .bool true) | _ => False) [_, _, _, _, _, _, _, _, _, _, _, _] (by kernel_rfl) (by kernel_rfl) rfl (by simp only [puts, Act.put, List.setIfInBounds_toArray, List.set_cons_zero, List.set_cons_succ] <;> rfl) ?_ ?_ ?_
    · exact ⟨StG.drew ⟨pv, sv, lv, hB1, bY, hbw1, Nat.le_trans hB0 hb1.size⟩, (fun h => by cases h), (fun h => by cases h), (fun h => by cases h), (fun h => by cases h), (fun h => by cases h), (fun h => by cases h), (fun h => by cases h), (fun h => by cases h), (fun h => by cases h), (fun h => by cases h), (fun h => by cases h), (fun h => by cases h)⟩
    · refine ⟨?_, ?_, ?_, ?_, ?_, ?_, ?_, ?_, ?_, ?_, ?_, ?_, trivial⟩
      · intro L vs W hlen hL hD hI K hK
        obtain ⟨x0, x1, x2, x3, x4, x5, x6, x7, x8, x9, x10, x11, rfl⟩ := len12 hlen
        have hG := hI.1
        replace hI := hI.2
        have f0 := hide hI.1
        replace hI := hI.2
        have f1 := hide hI.1
        replace hI := hI.2
        have f2 := hide hI.1
        replace hI := hI.2
        have f3 := hide hI.1
        replace hI := hI.2
        have f4 := hide hI.1
        replace hI := hI.2
        have f5 := hide hI.1
        replace hI := hI.2
        have f6 := hide hI.1
        replace hI := hI.2
        have f7 := hide hI.1
        replace hI := hI.2
        have f8 := hide hI.1
        replace hI := hI.2
        have f9 := hide hI.1
        replace hI := hI.2
        have f10 := hide hI.1
        replace hI := hI.2
        have f11 := hide hI
        clear hI
        have b1 := hG.cell 1 rfl
        try simp only [puts, Act.put, List.setIfInBounds_toArray, List.set_cons_zero, List.set_cons_succ]
        try go_simp
        exact hK.out _ _ _ (by simp only [puts, Act.put, List.setIfInBounds_toArray, List.set_cons_zero, List.set_cons_succ] <;> rfl) ⟨hG, (fun _ => rfl), (fun h => f1.out h), (fun h => f2.out h), (fun h => f3.out h), (fun h => f4.out h), (fun h => f5.out h), (fun h => f6.out h), (fun h => f7.out h), (fun h => f8.out h), (fun h => f9.out h), (fun h => f10.out h), (fun h => f11.out h)⟩
      · intro L vs W hlen hL hD hI K hK
        obtain ⟨x0, x1, x2, x3, x4, x5, x6, x7, x8, x9, x10, x11, rfl⟩ := len12 hlen
        have hG := hI.1
        replace hI := hI.2
        have f0 := hide hI.1
        replace hI := hI.2
        have f1 := hide hI.1
        replace hI := hI.2
        have f2 := hide hI.1
        replace hI := hI.2
        have f3 := hide hI.1
        replace hI := hI.2
        have f4 := hide hI.1
        replace hI := hI.2
        have f5 := hide hI.1
        replace hI := hI.2
        have f6 := hide hI.1
        replace hI := hI.2
        have f7 := hide hI.1
        replace hI := hI.2
        have f8 := hide hI.1
        replace hI := hI.2
        have f9 := hide hI.1
        replace hI := hI.2
        have f10 := hide hI.1
        replace hI := hI.2
        have f11 := hide hI
        clear hI
        have b1 := hG.cell 1 rfl
        try simp only [puts, Act.put, List.setIfInBounds_toArray, List.set_cons_zero, List.set_cons_succ]
        try go_simp
        exact hK.out _ _ _ (by simp only [puts, Act.put, List.setIfInBounds_toArray, List.set_cons_zero, List.set_cons_succ] <;> rfl) ⟨hG, (fun h => f0.out h), (fun _ => rfl), (fun h => f2.out h), (fun h => f3.out h), (fun h => f4.out h), (fun h => f5.out h), (fun h => f6.out h), (fun h => f7.out h), (fun h => f8.out h), (fun h => f9.out h), (fun h => f10.out h), (fun h => f11.out h)⟩
      · intro L vs W hlen hL hD hI K hK
        obtain ⟨x0, x1, x2, x3, x4, x5, x6, x7, x8, x9, x10, x11, rfl⟩ := len12 hlen
        have hG := hI.1
        replace hI := hI.2
        have f0 := hide hI.1
        replace hI := hI.2
        have f1 := hide hI.1
        replace hI := hI.2
        have f2 := hide hI.1
        replace hI := hI.2
        have f3 := hide hI.1
        replace hI := hI.2
        have f4 := hide hI.1
        replace hI := hI.2
        have f5 := hide hI.1
        replace hI := hI.2
        have f6 := hide hI.1
        replace hI := hI.2
        have f7 := hide hI.1
        replace hI := hI.2
        have f8 := hide hI.1
        replace hI := hI.2
        have f9 := hide hI.1
        replace hI := hI.2
        have f10 := hide hI.1
        replace hI := hI.2
        have f11 := hide hI
        clear hI
        have b1 := hG.cell 1 rfl
        obtain rfl := f1.out (hD.on 1 (by kernel_rfl))
        try simp only [puts, Act.put, List.setIfInBounds_toArray, List.set_cons_zero, List.set_cons_succ]
        try go_simp
        exact hK.out _ _ _ (by simp only [puts, Act.put, List.setIfInBounds_toArray, List.set_cons_zero, List.set_cons_succ] <;> rfl) ⟨hG, (fun h => f0.out h), (fun h => f1.out h), (fun _ => rfl), (fun h => f3.out h), (fun h => f4.out h), (fun h => f5.out h), (fun h => f6.out h), (fun h => f7.out h), (fun h => f8.out h), (fun h => f9.out h), (fun h => f10.out h), (fun h => f11.out h)⟩
      · intro L vs W hlen hL hD hI K hK
        obtain ⟨x0, x1, x2, x3, x4, x5, x6, x7, x8, x9, x10, x11, rfl⟩ := len12 hlen
        have hG := hI.1
        replace hI := hI.2
        have f0 := hide hI.1
        replace hI := hI.2
        have f1 := hide hI.1
        replace hI := hI.2
        have f2 := hide hI.1
        replace hI := hI.2
        have f3 := hide hI.1
        replace hI := hI.2
        have f4 := hide hI.1
        replace hI := hI.2
        have f5 := hide hI.1
        replace hI := hI.2
        have f6 := hide hI.1
        replace hI := hI.2
        have f7 := hide hI.1
        replace hI := hI.2
        have f8 := hide hI.1
        replace hI := hI.2
        have f9 := hide hI.1
        replace hI := hI.2
        have f10 := hide hI.1
        replace hI := hI.2
        have f11 := hide hI
        clear hI
        have b1 := hG.cell 1 rfl
        try simp only [puts, Act.put, List.setIfInBounds_toArray, List.set_cons_zero, List.set_cons_succ]
        try go_simp
        exact hK.out _ _ _ (by simp only [puts, Act.put, List.setIfInBounds_toArray, List.set_cons_zero, List.set_cons_succ] <;> rfl) ⟨hG, (fun h => f0.out h), (fun h => f1.out h), (fun h => f2.out h), (fun _ => rfl), (fun h => f4.out h), (fun h => f5.out h), (fun h => f6.out h), (fun h => f7.out h), (fun h => f8.out h), (fun h => f9.out h), (fun h => f10.out h), (fun h => f11.out h)⟩
      · intro L vs W hlen hL hD hI K hK
        obtain ⟨x0, x1, x2, x3, x4, x5, x6, x7, x8, x9, x10, x11, rfl⟩ := len12 hlen
        have hG := hI.1
        replace hI := hI.2
        have f0 := hide hI.1
        replace hI := hI.2
        have f1 := hide hI.1
        replace hI := hI.2
        have f2 := hide hI.1
        replace hI := hI.2
        have f3 := hide hI.1
        replace hI := hI.2
        have f4 := hide hI.1
        replace hI := hI.2
        have f5 := hide hI.1
        replace hI := hI.2
        have f6 := hide hI.1
        replace hI := hI.2
        have f7 := hide hI.1
        replace hI := hI.2
        have f8 := hide hI.1
        replace hI := hI.2
        have f9 := hide hI.1
        replace hI := hI.2
        have f10 := hide hI.1
        replace hI := hI.2
        have f11 := hide hI
        clear hI
        have b1 := hG.cell 1 rfl
        obtain rfl := f0.out (hD.on 0 (by kernel_rfl))
        obtain rfl := f2.out (hD.on 2 (by kernel_rfl))
        obtain rfl := f3.out (hD.on 3 (by kernel_rfl))
        try simp only [puts, Act.put, List.setIfInBounds_toArray, List.set_cons_zero, List.set_cons_succ]
        try go_simp
        rw [hL] at hG
        refine (hG.callD HCB.out).mono ?_
        rintro e W' ⟨rfl, hG2⟩
        try go_simp
        exact hK.out _ _ _ (by simp only [puts, Act.put, List.setIfInBounds_toArray, List.set_cons_zero, List.set_cons_succ] <;> rfl) ⟨hG2, (fun h => f0.out h), (fun h => f1.out h), (fun h => f2.out h), (fun h => f3.out h), (fun _ => rfl), (fun h => f5.out h), (fun h => f6.out h), (fun h => f7.out h), (fun h => f8.out h), (fun h => f9.out h), (fun h => f10.out h), (fun h => f11.out h)⟩
      · intro L vs W hlen hL hD hI K hK
        obtain ⟨x0, x1, x2, x3, x4, x5, x6, x7, x8, x9, x10, x11, rfl⟩ := len12 hlen
        have hG := hI.1
        replace hI := hI.2
        have f0 := hide hI.1
        replace hI := hI.2
        have f1 := hide hI.1
        replace hI := hI.2
        have f2 := hide hI.1
        replace hI := hI.2
        have f3 := hide hI.1
        replace hI := hI.2
        have f4 := hide hI.1
        replace hI := hI.2
        have f5 := hide hI.1
        replace hI := hI.2
        have f6 := hide hI.1
        replace hI := hI.2
        have f7 := hide hI.1
        replace hI := hI.2
        have f8 := hide hI.1
        replace hI := hI.2
        have f9 := hide hI.1
        replace hI := hI.2
        have f10 := hide hI.1
        replace hI := hI.2
        have f11 := hide hI
        clear hI
        have b1 := hG.cell 1 rfl
        try simp only [puts, Act.put, List.setIfInBounds_toArray, List.set_cons_zero, List.set_cons_succ]
        try go_simp
        exact hK.out _ _ _ (by simp only [puts, Act.put, List.setIfInBounds_toArray, List.set_cons_zero, List.set_cons_succ] <;> rfl) ⟨hG, (fun h => f0.out h), (fun h => f1.out h), (fun h => f2.out h), (fun h => f3.out h), (fun h => f4.out h), (fun _ => rfl), (fun h => f6.out h), (fun h => f7.out h), (fun h => f8.out h), (fun h => f9.out h), (fun h => f10.out h), (fun h => f11.out h)⟩
      · intro L vs W hlen hL hD hI K hK
        obtain ⟨x0, x1, x2, x3, x4, x5, x6, x7, x8, x9, x10, x11, rfl⟩ := len12 hlen
        have hG := hI.1
        replace hI := hI.2
        have f0 := hide hI.1
        replace hI := hI.2
        have f1 := hide hI.1
        replace hI := hI.2
        have f2 := hide hI.1
        replace hI := hI.2
        have f3 := hide hI.1
        replace hI := hI.2
        have f4 := hide hI.1
        replace hI := hI.2
        have f5 := hide hI.1
        replace hI := hI.2
        have f6 := hide hI.1
        replace hI := hI.2
        have f7 := hide hI.1
        replace hI := hI.2
        have f8 := hide hI.1
        replace hI := hI.2
        have f9 := hide hI.1
        replace hI := hI.2
        have f10 := hide hI.1
        replace hI := hI.2
        have f11 := hide hI
        clear hI
        have b1 := hG.cell 1 rfl
        try simp only [puts, Act.put, List.setIfInBounds_toArray, List.set_cons_zero, List.set_cons_succ]
        try go_simp
        exact hK.out _ _ _ (by simp only [puts, Act.put, List.setIfInBounds_toArray, List.set_cons_zero, List.set_cons_succ] <;> rfl) ⟨hG, (fun h => f0.out h), (fun h => f1.out h), (fun h => f2.out h), (fun h => f3.out h), (fun h => f4.out h), (fun h => f5.out h), (fun _ => rfl), (fun h => f7.out h), (fun h => f8.out h), (fun h => f9.out h), (fun h => f10.out h), (fun h => f11.out h)⟩
      · intro L vs W hlen hL hD hI K hK
        obtain ⟨x0, x1, x2, x3, x4, x5, x6, x7, x8, x9, x10, x11, rfl⟩ := len12 hlen
        have hG := hI.1
        replace hI := hI.2
        have f0 := hide hI.1
        replace hI := hI.2
        have f1 := hide hI.1
        replace hI := hI.2
        have f2 := hide hI.1
        replace hI := hI.2
        have f3 := hide hI.1
        replace hI := hI.2
        have f4 := hide hI.1
        replace hI := hI.2
        have f5 := hide hI.1
        replace hI := hI.2
        have f6 := hide hI.1
        replace hI := hI.2
        have f7 := hide hI.1
        replace hI := hI.2
        have f8 := hide hI.1
        replace hI := hI.2
        have f9 := hide hI.1
        replace hI := hI.2
        have f10 := hide hI.1
        replace hI := hI.2
        have f11 := hide hI
        clear hI
        have b1 := hG.cell 1 rfl
        obtain rfl := f6.out (hD.on 6 (by kernel_rfl))
        try simp only [puts, Act.put, List.setIfInBounds_toArray, List.set_cons_zero, List.set_cons_succ]
        try go_simp
        exact hK.out _ _ _ (by simp only [puts, Act.put, List.setIfInBounds_toArray, List.set_cons_zero, List.set_cons_succ] <;> rfl) ⟨hG, (fun h => f0.out h), (fun h => f1.out h), (fun h => f2.out h), (fun h => f3.out h), (fun h => f4.out h), (fun h => f5.out h), (fun h => f6.out h), (fun _ => rfl), (fun h => f8.out h), (fun h => f9.out h), (fun h => f10.out h), (fun h => f11.out h)⟩
      · intro L vs W hlen hL hD hI K hK
        obtain ⟨x0, x1, x2, x3, x4, x5, x6, x7, x8, x9, x10, x11, rfl⟩ := len12 hlen
        have hG := hI.1
        replace hI := hI.2
        have f0 := hide hI.1
        replace hI := hI.2
        have f1 := hide hI.1
        replace hI := hI.2
        have f2 := hide hI.1
        replace hI := hI.2
        have f3 := hide hI.1
        replace hI := hI.2
        have f4 := hide hI.1
        replace hI := hI.2
        have f5 := hide hI.1
        replace hI := hI.2
        have f6 := hide hI.1
        replace hI := hI.2
        have f7 := hide hI.1
        replace hI := hI.2
        have f8 := hide hI.1
        replace hI := hI.2
        have f9 := hide hI.1
        replace hI := hI.2
        have f10 := hide hI.1
        replace hI := hI.2
        have f11 := hide hI
        clear hI
        have b1 := hG.cell 1 rfl
        try simp only [puts, Act.put, List.setIfInBounds_toArray, List.set_cons_zero, List.set_cons_succ]
        try go_simp
        exact hK.out _ _ _ (by simp only [puts, Act.put, List.setIfInBounds_toArray, List.set_cons_zero, List.set_cons_succ] <;> rfl) ⟨hG, (fun h => f0.out h), (fun h => f1.out h), (fun h => f2.out h), (fun h => f3.out h), (fun h => f4.out h), (fun h => f5.out h), (fun h => f6.out h), (fun h => f7.out h), (fun _ => rfl), (fun h => f9.out h), (fun h => f10.out h), (fun h => f11.out h)⟩
      · intro L vs W hlen hL hD hI K hK
        obtain ⟨x0, x1, x2, x3, x4, x5, x6, x7, x8, x9, x10, x11, rfl⟩ := len12 hlen
        have hG := hI.1
        replace hI := hI.2
        have f0 := hide hI.1
        replace hI := hI.2
        have f1 := hide hI.1
        replace hI := hI.2
        have f2 := hide hI.1
        replace hI := hI.2
        have f3 := hide hI.1
        replace hI := hI.2
        have f4 := hide hI.1
        replace hI := hI.2
        have f5 := hide hI.1
        replace hI := hI.2
        have f6 := hide hI.1
        replace hI := hI.2
        have f7 := hide hI.1
        replace hI := hI.2
        have f8 := hide hI.1
        replace hI := hI.2
        have f9 := hide hI.1
        replace hI := hI.2
        have f10 := hide hI.1
        replace hI := hI.2
        have f11 := hide hI
        clear hI
        have b1 := hG.cell 1 rfl
        obtain rfl := f5.out (hD.on 5 (by kernel_rfl))
        obtain rfl := f7.out (hD.on 7 (by kernel_rfl))
        obtain rfl := f8.out (hD.on 8 (by kernel_rfl))
        try simp only [puts, Act.put, List.setIfInBounds_toArray, List.set_cons_zero, List.set_cons_succ]
        try go_simp
        rw [hL] at hG
        refine (hG.callR HCB.out).mono ?_
        rintro e W' ⟨rfl, hG2⟩
        try go_simp
        exact hK.out _ _ _ (by simp only [puts, Act.put, List.setIfInBounds_toArray, List.set_cons_zero, List.set_cons_succ] <;> rfl) ⟨hG2, (fun h => f0.out h), (fun h => f1.out h), (fun h => f2.out h), (fun h => f3.out h), (fun h => f4.out h), (fun h => f5.out h), (fun h => f6.out h), (fun h => f7.out h), (fun h => f8.out h), (fun _ => rfl), (fun h => f10.out h), (fun h => f11.out h)⟩
      · intro L vs W hlen hL hD hI K hK
        obtain ⟨x0, x1, x2, x3, x4, x5, x6, x7, x8, x9, x10, x11, rfl⟩ := len12 hlen
        have hG := hI.1
        replace hI := hI.2
        have f0 := hide hI.1
        replace hI := hI.2
        have f1 := hide hI.1
        replace hI := hI.2
        have f2 := hide hI.1
        replace hI := hI.2
        have f3 := hide hI.1
        replace hI := hI.2
        have f4 := hide hI.1
        replace hI := hI.2
        have f5 := hide hI.1
        replace hI := hI.2
        have f6 := hide hI.1
        replace hI := hI.2
        have f7 := hide hI.1
        replace hI := hI.2
        have f8 := hide hI.1
        replace hI := hI.2
        have f9 := hide hI.1
        replace hI := hI.2
        have f10 := hide hI.1
        replace hI := hI.2
        have f11 := hide hI
        clear hI
        have b1 := hG.cell 1 rfl
        obtain rfl := f4.out (hD.on 4 (by kernel_rfl))
        obtain rfl := f9.out (hD.on 9 (by kernel_rfl))
        try simp only [puts, Act.put, List.setIfInBounds_toArray, List.set_cons_zero, List.set_cons_succ]
        try go_simp
        exact hK.out _ _ _ (by simp only [puts, Act.put, List.setIfInBounds_toArray, List.set_cons_zero, List.set_cons_succ] <;> rfl) ⟨hG, (fun h => f0.out h), (fun h => f1.out h), (fun h => f2.out h), (fun h => f3.out h), (fun h => f4.out h), (fun h => f5.out h), (fun h => f6.out h), (fun h => f7.out h), (fun h => f8.out h), (fun h => f9.out h), (fun _ => rfl), (fun h => f11.out h)⟩
      · intro L vs W hlen hL hD hI K hK
        obtain ⟨x0, x1, x2, x3, x4, x5, x6, x7, x8, x9, x10, x11, rfl⟩ := len12 hlen
        have hG := hI.1
        replace hI := hI.2
        have f0 := hide hI.1
        replace hI := hI.2
        have f1 := hide hI.1
        replace hI := hI.2
        have f2 := hide hI.1
        replace hI := hI.2
        have f3 := hide hI.1
        replace hI := hI.2
        have f4 := hide hI.1
        replace hI := hI.2
        have f5 := hide hI.1
        replace hI := hI.2
        have f6 := hide hI.1
        replace hI := hI.2
        have f7 := hide hI.1
        replace hI := hI.2
        have f8 := hide hI.1
        replace hI := hI.2
        have f9 := hide hI.1
        replace hI := hI.2
        have f10 := hide hI.1
        replace hI := hI.2
        have f11 := hide hI
        clear hI
        have b1 := hG.cell 1 rfl
        obtain rfl := f10.out (hD.on 10 (by kernel_rfl))
        try simp only [puts, Act.put, List.setIfInBounds_toArray, List.set_cons_zero, List.set_cons_succ]
        try go_simp
        exact hK.out _ _ _ (by simp only [puts, Act.put, List.setIfInBounds_toArray, List.set_cons_zero, List.set_cons_succ] <;> rfl) ⟨hG, (fun h => f0.out h), (fun h => f1.out h), (fun h => f2.out h), (fun h => f3.out h), (fun h => f4.out h), (fun h => f5.out h), (fun h => f6.out h), (fun h => f7.out h), (fun h => f8.out h), (fun h => f9.out h), (fun h => f10.out h), (fun _ => rfl)⟩
    intro L vs W hlen hall hI
    obtain ⟨x0, x1, x2, x3, x4, x5, x6, x7, x8, x9, x10, x11, rfl⟩ := len12 hlen
    have hG := hI.1
    replace hI := hI.2
    have f0 := hide hI.1
    replace hI := hI.2
    have f1 := hide hI.1
    replace hI := hI.2
    have f2 := hide hI.1
    replace hI := hI.2
    have f3 := hide hI.1
    replace hI := hI.2
    have f4 := hide hI.1
    replace hI := hI.2
    have f5 := hide hI.1
    replace hI := hI.2
    have f6 := hide hI.1
    replace hI := hI.2
    have f7 := hide hI.1
    replace hI := hI.2
    have f8 := hide hI.1
    replace hI := hI.2
    have f9 := hide hI.1
    replace hI := hI.2
    have f10 := hide hI.1
    replace hI := hI.2
    have f11 := hide hI
    clear hI
    obtain rfl := f0.out (hall 0 (by decide))
    obtain rfl := f1.out (hall 1 (by decide))
    obtain rfl := f2.out (hall 2 (by decide))
    obtain rfl := f3.out (hall 3 (by decide))
    obtain rfl := f4.out (hall 4 (by decide))
    obtain rfl := f5.out (hall 5 (by decide))
    obtain rfl := f6.out (hall 6 (by decide))
    obtain rfl := f7.out (hall 7 (by decide))
    obtain rfl := f8.out (hall 8 (by decide))
    obtain rfl := f9.out (hall 9 (by decide))
    obtain rfl := f10.out (hall 10 (by decide))
    obtain rfl := f11.out (hall 11 (by decide))
    have hal := hide hall
    clear hall f0 f1 f2 f3 f4 f5 f6 f7 f8 f9 f10 f11
    try simp only [puts, Act.put, List.setIfInBounds_toArray, List.set_cons_zero, List.set_cons_succ]
    rw [hal.out 4 (by decide), hal.out 9 (by decide)] at hG
    obtain ⟨pv5, sv5, lv5, hB5, -, hbw5, -⟩ := hG
    go_wp2_with fail
    go_ret
    exact ⟨rfl, pv5, sv5, lv5, d', hB5, HCB.out.vis HVI.out, HCB.out.few, hbw5⟩
  | 1, _ =>
    obtain ⟨k, d', hcb⟩ := write_both (B := B) HAN.out hn1 hn yo (cutS ys 300) i2 (by rw [cutS_size]; omega) (by omega)
    have HCB := hide hcb
    clear hcb
    go_wp2_with fail
    refine (HCT.out W1).mono ?_
    rintro e w2 ⟨rfl, hw2⟩
    obtain rfl := hw2
    go_wp2_with fail
    refine wp_region_inv [some 22, some 23, some 24, some 25, some 26, some 27, some 28, some 29, some 30, some 31, some 32, some 6] (fun L vs W => match vs with | [x0, x1, x2, x3, x4, x5, x6, x7, x8, x9, x10, x11] => (StG n B w D U V X w.heap.size [.int .i64 yc, .int .i64 yo, .int .i64 yn, .string ys, .slice ka K.length kc] d d' (toR d) (toR d') (L 4) (L 9) W) ∧ (L 0 = true → x0 = .pointer (some ⟨D, 0, none⟩)) ∧ (L 1 = true → x1 = .pointer (some ⟨w.heap.size, 1, none⟩)) ∧ (L 2 = true → x2 = .int .i64 yo) ∧ (L 3 = true → x3 = .string (cutS ys 300)) ∧ (L 4 = true → x4 = .int .i64 k) ∧ (L 5 = true → x5 = .pointer (some ⟨X, 0, none⟩)) ∧ (L 6 = true → x6 = .pointer (some ⟨w.heap.size, 1, none⟩)) ∧ (L 7 = true → x7 = .int .i64 yo) ∧ (L 8 = true → x8 = .string (cutS ys 300)) ∧ (L 9 = true → x9 = .int .i64 k) ∧ (L 10 = true → x10 = .bool true) ∧ (L 11 = true → x11 = .bool true) | _ => False) [_, _, _, _, _, _, _, _, _, _, _, _] (by kernel_rfl) (by kernel_rfl) rfl (by simp only [puts, Act.put, List.setIfInBounds_toArray, List.set_cons_zero, List.set_cons_succ] <;> rfl) ?_ ?_ ?_
    · exact ⟨StG.drew ⟨pv, sv, lv, hB1, bY, hbw1, Nat.le_trans hB0 hb1.size⟩, (fun h => by cases h), (fun h => by cases h), (fun h => by cases h), (fun h => by cases h), (fun h => by cases h), (fun h => by cases h), (fun h => by cases h), (fun h => by cases h), (fun h => by cases h), (fun h => by cases h), (fun h => by cases h), (fun h => by cases h)⟩
    · refine ⟨?_, ?_, ?_, ?_, ?_, ?_, ?_, ?_, ?_, ?_, ?_, ?_, trivial⟩
      · intro L vs W hlen hL hD hI K hK
        obtain ⟨x0, x1, x2, x3, x4, x5, x6, x7, x8, x9, x10, x11, rfl⟩ := len12 hlen
        have hG := hI.1
        replace hI := hI.2
        have f0 := hide hI.1
        replace hI := hI.2
        have f1 := hide hI.1
        replace hI := hI.2
        have f2 := hide hI.1
        replace hI := hI.2
        have f3 := hide hI.1
        replace hI := hI.2
        have f4 := hide hI.1
        replace hI := hI.2
        have f5 := hide hI.1
        replace hI := hI.2
        have f6 := hide hI.1
        replace hI := hI.2
        have f7 := hide hI.1
        replace hI := hI.2
        have f8 := hide hI.1
        replace hI := hI.2
        have f9 := hide hI.1
        replace hI := hI.2
        have f10 := hide hI.1
        replace hI := hI.2
        have f11 := hide hI
        clear hI
        have b1 := hG.cell 1 rfl
        try simp only [puts, Act.put, List.setIfInBounds_toArray, List.set_cons_zero, List.set_cons_succ]
        try go_simp
        exact hK.out _ _ _ (by simp only [puts, Act.put, List.setIfInBounds_toArray, List.set_cons_zero, List.set_cons_succ] <;> rfl) ⟨hG, (fun _ => rfl), (fun h => f1.out h), (fun h => f2.out h), (fun h => f3.out h), (fun h => f4.out h), (fun h => f5.out h), (fun h => f6.out h), (fun h => f7.out h), (fun h => f8.out h), (fun h => f9.out h), (fun h => f10.out h), (fun h => f11.out h)⟩
      · intro L vs W hlen hL hD hI K hK
        obtain ⟨x0, x1, x2, x3, x4, x5, x6, x7, x8, x9, x10, x11, rfl⟩ := len12 hlen
        have hG := hI.1
        replace hI := hI.2
        have f0 := hide hI.1
        replace hI := hI.2
        have f1 := hide hI.1
        replace hI := hI.2
        have f2 := hide hI.1
        replace hI := hI.2
        have f3 := hide hI.1
        replace hI := hI.2
        have f4 := hide hI.1
        replace hI := hI.2
        have f5 := hide hI.1
        replace hI := hI.2
        have f6 := hide hI.1
        replace hI := hI.2
        have f7 := hide hI.1
        replace hI := hI.2
        have f8 := hide hI.1
        replace hI := hI.2
        have f9 := hide hI.1
        replace hI := hI.2
        have f10 := hide hI.1
        replace hI := hI.2
        have f11 := hide hI
        clear hI
        have b1 := hG.cell 1 rfl
        try simp only [puts, Act.put, List.setIfInBounds_toArray, List.set_cons_zero, List.set_cons_succ]
        try go_simp
        exact hK.out _ _ _ (by simp only [puts, Act.put, List.setIfInBounds_toArray, List.set_cons_zero, List.set_cons_succ] <;> rfl) ⟨hG, (fun h => f0.out h), (fun _ => rfl), (fun h => f2.out h), (fun h => f3.out h), (fun h => f4.out h), (fun h => f5.out h), (fun h => f6.out h), (fun h => f7.out h), (fun h => f8.out h), (fun h => f9.out h), (fun h => f10.out h), (fun h => f11.out h)⟩
      · intro L vs W hlen hL hD hI K hK
        obtain ⟨x0, x1, x2, x3, x4, x5, x6, x7, x8, x9, x10, x11, rfl⟩ := len12 hlen
        have hG := hI.1
        replace hI := hI.2
        have f0 := hide hI.1
        replace hI := hI.2
        have f1 := hide hI.1
        replace hI := hI.2
        have f2 := hide hI.1
        replace hI := hI.2
        have f3 := hide hI.1
        replace hI := hI.2
        have f4 := hide hI.1
        replace hI := hI.2
        have f5 := hide hI.1
        replace hI := hI.2
        have f6 := hide hI.1
        replace hI := hI.2
        have f7 := hide hI.1
        replace hI := hI.2
        have f8 := hide hI.1
        replace hI := hI.2
        have f9 := hide hI.1
        replace hI := hI.2
        have f10 := hide hI.1
        replace hI := hI.2
        have f11 := hide hI
        clear hI
        have b1 := hG.cell 1 rfl
        obtain rfl := f1.out (hD.on 1 (by kernel_rfl))
        try simp only [puts, Act.put, List.setIfInBounds_toArray, List.set_cons_zero, List.set_cons_succ]
        try go_simp
        exact hK.out _ _ _ (by simp only [puts, Act.put, List.setIfInBounds_toArray, List.set_cons_zero, List.set_cons_succ] <;> rfl) ⟨hG, (fun h => f0.out h), (fun h => f1.out h), (fun _ => rfl), (fun h => f3.out h), (fun h => f4.out h), (fun h => f5.out h), (fun h => f6.out h), (fun h => f7.out h), (fun h => f8.out h), (fun h => f9.out h), (fun h => f10.out h), (fun h => f11.out h)⟩
      · intro L vs W hlen hL hD hI K hK
        obtain ⟨x0, x1, x2, x3, x4, x5, x6, x7, x8, x9, x10, x11, rfl⟩ := len12 hlen
        have hG := hI.1
        replace hI := hI.2
        have f0 := hide hI.1
        replace hI := hI.2
        have f1 := hide hI.1
        replace hI := hI.2
        have f2 := hide hI.1
        replace hI := hI.2
        have f3 := hide hI.1
        replace hI := hI.2
        have f4 := hide hI.1
        replace hI := hI.2
        have f5 := hide hI.1
        replace hI := hI.2
        have f6 := hide hI.1
        replace hI := hI.2
        have f7 := hide hI.1
        replace hI := hI.2
        have f8 := hide hI.1
        replace hI := hI.2
        have f9 := hide hI.1
        replace hI := hI.2
        have f10 := hide hI.1
        replace hI := hI.2
        have f11 := hide hI
        clear hI
        have b1 := hG.cell 1 rfl
        try simp only [puts, Act.put, List.setIfInBounds_toArray, List.set_cons_zero, List.set_cons_succ]
        try go_simp
        exact hK.out _ _ _ (by simp only [puts, Act.put, List.setIfInBounds_toArray, List.set_cons_zero, List.set_cons_succ] <;> rfl) ⟨hG, (fun h => f0.out h), (fun h => f1.out h), (fun h => f2.out h), (fun _ => rfl), (fun h => f4.out h), (fun h => f5.out h), (fun h => f6.out h), (fun h => f7.out h), (fun h => f8.out h), (fun h => f9.out h), (fun h => f10.out h), (fun h => f11.out h)⟩
      · intro L vs W hlen hL hD hI K hK
        obtain ⟨x0, x1, x2, x3, x4, x5, x6, x7, x8, x9, x10, x11, rfl⟩ := len12 hlen
        have hG := hI.1
        replace hI := hI.2
        have f0 := hide hI.1
        replace hI := hI.2
        have f1 := hide hI.1
        replace hI := hI.2
        have f2 := hide hI.1
        replace hI := hI.2
        have f3 := hide hI.1
        replace hI := hI.2
        have f4 := hide hI.1
        replace hI := hI.2
        have f5 := hide hI.1
        replace hI := hI.2
        have f6 := hide hI.1
        replace hI := hI.2
        have f7 := hide hI.1
        replace hI := hI.2
        have f8 := hide hI.1
        replace hI := hI.2
        have f9 := hide hI.1
        replace hI := hI.2
        have f10 := hide hI.1
        replace hI := hI.2
        have f11 := hide hI
        clear hI
        have b1 := hG.cell 1 rfl
        obtain rfl := f0.out (hD.on 0 (by kernel_rfl))
        obtain rfl := f2.out (hD.on 2 (by kernel_rfl))
        obtain rfl := f3.out (hD.on 3 (by kernel_rfl))
        try simp only [puts, Act.put, List.setIfInBounds_toArray, List.set_cons_zero, List.set_cons_succ]
        try go_simp
        rw [hL] at hG
        refine (hG.callD HCB.out).mono ?_
        rintro e W' ⟨rfl, hG2⟩
        try go_simp
        exact hK.out _ _ _ (by simp only [puts, Act.put, List.setIfInBounds_toArray, List.set_cons_zero, List.set_cons_succ] <;> rfl) ⟨hG2, (fun h => f0.out h), (fun h => f1.out h), (fun h => f2.out h), (fun h => f3.out h), (fun _ => rfl), (fun h => f5.out h), (fun h => f6.out h), (fun h => f7.out h), (fun h => f8.out h), (fun h => f9.out h), (fun h => f10.out h), (fun h => f11.out h)⟩
      · intro L vs W hlen hL hD hI K hK
        obtain ⟨x0, x1, x2, x3, x4, x5, x6, x7, x8, x9, x10, x11, rfl⟩ := len12 hlen
        have hG := hI.1
        replace hI := hI.2
        have f0 := hide hI.1
        replace hI := hI.2
        have f1 := hide hI.1
        replace hI := hI.2
        have f2 := hide hI.1
        replace hI := hI.2
        have f3 := hide hI.1
        replace hI := hI.2
        have f4 := hide hI.1
        replace hI := hI.2
        have f5 := hide hI.1
        replace hI := hI.2
        have f6 := hide hI.1
        replace hI := hI.2
        have f7 := hide hI.1
        replace hI := hI.2
        have f8 := hide hI.1
        replace hI := hI.2
        have f9 := hide hI.1
        replace hI := hI.2
        have f10 := hide hI.1
        replace hI := hI.2
        have f11 := hide hI
        clear hI
        have b1 := hG.cell 1 rfl
        try simp only [puts, Act.put, List.setIfInBounds_toArray, List.set_cons_zero, List.set_cons_succ]
        try go_simp
        exact hK.out _ _ _ (by simp only [puts, Act.put, List.setIfInBounds_toArray, List.set_cons_zero, List.set_cons_succ] <;> rfl) ⟨hG, (fun h => f0.out h), (fun h => f1.out h), (fun h => f2.out h), (fun h => f3.out h), (fun h => f4.out h), (fun _ => rfl), (fun h => f6.out h), (fun h => f7.out h), (fun h => f8.out h), (fun h => f9.out h), (fun h => f10.out h), (fun h => f11.out h)⟩
      · intro L vs W hlen hL hD hI K hK
        obtain ⟨x0, x1, x2, x3, x4, x5, x6, x7, x8, x9, x10, x11, rfl⟩ := len12 hlen
        have hG := hI.1
        replace hI := hI.2
        have f0 := hide hI.1
        replace hI := hI.2
        have f1 := hide hI.1
        replace hI := hI.2
        have f2 := hide hI.1
        replace hI := hI.2
        have f3 := hide hI.1
        replace hI := hI.2
        have f4 := hide hI.1
        replace hI := hI.2
        have f5 := hide hI.1
        replace hI := hI.2
        have f6 := hide hI.1
        replace hI := hI.2
        have f7 := hide hI.1
        replace hI := hI.2
        have f8 := hide hI.1
        replace hI := hI.2
        have f9 := hide hI.1
        replace hI := hI.2
        have f10 := hide hI.1
        replace hI := hI.2
        have f11 := hide hI
        clear hI
        have b1 := hG.cell 1 rfl
        try simp only [puts, Act.put, List.setIfInBounds_toArray, List.set_cons_zero, List.set_cons_succ]
        try go_simp
        exact hK.out _ _ _ (by simp only [puts, Act.put, List.setIfInBounds_toArray, List.set_cons_zero, List.set_cons_succ] <;> rfl) ⟨hG, (fun h => f0.out h), (fun h => f1.out h), (fun h => f2.out h), (fun h => f3.out h), (fun h => f4.out h), (fun h => f5.out h), (fun _ => rfl), (fun h => f7.out h), (fun h => f8.out h), (fun h => f9.out h), (fun h => f10.out h), (fun h => f11.out h)⟩
      · intro L vs W hlen hL hD hI K hK
        obtain ⟨x0, x1, x2, x3, x4, x5, x6, x7, x8, x9, x10, x11, rfl⟩ := len12 hlen
        have hG := hI.1
        replace hI := hI.2
        have f0 := hide hI.1
        replace hI := hI.2
        have f1 := hide hI.1
        replace hI := hI.2
        have f2 := hide hI.1
        replace hI := hI.2
        have f3 := hide hI.1
        replace hI := hI.2
        have f4 := hide hI.1
        replace hI := hI.2
        have f5 := hide hI.1
        replace hI := hI.2
        have f6 := hide hI.1
        replace hI := hI.2
        have f7 := hide hI.1
        replace hI := hI.2
        have f8 := hide hI.1
        replace hI := hI.2
        have f9 := hide hI.1
        replace hI := hI.2
        have f10 := hide hI.1
        replace hI := hI.2
        have f11 := hide hI
        clear hI
        have b1 := hG.cell 1 rfl
        obtain rfl := f6.out (hD.on 6 (by kernel_rfl))
        try simp only [puts, Act.put, List.setIfInBounds_toArray, List.set_cons_zero, List.set_cons_succ]
        try go_simp
        exact hK.out _ _ _ (by simp only [puts, Act.put, List.setIfInBounds_toArray, List.set_cons_zero, List.set_cons_succ] <;> rfl) ⟨hG, (fun h => f0.out h), (fun h => f1.out h), (fun h => f2.out h), (fun h => f3.out h), (fun h => f4.out h), (fun h => f5.out h), (fun h => f6.out h), (fun _ => rfl), (fun h => f8.out h), (fun h => f9.out h), (fun h => f10.out h), (fun h => f11.out h)⟩
      · intro L vs W hlen hL hD hI K hK
        obtain ⟨x0, x1, x2, x3, x4, x5, x6, x7, x8, x9, x10, x11, rfl⟩ := len12 hlen
        have hG := hI.1
        replace hI := hI.2
        have f0 := hide hI.1
        replace hI := hI.2
        have f1 := hide hI.1
        replace hI := hI.2
        have f2 := hide hI.1
        replace hI := hI.2
        have f3 := hide hI.1
        replace hI := hI.2
        have f4 := hide hI.1
        replace hI := hI.2
        have f5 := hide hI.1
        replace hI := hI.2
        have f6 := hide hI.1
        replace hI := hI.2
        have f7 := hide hI.1
        replace hI := hI.2
        have f8 := hide hI.1
        replace hI := hI.2
        have f9 := hide hI.1
        replace hI := hI.2
        have f10 := hide hI.1
        replace hI := hI.2
        have f11 := hide hI
        clear hI
        have b1 := hG.cell 1 rfl
        try simp only [puts, Act.put, List.setIfInBounds_toArray, List.set_cons_zero, List.set_cons_succ]
        try go_simp
        exact hK.out _ _ _ (by simp only [puts, Act.put, List.setIfInBounds_toArray, List.set_cons_zero, List.set_cons_succ] <;> rfl) ⟨hG, (fun h => f0.out h), (fun h => f1.out h), (fun h => f2.out h), (fun h => f3.out h), (fun h => f4.out h), (fun h => f5.out h), (fun h => f6.out h), (fun h => f7.out h), (fun _ => rfl), (fun h => f9.out h), (fun h => f10.out h), (fun h => f11.out h)⟩
      · intro L vs W hlen hL hD hI K hK
        obtain ⟨x0, x1, x2, x3, x4, x5, x6, x7, x8, x9, x10, x11, rfl⟩ := len12 hlen
        have hG := hI.1
        replace hI := hI.2
        have f0 := hide hI.1
        replace hI := hI.2
        have f1 := hide hI.1
        replace hI := hI.2
        have f2 := hide hI.1
        replace hI := hI.2
        have f3 := hide hI.1
        replace hI := hI.2
        have f4 := hide hI.1
        replace hI := hI.2
        have f5 := hide hI.1
        replace hI := hI.2
        have f6 := hide hI.1
        replace hI := hI.2
        have f7 := hide hI.1
        replace hI := hI.2
        have f8 := hide hI.1
        replace hI := hI.2
        have f9 := hide hI.1
        replace hI := hI.2
        have f10 := hide hI.1
        replace hI := hI.2
        have f11 := hide hI
        clear hI
        have b1 := hG.cell 1 rfl
        obtain rfl := f5.out (hD.on 5 (by kernel_rfl))
        obtain rfl := f7.out (hD.on 7 (by kernel_rfl))
        obtain rfl := f8.out (hD.on 8 (by kernel_rfl))
        try simp only [puts, Act.put, List.setIfInBounds_toArray, List.set_cons_zero, List.set_cons_succ]
        try go_simp
        rw [hL] at hG
        refine (hG.callR HCB.out).mono ?_
        rintro e W' ⟨rfl, hG2⟩
        try go_simp
        exact hK.out _ _ _ (by simp only [puts, Act.put, List.setIfInBounds_toArray, List.set_cons_zero, List.set_cons_succ] <;> rfl) ⟨hG2, (fun h => f0.out h), (fun h => f1.out h), (fun h => f2.out h), (fun h => f3.out h), (fun h => f4.out h), (fun h => f5.out h), (fun h => f6.out h), (fun h => f7.out h), (fun h => f8.out h), (fun _ => rfl), (fun h => f10.out h), (fun h => f11.out h)⟩
      · intro L vs W hlen hL hD hI K hK
        obtain ⟨x0, x1, x2, x3, x4, x5, x6, x7, x8, x9, x10, x11, rfl⟩ := len12 hlen
        have hG := hI.1
        replace hI := hI.2
        have f0 := hide hI.1
        replace hI := hI.2
        have f1 := hide hI.1
        replace hI := hI.2
        have f2 := hide hI.1
        replace hI := hI.2
        have f3 := hide hI.1
        replace hI := hI.2
        have f4 := hide hI.1
        replace hI := hI.2
        have f5 := hide hI.1
        replace hI := hI.2
        have f6 := hide hI.1
        replace hI := hI.2
        have f7 := hide hI.1
        replace hI := hI.2
        have f8 := hide hI.1
        replace hI := hI.2
        have f9 := hide hI.1
        replace hI := hI.2
        have f10 := hide hI.1
        replace hI := hI.2
        have f11 := hide hI
        clear hI
        have b1 := hG.cell 1 rfl
        obtain rfl := f4.out (hD.on 4 (by kernel_rfl))
        obtain rfl := f9.out (hD.on 9 (by kernel_rfl))
        try simp only [puts, Act.put, List.setIfInBounds_toArray, List.set_cons_zero, List.set_cons_succ]
        try go_simp
        exact hK.out _ _ _ (by simp only [puts, Act.put, List.setIfInBounds_toArray, List.set_cons_zero, List.set_cons_succ] <;> rfl) ⟨hG, (fun h => f0.out h), (fun h => f1.out h), (fun h => f2.out h), (fun h => f3.out h), (fun h => f4.out h), (fun h => f5.out h), (fun h => f6.out h), (fun h => f7.out h), (fun h => f8.out h), (fun h => f9.out h), (fun _ => rfl), (fun h => f11.out h)⟩
      · intro L vs W hlen hL hD hI K hK
        obtain ⟨x0, x1, x2, x3, x4, x5, x6, x7, x8, x9, x10, x11, rfl⟩ := len12 hlen
        have hG := hI.1
        replace hI := hI.2
        have f0 := hide hI.1
        replace hI := hI.2
        have f1 := hide hI.1
        replace hI := hI.2
        have f2 := hide hI.1
        replace hI := hI.2
        have f3 := hide hI.1
        replace hI := hI.2
        have f4 := hide hI.1
        replace hI := hI.2
        have f5 := hide hI.1
        replace hI := hI.2
        have f6 := hide hI.1
        replace hI := hI.2
        have f7 := hide hI.1
        replace hI := hI.2
        have f8 := hide hI.1
        replace hI := hI.2
        have f9 := hide hI.1
        replace hI := hI.2
        have f10 := hide hI.1
        replace hI := hI.2
        have f11 := hide hI
        clear hI
        have b1 := hG.cell 1 rfl
        obtain rfl := f10.out (hD.on 10 (by kernel_rfl))
        try simp only [puts, Act.put, List.setIfInBounds_toArray, List.set_cons_zero, List.set_cons_succ]
        try go_simp
        exact hK.out _ _ _ (by simp only [puts, Act.put, List.setIfInBounds_toArray, List.set_cons_zero, List.set_cons_succ] <;> rfl) ⟨hG, (fun h => f0.out h), (fun h => f1.out h), (fun h => f2.out h), (fun h => f3.out h), (fun h => f4.out h), (fun h => f5.out h), (fun h => f6.out h), (fun h => f7.out h), (fun h => f8.out h), (fun h => f9.out h), (fun h => f10.out h), (fun _ => rfl)⟩
    intro L vs W hlen hall hI
    obtain ⟨x0, x1, x2, x3, x4, x5, x6, x7, x8, x9, x10, x11, rfl⟩ := len12 hlen
    have hG := hI.1
    replace hI := hI.2
    have f0 := hide hI.1
    replace hI := hI.2
    have f1 := hide hI.1
    replace hI := hI.2
    have f2 := hide hI.1
    replace hI := hI.2
    have f3 := hide hI.1
    replace hI := hI.2
    have f4 := hide hI.1
    replace hI := hI.2
    have f5 := hide hI.1
    replace hI := hI.2
    have f6 := hide hI.1
    replace hI := hI.2
    have f7 := hide hI.1
    replace hI := hI.2
    have f8 := hide hI.1
    replace hI := hI.2
    have f9 := hide hI.1
    replace hI := hI.2
    have f10 := hide hI.1
    replace hI := hI.2
    have f11 := hide hI
    clear hI
    obtain rfl := f0.out (hall 0 (by decide))
    obtain rfl := f1.out (hall 1 (by decide))
    obtain rfl := f2.out (hall 2 (by decide))
    obtain rfl := f3.out (hall 3 (by decide))
    obtain rfl := f4.out (hall 4 (by decide))
    obtain rfl := f5.out (hall 5 (by decide))
    obtain rfl := f6.out (hall 6 (by decide))
    obtain rfl := f7.out (hall 7 (by decide))
    obtain rfl := f8.out (hall 8 (by decide))
    obtain rfl := f9.out (hall 9 (by decide))
    obtain rfl := f10.out (hall 10 (by decide))
    obtain rfl := f11.out (hall 11 (by decide))
    have hal := hide hall
    clear hall f0 f1 f2 f3 f4 f5 f6 f7 f8 f9 f10 f11
    try simp only [puts, Act.put, List.setIfInBounds_toArray, List.set_cons_zero, List.set_cons_succ]
    rw [hal.out 4 (by decide), hal.out 9 (by decide)] at hG
    obtain ⟨pv5, sv5, lv5, hB5, -, hbw5, -⟩ := hG
    go_wp2_with fail
    go_ret
    exact ⟨rfl, pv5, sv5, lv5, d', hB5, HCB.out.vis HVI.out, HCB.out.few, hbw5⟩
  | 2, _ =>
    obtain ⟨k, d', hcb⟩ := sync_both (B := B) HAN.out hn1 hn (by omega) HVI.out
    have HCB := hide hcb
    clear hcb
    have hg : StG n B w D U V X w.heap.size [.int .i64 yc, .int .i64 yo, .int .i64 yn, .string ys, .slice ka K.length kc] d d' (toR d) (toR d') false false W1 := ⟨pv, sv, lv, hB1, bY, hbw1, Nat.le_trans hB0 hb1.size⟩
    have HG := hide hg
    clear hg
    go_wp2_with fail
    refine (HG.out.callD HCB.out).mono ?_
    rintro e W2 ⟨rfl, hg2⟩
    have HG2 := hide hg2
    clear hg2 HG
    go_wp2_with fail
    refine (HG2.out.callR HCB.out).mono ?_
    rintro e W3 ⟨rfl, hg3⟩
    go_wp2_with fail
    go_ret
    obtain ⟨pv5, sv5, lv5, hB5, -, hbw5, -⟩ := hg3
    exact ⟨rfl, pv5, sv5, lv5, d', hB5, HCB.out.vis HVI.out, HCB.out.few, hbw5⟩
  | 3, _ =>
    obtain ⟨rs, re, hrd, hrr⟩ := read_both (B := B) HAN.out hn1 hn (by omega) HVI.out yo yn i2
    have HRD := hide (hrd D U V pv W1 hB1.A)
    have HRR := hide (hrr X sv lv W1 hB1.R)
    clear hrd hrr
    go_wp2_with fail
    refine HRD.out.mono ?_
    rintro e w2 ⟨rfl, hw2⟩
    obtain rfl := hw2
    go_wp2_with fail
    refine HRR.out.mono ?_
    rintro e W3 ⟨rfl, hb3⟩
    go_wp2_with fail
    go_ret
    exact ⟨rfl, pv, sv, lv, d, hB1.later hb3, HVI.out, Nat.le_succ _, hbw1.trans (hb3.mono (Nat.le_trans hB0 hb1.size))⟩
  | 4, _ =>
    obtain ⟨k, d', hcb⟩ := cut_both (n := n) (B := B) (d := d) yn i3
    have HCB := hide hcb
    clear hcb
    go_wp2_with fail
    refine wp_region_inv [some 70, some 71, some 72, some 73, some 74, some 75, some 76, some 77, some 78, some 6] (fun L vs W => match vs with | [x0, x1, x2, x3, x4, x5, x6, x7, x8, x9] => (StG n B w D U V X w.heap.size [.int .i64 yc, .int .i64 yo, .int .i64 yn, .string ys, .slice ka K.length kc] d d' (toR d) (toR d') (L 3) (L 7) W) ∧ (L 0 = true → x0 = .pointer (some ⟨D, 0, none⟩)) ∧ (L 1 = true → x1 = .pointer (some ⟨w.heap.size, 2, none⟩)) ∧ (L 2 = true → x2 = .int .i64 yn) ∧ (L 3 = true → x3 = .int .i64 k) ∧ (L 4 = true → x4 = .pointer (some ⟨X, 0, none⟩)) ∧ (L 5 = true → x5 = .pointer (some ⟨w.heap.size, 2, none⟩)) ∧ (L 6 = true → x6 = .int .i64 yn) ∧ (L 7 = true → x7 = .int .i64 k) ∧ (L 8 = true → x8 = .bool true) ∧ (L 9 = true → x9 = .bool true) | _ => False) [_, _, _, _, _, _, _, _, _, _] (by kernel_rfl) (by kernel_rfl) rfl (by simp only [puts, Act.put, List.setIfInBounds_toArray, List.set_cons_zero, List.set_cons_succ] <;> rfl) ?_ ?_ ?_
    · exact ⟨StG.drew ⟨pv, sv, lv, hB1, bY, hbw1, Nat.le_trans hB0 hb1.size⟩, (fun h => by cases h), (fun h => by cases h), (fun h => by cases h), (fun h => by cases h), (fun h => by cases h), (fun h => by cases h), (fun h => by cases h), (fun h => by cases h), (fun h => by cases h), (fun h => by cases h)⟩
    · refine ⟨?_, ?_, ?_, ?_, ?_, ?_, ?_, ?_, ?_, ?_, trivial⟩
      · intro L vs W hlen hL hD hI K hK
        obtain ⟨x0, x1, x2, x3, x4, x5, x6, x7, x8, x9, rfl⟩ := len10 hlen
        have hG := hI.1
        replace hI := hI.2
        have f0 := hide hI.1
        replace hI := hI.2
        have f1 := hide hI.1
        replace hI := hI.2
        have f2 := hide hI.1
        replace hI := hI.2
        have f3 := hide hI.1
        replace hI := hI.2
        have f4 := hide hI.1
        replace hI := hI.2
        have f5 := hide hI.1
        replace hI := hI.2
        have f6 := hide hI.1
        replace hI := hI.2
        have f7 := hide hI.1
        replace hI := hI.2
        have f8 := hide hI.1
        replace hI := hI.2
        have f9 := hide hI
        clear hI
        have b2 := hG.cell 2 rfl
        try simp only [puts, Act.put, List.setIfInBounds_toArray, List.set_cons_zero, List.set_cons_succ]
        try go_simp
        exact hK.out _ _ _ (by simp only [puts, Act.put, List.setIfInBounds_toArray, List.set_cons_zero, List.set_cons_succ] <;> rfl) ⟨hG, (fun _ => rfl), (fun h => f1.out h), (fun h => f2.out h), (fun h => f3.out h), (fun h => f4.out h), (fun h => f5.out h), (fun h => f6.out h), (fun h => f7.out h), (fun h => f8.out h), (fun h => f9.out h)⟩
      · intro L vs W hlen hL hD hI K hK
        obtain ⟨x0, x1, x2, x3, x4, x5, x6, x7, x8, x9, rfl⟩ := len10 hlen
        have hG := hI.1
        replace hI := hI.2
        have f0 := hide hI.1
        replace hI := hI.2
        have f1 := hide hI.1
        replace hI := hI.2
        have f2 := hide hI.1
        replace hI := hI.2
        have f3 := hide hI.1
        replace hI := hI.2
        have f4 := hide hI.1
        replace hI := hI.2
        have f5 := hide hI.1
        replace hI := hI.2
        have f6 := hide hI.1
        replace hI := hI.2
        have f7 := hide hI.1
        replace hI := hI.2
        have f8 := hide hI.1
        replace hI := hI.2
        have f9 := hide hI
        clear hI
        have b2 := hG.cell 2 rfl
        try simp only [puts, Act.put, List.setIfInBounds_toArray, List.set_cons_zero, List.set_cons_succ]
        try go_simp
        exact hK.out _ _ _ (by simp only [puts, Act.put, List.setIfInBounds_toArray, List.set_cons_zero, List.set_cons_succ] <;> rfl) ⟨hG, (fun h => f0.out h), (fun _ => rfl), (fun h => f2.out h), (fun h => f3.out h), (fun h => f4.out h), (fun h => f5.out h), (fun h => f6.out h), (fun h => f7.out h), (fun h => f8.out h), (fun h => f9.out h)⟩
      · intro L vs W hlen hL hD hI K hK
        obtain ⟨x0, x1, x2, x3, x4, x5, x6, x7, x8, x9, rfl⟩ := len10 hlen
        have hG := hI.1
        replace hI := hI.2
        have f0 := hide hI.1
        replace hI := hI.2
        have f1 := hide hI.1
        replace hI := hI.2
        have f2 := hide hI.1
        replace hI := hI.2
        have f3 := hide hI.1
        replace hI := hI.2
        have f4 := hide hI.1
        replace hI := hI.2
        have f5 := hide hI.1
        replace hI := hI.2
        have f6 := hide hI.1
        replace hI := hI.2
        have f7 := hide hI.1
        replace hI := hI.2
        have f8 := hide hI.1
        replace hI := hI.2
        have f9 := hide hI
        clear hI
        have b2 := hG.cell 2 rfl
        obtain rfl := f1.out (hD.on 1 (by kernel_rfl))
        try simp only [puts, Act.put, List.setIfInBounds_toArray, List.set_cons_zero, List.set_cons_succ]
        try go_simp
        exact hK.out _ _ _ (by simp only [puts, Act.put, List.setIfInBounds_toArray, List.set_cons_zero, List.set_cons_succ] <;> rfl) ⟨hG, (fun h => f0.out h), (fun h => f1.out h), (fun _ => rfl), (fun h => f3.out h), (fun h => f4.out h), (fun h => f5.out h), (fun h => f6.out h), (fun h => f7.out h), (fun h => f8.out h), (fun h => f9.out h)⟩
      · intro L vs W hlen hL hD hI K hK
        obtain ⟨x0, x1, x2, x3, x4, x5, x6, x7, x8, x9, rfl⟩ := len10 hlen
        have hG := hI.1
        replace hI := hI.2
        have f0 := hide hI.1
        replace hI := hI.2
        have f1 := hide hI.1
        replace hI := hI.2
        have f2 := hide hI.1
        replace hI := hI.2
        have f3 := hide hI.1
        replace hI := hI.2
        have f4 := hide hI.1
        replace hI := hI.2
        have f5 := hide hI.1
        replace hI := hI.2
        have f6 := hide hI.1
        replace hI := hI.2
        have f7 := hide hI.1
        replace hI := hI.2
        have f8 := hide hI.1
        replace hI := hI.2
        have f9 := hide hI
        clear hI
        have b2 := hG.cell 2 rfl
        obtain rfl := f0.out (hD.on 0 (by kernel_rfl))
        obtain rfl := f2.out (hD.on 2 (by kernel_rfl))
        try simp only [puts, Act.put, List.setIfInBounds_toArray, List.set_cons_zero, List.set_cons_succ]
        try go_simp
        rw [hL] at hG
        refine (hG.callD HCB.out).mono ?_
        rintro e W' ⟨rfl, hG2⟩
        try go_simp
        exact hK.out _ _ _ (by simp only [puts, Act.put, List.setIfInBounds_toArray, List.set_cons_zero, List.set_cons_succ] <;> rfl) ⟨hG2, (fun h => f0.out h), (fun h => f1.out h), (fun h => f2.out h), (fun _ => rfl), (fun h => f4.out h), (fun h => f5.out h), (fun h => f6.out h), (fun h => f7.out h), (fun h => f8.out h), (fun h => f9.out h)⟩
      · intro L vs W hlen hL hD hI K hK
        obtain ⟨x0, x1, x2, x3, x4, x5, x6, x7, x8, x9, rfl⟩ := len10 hlen
        have hG := hI.1
        replace hI := hI.2
        have f0 := hide hI.1
        replace hI := hI.2
        have f1 := hide hI.1
        replace hI := hI.2
        have f2 := hide hI.1
        replace hI := hI.2
        have f3 := hide hI.1
        replace hI := hI.2
        have f4 := hide hI.1
        replace hI := hI.2
        have f5 := hide hI.1
        replace hI := hI.2
        have f6 := hide hI.1
        replace hI := hI.2
        have f7 := hide hI.1
        replace hI := hI.2
        have f8 := hide hI.1
        replace hI := hI.2
        have f9 := hide hI
        clear hI
        have b2 := hG.cell 2 rfl
        try simp only [puts, Act.put, List.setIfInBounds_toArray, List.set_cons_zero, List.set_cons_succ]
        try go_simp
        exact hK.out _ _ _ (by simp only [puts, Act.put, List.setIfInBounds_toArray, List.set_cons_zero, List.set_cons_succ] <;> rfl) ⟨hG, (fun h => f0.out h), (fun h => f1.out h), (fun h => f2.out h), (fun h => f3.out h), (fun _ => rfl), (fun h => f5.out h), (fun h => f6.out h), (fun h => f7.out h), (fun h => f8.out h), (fun h => f9.out h)⟩
      · intro L vs W hlen hL hD hI K hK
        obtain ⟨x0, x1, x2, x3, x4, x5, x6, x7, x8, x9, rfl⟩ := len10 hlen
        have hG := hI.1
        replace hI := hI.2
        have f0 := hide hI.1
        replace hI := hI.2
        have f1 := hide hI.1
        replace hI := hI.2
        have f2 := hide hI.1
        replace hI := hI.2
        have f3 := hide hI.1
        replace hI := hI.2
        have f4 := hide hI.1
        replace hI := hI.2
        have f5 := hide hI.1
        replace hI := hI.2
        have f6 := hide hI.1
        replace hI := hI.2
        have f7 := hide hI.1
        replace hI := hI.2
        have f8 := hide hI.1
        replace hI := hI.2
        have f9 := hide hI
        clear hI
        have b2 := hG.cell 2 rfl
        try simp only [puts, Act.put, List.setIfInBounds_toArray, List.set_cons_zero, List.set_cons_succ]
        try go_simp
        exact hK.out _ _ _ (by simp only [puts, Act.put, List.setIfInBounds_toArray, List.set_cons_zero, List.set_cons_succ] <;> rfl) ⟨hG, (fun h => f0.out h), (fun h => f1.out h), (fun h => f2.out h), (fun h => f3.out h), (fun h => f4.out h), (fun _ => rfl), (fun h => f6.out h), (fun h => f7.out h), (fun h => f8.out h), (fun h => f9.out h)⟩
      · intro L vs W hlen hL hD hI K hK
        obtain ⟨x0, x1, x2, x3, x4, x5, x6, x7, x8, x9, rfl⟩ := len10 hlen
        have hG := hI.1
        replace hI := hI.2
        have f0 := hide hI.1
        replace hI := hI.2
        have f1 := hide hI.1
        replace hI := hI.2
        have f2 := hide hI.1
        replace hI := hI.2
        have f3 := hide hI.1
        replace hI := hI.2
        have f4 := hide hI.1
        replace hI := hI.2
        have f5 := hide hI.1
        replace hI := hI.2
        have f6 := hide hI.1
        replace hI := hI.2
        have f7 := hide hI.1
        replace hI := hI.2
        have f8 := hide hI.1
        replace hI := hI.2
        have f9 := hide hI
        clear hI
        have b2 := hG.cell 2 rfl
        obtain rfl := f5.out (hD.on 5 (by kernel_rfl))
        try simp only [puts, Act.put, List.setIfInBounds_toArray, List.set_cons_zero, List.set_cons_succ]
        try go_simp
        exact hK.out _ _ _ (by simp only [puts, Act.put, List.setIfInBounds_toArray, List.set_cons_zero, List.set_cons_succ] <;> rfl) ⟨hG, (fun h => f0.out h), (fun h => f1.out h), (fun h => f2.out h), (fun h => f3.out h), (fun h => f4.out h), (fun h => f5.out h), (fun _ => rfl), (fun h => f7.out h), (fun h => f8.out h), (fun h => f9.out h)⟩
      · intro L vs W hlen hL hD hI K hK
        obtain ⟨x0, x1, x2, x3, x4, x5, x6, x7, x8, x9, rfl⟩ := len10 hlen
        have hG := hI.1
        replace hI := hI.2
        have f0 := hide hI.1
        replace hI := hI.2
        have f1 := hide hI.1
        replace hI := hI.2
        have f2 := hide hI.1
        replace hI := hI.2
        have f3 := hide hI.1
        replace hI := hI.2
        have f4 := hide hI.1
        replace hI := hI.2
        have f5 := hide hI.1
        replace hI := hI.2
        have f6 := hide hI.1
        replace hI := hI.2
        have f7 := hide hI.1
        replace hI := hI.2
        have f8 := hide hI.1
        replace hI := hI.2
        have f9 := hide hI
        clear hI
        have b2 := hG.cell 2 rfl
        obtain rfl := f4.out (hD.on 4 (by kernel_rfl))
        obtain rfl := f6.out (hD.on 6 (by kernel_rfl))
        try simp only [puts, Act.put, List.setIfInBounds_toArray, List.set_cons_zero, List.set_cons_succ]
        try go_simp
        rw [hL] at hG
        refine (hG.callR HCB.out).mono ?_
        rintro e W' ⟨rfl, hG2⟩
        try go_simp
        exact hK.out _ _ _ (by simp only [puts, Act.put, List.setIfInBounds_toArray, List.set_cons_zero, List.set_cons_succ] <;> rfl) ⟨hG2, (fun h => f0.out h), (fun h => f1.out h), (fun h => f2.out h), (fun h => f3.out h), (fun h => f4.out h), (fun h => f5.out h), (fun h => f6.out h), (fun _ => rfl), (fun h => f8.out h), (fun h => f9.out h)⟩
      · intro L vs W hlen hL hD hI K hK
        obtain ⟨x0, x1, x2, x3, x4, x5, x6, x7, x8, x9, rfl⟩ := len10 hlen
        have hG := hI.1
        replace hI := hI.2
        have f0 := hide hI.1
        replace hI := hI.2
        have f1 := hide hI.1
        replace hI := hI.2
        have f2 := hide hI.1
        replace hI := hI.2
        have f3 := hide hI.1
        replace hI := hI.2
        have f4 := hide hI.1
        replace hI := hI.2
        have f5 := hide hI.1
        replace hI := hI.2
        have f6 := hide hI.1
        replace hI := hI.2
        have f7 := hide hI.1
        replace hI := hI.2
        have f8 := hide hI.1
        replace hI := hI.2
        have f9 := hide hI
        clear hI
        have b2 := hG.cell 2 rfl
        obtain rfl := f3.out (hD.on 3 (by kernel_rfl))
        obtain rfl := f7.out (hD.on 7 (by kernel_rfl))
        try simp only [puts, Act.put, List.setIfInBounds_toArray, List.set_cons_zero, List.set_cons_succ]
        try go_simp
        exact hK.out _ _ _ (by simp only [puts, Act.put, List.setIfInBounds_toArray, List.set_cons_zero, List.set_cons_succ] <;> rfl) ⟨hG, (fun h => f0.out h), (fun h => f1.out h), (fun h => f2.out h), (fun h => f3.out h), (fun h => f4.out h), (fun h => f5.out h), (fun h => f6.out h), (fun h => f7.out h), (fun _ => rfl), (fun h => f9.out h)⟩
      · intro L vs W hlen hL hD hI K hK
        obtain ⟨x0, x1, x2, x3, x4, x5, x6, x7, x8, x9, rfl⟩ := len10 hlen
        have hG := hI.1
        replace hI := hI.2
        have f0 := hide hI.1
        replace hI := hI.2
        have f1 := hide hI.1
        replace hI := hI.2
        have f2 := hide hI.1
        replace hI := hI.2
        have f3 := hide hI.1
        replace hI := hI.2
        have f4 := hide hI.1
        replace hI := hI.2
        have f5 := hide hI.1
        replace hI := hI.2
        have f6 := hide hI.1
        replace hI := hI.2
        have f7 := hide hI.1
        replace hI := hI.2
        have f8 := hide hI.1
        replace hI := hI.2
        have f9 := hide hI
        clear hI
        have b2 := hG.cell 2 rfl
        obtain rfl := f8.out (hD.on 8 (by kernel_rfl))
        try simp only [puts, Act.put, List.setIfInBounds_toArray, List.set_cons_zero, List.set_cons_succ]
        try go_simp
        exact hK.out _ _ _ (by simp only [puts, Act.put, List.setIfInBounds_toArray, List.set_cons_zero, List.set_cons_succ] <;> rfl) ⟨hG, (fun h => f0.out h), (fun h => f1.out h), (fun h => f2.out h), (fun h => f3.out h), (fun h => f4.out h), (fun h => f5.out h), (fun h => f6.out h), (fun h => f7.out h), (fun h => f8.out h), (fun _ => rfl)⟩
    intro L vs W hlen hall hI
    obtain ⟨x0, x1, x2, x3, x4, x5, x6, x7, x8, x9, rfl⟩ := len10 hlen
    have hG := hI.1
    replace hI := hI.2
    have f0 := hide hI.1
    replace hI := hI.2
    have f1 := hide hI.1
    replace hI := hI.2
    have f2 := hide hI.1
    replace hI := hI.2
    have f3 := hide hI.1
    replace hI := hI.2
    have f4 := hide hI.1
    replace hI := hI.2
    have f5 := hide hI.1
    replace hI := hI.2
    have f6 := hide hI.1
    replace hI := hI.2
    have f7 := hide hI.1
    replace hI := hI.2
    have f8 := hide hI.1
    replace hI := hI.2
    have f9 := hide hI
    clear hI
    obtain rfl := f0.out (hall 0 (by decide))
    obtain rfl := f1.out (hall 1 (by decide))
    obtain rfl := f2.out (hall 2 (by decide))
    obtain rfl := f3.out (hall 3 (by decide))
    obtain rfl := f4.out (hall 4 (by decide))
    obtain rfl := f5.out (hall 5 (by decide))
    obtain rfl := f6.out (hall 6 (by decide))
    obtain rfl := f7.out (hall 7 (by decide))
    obtain rfl := f8.out (hall 8 (by decide))
    obtain rfl := f9.out (hall 9 (by decide))
    have hal := hide hall
    clear hall f0 f1 f2 f3 f4 f5 f6 f7 f8 f9
    try simp only [puts, Act.put, List.setIfInBounds_toArray, List.set_cons_zero, List.set_cons_succ]
    rw [hal.out 3 (by decide), hal.out 7 (by decide)] at hG
    obtain ⟨pv5, sv5, lv5, hB5, -, hbw5, -⟩ := hG
    go_wp2_with fail
    go_ret
    exact ⟨rfl, pv5, sv5, lv5, d', hB5, HCB.out.vis HVI.out, HCB.out.few, hbw5⟩
  | 5, _ =>
    have hKT := ints_take 100 hK1
    have hok := hB1.A.ok
    have hmin : (min (K.length : Int) 100) = ((min K.length 100 : Nat) : Int) := by omega
    have HRC := hide (rcrash_any n X sv lv (toR d) (K.take 100) _ yn W1 hB1.R hok hn1 hn (show d.pend.length < 1000000 by omega) hKT i3)
    clear hok
    go_wp2_with fail
    refine HRC.out.mono ?_
    rintro e w2 ⟨rfl, sv2, lv2, hR2, hE2, o1, o2⟩
    have hoff := ref_off hB1.R bY (by decide) (by decide) (by decide)
    have bY2 := bY.eff hE2 hoff
    have hB1s : B ≤ W1.heap.size := Nat.le_trans hB0 hb1.size
    rw [toR_crash] at hR2
    have hB2 := hB1.ref hB1s hR2 hE2 o1 o2
    have hbw2 := hbw1.trans (hE2.below hB1s hB1.low)
    have hB2s := Nat.le_trans hB1s hE2.size
    have hcr := crash_w (K := K.take 100) (torn := yn) hB2.A hB2s hn (show d.pend.length < 1000000 by omega) (ints_take 100 (low_at HKI.out hbw2)) (by rw [List.length_take]; omega) i3
    have HCR := hide hcr
    have b2 := bY2.cell 2 rfl
    have b4 := bY2.cell 4 rfl
    clear c1 c2 c3 c4 hcr HRC bY
    go_wp2_with fail
    refine HCR.out.mono ?_
    rintro e w3 ⟨rfl, pv3, hO3, hE3, o3⟩
    go_wp2_with fail
    go_ret
    exact ⟨rfl, pv3, sv2, lv2, crashD d (K.take 100) yn, hB2.disk hO3.any hE3 o3, rfl, Nat.zero_le _, hbw2.trans (hE3.below hB2s hB2.A.low)⟩
end Go.Proofs.Ytednelejpkchbaa
