/- Register: the walk of RegisterNarrows. Conditions: how the truth and the global tables lie in memory; that integers are of 64 bits. -/
import Derived.Test.YtoofkahklboojaaDoorRkZS
import Derived.Test.YtoofkahklboojaaDoorRkQ
import Derived.Test.YtoofkahklboojaaDoorRhE
import Derived.Test.YtoofkahklboojaaDoorRtC
import Derived.Test.YtoofkahklboojaaDoorAppS
namespace Go.Proofs.YtoofkahklboojaaDoor
open Go.RowKit

theorem filt_succ2 {l : List DotD} {k : Nat} {h : DotD → Bool} (hk : k < l.length) : (l.take (k + 1)).filter h = (l.take k).filter h ++ if h (l.getD k dot0) = true then [l.getD k dot0] else [] := by
  rw [take_succ' l k dot0 hk, List.filter_append]
  congr 1
  cases hh : h (l.getD k dot0) <;> simp [hh, -List.getD_eq_getElem?_getD]
theorem RecIn.take' {α : Type} {f : α → List Value} {d : α} {k n j : Nat} {c : Rd} {l : List α} {a : Option Addr} (h : RecIn f d k c (.slice a l.length n) l) (hj : j ≤ l.length) : RecIn f d k c (.slice a j n) (l.take j) := by
  obtain ⟨a', n', h1, h2, h3, h4⟩ := h
  cases h1
  have e : (l.take j).length = j := by rw [List.length_take, Nat.min_eq_left hj]
  refine ⟨a, n, by rw [e], by omega, h3, fun i hi => ?_⟩
  rw [e] at hi
  obtain ⟨b, o, e1, hc⟩ := h4 i (by omega)
  refine ⟨b, o, e1, fun m u hu => hc m u ?_⟩
  rwa [List.getD_eq_getElem?_getD, List.getElem?_take_of_lt hi, ← List.getD_eq_getElem?_getD] at hu
theorem RecIn.drop' {α : Type} {f : α → List Value} {d : α} {k n j : Nat} {c : Rd} {l : List α} {a : Option Addr} (h : RecIn f d k c (.slice a l.length n) l) (hj : j ≤ l.length) : RecIn f d k c (.slice (if n = j then a else a.map fun x => x.add (j * k)) (l.length - j) (n - j)) (l.drop j) := by
  obtain ⟨a', n', h1, h2, h3, h4⟩ := h
  cases h1
  have e : (l.drop j).length = l.length - j := List.length_drop
  refine ⟨_, n - j, by rw [e], by omega, by omega, fun i hi => ?_⟩
  rw [e] at hi
  obtain ⟨b, o, rfl, hc⟩ := h4 (j + i) (by omega)
  refine ⟨b, o + j * k, ?_, fun m u hu => ?_⟩
  · rw [if_neg (by omega)]
    generalize j * k = x
    cases x <;> simp [Addr.add]
  · rw [Nat.add_assoc o, ← Nat.add_mul]
    refine hc m u ?_
    rwa [List.getD_eq_getElem?_getD, List.getElem?_drop, ← List.getD_eq_getElem?_getD] at hu
/-- points of a list of one's own, one of which is being written -/
structure WdG (X : World) (g c : Nat) (l0 l1 : List DotD) (d : Bool) (W : World) : Prop where
  hb : Below X.heap.size X W
  hg : X.heap.size ≤ g
  own : OwnR W X.heap.size 53 4 (.slice (some ⟨g, 0, none⟩) (((if d then l1 else l0).map dotC)).length c) ((if d then l1 else l0).map dotC)
theorem WdG.later {X : World} {g c : Nat} {l0 l1 : List DotD} {d : Bool} {W W' : World} (h : WdG X g c l0 l1 d W) (hb : Below W.heap.size W W') : WdG X g c l0 l1 d W' :=
  ⟨below2 h.hb hb, h.hg, h.own.later' hb⟩
theorem WdG.cell {X : World} {g c : Nat} {l0 l1 : List DotD} {W : World} (h : WdG X g c l0 l1 false W) {k : Nat} (hk : k < l0.length) (j : Nat) (hj : j < 4) {u : Value} (hu : (dotC (l0.getD k dot0))[j]? = some u) : W.cell? ⟨g, k * 4 + j, none⟩ = some u :=
  h.own.cell k j (by simpa using hk) hj (by rw [show (if false = true then l1 else l0) = l0 from rfl, getD_dot hk]; exact hu)
theorem WdG.put {X : World} {g c : Nat} {l0 l1 : List DotD} {W : World} (h : WdG X g c l0 l1 false W) {k : Nat} (hk : k < l0.length) {v : Int} (hl : l1 = l0.set k ⟨(l0.getD k dot0).id, (l0.getD k dot0).x, (l0.getD k dot0).y, v⟩) : WdG X g c l0 l1 true (W.setCell ⟨g, k * 4 + 3, none⟩ (iV v)) := by
  refine ⟨h.hb.setCell (p := ⟨g, k * 4 + 3, none⟩) h.hg _, h.hg, ?_⟩
  have hset := h.own.set k 3 (by simpa using hk) (by decide) (iV v)
  have e : ((l0.map dotC).set k (((l0.map dotC).getD k []).set 3 (iV v))) = l1.map dotC := by rw [hl, map_set', getD_dot hk]; rfl
  have hset' : OwnR (W.setCell ⟨g, k * 4 + 3, none⟩ (iV v)) X.heap.size 53 4 (.slice (some ⟨g, 0, none⟩) (l0.map dotC).length c) ((l0.map dotC).set k (((l0.map dotC).getD k []).set 3 (iV v))) := hset
  rw [e] at hset'
  show OwnR _ _ _ _ (.slice (some ⟨g, 0, none⟩) (l1.map dotC).length c) (l1.map dotC)
  have e2 : (l1.map dotC).length = (l0.map dotC).length := by rw [hl]; simp
  rw [e2]; exact hset'
set_option maxRecDepth 100000 in
set_option maxHeartbeats 4000000 in
theorem narrowl_any (t : TruthD) (mv fv tv ev : Value) (c0 c1 c2 c3 : Int) (w : World) (ht : TruthAt w mv fv tv ev t) (h64 : Truth64 t) (k0 : i64B c0) (k1 : i64B c1) (k2 : i64B c2) (k3 : i64B c3) (hG0 : Glob w) :
    Calls Tryd.prog 8 #[truthV mv fv tv ev t, iV c0, iV c1, iV c2, iV c3] w (Ret (.bool true) w) := by
  have hval := surv_valid t
  have hin := way_in t
  have hbl := valid_len hval.2
  have hal := valid_len hval.1
  have hnm := nMarks_in t
  have hnl := (survA_len t).1
  have HSV := hide (fun (W : World) hb => surveys_any mv fv tv ev t W (ht.below hb) h64)
  have HWY := hide (fun (W : World) => way_any mv fv tv ev t W h64.mot (by obtain ⟨a, c, e, -⟩ := ht.marks; exact ⟨a, _, c, e⟩) (by obtain ⟨a, c, e, -⟩ := ht.finds; exact ⟨a, _, c, e⟩) (by obtain ⟨a, c, e, -⟩ := ht.tols; exact ⟨a, _, c, e⟩) (by obtain ⟨a, c, e, -⟩ := ht.errs; exact ⟨a, _, c, e⟩))
  have HP0 := hide (fun W => pickl_any c0 (nMarks t) W k0 (by omega) (by omega))
  have HPM := hide (fun W => pickl_any c1 20 W k1 (by decide) (by decide))
  have HP1 := hide (fun W => pickl_any c2 33 W k2 (by decide) (by decide))
  have HP2 := hide (fun W => pickl_any c3 33 W k3 (by decide) (by decide))
  have q0 := pickR_in c0 (n := nMarks t) (by omega)
  have qm := pickR_in c1 (n := 20) (by decide)
  have q1 := pickR_in c2 (n := 33) (by decide)
  have q2 := pickR_in c3 (n := 33) (by decide)
  obtain ⟨n, hn⟩ : ∃ n : Nat, pickR c0 (nMarks t) = n := ⟨(pickR c0 (nMarks t)).toNat, by omega⟩
  rw [hn] at q0 HP0
  have hnn : n < nMarks t := by omega
  have hmf := mark_facts t hnn
  have HNF := hide (fun m h => narrow_fits t hnn (d := pickR c1 20) qm m h)
  have hNJ := fun i hi hz => narrow_judge t hnn (d := pickR c1 20) qm (i := i) hi hz
  dsimp only at hNJ
  have HNJ := hide hNJ
  clear hNJ
  have HLC := hide (low_count t)
  have HWV : Hid (wideD (survA t) n (pickR c1 20) = (survA t).set n ⟨((survA t).getD n dot0).id, ((survA t).getD n dot0).x, ((survA t).getD n dot0).y, ((survA t).getD n dot0).tol + pickR c1 20⟩) := hide rfl
  have HLS : Hid (lessD (survA t) n = (survA t).take n ++ (survA t).drop (n + 1)) := hide rfl
  have HWL : Hid ((wideD (survA t) n (pickR c1 20)).length = (survA t).length) := hide (by unfold wideD; simp)
  have HLL : Hid ((lessD (survA t) n).length < 1000000) := hide (by have := (less_sub (survA t) n).length_le; omega)
  obtain ⟨ma, mc, rfl, -, -, -⟩ := id' ht.marks
  obtain ⟨fa, fc, rfl, -, -, -⟩ := id' ht.finds
  obtain ⟨ta, tc, rfl, -, -, -⟩ := id' ht.tols
  obtain ⟨ea, ec, rfl, -, -, -⟩ := id' ht.errs
  generalize lessD (survA t) n = LS at *
  generalize wideD (survA t) n (pickR c1 20) = WD at *
  generalize survA t = A at *
  generalize survB t = B at *
  generalize wayD t = M0 at *
  generalize pickR c1 20 = dd at *
  generalize pickR c2 33 = s1 at *
  generalize pickR c3 33 = s2 at *
  generalize nMarks t = NM at *
  have hnA : n < A.length := by omega
  have HAB : Hid (A.length < 1000000 ∧ B.length < 1000000) := hide ⟨by omega, by omega⟩
  obtain ⟨tu, dx, dy⟩ := M0
  dsimp only at hin
  obtain ⟨i1, i2, i3, i4, i5, i6⟩ := hin
  obtain ⟨q11, q12⟩ := q1
  obtain ⟨q21, q22⟩ := q2
  have u6 : IntKind.i64.wrap (dx + s1) = dx + s1 := IntWalk.i64_in _ (by omega)
  have u7 : IntKind.i64.wrap (dx + s1 - 16) = dx + s1 - 16 := IntWalk.i64_in _ (by omega)
  have u8 : IntKind.i64.wrap (dy + s2) = dy + s2 := IntWalk.i64_in _ (by omega)
  have u9 : IntKind.i64.wrap (dy + s2 - 16) = dy + s2 - 16 := IntWalk.i64_in _ (by omega)
  have ua : IntKind.i64.wrap ((A.getD n dot0).tol + dd) = (A.getD n dot0).tol + dd := IntWalk.i64_in _ (by omega)
  have ub : IntKind.i64.wrap ((n : Int) + 1) = ((n + 1 : Nat) : Int) := by rw [IntWalk.i64_in _ (by omega)]; omega
  clear k0 k1 k2 k3 hval hn q0 hnn hmf qm i1 i2 i3 i4 i5 i6 q11 q12 q21 q22
  go_enter Tryd.func8, Tryd.ntmps8
  go_wp2_with fail
  generalize hX1 : World.alloc w _ = X1
  have zX1 : X1.heap.size = w.heap.size + 1 := by rw [← hX1]; simp
  have bX1 : Below w.heap.size w X1 := by rw [← hX1]; exact bal w _
  have bT : Blk X1 (w.heap.size) [.slice ma t.marks.length mc, .slice fa t.finds.length fc, iV t.mot.1, iV t.mot.2.1, iV t.mot.2.2, .slice ta t.tols.length tc, .slice ea t.errs.length ec] 28 := by rw [← hX1]; exact Blk.newA w _ (by first | rfl | simp)
  have Xb := bX1
  have Xz := zX1
  clear hX1 zX1 bX1
  refine (sane_any _ (hG0.later Xb)).mono ?_
  rintro e w1 ⟨rfl, hb1⟩
  have bT1 := bT.later hb1
  have hbw1 := below2 Xb hb1
  have t0 := (bT1).cell 0 rfl
  have t1 := (bT1).cell 1 rfl
  have t2 := (bT1).cell 2 rfl
  have t3 := (bT1).cell 3 rfl
  have t4 := (bT1).cell 4 rfl
  have t5 := (bT1).cell 5 rfl
  have t6 := (bT1).cell 6 rfl
  go_wp2_with fail
  refine (HSV.out _ hbw1).mono ?_
  rintro e w2 ⟨va, vb, rfl, ⟨hA0, hB0⟩, hb2⟩
  have DA : DotsAt w2 va A := hA0.at
  have DB : DotsAt w2 vb B := hB0.at
  have bT2 := bT1.later hb2
  have hbw2 := below2 hbw1 hb2
  have hG2 := hG0.later hbw2
  obtain ⟨aa, ac, rfl, hac1, hac2, hac⟩ := id DA
  obtain ⟨ba, bc, rfl, -, -, hbc⟩ := id DB
  have HAC := hide hac
  have HBC := hide hbc
  clear hA0 hB0 t0 t1 t2 t3 t4 t5 t6 hac hbc
  go_wp2_with fail
  go_loopw [14, 15] (fun c i wr => ∃ k : Nat, k ≤ A.length ∧ i = .int .i64 k ∧ c = .int .i64 ((A.take k).filter lowB).length ∧ Below w2.heap.size w2 wr) (fun _ i _ => A.length - (intOf i).toNat)
  case atStart => exact ⟨0, by omega, rfl, rfl, Below.refl _ _⟩
  case round =>
    obtain ⟨k, hk, rfl, rfl, hbr⟩ := hrel
    by_cases hlt : k < A.length
    · obtain ⟨bl, o, heq, hck⟩ := HAC.out k hlt
      subst heq
      have hkd : decide (k < A.length) = true := by simpa using hlt
      have e0 : wr.cell? ⟨bl, o + k * 4, none⟩ = some (iV (A.getD k dot0).id) := keep hbr (hck 0 _ rfl)
      have hf := filt_succ2 (h := lowB) hlt
      have hcl : ((A.take k).filter lowB).length ≤ 12 := by
        have h1 := List.length_filter_le lowB (A.take k)
        rw [List.length_take, Nat.min_eq_left hk] at h1; omega
      have hfl : Hid (((A.take (k + 1)).filter lowB).length = ((A.take k).filter lowB).length + if lowB (A.getD k dot0) = true then 1 else 0) := hide (by rw [hf, List.length_append]; split <;> rfl)
      have hlo : Hid (lowB (A.getD k dot0) = decide ((A.getD k dot0).id ≤ 19)) := hide rfl
      generalize ((A.take k).filter lowB).length = cn at *
      rw [hlo.out] at hfl
      clear hck hf hlo
      generalize (A.getD k dot0).id = Z at *
      cases h19 : decide (Z ≤ 19)
      · rw [h19, if_neg (by decide)] at hfl
        go_wp2_with fail
        go_roundw
        case rel => exact ⟨k + 1, by omega, by go_num, by rw [hfl.out]; rfl, hbr⟩
        case measure => simp [intOf]; omega
      · rw [h19, if_pos rfl] at hfl
        go_wp2_with fail
        go_roundw
        case rel => exact ⟨k + 1, by omega, by go_num, by rw [hfl.out]; go_num, hbr⟩
        case measure => simp [intOf]; omega
    · obtain rfl : k = A.length := by omega
      rw [List.take_length, HLC.out]
      have DAr := DA.below hbr
      have DBr := DB.below hbr
      have hGr := hG2.later hbr
      have bTr := bT2.later hbr
      have hbwr := hbw2.trans (hbr.mono hbw2.size)
      go_wp2_with fail
      refine (HP0.out _).mono ?_
      rintro e w3 ⟨rfl, hb3⟩
      have DA3 := DAr.below hb3
      have DB3 := DBr.below hb3
      have hG3 := hGr.later hb3
      have bT3 := bTr.later hb3
      have hbw3 := hbwr.trans (hb3.mono hbwr.size)
      have HT1 := hide (RecIn.flat (k := 4) (f := dotC) (fun _ => rfl) (by decide) (RecIn.take' DA3 (j := n) (by omega)) rfl)
      have HT2 := hide (RecIn.flat (k := 4) (f := dotC) (fun _ => rfl) (by decide) (RecIn.drop' DA3 (j := n + 1) (by omega)) rfl)
      have HT3 := hide (RecIn.flat (k := 4) (f := dotC) (fun _ => rfl) (by decide) DA3 rfl)
      have H61 : Hid (∀ l : List DotD, ∀ r ∈ l.map dotC, r.length = 4) := hide (by intro l r hr; obtain ⟨x, -, rfl⟩ := List.mem_map.1 hr; rfl)
      have HONE : Hid (∀ l : List DotD, ∀ u ∈ (l.map dotC).flatten, u.oneCell' = true) := hide (by
        intro l u hu
        obtain ⟨r, hr, hur⟩ := List.mem_flatten.1 hu
        obtain ⟨x, -, rfl⟩ := List.mem_map.1 hr
        exact kindDot.one x u hur)
      have HL1 : Hid (((A.take n).map dotC).length = n) := hide (by rw [List.length_map, List.length_take, Nat.min_eq_left (by omega)])
      have HL2 : Hid (((A.drop (n + 1)).map dotC).length = A.length - (n + 1)) := hide (by rw [List.length_map, List.length_drop])
      have HLSM : Hid ((A.take n).map dotC ++ (A.drop (n + 1)).map dotC = LS.map dotC) := hide (by rw [HLS.out, List.map_append])
      generalize hTK : (A.take n).map dotC = TK at *
      generalize hDK : (A.drop (n + 1)).map dotC = DK at *
      have HO1 := hide (HONE.out (A.take n))
      have HO2 := hide (HONE.out (A.drop (n + 1)))
      have HS1 := hide (H61.out (A.take n))
      have HS2 := hide (H61.out (A.drop (n + 1)))
      have HN1 : Hid (aa = none → TK = []) := hide (fun h => by rw [← hTK, HT1.out.2 h]; rfl)
      have HN2 : Hid ((if ac = n + 1 then aa else aa.map fun x => x.add ((n + 1) * 4)) = none → DK = []) := hide (fun h => by rw [← hDK, HT2.out.2 h]; rfl)
      have HC1 := hide (fun (b : Addr) hb (j : Nat) (u : Value) hu => HT1.out.1 b hb j u hu)
      have HC2 := hide (fun (b : Addr) hb (j : Nat) (u : Value) hu => HT2.out.1 b hb j u hu)
      rw [hTK] at HO1 HS1
      rw [hDK] at HO2 HS2
      clear hTK hDK HT1 HT2
      have hs1 : n ≤ ac := by omega
      have hs2 : n + 1 ≤ A.length := by omega
      have hs3 : (0 : Int) ≤ (n : Int) + 1 := by omega
      have hs4 : (n : Int) + 1 ≤ (A.length : Int) := by omega
      go_wp2_with fail
      refine wp_region_inv [some 52, some 53, some 54, some 55, some 56, some 57, some 58, some 59, some 60, some 61, some 17] (fun L vs W => match vs with | [x0, x1, x2, x3, x4, x5, x6, x7, x8, x9, x10] => (Below w3.heap.size w3 W) ∧ (L 0 = true → L 4 = false → OwnR W w3.heap.size 53 4 x0 []) ∧ (L 1 = true → x1 = .slice aa A.length ac) ∧ (L 2 = true → x2 = .int .i64 n) ∧ (L 3 = true → x3 = .slice aa n ac) ∧ (L 4 = true → L 9 = false → OwnR W w3.heap.size 53 4 x4 TK) ∧ (L 5 = true → x5 = .slice aa A.length ac) ∧ (L 6 = true → x6 = .int .i64 n) ∧ (L 7 = true → x7 = .int .i64 (n + 1 : Nat)) ∧ (L 8 = true → x8 = .slice (if ac = n + 1 then aa else aa.map fun x => x.add ((n + 1) * 4)) (A.length - (n + 1)) (ac - (n + 1))) ∧ (L 9 = true → L 4 = true ∧ OwnR W w3.heap.size 53 4 x9 (TK ++ DK)) ∧ (L 10 = true → L 9 = true ∧ x10 = x9) | _ => False) [_, _, _, _, _, _, _, _, _, _, _] (by kernel_rfl) (by kernel_rfl) rfl (by simp only [puts, Act.put, List.setIfInBounds_toArray, List.set_cons_zero, List.set_cons_succ] <;> rfl) ?_ ?_ ?_
      · exact ⟨(Below.refl _ _).drew, (fun h => by cases h), (fun h => by cases h), (fun h => by cases h), (fun h => by cases h), (fun h => by cases h), (fun h => by cases h), (fun h => by cases h), (fun h => by cases h), (fun h => by cases h), (fun h => by cases h), (fun h => by cases h)⟩
      · refine ⟨?_, ?_, ?_, ?_, ?_, ?_, ?_, ?_, ?_, ?_, ?_, trivial⟩
        · intro L vs W hlen hL hD hI K hK
          obtain ⟨x0, x1, x2, x3, x4, x5, x6, x7, x8, x9, x10, rfl⟩ := len11 hlen
          have hG := hI.1
          replace hI := hI.2
          have f0 := hide hI.1
          replace hI := hI.2
          have f1 := hide hI.1
          replace hI := hI.2
          have f2 := hide hI.1
          replace hI := hI.2
          have f3 := hide hI.1
          replace hI := hI.2
          have f4 := hide hI.1
          replace hI := hI.2
          have f5 := hide hI.1
          replace hI := hI.2
          have f6 := hide hI.1
          replace hI := hI.2
          have f7 := hide hI.1
          replace hI := hI.2
          have f8 := hide hI.1
          replace hI := hI.2
          have f9 := hide hI.1
          replace hI := hI.2
          have f10 := hide hI
          clear hI
          try simp only [puts, Act.put, List.setIfInBounds_toArray, List.set_cons_zero, List.set_cons_succ]
          try go_simp
          generalize hW' : World.alloc W _ = W'
          have hb : Below W.heap.size W W' := by rw [← hW']; exact bal W _
          exact hK.out _ _ _ (by simp only [puts, Act.put, List.setIfInBounds_toArray, List.set_cons_zero, List.set_cons_succ] <;> rfl) ⟨below2 hG hb, (fun _ => fun _ => by rw [← hW']; exact lit_recsK W _ 4 hG.size), (fun h => f1.out h), (fun h => f2.out h), (fun h => f3.out h), (fun h => (fun h => fun h9 => (h h9).later' hb) (f4.out h)), (fun h => f5.out h), (fun h => f6.out h), (fun h => f7.out h), (fun h => f8.out h), (fun h => (fun h => ⟨h.1, h.2.later' hb⟩) (f9.out h)), (fun h => f10.out h)⟩
        · intro L vs W hlen hL hD hI K hK
          obtain ⟨x0, x1, x2, x3, x4, x5, x6, x7, x8, x9, x10, rfl⟩ := len11 hlen
          have hG := hI.1
          replace hI := hI.2
          have f0 := hide hI.1
          replace hI := hI.2
          have f1 := hide hI.1
          replace hI := hI.2
          have f2 := hide hI.1
          replace hI := hI.2
          have f3 := hide hI.1
          replace hI := hI.2
          have f4 := hide hI.1
          replace hI := hI.2
          have f5 := hide hI.1
          replace hI := hI.2
          have f6 := hide hI.1
          replace hI := hI.2
          have f7 := hide hI.1
          replace hI := hI.2
          have f8 := hide hI.1
          replace hI := hI.2
          have f9 := hide hI.1
          replace hI := hI.2
          have f10 := hide hI
          clear hI
          try simp only [puts, Act.put, List.setIfInBounds_toArray, List.set_cons_zero, List.set_cons_succ]
          try go_simp
          exact hK.out _ _ _ (by simp only [puts, Act.put, List.setIfInBounds_toArray, List.set_cons_zero, List.set_cons_succ] <;> rfl) ⟨hG, (fun h => f0.out h), (fun _ => rfl), (fun h => f2.out h), (fun h => f3.out h), (fun h => f4.out h), (fun h => f5.out h), (fun h => f6.out h), (fun h => f7.out h), (fun h => f8.out h), (fun h => f9.out h), (fun h => f10.out h)⟩
        · intro L vs W hlen hL hD hI K hK
          obtain ⟨x0, x1, x2, x3, x4, x5, x6, x7, x8, x9, x10, rfl⟩ := len11 hlen
          have hG := hI.1
          replace hI := hI.2
          have f0 := hide hI.1
          replace hI := hI.2
          have f1 := hide hI.1
          replace hI := hI.2
          have f2 := hide hI.1
          replace hI := hI.2
          have f3 := hide hI.1
          replace hI := hI.2
          have f4 := hide hI.1
          replace hI := hI.2
          have f5 := hide hI.1
          replace hI := hI.2
          have f6 := hide hI.1
          replace hI := hI.2
          have f7 := hide hI.1
          replace hI := hI.2
          have f8 := hide hI.1
          replace hI := hI.2
          have f9 := hide hI.1
          replace hI := hI.2
          have f10 := hide hI
          clear hI
          try simp only [puts, Act.put, List.setIfInBounds_toArray, List.set_cons_zero, List.set_cons_succ]
          try go_simp
          exact hK.out _ _ _ (by simp only [puts, Act.put, List.setIfInBounds_toArray, List.set_cons_zero, List.set_cons_succ] <;> rfl) ⟨hG, (fun h => f0.out h), (fun h => f1.out h), (fun _ => rfl), (fun h => f3.out h), (fun h => f4.out h), (fun h => f5.out h), (fun h => f6.out h), (fun h => f7.out h), (fun h => f8.out h), (fun h => f9.out h), (fun h => f10.out h)⟩
        · intro L vs W hlen hL hD hI K hK
          obtain ⟨x0, x1, x2, x3, x4, x5, x6, x7, x8, x9, x10, rfl⟩ := len11 hlen
          have hG := hI.1
          replace hI := hI.2
          have f0 := hide hI.1
          replace hI := hI.2
          have f1 := hide hI.1
          replace hI := hI.2
          have f2 := hide hI.1
          replace hI := hI.2
          have f3 := hide hI.1
          replace hI := hI.2
          have f4 := hide hI.1
          replace hI := hI.2
          have f5 := hide hI.1
          replace hI := hI.2
          have f6 := hide hI.1
          replace hI := hI.2
          have f7 := hide hI.1
          replace hI := hI.2
          have f8 := hide hI.1
          replace hI := hI.2
          have f9 := hide hI.1
          replace hI := hI.2
          have f10 := hide hI
          clear hI
          obtain rfl := f1.out (hD.on 1 (by kernel_rfl))
          obtain rfl := f2.out (hD.on 2 (by kernel_rfl))
          try simp only [puts, Act.put, List.setIfInBounds_toArray, List.set_cons_zero, List.set_cons_succ]
          try go_simp
          exact hK.out _ _ _ (by simp only [puts, Act.put, List.setIfInBounds_toArray, List.set_cons_zero, List.set_cons_succ] <;> rfl) ⟨hG, (fun h => f0.out h), (fun h => f1.out h), (fun h => f2.out h), (fun _ => rfl), (fun h => f4.out h), (fun h => f5.out h), (fun h => f6.out h), (fun h => f7.out h), (fun h => f8.out h), (fun h => f9.out h), (fun h => f10.out h)⟩
        · intro L vs W hlen hL hD hI K hK
          obtain ⟨x0, x1, x2, x3, x4, x5, x6, x7, x8, x9, x10, rfl⟩ := len11 hlen
          have hG := hI.1
          replace hI := hI.2
          have f0 := hide hI.1
          replace hI := hI.2
          have f1 := hide hI.1
          replace hI := hI.2
          have f2 := hide hI.1
          replace hI := hI.2
          have f3 := hide hI.1
          replace hI := hI.2
          have f4 := hide hI.1
          replace hI := hI.2
          have f5 := hide hI.1
          replace hI := hI.2
          have f6 := hide hI.1
          replace hI := hI.2
          have f7 := hide hI.1
          replace hI := hI.2
          have f8 := hide hI.1
          replace hI := hI.2
          have f9 := hide hI.1
          replace hI := hI.2
          have f10 := hide hI
          clear hI
          have g0 := f0.out (hD.on 0 (by kernel_rfl))
          obtain rfl := f3.out (hD.on 3 (by kernel_rfl))
          try simp only [puts, Act.put, List.setIfInBounds_toArray, List.set_cons_zero, List.set_cons_succ]
          refine step_app_recsS infoDot rfl (by decide) Tryd.underlying30 rfl _ _ rfl w3.heap.size _ [] rfl (g0 hL) _ _ _ TK HL1.out.symm rfl HS1.out HO1.out (fun b hb j u hj => keep hG (HC1.out b hb j u hj)) HN1.out (by rw [HL1.out]; simp; omega) (by rw [HL1.out]; simp; omega) hG.size ?_
          intro v' W' hO hg
          have hb := hg
          exact hK.out _ _ _ (by simp only [puts, Act.put, List.setIfInBounds_toArray, List.set_cons_zero, List.set_cons_succ] <;> rfl) ⟨hG.trans hb, (fun h => (fun _ h => absurd h (by simp)) (f0.out h)), (fun h => f1.out h), (fun h => f2.out h), (fun h => f3.out h), (fun _ => fun _ => by simpa using hO), (fun h => f5.out h), (fun h => f6.out h), (fun h => f7.out h), (fun h => f8.out h), (fun h => (fun h => absurd (h.1.symm.trans hL) (by decide)) (f9.out h)), (fun h => f10.out h)⟩
        · intro L vs W hlen hL hD hI K hK
          obtain ⟨x0, x1, x2, x3, x4, x5, x6, x7, x8, x9, x10, rfl⟩ := len11 hlen
          have hG := hI.1
          replace hI := hI.2
          have f0 := hide hI.1
          replace hI := hI.2
          have f1 := hide hI.1
          replace hI := hI.2
          have f2 := hide hI.1
          replace hI := hI.2
          have f3 := hide hI.1
          replace hI := hI.2
          have f4 := hide hI.1
          replace hI := hI.2
          have f5 := hide hI.1
          replace hI := hI.2
          have f6 := hide hI.1
          replace hI := hI.2
          have f7 := hide hI.1
          replace hI := hI.2
          have f8 := hide hI.1
          replace hI := hI.2
          have f9 := hide hI.1
          replace hI := hI.2
          have f10 := hide hI
          clear hI
          try simp only [puts, Act.put, List.setIfInBounds_toArray, List.set_cons_zero, List.set_cons_succ]
          try go_simp
          exact hK.out _ _ _ (by simp only [puts, Act.put, List.setIfInBounds_toArray, List.set_cons_zero, List.set_cons_succ] <;> rfl) ⟨hG, (fun h => f0.out h), (fun h => f1.out h), (fun h => f2.out h), (fun h => f3.out h), (fun h => f4.out h), (fun _ => rfl), (fun h => f6.out h), (fun h => f7.out h), (fun h => f8.out h), (fun h => f9.out h), (fun h => f10.out h)⟩
        · intro L vs W hlen hL hD hI K hK
          obtain ⟨x0, x1, x2, x3, x4, x5, x6, x7, x8, x9, x10, rfl⟩ := len11 hlen
          have hG := hI.1
          replace hI := hI.2
          have f0 := hide hI.1
          replace hI := hI.2
          have f1 := hide hI.1
          replace hI := hI.2
          have f2 := hide hI.1
          replace hI := hI.2
          have f3 := hide hI.1
          replace hI := hI.2
          have f4 := hide hI.1
          replace hI := hI.2
          have f5 := hide hI.1
          replace hI := hI.2
          have f6 := hide hI.1
          replace hI := hI.2
          have f7 := hide hI.1
          replace hI := hI.2
          have f8 := hide hI.1
          replace hI := hI.2
          have f9 := hide hI.1
          replace hI := hI.2
          have f10 := hide hI
          clear hI
          try simp only [puts, Act.put, List.setIfInBounds_toArray, List.set_cons_zero, List.set_cons_succ]
          try go_simp
          exact hK.out _ _ _ (by simp only [puts, Act.put, List.setIfInBounds_toArray, List.set_cons_zero, List.set_cons_succ] <;> rfl) ⟨hG, (fun h => f0.out h), (fun h => f1.out h), (fun h => f2.out h), (fun h => f3.out h), (fun h => f4.out h), (fun h => f5.out h), (fun _ => rfl), (fun h => f7.out h), (fun h => f8.out h), (fun h => f9.out h), (fun h => f10.out h)⟩
        · intro L vs W hlen hL hD hI K hK
          obtain ⟨x0, x1, x2, x3, x4, x5, x6, x7, x8, x9, x10, rfl⟩ := len11 hlen
          have hG := hI.1
          replace hI := hI.2
          have f0 := hide hI.1
          replace hI := hI.2
          have f1 := hide hI.1
          replace hI := hI.2
          have f2 := hide hI.1
          replace hI := hI.2
          have f3 := hide hI.1
          replace hI := hI.2
          have f4 := hide hI.1
          replace hI := hI.2
          have f5 := hide hI.1
          replace hI := hI.2
          have f6 := hide hI.1
          replace hI := hI.2
          have f7 := hide hI.1
          replace hI := hI.2
          have f8 := hide hI.1
          replace hI := hI.2
          have f9 := hide hI.1
          replace hI := hI.2
          have f10 := hide hI
          clear hI
          obtain rfl := f6.out (hD.on 6 (by kernel_rfl))
          try simp only [puts, Act.put, List.setIfInBounds_toArray, List.set_cons_zero, List.set_cons_succ]
          try go_simp
          exact hK.out _ _ _ (by simp only [puts, Act.put, List.setIfInBounds_toArray, List.set_cons_zero, List.set_cons_succ] <;> rfl) ⟨hG, (fun h => f0.out h), (fun h => f1.out h), (fun h => f2.out h), (fun h => f3.out h), (fun h => f4.out h), (fun h => f5.out h), (fun h => f6.out h), (fun _ => rfl), (fun h => f8.out h), (fun h => f9.out h), (fun h => f10.out h)⟩
        · intro L vs W hlen hL hD hI K hK
          obtain ⟨x0, x1, x2, x3, x4, x5, x6, x7, x8, x9, x10, rfl⟩ := len11 hlen
          have hG := hI.1
          replace hI := hI.2
          have f0 := hide hI.1
          replace hI := hI.2
          have f1 := hide hI.1
          replace hI := hI.2
          have f2 := hide hI.1
          replace hI := hI.2
          have f3 := hide hI.1
          replace hI := hI.2
          have f4 := hide hI.1
          replace hI := hI.2
          have f5 := hide hI.1
          replace hI := hI.2
          have f6 := hide hI.1
          replace hI := hI.2
          have f7 := hide hI.1
          replace hI := hI.2
          have f8 := hide hI.1
          replace hI := hI.2
          have f9 := hide hI.1
          replace hI := hI.2
          have f10 := hide hI
          clear hI
          obtain rfl := f5.out (hD.on 5 (by kernel_rfl))
          obtain rfl := f7.out (hD.on 7 (by kernel_rfl))
          try simp only [puts, Act.put, List.setIfInBounds_toArray, List.set_cons_zero, List.set_cons_succ]
          try go_simp
          exact hK.out _ _ _ (by simp only [puts, Act.put, List.setIfInBounds_toArray, List.set_cons_zero, List.set_cons_succ] <;> rfl) ⟨hG, (fun h => f0.out h), (fun h => f1.out h), (fun h => f2.out h), (fun h => f3.out h), (fun h => f4.out h), (fun h => f5.out h), (fun h => f6.out h), (fun h => f7.out h), (fun _ => rfl), (fun h => f9.out h), (fun h => f10.out h)⟩
        · intro L vs W hlen hL hD hI K hK
          obtain ⟨x0, x1, x2, x3, x4, x5, x6, x7, x8, x9, x10, rfl⟩ := len11 hlen
          have hG := hI.1
          replace hI := hI.2
          have f0 := hide hI.1
          replace hI := hI.2
          have f1 := hide hI.1
          replace hI := hI.2
          have f2 := hide hI.1
          replace hI := hI.2
          have f3 := hide hI.1
          replace hI := hI.2
          have f4 := hide hI.1
          replace hI := hI.2
          have f5 := hide hI.1
          replace hI := hI.2
          have f6 := hide hI.1
          replace hI := hI.2
          have f7 := hide hI.1
          replace hI := hI.2
          have f8 := hide hI.1
          replace hI := hI.2
          have f9 := hide hI.1
          replace hI := hI.2
          have f10 := hide hI
          clear hI
          have g4 := f4.out (hD.on 4 (by kernel_rfl))
          obtain rfl := f8.out (hD.on 8 (by kernel_rfl))
          try simp only [puts, Act.put, List.setIfInBounds_toArray, List.set_cons_zero, List.set_cons_succ]
          refine step_app_recsS infoDot rfl (by decide) Tryd.underlying30 rfl _ _ rfl w3.heap.size _ TK rfl (g4 hL) _ _ _ DK HL2.out.symm rfl HS2.out HO2.out (fun b hb j u hj => keep hG (HC2.out b hb j u hj)) HN2.out (by rw [HL1.out, HL2.out]; omega) (by rw [HL1.out, HL2.out]; omega) hG.size ?_
          intro v' W' hO hg
          have hb := hg
          exact hK.out _ _ _ (by simp only [puts, Act.put, List.setIfInBounds_toArray, List.set_cons_zero, List.set_cons_succ] <;> rfl) ⟨hG.trans hb, (fun h => (fun _ h => absurd (h.symm.trans (hD.on 4 (by kernel_rfl))) (by decide)) (f0.out h)), (fun h => f1.out h), (fun h => f2.out h), (fun h => f3.out h), (fun h => (fun _ h => absurd h (by simp)) (f4.out h)), (fun h => f5.out h), (fun h => f6.out h), (fun h => f7.out h), (fun h => f8.out h), (fun _ => ⟨hD.on 4 (by kernel_rfl), hO⟩), (fun h => (fun h => absurd (h.1.symm.trans hL) (by decide)) (f10.out h))⟩
        · intro L vs W hlen hL hD hI K hK
          obtain ⟨x0, x1, x2, x3, x4, x5, x6, x7, x8, x9, x10, rfl⟩ := len11 hlen
          have hG := hI.1
          replace hI := hI.2
          have f0 := hide hI.1
          replace hI := hI.2
          have f1 := hide hI.1
          replace hI := hI.2
          have f2 := hide hI.1
          replace hI := hI.2
          have f3 := hide hI.1
          replace hI := hI.2
          have f4 := hide hI.1
          replace hI := hI.2
          have f5 := hide hI.1
          replace hI := hI.2
          have f6 := hide hI.1
          replace hI := hI.2
          have f7 := hide hI.1
          replace hI := hI.2
          have f8 := hide hI.1
          replace hI := hI.2
          have f9 := hide hI.1
          replace hI := hI.2
          have f10 := hide hI
          clear hI
          have g9 := f9.out (hD.on 9 (by kernel_rfl))
          try simp only [puts, Act.put, List.setIfInBounds_toArray, List.set_cons_zero, List.set_cons_succ]
          try go_simp
          exact hK.out _ _ _ (by simp only [puts, Act.put, List.setIfInBounds_toArray, List.set_cons_zero, List.set_cons_succ] <;> rfl) ⟨hG, (fun h => f0.out h), (fun h => f1.out h), (fun h => f2.out h), (fun h => f3.out h), (fun h => f4.out h), (fun h => f5.out h), (fun h => f6.out h), (fun h => f7.out h), (fun h => f8.out h), (fun h => f9.out h), (fun _ => ⟨hD.on 9 (by kernel_rfl), rfl⟩)⟩
      intro L vs W hlen hall hI
      obtain ⟨x0, x1, x2, x3, x4, x5, x6, x7, x8, x9, x10, rfl⟩ := len11 hlen
      have hG := hI.1
      replace hI := hI.2
      have f0 := hide hI.1
      replace hI := hI.2
      have f1 := hide hI.1
      replace hI := hI.2
      have f2 := hide hI.1
      replace hI := hI.2
      have f3 := hide hI.1
      replace hI := hI.2
      have f4 := hide hI.1
      replace hI := hI.2
      have f5 := hide hI.1
      replace hI := hI.2
      have f6 := hide hI.1
      replace hI := hI.2
      have f7 := hide hI.1
      replace hI := hI.2
      have f8 := hide hI.1
      replace hI := hI.2
      have f9 := hide hI.1
      replace hI := hI.2
      have f10 := hide hI
      clear hI
      have g0 := f0.out (hall 0 (by decide))
      obtain rfl := f1.out (hall 1 (by decide))
      obtain rfl := f2.out (hall 2 (by decide))
      obtain rfl := f3.out (hall 3 (by decide))
      have g4 := f4.out (hall 4 (by decide))
      obtain rfl := f5.out (hall 5 (by decide))
      obtain rfl := f6.out (hall 6 (by decide))
      obtain rfl := f7.out (hall 7 (by decide))
      obtain rfl := f8.out (hall 8 (by decide))
      have g9 := f9.out (hall 9 (by decide))
      have g10 := f10.out (hall 10 (by decide))
      have hal := hide hall
      clear hall f0 f1 f2 f3 f4 f5 f6 f7 f8 f9 f10
      try simp only [puts, Act.put, List.setIfInBounds_toArray, List.set_cons_zero, List.set_cons_succ]
      obtain ⟨-, rfl⟩ := g10
      have ho5 := g9.2
      rw [HLSM.out] at ho5
      have hb5 := hG
      clear hG g9 hal HC1 HC2 HN1 HN2 HO1 HO2 HS1 HS2 HL1 HL2 HLSM hs1 hs2 hs3 hs4 ub
      obtain ⟨W5, hW5⟩ : ∃ Z, Z = W := ⟨_, rfl⟩
      subst hW5
      generalize (if ac = n + 1 then aa else aa.map fun x => x.add ((n + 1) * 4)) = zz
      obtain ⟨la, lc, rfl⟩ := own_any ho5
      have DL := (RecIn.of_own (d := dot0) ho5 (fun _ => rfl) (Nat.le_refl _)).at
      have DA5 := DA3.below hb5
      have DB5 := DB3.below hb5
      have hG5 := hG3.later hb5
      have bT5 := bT3.later hb5
      have hbw5 := hbw3.trans (hb5.mono hbw3.size)
      have HC3 := hide (fun (b : Addr) hb (j : Nat) (u : Value) hu => keep (bal W5 (.cells #[] 53)) (keep hb5 (HT3.out.1 b hb j u hu)))
      have HN3 : Hid (aa = none → A.map dotC = []) := hide (fun h => by rw [HT3.out.2 h]; rfl)
      have HO3 := hide (HONE.out A)
      have HS3 := hide (H61.out A)
      have HL3 : Hid ((A.map dotC).length = A.length) := hide (by simp)
      have hA0 : ¬ A.length = 0 := by omega
      clear HT3 HONE H61 ho5
      go_wp2_with (at_builtin; refine app_recsE infoDot rfl (by decide) Tryd.underlying30 rfl _ _ rfl W5.heap.size _ _ rfl (lit_recsK W5 _ 4 (Nat.le_refl _)) aa A.length ac (A.map dotC) HL3.out.symm rfl HS3.out HO3.out (fun b hb j u hu => HC3.out b hb j u hu) HN3.out (by rw [HL3.out]; simp; omega) (by rw [HL3.out]; simp; omega) (by simp) ?_; intro v6 w6 ho6 hE6 hob6; have ho : OwnR w6 W5.heap.size 53 4 v6 (A.map dotC) := ho6; have hb6 := lit_below hE6; clear ho6 hE6 hob6; obtain ⟨g, c6, rfl, hg6⟩ := own_pos ho hA0)
      have hnd : decide (n < A.length) = true := by simpa using hnA
      have hgW : WdG W5 g c6 A WD false w6.drew := ⟨hb6.drew, hg6, by have := ho.later' (Below.refl _ w6).drew; rw [← HL3.out] at this; exact this⟩
      have HPT : Hid (∀ {W : World}, WdG W5 g c6 A WD false W → WdG W5 g c6 A WD true (W.setCell ⟨g, n * 4 + 3, none⟩ (iV ((A.getD n dot0).tol + dd)))) := hide (fun h => h.put hnA HWV.out)
      have HCT : Hid (∀ {W : World}, WdG W5 g c6 A WD false W → W.cell? ⟨g, n * 4 + 3, none⟩ = some (iV (A.getD n dot0).tol)) := hide (fun h => h.cell hnA 3 (by decide) rfl)
      generalize (A.getD n dot0).tol = tk at *
      refine wp_region_inv [some 65, some 66, some 67, some 68, some 69, some 70, some 71, some 72, some 73, some 74, some 75, some 76, none] (fun L vs W => match vs with | [x0, x1, x2, x3, x4, x5, x6, x7, x8, x9, x10, x11, x12] => (WdG W5 g c6 A WD (L 12) W) ∧ (L 0 = true → x0 = .slice (some ⟨g, 0, none⟩) A.length c6) ∧ (L 1 = true → x1 = .int .i64 n) ∧ (L 2 = true → x2 = .slice (some ⟨g, 0, none⟩) A.length c6) ∧ (L 3 = true → x3 = .int .i64 n) ∧ (L 4 = true → x4 = .pointer (some ⟨g, n * 4, none⟩)) ∧ (L 5 = true → x5 = .pointer (some ⟨g, n * 4 + 3, none⟩)) ∧ (L 6 = true → x6 = iV tk) ∧ (L 7 = true → x7 = iV c1) ∧ (L 8 = true → x8 = iV dd) ∧ (L 9 = true → L 6 = true ∧ x9 = iV (tk + dd)) ∧ (L 10 = true → x10 = .pointer (some ⟨g, n * 4, none⟩)) ∧ (L 11 = true → x11 = .pointer (some ⟨g, n * 4 + 3, none⟩)) ∧ (L 12 = true → L 6 = true) | _ => False) [_, _, _, _, _, _, _, _, _, _, _, _, undef] (by kernel_rfl) (by kernel_rfl) rfl (by simp only [puts, Act.put, List.setIfInBounds_toArray, List.set_cons_zero, List.set_cons_succ] <;> rfl) ?_ ?_ ?_
      · exact ⟨hgW, (fun h => by cases h), (fun h => by cases h), (fun h => by cases h), (fun h => by cases h), (fun h => by cases h), (fun h => by cases h), (fun h => by cases h), (fun h => by cases h), (fun h => by cases h), (fun h => by cases h), (fun h => by cases h), (fun h => by cases h), (fun h => by cases h)⟩
      · refine ⟨?_, ?_, ?_, ?_, ?_, ?_, ?_, ?_, ?_, ?_, ?_, ?_, ?_, trivial⟩
        · intro L vs W hlen hL hD hI K hK
          obtain ⟨x0, x1, x2, x3, x4, x5, x6, x7, x8, x9, x10, x11, x12, rfl⟩ := len13 hlen
          have hG := hI.1
          replace hI := hI.2
          have f0 := hide hI.1
          replace hI := hI.2
          have f1 := hide hI.1
          replace hI := hI.2
          have f2 := hide hI.1
          replace hI := hI.2
          have f3 := hide hI.1
          replace hI := hI.2
          have f4 := hide hI.1
          replace hI := hI.2
          have f5 := hide hI.1
          replace hI := hI.2
          have f6 := hide hI.1
          replace hI := hI.2
          have f7 := hide hI.1
          replace hI := hI.2
          have f8 := hide hI.1
          replace hI := hI.2
          have f9 := hide hI.1
          replace hI := hI.2
          have f10 := hide hI.1
          replace hI := hI.2
          have f11 := hide hI.1
          replace hI := hI.2
          have f12 := hide hI
          clear hI
          have hAL := HL3.out
          try simp only [puts, Act.put, List.setIfInBounds_toArray, List.set_cons_zero, List.set_cons_succ]
          try go_simp
          exact hK.out _ _ _ (by simp only [puts, Act.put, List.setIfInBounds_toArray, List.set_cons_zero, List.set_cons_succ] <;> rfl) ⟨hG, (fun _ => rfl), (fun h => f1.out h), (fun h => f2.out h), (fun h => f3.out h), (fun h => f4.out h), (fun h => f5.out h), (fun h => f6.out h), (fun h => f7.out h), (fun h => f8.out h), (fun h => f9.out h), (fun h => f10.out h), (fun h => f11.out h), (fun h => f12.out h)⟩
        · intro L vs W hlen hL hD hI K hK
          obtain ⟨x0, x1, x2, x3, x4, x5, x6, x7, x8, x9, x10, x11, x12, rfl⟩ := len13 hlen
          have hG := hI.1
          replace hI := hI.2
          have f0 := hide hI.1
          replace hI := hI.2
          have f1 := hide hI.1
          replace hI := hI.2
          have f2 := hide hI.1
          replace hI := hI.2
          have f3 := hide hI.1
          replace hI := hI.2
          have f4 := hide hI.1
          replace hI := hI.2
          have f5 := hide hI.1
          replace hI := hI.2
          have f6 := hide hI.1
          replace hI := hI.2
          have f7 := hide hI.1
          replace hI := hI.2
          have f8 := hide hI.1
          replace hI := hI.2
          have f9 := hide hI.1
          replace hI := hI.2
          have f10 := hide hI.1
          replace hI := hI.2
          have f11 := hide hI.1
          replace hI := hI.2
          have f12 := hide hI
          clear hI
          have hAL := HL3.out
          try simp only [puts, Act.put, List.setIfInBounds_toArray, List.set_cons_zero, List.set_cons_succ]
          try go_simp
          exact hK.out _ _ _ (by simp only [puts, Act.put, List.setIfInBounds_toArray, List.set_cons_zero, List.set_cons_succ] <;> rfl) ⟨hG, (fun h => f0.out h), (fun _ => rfl), (fun h => f2.out h), (fun h => f3.out h), (fun h => f4.out h), (fun h => f5.out h), (fun h => f6.out h), (fun h => f7.out h), (fun h => f8.out h), (fun h => f9.out h), (fun h => f10.out h), (fun h => f11.out h), (fun h => f12.out h)⟩
        · intro L vs W hlen hL hD hI K hK
          obtain ⟨x0, x1, x2, x3, x4, x5, x6, x7, x8, x9, x10, x11, x12, rfl⟩ := len13 hlen
          have hG := hI.1
          replace hI := hI.2
          have f0 := hide hI.1
          replace hI := hI.2
          have f1 := hide hI.1
          replace hI := hI.2
          have f2 := hide hI.1
          replace hI := hI.2
          have f3 := hide hI.1
          replace hI := hI.2
          have f4 := hide hI.1
          replace hI := hI.2
          have f5 := hide hI.1
          replace hI := hI.2
          have f6 := hide hI.1
          replace hI := hI.2
          have f7 := hide hI.1
          replace hI := hI.2
          have f8 := hide hI.1
          replace hI := hI.2
          have f9 := hide hI.1
          replace hI := hI.2
          have f10 := hide hI.1
          replace hI := hI.2
          have f11 := hide hI.1
          replace hI := hI.2
          have f12 := hide hI
          clear hI
          have hAL := HL3.out
          try simp only [puts, Act.put, List.setIfInBounds_toArray, List.set_cons_zero, List.set_cons_succ]
          try go_simp
          exact hK.out _ _ _ (by simp only [puts, Act.put, List.setIfInBounds_toArray, List.set_cons_zero, List.set_cons_succ] <;> rfl) ⟨hG, (fun h => f0.out h), (fun h => f1.out h), (fun _ => rfl), (fun h => f3.out h), (fun h => f4.out h), (fun h => f5.out h), (fun h => f6.out h), (fun h => f7.out h), (fun h => f8.out h), (fun h => f9.out h), (fun h => f10.out h), (fun h => f11.out h), (fun h => f12.out h)⟩
        · intro L vs W hlen hL hD hI K hK
          obtain ⟨x0, x1, x2, x3, x4, x5, x6, x7, x8, x9, x10, x11, x12, rfl⟩ := len13 hlen
          have hG := hI.1
          replace hI := hI.2
          have f0 := hide hI.1
          replace hI := hI.2
          have f1 := hide hI.1
          replace hI := hI.2
          have f2 := hide hI.1
          replace hI := hI.2
          have f3 := hide hI.1
          replace hI := hI.2
          have f4 := hide hI.1
          replace hI := hI.2
          have f5 := hide hI.1
          replace hI := hI.2
          have f6 := hide hI.1
          replace hI := hI.2
          have f7 := hide hI.1
          replace hI := hI.2
          have f8 := hide hI.1
          replace hI := hI.2
          have f9 := hide hI.1
          replace hI := hI.2
          have f10 := hide hI.1
          replace hI := hI.2
          have f11 := hide hI.1
          replace hI := hI.2
          have f12 := hide hI
          clear hI
          have hAL := HL3.out
          try simp only [puts, Act.put, List.setIfInBounds_toArray, List.set_cons_zero, List.set_cons_succ]
          try go_simp
          exact hK.out _ _ _ (by simp only [puts, Act.put, List.setIfInBounds_toArray, List.set_cons_zero, List.set_cons_succ] <;> rfl) ⟨hG, (fun h => f0.out h), (fun h => f1.out h), (fun h => f2.out h), (fun _ => rfl), (fun h => f4.out h), (fun h => f5.out h), (fun h => f6.out h), (fun h => f7.out h), (fun h => f8.out h), (fun h => f9.out h), (fun h => f10.out h), (fun h => f11.out h), (fun h => f12.out h)⟩
        · intro L vs W hlen hL hD hI K hK
          obtain ⟨x0, x1, x2, x3, x4, x5, x6, x7, x8, x9, x10, x11, x12, rfl⟩ := len13 hlen
          have hG := hI.1
          replace hI := hI.2
          have f0 := hide hI.1
          replace hI := hI.2
          have f1 := hide hI.1
          replace hI := hI.2
          have f2 := hide hI.1
          replace hI := hI.2
          have f3 := hide hI.1
          replace hI := hI.2
          have f4 := hide hI.1
          replace hI := hI.2
          have f5 := hide hI.1
          replace hI := hI.2
          have f6 := hide hI.1
          replace hI := hI.2
          have f7 := hide hI.1
          replace hI := hI.2
          have f8 := hide hI.1
          replace hI := hI.2
          have f9 := hide hI.1
          replace hI := hI.2
          have f10 := hide hI.1
          replace hI := hI.2
          have f11 := hide hI.1
          replace hI := hI.2
          have f12 := hide hI
          clear hI
          have hAL := HL3.out
          obtain rfl := f2.out (hD.on 2 (by kernel_rfl))
          obtain rfl := f3.out (hD.on 3 (by kernel_rfl))
          try simp only [puts, Act.put, List.setIfInBounds_toArray, List.set_cons_zero, List.set_cons_succ]
          try go_simp
          exact hK.out _ _ _ (by simp only [puts, Act.put, List.setIfInBounds_toArray, List.set_cons_zero, List.set_cons_succ] <;> rfl) ⟨hG, (fun h => f0.out h), (fun h => f1.out h), (fun h => f2.out h), (fun h => f3.out h), (fun _ => rfl), (fun h => f5.out h), (fun h => f6.out h), (fun h => f7.out h), (fun h => f8.out h), (fun h => f9.out h), (fun h => f10.out h), (fun h => f11.out h), (fun h => f12.out h)⟩
        · intro L vs W hlen hL hD hI K hK
          obtain ⟨x0, x1, x2, x3, x4, x5, x6, x7, x8, x9, x10, x11, x12, rfl⟩ := len13 hlen
          have hG := hI.1
          replace hI := hI.2
          have f0 := hide hI.1
          replace hI := hI.2
          have f1 := hide hI.1
          replace hI := hI.2
          have f2 := hide hI.1
          replace hI := hI.2
          have f3 := hide hI.1
          replace hI := hI.2
          have f4 := hide hI.1
          replace hI := hI.2
          have f5 := hide hI.1
          replace hI := hI.2
          have f6 := hide hI.1
          replace hI := hI.2
          have f7 := hide hI.1
          replace hI := hI.2
          have f8 := hide hI.1
          replace hI := hI.2
          have f9 := hide hI.1
          replace hI := hI.2
          have f10 := hide hI.1
          replace hI := hI.2
          have f11 := hide hI.1
          replace hI := hI.2
          have f12 := hide hI
          clear hI
          have hAL := HL3.out
          obtain rfl := f4.out (hD.on 4 (by kernel_rfl))
          try simp only [puts, Act.put, List.setIfInBounds_toArray, List.set_cons_zero, List.set_cons_succ]
          try go_simp
          exact hK.out _ _ _ (by simp only [puts, Act.put, List.setIfInBounds_toArray, List.set_cons_zero, List.set_cons_succ] <;> rfl) ⟨hG, (fun h => f0.out h), (fun h => f1.out h), (fun h => f2.out h), (fun h => f3.out h), (fun h => f4.out h), (fun _ => rfl), (fun h => f6.out h), (fun h => f7.out h), (fun h => f8.out h), (fun h => f9.out h), (fun h => f10.out h), (fun h => f11.out h), (fun h => f12.out h)⟩
        · intro L vs W hlen hL hD hI K hK
          obtain ⟨x0, x1, x2, x3, x4, x5, x6, x7, x8, x9, x10, x11, x12, rfl⟩ := len13 hlen
          have hG := hI.1
          replace hI := hI.2
          have f0 := hide hI.1
          replace hI := hI.2
          have f1 := hide hI.1
          replace hI := hI.2
          have f2 := hide hI.1
          replace hI := hI.2
          have f3 := hide hI.1
          replace hI := hI.2
          have f4 := hide hI.1
          replace hI := hI.2
          have f5 := hide hI.1
          replace hI := hI.2
          have f6 := hide hI.1
          replace hI := hI.2
          have f7 := hide hI.1
          replace hI := hI.2
          have f8 := hide hI.1
          replace hI := hI.2
          have f9 := hide hI.1
          replace hI := hI.2
          have f10 := hide hI.1
          replace hI := hI.2
          have f11 := hide hI.1
          replace hI := hI.2
          have f12 := hide hI
          clear hI
          have hAL := HL3.out
          obtain rfl := f5.out (hD.on 5 (by kernel_rfl))
          try simp only [puts, Act.put, List.setIfInBounds_toArray, List.set_cons_zero, List.set_cons_succ]
          have h12 : L 12 = false := Bool.eq_false_iff.2 (fun h => absurd ((f12.out h).symm.trans hL) (by decide))
          have hG2 := hG
          rw [h12] at hG2
          have r0 := HCT.out hG2
          go_simp
          exact hK.out _ _ _ (by simp only [puts, Act.put, List.setIfInBounds_toArray, List.set_cons_zero, List.set_cons_succ] <;> rfl) ⟨hG, (fun h => f0.out h), (fun h => f1.out h), (fun h => f2.out h), (fun h => f3.out h), (fun h => f4.out h), (fun h => f5.out h), (fun _ => rfl), (fun h => f7.out h), (fun h => f8.out h), (fun h => (fun h => ⟨rfl, h.2⟩) (f9.out h)), (fun h => f10.out h), (fun h => f11.out h), (fun h => (fun _ => rfl) (f12.out h))⟩
        · intro L vs W hlen hL hD hI K hK
          obtain ⟨x0, x1, x2, x3, x4, x5, x6, x7, x8, x9, x10, x11, x12, rfl⟩ := len13 hlen
          have hG := hI.1
          replace hI := hI.2
          have f0 := hide hI.1
          replace hI := hI.2
          have f1 := hide hI.1
          replace hI := hI.2
          have f2 := hide hI.1
          replace hI := hI.2
          have f3 := hide hI.1
          replace hI := hI.2
          have f4 := hide hI.1
          replace hI := hI.2
          have f5 := hide hI.1
          replace hI := hI.2
          have f6 := hide hI.1
          replace hI := hI.2
          have f7 := hide hI.1
          replace hI := hI.2
          have f8 := hide hI.1
          replace hI := hI.2
          have f9 := hide hI.1
          replace hI := hI.2
          have f10 := hide hI.1
          replace hI := hI.2
          have f11 := hide hI.1
          replace hI := hI.2
          have f12 := hide hI
          clear hI
          have hAL := HL3.out
          try simp only [puts, Act.put, List.setIfInBounds_toArray, List.set_cons_zero, List.set_cons_succ]
          try go_simp
          exact hK.out _ _ _ (by simp only [puts, Act.put, List.setIfInBounds_toArray, List.set_cons_zero, List.set_cons_succ] <;> rfl) ⟨hG, (fun h => f0.out h), (fun h => f1.out h), (fun h => f2.out h), (fun h => f3.out h), (fun h => f4.out h), (fun h => f5.out h), (fun h => f6.out h), (fun _ => rfl), (fun h => f8.out h), (fun h => f9.out h), (fun h => f10.out h), (fun h => f11.out h), (fun h => f12.out h)⟩
        · intro L vs W hlen hL hD hI K hK
          obtain ⟨x0, x1, x2, x3, x4, x5, x6, x7, x8, x9, x10, x11, x12, rfl⟩ := len13 hlen
          have hG := hI.1
          replace hI := hI.2
          have f0 := hide hI.1
          replace hI := hI.2
          have f1 := hide hI.1
          replace hI := hI.2
          have f2 := hide hI.1
          replace hI := hI.2
          have f3 := hide hI.1
          replace hI := hI.2
          have f4 := hide hI.1
          replace hI := hI.2
          have f5 := hide hI.1
          replace hI := hI.2
          have f6 := hide hI.1
          replace hI := hI.2
          have f7 := hide hI.1
          replace hI := hI.2
          have f8 := hide hI.1
          replace hI := hI.2
          have f9 := hide hI.1
          replace hI := hI.2
          have f10 := hide hI.1
          replace hI := hI.2
          have f11 := hide hI.1
          replace hI := hI.2
          have f12 := hide hI
          clear hI
          have hAL := HL3.out
          obtain rfl := f7.out (hD.on 7 (by kernel_rfl))
          try simp only [puts, Act.put, List.setIfInBounds_toArray, List.set_cons_zero, List.set_cons_succ]
          try go_simp
          refine (HPM.out _).mono ?_
          rintro e W' ⟨rfl, hb⟩
          try go_simp
          exact hK.out _ _ _ (by simp only [puts, Act.put, List.setIfInBounds_toArray, List.set_cons_zero, List.set_cons_succ] <;> rfl) ⟨hG.later hb, (fun h => f0.out h), (fun h => f1.out h), (fun h => f2.out h), (fun h => f3.out h), (fun h => f4.out h), (fun h => f5.out h), (fun h => f6.out h), (fun h => f7.out h), (fun _ => rfl), (fun h => f9.out h), (fun h => f10.out h), (fun h => f11.out h), (fun h => f12.out h)⟩
        · intro L vs W hlen hL hD hI K hK
          obtain ⟨x0, x1, x2, x3, x4, x5, x6, x7, x8, x9, x10, x11, x12, rfl⟩ := len13 hlen
          have hG := hI.1
          replace hI := hI.2
          have f0 := hide hI.1
          replace hI := hI.2
          have f1 := hide hI.1
          replace hI := hI.2
          have f2 := hide hI.1
          replace hI := hI.2
          have f3 := hide hI.1
          replace hI := hI.2
          have f4 := hide hI.1
          replace hI := hI.2
          have f5 := hide hI.1
          replace hI := hI.2
          have f6 := hide hI.1
          replace hI := hI.2
          have f7 := hide hI.1
          replace hI := hI.2
          have f8 := hide hI.1
          replace hI := hI.2
          have f9 := hide hI.1
          replace hI := hI.2
          have f10 := hide hI.1
          replace hI := hI.2
          have f11 := hide hI.1
          replace hI := hI.2
          have f12 := hide hI
          clear hI
          have hAL := HL3.out
          obtain rfl := f6.out (hD.on 6 (by kernel_rfl))
          obtain rfl := f8.out (hD.on 8 (by kernel_rfl))
          try simp only [puts, Act.put, List.setIfInBounds_toArray, List.set_cons_zero, List.set_cons_succ]
          try go_simp
          exact hK.out _ _ _ (by simp only [puts, Act.put, List.setIfInBounds_toArray, List.set_cons_zero, List.set_cons_succ] <;> rfl) ⟨hG, (fun h => f0.out h), (fun h => f1.out h), (fun h => f2.out h), (fun h => f3.out h), (fun h => f4.out h), (fun h => f5.out h), (fun h => f6.out h), (fun h => f7.out h), (fun h => f8.out h), (fun _ => ⟨hD.on 6 (by kernel_rfl), rfl⟩), (fun h => f10.out h), (fun h => f11.out h), (fun h => f12.out h)⟩
        · intro L vs W hlen hL hD hI K hK
          obtain ⟨x0, x1, x2, x3, x4, x5, x6, x7, x8, x9, x10, x11, x12, rfl⟩ := len13 hlen
          have hG := hI.1
          replace hI := hI.2
          have f0 := hide hI.1
          replace hI := hI.2
          have f1 := hide hI.1
          replace hI := hI.2
          have f2 := hide hI.1
          replace hI := hI.2
          have f3 := hide hI.1
          replace hI := hI.2
          have f4 := hide hI.1
          replace hI := hI.2
          have f5 := hide hI.1
          replace hI := hI.2
          have f6 := hide hI.1
          replace hI := hI.2
          have f7 := hide hI.1
          replace hI := hI.2
          have f8 := hide hI.1
          replace hI := hI.2
          have f9 := hide hI.1
          replace hI := hI.2
          have f10 := hide hI.1
          replace hI := hI.2
          have f11 := hide hI.1
          replace hI := hI.2
          have f12 := hide hI
          clear hI
          have hAL := HL3.out
          obtain rfl := f0.out (hD.on 0 (by kernel_rfl))
          obtain rfl := f1.out (hD.on 1 (by kernel_rfl))
          try simp only [puts, Act.put, List.setIfInBounds_toArray, List.set_cons_zero, List.set_cons_succ]
          try go_simp
          exact hK.out _ _ _ (by simp only [puts, Act.put, List.setIfInBounds_toArray, List.set_cons_zero, List.set_cons_succ] <;> rfl) ⟨hG, (fun h => f0.out h), (fun h => f1.out h), (fun h => f2.out h), (fun h => f3.out h), (fun h => f4.out h), (fun h => f5.out h), (fun h => f6.out h), (fun h => f7.out h), (fun h => f8.out h), (fun h => f9.out h), (fun _ => rfl), (fun h => f11.out h), (fun h => f12.out h)⟩
        · intro L vs W hlen hL hD hI K hK
          obtain ⟨x0, x1, x2, x3, x4, x5, x6, x7, x8, x9, x10, x11, x12, rfl⟩ := len13 hlen
          have hG := hI.1
          replace hI := hI.2
          have f0 := hide hI.1
          replace hI := hI.2
          have f1 := hide hI.1
          replace hI := hI.2
          have f2 := hide hI.1
          replace hI := hI.2
          have f3 := hide hI.1
          replace hI := hI.2
          have f4 := hide hI.1
          replace hI := hI.2
          have f5 := hide hI.1
          replace hI := hI.2
          have f6 := hide hI.1
          replace hI := hI.2
          have f7 := hide hI.1
          replace hI := hI.2
          have f8 := hide hI.1
          replace hI := hI.2
          have f9 := hide hI.1
          replace hI := hI.2
          have f10 := hide hI.1
          replace hI := hI.2
          have f11 := hide hI.1
          replace hI := hI.2
          have f12 := hide hI
          clear hI
          have hAL := HL3.out
          obtain rfl := f10.out (hD.on 10 (by kernel_rfl))
          try simp only [puts, Act.put, List.setIfInBounds_toArray, List.set_cons_zero, List.set_cons_succ]
          try go_simp
          exact hK.out _ _ _ (by simp only [puts, Act.put, List.setIfInBounds_toArray, List.set_cons_zero, List.set_cons_succ] <;> rfl) ⟨hG, (fun h => f0.out h), (fun h => f1.out h), (fun h => f2.out h), (fun h => f3.out h), (fun h => f4.out h), (fun h => f5.out h), (fun h => f6.out h), (fun h => f7.out h), (fun h => f8.out h), (fun h => f9.out h), (fun h => f10.out h), (fun _ => rfl), (fun h => f12.out h)⟩
        · intro L vs W hlen hL hD hI K hK
          obtain ⟨x0, x1, x2, x3, x4, x5, x6, x7, x8, x9, x10, x11, x12, rfl⟩ := len13 hlen
          have hG := hI.1
          replace hI := hI.2
          have f0 := hide hI.1
          replace hI := hI.2
          have f1 := hide hI.1
          replace hI := hI.2
          have f2 := hide hI.1
          replace hI := hI.2
          have f3 := hide hI.1
          replace hI := hI.2
          have f4 := hide hI.1
          replace hI := hI.2
          have f5 := hide hI.1
          replace hI := hI.2
          have f6 := hide hI.1
          replace hI := hI.2
          have f7 := hide hI.1
          replace hI := hI.2
          have f8 := hide hI.1
          replace hI := hI.2
          have f9 := hide hI.1
          replace hI := hI.2
          have f10 := hide hI.1
          replace hI := hI.2
          have f11 := hide hI.1
          replace hI := hI.2
          have f12 := hide hI
          clear hI
          have hAL := HL3.out
          have g9 := f9.out (hD.on 9 (by kernel_rfl))
          obtain rfl := f11.out (hD.on 11 (by kernel_rfl))
          try simp only [puts, Act.put, List.setIfInBounds_toArray, List.set_cons_zero, List.set_cons_succ]
          obtain rfl := g9.2
          have hG12 := hG
          rw [hL] at hG12
          have z0 := hG12.own.frozen (n * 4 + 3)
          have z1 := HCT.out hG12
          go_simp
          have hb := Below.refl W.heap.size W
          exact hK.out _ undef _ (by simp only [puts, Act.put, List.setIfInBounds_toArray, List.set_cons_zero, List.set_cons_succ] <;> rfl) ⟨HPT.out hG12, (fun h => f0.out h), (fun h => f1.out h), (fun h => f2.out h), (fun h => f3.out h), (fun h => f4.out h), (fun h => f5.out h), (fun h => f6.out h), (fun h => f7.out h), (fun h => f8.out h), (fun h => f9.out h), (fun h => f10.out h), (fun h => f11.out h), (fun _ => g9.1)⟩
      intro L vs W hlen hall hI
      obtain ⟨x0, x1, x2, x3, x4, x5, x6, x7, x8, x9, x10, x11, x12, rfl⟩ := len13 hlen
      have hG := hI.1
      replace hI := hI.2
      have f0 := hide hI.1
      replace hI := hI.2
      have f1 := hide hI.1
      replace hI := hI.2
      have f2 := hide hI.1
      replace hI := hI.2
      have f3 := hide hI.1
      replace hI := hI.2
      have f4 := hide hI.1
      replace hI := hI.2
      have f5 := hide hI.1
      replace hI := hI.2
      have f6 := hide hI.1
      replace hI := hI.2
      have f7 := hide hI.1
      replace hI := hI.2
      have f8 := hide hI.1
      replace hI := hI.2
      have f9 := hide hI.1
      replace hI := hI.2
      have f10 := hide hI.1
      replace hI := hI.2
      have f11 := hide hI.1
      replace hI := hI.2
      have f12 := hide hI
      clear hI
      obtain rfl := f0.out (hall 0 (by decide))
      obtain rfl := f1.out (hall 1 (by decide))
      obtain rfl := f2.out (hall 2 (by decide))
      obtain rfl := f3.out (hall 3 (by decide))
      obtain rfl := f4.out (hall 4 (by decide))
      obtain rfl := f5.out (hall 5 (by decide))
      obtain rfl := f6.out (hall 6 (by decide))
      obtain rfl := f7.out (hall 7 (by decide))
      obtain rfl := f8.out (hall 8 (by decide))
      have g9 := f9.out (hall 9 (by decide))
      obtain rfl := f10.out (hall 10 (by decide))
      obtain rfl := f11.out (hall 11 (by decide))
      have g12 := f12.out (hall 12 (by decide))
      have hal := hide hall
      clear hall f0 f1 f2 f3 f4 f5 f6 f7 f8 f9 f10 f11 f12
      try simp only [puts, Act.put, List.setIfInBounds_toArray, List.set_cons_zero, List.set_cons_succ]
      rw [hal.out 12 (by decide)] at hG
      have hG7 := hG
      obtain rfl := g9.2
      clear hG g9 g12 hal HPT HCT hgW HN3 HO3 HS3 HC3 ua
      obtain ⟨W7, hW7⟩ : ∃ Z, Z = W := ⟨_, rfl⟩
      subst hW7
      have HWM : Hid ((WD.map dotC).length = A.length) := hide (by rw [List.length_map]; exact HWL.out)
      have ho7 : OwnR W7 W5.heap.size 53 4 (.slice (some ⟨g, 0, none⟩) A.length c6) (WD.map dotC) := by have := hG7.own; rw [show (if true = true then WD else A) = WD from rfl, HWM.out] at this; exact this
      have hb57 := hG7.hb
      have DW : DotsAt W7 (.slice (some ⟨g, 0, none⟩) A.length c6) WD := (RecIn.of_own (d := dot0) ho7 (fun _ => rfl) (Nat.le_refl _)).at
      have DL7 := DL.below hb57
      have DA7 := DA5.below hb57
      have DB7 := DB5.below hb57
      have hG17 := hG5.later hb57
      have bT7 := bT5.later hb57
      have hbw7 := hbw5.trans (hb57.mono hbw5.size)
      clear hG7 ho7 HWM
      have t0 := (bT7).cell 0 rfl
      have t1 := (bT7).cell 1 rfl
      have t2 := (bT7).cell 2 rfl
      have t3 := (bT7).cell 3 rfl
      have t4 := (bT7).cell 4 rfl
      have t5 := (bT7).cell 5 rfl
      have t6 := (bT7).cell 6 rfl
      go_wp2_with fail
      refine (HWY.out _).mono ?_
      rintro e w8 ⟨rfl, hb8⟩
      clear t0 t1 t2 t3 t4 t5 t6
      go_wp2_with fail
      generalize hXX : World.alloc w8 _ = W9
      have hb9 : Below w8.heap.size w8 W9 := by rw [← hXX]; exact bal w8 _
      have bM : Blk W9 w8.heap.size [iV tu, iV dx, iV dy] 32 := by rw [← hXX]; exact Blk.newA w8 _ rfl
      have hb79 := below2 hb8 hb9
      have hR : W7.heap.size ≤ w8.heap.size := hb8.size
      generalize w8.heap.size = R at *
      clear hXX
      refine wp_region_inv [some 79, some 80, some 81, some 82, some 83, some 84, some 85, none] (fun L vs W => match vs with | [x0, x1, x2, x3, x4, x5, x6, x7] => (BoxG W7 W9 R 32 [iV tu, iV dx, iV dy] [iV tu, iV (dx + s1 - 16), iV dy] (L 7) W) ∧ (L 0 = true → x0 = .pointer (some ⟨R, 1, none⟩)) ∧ (L 1 = true → x1 = iV dx) ∧ (L 2 = true → x2 = iV c2) ∧ (L 3 = true → x3 = iV s1) ∧ (L 4 = true → L 1 = true ∧ x4 = iV (dx + s1)) ∧ (L 5 = true → L 1 = true ∧ x5 = iV (dx + s1 - 16)) ∧ (L 6 = true → x6 = .pointer (some ⟨R, 1, none⟩)) ∧ (L 7 = true → L 1 = true) | _ => False) [_, _, _, _, _, _, _, undef] (by kernel_rfl) (by kernel_rfl) rfl (by simp only [puts, Act.put, List.setIfInBounds_toArray, List.set_cons_zero, List.set_cons_succ] <;> rfl) ?_ ?_ ?_
      · exact ⟨BoxG.first hb79 bM, (fun h => by cases h), (fun h => by cases h), (fun h => by cases h), (fun h => by cases h), (fun h => by cases h), (fun h => by cases h), (fun h => by cases h), (fun h => by cases h)⟩
      · refine ⟨?_, ?_, ?_, ?_, ?_, ?_, ?_, ?_, trivial⟩
        · intro L vs W hlen hL hD hI K hK
          obtain ⟨x0, x1, x2, x3, x4, x5, x6, x7, rfl⟩ := len8 hlen
          have hG := hI.1
          replace hI := hI.2
          have f0 := hide hI.1
          replace hI := hI.2
          have f1 := hide hI.1
          replace hI := hI.2
          have f2 := hide hI.1
          replace hI := hI.2
          have f3 := hide hI.1
          replace hI := hI.2
          have f4 := hide hI.1
          replace hI := hI.2
          have f5 := hide hI.1
          replace hI := hI.2
          have f6 := hide hI.1
          replace hI := hI.2
          have f7 := hide hI
          clear hI
          have r0 := hG.hb
          try simp only [puts, Act.put, List.setIfInBounds_toArray, List.set_cons_zero, List.set_cons_succ]
          try go_simp
          exact hK.out _ _ _ (by simp only [puts, Act.put, List.setIfInBounds_toArray, List.set_cons_zero, List.set_cons_succ] <;> rfl) ⟨hG, (fun _ => rfl), (fun h => f1.out h), (fun h => f2.out h), (fun h => f3.out h), (fun h => f4.out h), (fun h => f5.out h), (fun h => f6.out h), (fun h => f7.out h)⟩
        · intro L vs W hlen hL hD hI K hK
          obtain ⟨x0, x1, x2, x3, x4, x5, x6, x7, rfl⟩ := len8 hlen
          have hG := hI.1
          replace hI := hI.2
          have f0 := hide hI.1
          replace hI := hI.2
          have f1 := hide hI.1
          replace hI := hI.2
          have f2 := hide hI.1
          replace hI := hI.2
          have f3 := hide hI.1
          replace hI := hI.2
          have f4 := hide hI.1
          replace hI := hI.2
          have f5 := hide hI.1
          replace hI := hI.2
          have f6 := hide hI.1
          replace hI := hI.2
          have f7 := hide hI
          clear hI
          have r0 := hG.hb
          obtain rfl := f0.out (hD.on 0 (by kernel_rfl))
          try simp only [puts, Act.put, List.setIfInBounds_toArray, List.set_cons_zero, List.set_cons_succ]
          have h7 : L 7 = false := Bool.eq_false_iff.2 (fun h => absurd ((f7.out h).symm.trans hL) (by decide))
          have hG7 := hG
          rw [h7] at hG7
          have r0 := hG7.box.cell 1 rfl
          go_simp
          exact hK.out _ _ _ (by simp only [puts, Act.put, List.setIfInBounds_toArray, List.set_cons_zero, List.set_cons_succ] <;> rfl) ⟨hG, (fun h => f0.out h), (fun _ => rfl), (fun h => f2.out h), (fun h => f3.out h), (fun h => (fun h => ⟨rfl, h.2⟩) (f4.out h)), (fun h => (fun h => ⟨rfl, h.2⟩) (f5.out h)), (fun h => f6.out h), (fun h => (fun _ => rfl) (f7.out h))⟩
        · intro L vs W hlen hL hD hI K hK
          obtain ⟨x0, x1, x2, x3, x4, x5, x6, x7, rfl⟩ := len8 hlen
          have hG := hI.1
          replace hI := hI.2
          have f0 := hide hI.1
          replace hI := hI.2
          have f1 := hide hI.1
          replace hI := hI.2
          have f2 := hide hI.1
          replace hI := hI.2
          have f3 := hide hI.1
          replace hI := hI.2
          have f4 := hide hI.1
          replace hI := hI.2
          have f5 := hide hI.1
          replace hI := hI.2
          have f6 := hide hI.1
          replace hI := hI.2
          have f7 := hide hI
          clear hI
          have r0 := hG.hb
          try simp only [puts, Act.put, List.setIfInBounds_toArray, List.set_cons_zero, List.set_cons_succ]
          try go_simp
          exact hK.out _ _ _ (by simp only [puts, Act.put, List.setIfInBounds_toArray, List.set_cons_zero, List.set_cons_succ] <;> rfl) ⟨hG, (fun h => f0.out h), (fun h => f1.out h), (fun _ => rfl), (fun h => f3.out h), (fun h => f4.out h), (fun h => f5.out h), (fun h => f6.out h), (fun h => f7.out h)⟩
        · intro L vs W hlen hL hD hI K hK
          obtain ⟨x0, x1, x2, x3, x4, x5, x6, x7, rfl⟩ := len8 hlen
          have hG := hI.1
          replace hI := hI.2
          have f0 := hide hI.1
          replace hI := hI.2
          have f1 := hide hI.1
          replace hI := hI.2
          have f2 := hide hI.1
          replace hI := hI.2
          have f3 := hide hI.1
          replace hI := hI.2
          have f4 := hide hI.1
          replace hI := hI.2
          have f5 := hide hI.1
          replace hI := hI.2
          have f6 := hide hI.1
          replace hI := hI.2
          have f7 := hide hI
          clear hI
          have r0 := hG.hb
          obtain rfl := f2.out (hD.on 2 (by kernel_rfl))
          try simp only [puts, Act.put, List.setIfInBounds_toArray, List.set_cons_zero, List.set_cons_succ]
          try go_simp
          refine (HP1.out _).mono ?_
          rintro e W' ⟨rfl, hb⟩
          try go_simp
          exact hK.out _ _ _ (by simp only [puts, Act.put, List.setIfInBounds_toArray, List.set_cons_zero, List.set_cons_succ] <;> rfl) ⟨hG.later hb, (fun h => f0.out h), (fun h => f1.out h), (fun h => f2.out h), (fun _ => rfl), (fun h => f4.out h), (fun h => f5.out h), (fun h => f6.out h), (fun h => f7.out h)⟩
        · intro L vs W hlen hL hD hI K hK
          obtain ⟨x0, x1, x2, x3, x4, x5, x6, x7, rfl⟩ := len8 hlen
          have hG := hI.1
          replace hI := hI.2
          have f0 := hide hI.1
          replace hI := hI.2
          have f1 := hide hI.1
          replace hI := hI.2
          have f2 := hide hI.1
          replace hI := hI.2
          have f3 := hide hI.1
          replace hI := hI.2
          have f4 := hide hI.1
          replace hI := hI.2
          have f5 := hide hI.1
          replace hI := hI.2
          have f6 := hide hI.1
          replace hI := hI.2
          have f7 := hide hI
          clear hI
          have r0 := hG.hb
          obtain rfl := f1.out (hD.on 1 (by kernel_rfl))
          obtain rfl := f3.out (hD.on 3 (by kernel_rfl))
          try simp only [puts, Act.put, List.setIfInBounds_toArray, List.set_cons_zero, List.set_cons_succ]
          try go_simp
          exact hK.out _ _ _ (by simp only [puts, Act.put, List.setIfInBounds_toArray, List.set_cons_zero, List.set_cons_succ] <;> rfl) ⟨hG, (fun h => f0.out h), (fun h => f1.out h), (fun h => f2.out h), (fun h => f3.out h), (fun _ => ⟨hD.on 1 (by kernel_rfl), rfl⟩), (fun h => f5.out h), (fun h => f6.out h), (fun h => f7.out h)⟩
        · intro L vs W hlen hL hD hI K hK
          obtain ⟨x0, x1, x2, x3, x4, x5, x6, x7, rfl⟩ := len8 hlen
          have hG := hI.1
          replace hI := hI.2
          have f0 := hide hI.1
          replace hI := hI.2
          have f1 := hide hI.1
          replace hI := hI.2
          have f2 := hide hI.1
          replace hI := hI.2
          have f3 := hide hI.1
          replace hI := hI.2
          have f4 := hide hI.1
          replace hI := hI.2
          have f5 := hide hI.1
          replace hI := hI.2
          have f6 := hide hI.1
          replace hI := hI.2
          have f7 := hide hI
          clear hI
          have r0 := hG.hb
          have g4 := f4.out (hD.on 4 (by kernel_rfl))
          try simp only [puts, Act.put, List.setIfInBounds_toArray, List.set_cons_zero, List.set_cons_succ]
          obtain rfl := g4.2
          go_simp
          exact hK.out _ _ _ (by simp only [puts, Act.put, List.setIfInBounds_toArray, List.set_cons_zero, List.set_cons_succ] <;> rfl) ⟨hG, (fun h => f0.out h), (fun h => f1.out h), (fun h => f2.out h), (fun h => f3.out h), (fun h => f4.out h), (fun _ => ⟨g4.1, rfl⟩), (fun h => f6.out h), (fun h => f7.out h)⟩
        · intro L vs W hlen hL hD hI K hK
          obtain ⟨x0, x1, x2, x3, x4, x5, x6, x7, rfl⟩ := len8 hlen
          have hG := hI.1
          replace hI := hI.2
          have f0 := hide hI.1
          replace hI := hI.2
          have f1 := hide hI.1
          replace hI := hI.2
          have f2 := hide hI.1
          replace hI := hI.2
          have f3 := hide hI.1
          replace hI := hI.2
          have f4 := hide hI.1
          replace hI := hI.2
          have f5 := hide hI.1
          replace hI := hI.2
          have f6 := hide hI.1
          replace hI := hI.2
          have f7 := hide hI
          clear hI
          have r0 := hG.hb
          try simp only [puts, Act.put, List.setIfInBounds_toArray, List.set_cons_zero, List.set_cons_succ]
          try go_simp
          exact hK.out _ _ _ (by simp only [puts, Act.put, List.setIfInBounds_toArray, List.set_cons_zero, List.set_cons_succ] <;> rfl) ⟨hG, (fun h => f0.out h), (fun h => f1.out h), (fun h => f2.out h), (fun h => f3.out h), (fun h => f4.out h), (fun h => f5.out h), (fun _ => rfl), (fun h => f7.out h)⟩
        · intro L vs W hlen hL hD hI K hK
          obtain ⟨x0, x1, x2, x3, x4, x5, x6, x7, rfl⟩ := len8 hlen
          have hG := hI.1
          replace hI := hI.2
          have f0 := hide hI.1
          replace hI := hI.2
          have f1 := hide hI.1
          replace hI := hI.2
          have f2 := hide hI.1
          replace hI := hI.2
          have f3 := hide hI.1
          replace hI := hI.2
          have f4 := hide hI.1
          replace hI := hI.2
          have f5 := hide hI.1
          replace hI := hI.2
          have f6 := hide hI.1
          replace hI := hI.2
          have f7 := hide hI
          clear hI
          have r0 := hG.hb
          have g5 := f5.out (hD.on 5 (by kernel_rfl))
          obtain rfl := f6.out (hD.on 6 (by kernel_rfl))
          try simp only [puts, Act.put, List.setIfInBounds_toArray, List.set_cons_zero, List.set_cons_succ]
          obtain rfl := g5.2
          have hG7 := hG
          rw [hL] at hG7
          have z0 := hG7.box.frozen 1
          have z1 := hG7.box.cell 1 rfl
          go_simp
          have hb := Below.refl W.heap.size W
          exact hK.out _ undef _ (by simp only [puts, Act.put, List.setIfInBounds_toArray, List.set_cons_zero, List.set_cons_succ] <;> rfl) ⟨hG7.at1 hR, (fun h => f0.out h), (fun h => f1.out h), (fun h => f2.out h), (fun h => f3.out h), (fun h => f4.out h), (fun h => f5.out h), (fun h => f6.out h), (fun _ => g5.1)⟩
      intro L vs W hlen hall hI
      obtain ⟨x0, x1, x2, x3, x4, x5, x6, x7, rfl⟩ := len8 hlen
      have hG := hI.1
      replace hI := hI.2
      have f0 := hide hI.1
      replace hI := hI.2
      have f1 := hide hI.1
      replace hI := hI.2
      have f2 := hide hI.1
      replace hI := hI.2
      have f3 := hide hI.1
      replace hI := hI.2
      have f4 := hide hI.1
      replace hI := hI.2
      have f5 := hide hI.1
      replace hI := hI.2
      have f6 := hide hI.1
      replace hI := hI.2
      have f7 := hide hI
      clear hI
      obtain rfl := f0.out (hall 0 (by decide))
      obtain rfl := f1.out (hall 1 (by decide))
      obtain rfl := f2.out (hall 2 (by decide))
      obtain rfl := f3.out (hall 3 (by decide))
      have g4 := f4.out (hall 4 (by decide))
      have g5 := f5.out (hall 5 (by decide))
      obtain rfl := f6.out (hall 6 (by decide))
      have g7 := f7.out (hall 7 (by decide))
      have hal := hide hall
      clear hall f0 f1 f2 f3 f4 f5 f6 f7
      try simp only [puts, Act.put, List.setIfInBounds_toArray, List.set_cons_zero, List.set_cons_succ]
      rw [hal.out 7 (by decide)] at hG
      have bM6 := hG.done
      have hb76 := hG.hb
      obtain rfl := g4.2
      obtain rfl := g5.2
      clear hG g4 g5 g7 hal bM
      obtain ⟨W6, hW6⟩ : ∃ Z, Z = W := ⟨_, rfl⟩
      subst hW6
      go_wp2_with fail
      refine wp_region_inv [some 86, some 87, some 88, some 89, some 90, some 91, some 92, none] (fun L vs W => match vs with | [x0, x1, x2, x3, x4, x5, x6, x7] => (BoxG W7 W6 R 32 [iV tu, iV (dx + s1 - 16), iV dy] [iV tu, iV (dx + s1 - 16), iV (dy + s2 - 16)] (L 7) W) ∧ (L 0 = true → x0 = .pointer (some ⟨R, 2, none⟩)) ∧ (L 1 = true → x1 = iV dy) ∧ (L 2 = true → x2 = iV c3) ∧ (L 3 = true → x3 = iV s2) ∧ (L 4 = true → L 1 = true ∧ x4 = iV (dy + s2)) ∧ (L 5 = true → L 1 = true ∧ x5 = iV (dy + s2 - 16)) ∧ (L 6 = true → x6 = .pointer (some ⟨R, 2, none⟩)) ∧ (L 7 = true → L 1 = true) | _ => False) [_, _, _, _, _, _, _, undef] (by kernel_rfl) (by kernel_rfl) rfl (by simp only [puts, Act.put, List.setIfInBounds_toArray, List.set_cons_zero, List.set_cons_succ] <;> rfl) ?_ ?_ ?_
      · exact ⟨BoxG.first hb76 bM6, (fun h => by cases h), (fun h => by cases h), (fun h => by cases h), (fun h => by cases h), (fun h => by cases h), (fun h => by cases h), (fun h => by cases h), (fun h => by cases h)⟩
      · refine ⟨?_, ?_, ?_, ?_, ?_, ?_, ?_, ?_, trivial⟩
        · intro L vs W hlen hL hD hI K hK
          obtain ⟨x0, x1, x2, x3, x4, x5, x6, x7, rfl⟩ := len8 hlen
          have hG := hI.1
          replace hI := hI.2
          have f0 := hide hI.1
          replace hI := hI.2
          have f1 := hide hI.1
          replace hI := hI.2
          have f2 := hide hI.1
          replace hI := hI.2
          have f3 := hide hI.1
          replace hI := hI.2
          have f4 := hide hI.1
          replace hI := hI.2
          have f5 := hide hI.1
          replace hI := hI.2
          have f6 := hide hI.1
          replace hI := hI.2
          have f7 := hide hI
          clear hI
          have r0 := hG.hb
          try simp only [puts, Act.put, List.setIfInBounds_toArray, List.set_cons_zero, List.set_cons_succ]
          try go_simp
          exact hK.out _ _ _ (by simp only [puts, Act.put, List.setIfInBounds_toArray, List.set_cons_zero, List.set_cons_succ] <;> rfl) ⟨hG, (fun _ => rfl), (fun h => f1.out h), (fun h => f2.out h), (fun h => f3.out h), (fun h => f4.out h), (fun h => f5.out h), (fun h => f6.out h), (fun h => f7.out h)⟩
        · intro L vs W hlen hL hD hI K hK
          obtain ⟨x0, x1, x2, x3, x4, x5, x6, x7, rfl⟩ := len8 hlen
          have hG := hI.1
          replace hI := hI.2
          have f0 := hide hI.1
          replace hI := hI.2
          have f1 := hide hI.1
          replace hI := hI.2
          have f2 := hide hI.1
          replace hI := hI.2
          have f3 := hide hI.1
          replace hI := hI.2
          have f4 := hide hI.1
          replace hI := hI.2
          have f5 := hide hI.1
          replace hI := hI.2
          have f6 := hide hI.1
          replace hI := hI.2
          have f7 := hide hI
          clear hI
          have r0 := hG.hb
          obtain rfl := f0.out (hD.on 0 (by kernel_rfl))
          try simp only [puts, Act.put, List.setIfInBounds_toArray, List.set_cons_zero, List.set_cons_succ]
          have h7 : L 7 = false := Bool.eq_false_iff.2 (fun h => absurd ((f7.out h).symm.trans hL) (by decide))
          have hG7 := hG
          rw [h7] at hG7
          have r0 := hG7.box.cell 2 rfl
          go_simp
          exact hK.out _ _ _ (by simp only [puts, Act.put, List.setIfInBounds_toArray, List.set_cons_zero, List.set_cons_succ] <;> rfl) ⟨hG, (fun h => f0.out h), (fun _ => rfl), (fun h => f2.out h), (fun h => f3.out h), (fun h => (fun h => ⟨rfl, h.2⟩) (f4.out h)), (fun h => (fun h => ⟨rfl, h.2⟩) (f5.out h)), (fun h => f6.out h), (fun h => (fun _ => rfl) (f7.out h))⟩
        · intro L vs W hlen hL hD hI K hK
          obtain ⟨x0, x1, x2, x3, x4, x5, x6, x7, rfl⟩ := len8 hlen
          have hG := hI.1
          replace hI := hI.2
          have f0 := hide hI.1
          replace hI := hI.2
          have f1 := hide hI.1
          replace hI := hI.2
          have f2 := hide hI.1
          replace hI := hI.2
          have f3 := hide hI.1
          replace hI := hI.2
          have f4 := hide hI.1
          replace hI := hI.2
          have f5 := hide hI.1
          replace hI := hI.2
          have f6 := hide hI.1
          replace hI := hI.2
          have f7 := hide hI
          clear hI
          have r0 := hG.hb
          try simp only [puts, Act.put, List.setIfInBounds_toArray, List.set_cons_zero, List.set_cons_succ]
          try go_simp
          exact hK.out _ _ _ (by simp only [puts, Act.put, List.setIfInBounds_toArray, List.set_cons_zero, List.set_cons_succ] <;> rfl) ⟨hG, (fun h => f0.out h), (fun h => f1.out h), (fun _ => rfl), (fun h => f3.out h), (fun h => f4.out h), (fun h => f5.out h), (fun h => f6.out h), (fun h => f7.out h)⟩
        · intro L vs W hlen hL hD hI K hK
          obtain ⟨x0, x1, x2, x3, x4, x5, x6, x7, rfl⟩ := len8 hlen
          have hG := hI.1
          replace hI := hI.2
          have f0 := hide hI.1
          replace hI := hI.2
          have f1 := hide hI.1
          replace hI := hI.2
          have f2 := hide hI.1
          replace hI := hI.2
          have f3 := hide hI.1
          replace hI := hI.2
          have f4 := hide hI.1
          replace hI := hI.2
          have f5 := hide hI.1
          replace hI := hI.2
          have f6 := hide hI.1
          replace hI := hI.2
          have f7 := hide hI
          clear hI
          have r0 := hG.hb
          obtain rfl := f2.out (hD.on 2 (by kernel_rfl))
          try simp only [puts, Act.put, List.setIfInBounds_toArray, List.set_cons_zero, List.set_cons_succ]
          try go_simp
          refine (HP2.out _).mono ?_
          rintro e W' ⟨rfl, hb⟩
          try go_simp
          exact hK.out _ _ _ (by simp only [puts, Act.put, List.setIfInBounds_toArray, List.set_cons_zero, List.set_cons_succ] <;> rfl) ⟨hG.later hb, (fun h => f0.out h), (fun h => f1.out h), (fun h => f2.out h), (fun _ => rfl), (fun h => f4.out h), (fun h => f5.out h), (fun h => f6.out h), (fun h => f7.out h)⟩
        · intro L vs W hlen hL hD hI K hK
          obtain ⟨x0, x1, x2, x3, x4, x5, x6, x7, rfl⟩ := len8 hlen
          have hG := hI.1
          replace hI := hI.2
          have f0 := hide hI.1
          replace hI := hI.2
          have f1 := hide hI.1
          replace hI := hI.2
          have f2 := hide hI.1
          replace hI := hI.2
          have f3 := hide hI.1
          replace hI := hI.2
          have f4 := hide hI.1
          replace hI := hI.2
          have f5 := hide hI.1
          replace hI := hI.2
          have f6 := hide hI.1
          replace hI := hI.2
          have f7 := hide hI
          clear hI
          have r0 := hG.hb
          obtain rfl := f1.out (hD.on 1 (by kernel_rfl))
          obtain rfl := f3.out (hD.on 3 (by kernel_rfl))
          try simp only [puts, Act.put, List.setIfInBounds_toArray, List.set_cons_zero, List.set_cons_succ]
          try go_simp
          exact hK.out _ _ _ (by simp only [puts, Act.put, List.setIfInBounds_toArray, List.set_cons_zero, List.set_cons_succ] <;> rfl) ⟨hG, (fun h => f0.out h), (fun h => f1.out h), (fun h => f2.out h), (fun h => f3.out h), (fun _ => ⟨hD.on 1 (by kernel_rfl), rfl⟩), (fun h => f5.out h), (fun h => f6.out h), (fun h => f7.out h)⟩
        · intro L vs W hlen hL hD hI K hK
          obtain ⟨x0, x1, x2, x3, x4, x5, x6, x7, rfl⟩ := len8 hlen
          have hG := hI.1
          replace hI := hI.2
          have f0 := hide hI.1
          replace hI := hI.2
          have f1 := hide hI.1
          replace hI := hI.2
          have f2 := hide hI.1
          replace hI := hI.2
          have f3 := hide hI.1
          replace hI := hI.2
          have f4 := hide hI.1
          replace hI := hI.2
          have f5 := hide hI.1
          replace hI := hI.2
          have f6 := hide hI.1
          replace hI := hI.2
          have f7 := hide hI
          clear hI
          have r0 := hG.hb
          have g4 := f4.out (hD.on 4 (by kernel_rfl))
          try simp only [puts, Act.put, List.setIfInBounds_toArray, List.set_cons_zero, List.set_cons_succ]
          obtain rfl := g4.2
          go_simp
          exact hK.out _ _ _ (by simp only [puts, Act.put, List.setIfInBounds_toArray, List.set_cons_zero, List.set_cons_succ] <;> rfl) ⟨hG, (fun h => f0.out h), (fun h => f1.out h), (fun h => f2.out h), (fun h => f3.out h), (fun h => f4.out h), (fun _ => ⟨g4.1, rfl⟩), (fun h => f6.out h), (fun h => f7.out h)⟩
        · intro L vs W hlen hL hD hI K hK
          obtain ⟨x0, x1, x2, x3, x4, x5, x6, x7, rfl⟩ := len8 hlen
          have hG := hI.1
          replace hI := hI.2
          have f0 := hide hI.1
          replace hI := hI.2
          have f1 := hide hI.1
          replace hI := hI.2
          have f2 := hide hI.1
          replace hI := hI.2
          have f3 := hide hI.1
          replace hI := hI.2
          have f4 := hide hI.1
          replace hI := hI.2
          have f5 := hide hI.1
          replace hI := hI.2
          have f6 := hide hI.1
          replace hI := hI.2
          have f7 := hide hI
          clear hI
          have r0 := hG.hb
          try simp only [puts, Act.put, List.setIfInBounds_toArray, List.set_cons_zero, List.set_cons_succ]
          try go_simp
          exact hK.out _ _ _ (by simp only [puts, Act.put, List.setIfInBounds_toArray, List.set_cons_zero, List.set_cons_succ] <;> rfl) ⟨hG, (fun h => f0.out h), (fun h => f1.out h), (fun h => f2.out h), (fun h => f3.out h), (fun h => f4.out h), (fun h => f5.out h), (fun _ => rfl), (fun h => f7.out h)⟩
        · intro L vs W hlen hL hD hI K hK
          obtain ⟨x0, x1, x2, x3, x4, x5, x6, x7, rfl⟩ := len8 hlen
          have hG := hI.1
          replace hI := hI.2
          have f0 := hide hI.1
          replace hI := hI.2
          have f1 := hide hI.1
          replace hI := hI.2
          have f2 := hide hI.1
          replace hI := hI.2
          have f3 := hide hI.1
          replace hI := hI.2
          have f4 := hide hI.1
          replace hI := hI.2
          have f5 := hide hI.1
          replace hI := hI.2
          have f6 := hide hI.1
          replace hI := hI.2
          have f7 := hide hI
          clear hI
          have r0 := hG.hb
          have g5 := f5.out (hD.on 5 (by kernel_rfl))
          obtain rfl := f6.out (hD.on 6 (by kernel_rfl))
          try simp only [puts, Act.put, List.setIfInBounds_toArray, List.set_cons_zero, List.set_cons_succ]
          obtain rfl := g5.2
          have hG7 := hG
          rw [hL] at hG7
          have z0 := hG7.box.frozen 2
          have z1 := hG7.box.cell 2 rfl
          go_simp
          have hb := Below.refl W.heap.size W
          exact hK.out _ undef _ (by simp only [puts, Act.put, List.setIfInBounds_toArray, List.set_cons_zero, List.set_cons_succ] <;> rfl) ⟨hG7.at2 hR, (fun h => f0.out h), (fun h => f1.out h), (fun h => f2.out h), (fun h => f3.out h), (fun h => f4.out h), (fun h => f5.out h), (fun h => f6.out h), (fun _ => g5.1)⟩
      intro L vs W hlen hall hI
      obtain ⟨x0, x1, x2, x3, x4, x5, x6, x7, rfl⟩ := len8 hlen
      have hG := hI.1
      replace hI := hI.2
      have f0 := hide hI.1
      replace hI := hI.2
      have f1 := hide hI.1
      replace hI := hI.2
      have f2 := hide hI.1
      replace hI := hI.2
      have f3 := hide hI.1
      replace hI := hI.2
      have f4 := hide hI.1
      replace hI := hI.2
      have f5 := hide hI.1
      replace hI := hI.2
      have f6 := hide hI.1
      replace hI := hI.2
      have f7 := hide hI
      clear hI
      obtain rfl := f0.out (hall 0 (by decide))
      obtain rfl := f1.out (hall 1 (by decide))
      obtain rfl := f2.out (hall 2 (by decide))
      obtain rfl := f3.out (hall 3 (by decide))
      have g4 := f4.out (hall 4 (by decide))
      have g5 := f5.out (hall 5 (by decide))
      obtain rfl := f6.out (hall 6 (by decide))
      have g7 := f7.out (hall 7 (by decide))
      have hal := hide hall
      clear hall f0 f1 f2 f3 f4 f5 f6 f7
      try simp only [puts, Act.put, List.setIfInBounds_toArray, List.set_cons_zero, List.set_cons_succ]
      rw [hal.out 7 (by decide)] at hG
      have bM7 := hG.done
      have hb78 := hG.hb
      obtain rfl := g4.2
      obtain rfl := g5.2
      clear hG g4 g5 g7 hal bM6 u6 u7 u8 u9
      obtain ⟨W8, hW8⟩ : ∃ Z, Z = W := ⟨_, rfl⟩
      subst hW8
      have HFA := hide (fun (W : World) hb => fitting_any A B _ _ ⟨tu, dx + s1 - 16, dy + s2 - 16⟩ W (DA7.below hb) (DB7.below hb) (hG17.later hb))
      have HFW := hide (fun (W : World) hb => fitting_any WD B _ _ ⟨tu, dx + s1 - 16, dy + s2 - 16⟩ W (DW.below hb) (DB7.below hb) (hG17.later hb))
      have HFL := hide (fun (W : World) hb => fitting_any LS B _ _ ⟨tu, dx + s1 - 16, dy + s2 - 16⟩ W (DL7.below hb) (DB7.below hb) (hG17.later hb))
      have HNFm := hide (HNF.out ⟨tu, dx + s1 - 16, dy + s2 - 16⟩)
      generalize fittingD A B ⟨tu, dx + s1 - 16, dy + s2 - 16⟩ = ph at *
      have r0 := bM7.cell 0 rfl
      have r1 := bM7.cell 1 rfl
      have r2 := bM7.cell 2 rfl
      go_wp2_with fail
      refine (HFA.out _ hb78).mono ?_
      rintro e w9 ⟨rfl, hb9'⟩
      have hb7a := below2 hb78 hb9'
      clear r0 r1 r2
      have HB7 : Hid (∀ i, i < B.length → ∃ b o, ba = some ⟨b, o, none⟩ ∧ ∀ j v, (dotC (B.getD i dot0))[j]? = some v → W7.cell? ⟨b, o + i * 4 + j, none⟩ = some v) := hide (by
        obtain ⟨a', n', e, -, -, h⟩ := id DB7
        cases e
        exact h)
      have HWL2 : Hid (WD.length < 1000000) := hide (by rw [HWL.out]; exact HAB.out.1)
      cases ph
      · go_wp2_with fail
        go_loopw [20] (fun i wr => ∃ k : Nat, k ≤ B.length ∧ i = .int .i64 k ∧ Below W7.heap.size W7 wr) (fun i _ => B.length - (intOf i).toNat)
        case atStart => exact ⟨0, by omega, rfl, hb7a⟩
        case round =>
          obtain ⟨k, hk, rfl, hbr⟩ := hrel
          by_cases hlt : k < B.length
          · obtain ⟨bl, o, heq, hck⟩ := HB7.out k hlt
            subst heq
            have hkd : decide (k < B.length) = true := by simpa using hlt
            have HCK := hide (fun (W : World) (hb : Below W7.heap.size W7 W) => (show W.cell? ⟨bl, o + k * 4, none⟩ = some (iV (B.getD k dot0).id) from keep hb (hck 0 _ rfl)))
            have HNJk := hide (HNJ.out k hlt)
            have HJA := hide (fun (W : World) hb => judge_any A B _ _ (B.getD k dot0).id W (DA7.below hb) (DB7.below hb) HAB.out.2 HAB.out.1 (hG17.later hb))
            have HJW := hide (fun (W : World) hb => judge_any WD B _ _ (B.getD k dot0).id W (DW.below hb) (DB7.below hb) HAB.out.2 HWL2.out (hG17.later hb))
            have HJL := hide (fun (W : World) hb => judge_any LS B _ _ (B.getD k dot0).id W (DL7.below hb) (DB7.below hb) HAB.out.2 HLL.out (hG17.later hb))
            generalize (B.getD k dot0).id = Z at *
            have e0 := HCK.out _ hbr
            clear hck
            by_cases h19 : Z ≤ 19
            · have h20 : decide (Z ≤ 19) = true := by simpa using h19
              clear h19
              go_wp2_with fail
              go_roundw
              case rel => exact ⟨k + 1, by omega, by go_num, hbr⟩
              case measure => simp [intOf]; omega
            · have h20 : decide (Z ≤ 19) = false := by simpa using h19
              obtain ⟨j1, j2, j3, j4, j5⟩ := HNJk.out (by omega)
              have J3 := hide j3
              have J4 := hide j4
              have J5 := hide j5
              rw [j1] at HJA
              rw [j2] at HJW
              rw [j3] at HJL
              generalize judV A B Z = VA at *
              generalize judV WD B Z = VW at *
              generalize judV LS B Z = VL at *
              obtain ⟨vk, ⟨v1, v2, v3⟩, vp, v4, v5, v6⟩ := VA
              obtain ⟨xk, ⟨x1, x2, x3⟩, xp, x4, x5, x6⟩ := VW
              obtain ⟨yk, ⟨y1, y2, y3⟩, yp, y4, y5, y6⟩ := VL
              clear h19 j1 j2 j3 j4 j5 HNJk
              go_wp2_with fail
              refine (HJA.out _ hbr).mono ?_
              rintro e za ⟨rfl, hxza⟩
              have e0za := HCK.out za (below2 hbr hxza)
              have l0za : bl < za.heap.size := lt_of_cell e0za
              clear e0
              go_wp2_with fail
              generalize hXX : World.alloc za _ = ZA
              have hyza : Below za.heap.size za ZA := by rw [← hXX]; exact bal za _
              have bVA : Blk ZA za.heap.size [iV vk, iV v1, iV v2, iV v3, iV vp, iV v4, iV v5, iV v6] 55 := by rw [← hXX]; exact Blk.newA za _ rfl
              clear hXX e0za l0za
              have hbA := below2 hbr (below2 hxza hyza)
              generalize za.heap.size = RA at *
              refine (HJW.out _ hbA).mono ?_
              rintro e zb ⟨rfl, hxzb⟩
              have e0zb := HCK.out zb (below2 hbA hxzb)
              have l0zb : bl < zb.heap.size := lt_of_cell e0zb
              have bVB0 := bVA.later hxzb
              go_wp2_with fail
              generalize hXX : World.alloc zb _ = ZB
              have hyzb : Below zb.heap.size zb ZB := by rw [← hXX]; exact bal zb _
              have bWB : Blk ZB zb.heap.size [iV xk, iV x1, iV x2, iV x3, iV xp, iV x4, iV x5, iV x6] 55 := by rw [← hXX]; exact Blk.newA zb _ rfl
              clear hXX e0zb l0zb
              have bVB := bVB0.later hyzb
              have hbB := below2 hbA (below2 hxzb hyzb)
              generalize zb.heap.size = RB at *
              refine (HJL.out _ hbB).mono ?_
              rintro e zc ⟨rfl, hxzc⟩
              have e0zc := HCK.out zc (below2 hbB hxzc)
              have l0zc : bl < zc.heap.size := lt_of_cell e0zc
              have bVC0 := bVB.later hxzc
              have bWC0 := bWB.later hxzc
              have v0 := bVC0.cell 0 rfl
              have lV := bVC0.lt
              have w0 := bWC0.cell 0 rfl
              have lW := bWC0.lt
              have hbZ := fun o' => below2 hbB (below2 hxzc (bal zc o'))
              clear e0zc l0zc
              by_cases hnm1 : 1 < NM
              · rw [if_pos hnm1]
                have hnd1 : decide (1 < NM) = true := by simpa using hnm1
                have hnd2 : decide ((1 : Int) < (NM : Int)) = true := by simp; omega
                cases b1 : (xk != 2)
                · cases b2 : (yk != 2)
                  · go_wp2_with fail
                    go_roundw
                    case rel => exact ⟨k + 1, by omega, by go_num, hbZ _⟩
                    case measure => simp [intOf]; omega
                  · obtain rfl := J5.out hnm1 (by simpa using b2)
                    go_wp2_with fail
                    go_roundw
                    case rel => exact ⟨k + 1, by omega, by go_num, hbZ _⟩
                    case measure => simp [intOf]; omega
                · obtain rfl := J4.out (by simpa using b1)
                  cases b2 : (yk != 2)
                  · go_wp2_with fail
                    go_roundw
                    case rel => exact ⟨k + 1, by omega, by go_num, hbZ _⟩
                    case measure => simp [intOf]; omega
                  · obtain rfl := J5.out hnm1 (by simpa using b2)
                    go_wp2_with fail
                    go_roundw
                    case rel => exact ⟨k + 1, by omega, by go_num, hbZ _⟩
                    case measure => simp [intOf]; omega
              · rw [if_neg hnm1]
                have hnd1 : decide (1 < NM) = false := by simpa using hnm1
                have hnd2 : decide ((1 : Int) < (NM : Int)) = false := by simp; omega
                cases b1 : (xk != 2)
                · go_wp2_with fail
                  go_roundw
                  case rel => exact ⟨k + 1, by omega, by go_num, hbZ _⟩
                  case measure => simp [intOf]; omega
                · obtain rfl := J4.out (by simpa using b1)
                  go_wp2_with fail
                  go_roundw
                  case rel => exact ⟨k + 1, by omega, by go_num, hbZ _⟩
                  case measure => simp [intOf]; omega
          · obtain rfl : k = B.length := by omega
            go_wp2_with fail
            go_ret
            exact ⟨rfl, hbw7.trans (hbr.mono hbw7.size)⟩
      · obtain ⟨f1, f2⟩ := HNFm.out rfl
        rw [f1] at HFW
        have bM9 := bM7.later hb9'
        have r0 := bM9.cell 0 rfl
        have r1 := bM9.cell 1 rfl
        have r2 := bM9.cell 2 rfl
        go_wp2_with fail
        refine (HFW.out _ hb7a).mono ?_
        rintro e w10 ⟨rfl, hb10⟩
        have hb7b := below2 hb7a hb10
        clear r0 r1 r2
        by_cases hnm1 : 1 < NM
        · have hnd1 : decide (1 < NM) = true := by simpa using hnm1
          have hnd2 : decide ((1 : Int) < (NM : Int)) = true := by simp; omega
          rw [f2 hnm1] at HFL
          have bM10 := bM9.later hb10
          have r0 := bM10.cell 0 rfl
          have r1 := bM10.cell 1 rfl
          have r2 := bM10.cell 2 rfl
          go_wp2_with fail
          refine (HFL.out _ hb7b).mono ?_
          rintro e w11 ⟨rfl, hb11⟩
          have hb7c := below2 hb7b hb11
          clear r0 r1 r2
          go_wp2_with fail
          clear hnm1 hnd1 hnd2 f1 f2
          go_loopw [20] (fun i wr => ∃ k : Nat, k ≤ B.length ∧ i = .int .i64 k ∧ Below W7.heap.size W7 wr) (fun i _ => B.length - (intOf i).toNat)
          case atStart => exact ⟨0, by omega, rfl, hb7c⟩
          case round =>
            obtain ⟨k, hk, rfl, hbr⟩ := hrel
            by_cases hlt : k < B.length
            · obtain ⟨bl, o, heq, hck⟩ := HB7.out k hlt
              subst heq
              have hkd : decide (k < B.length) = true := by simpa using hlt
              have HCK := hide (fun (W : World) (hb : Below W7.heap.size W7 W) => (show W.cell? ⟨bl, o + k * 4, none⟩ = some (iV (B.getD k dot0).id) from keep hb (hck 0 _ rfl)))
              have HNJk := hide (HNJ.out k hlt)
              have HJA := hide (fun (W : World) hb => judge_any A B _ _ (B.getD k dot0).id W (DA7.below hb) (DB7.below hb) HAB.out.2 HAB.out.1 (hG17.later hb))
              have HJW := hide (fun (W : World) hb => judge_any WD B _ _ (B.getD k dot0).id W (DW.below hb) (DB7.below hb) HAB.out.2 HWL2.out (hG17.later hb))
              have HJL := hide (fun (W : World) hb => judge_any LS B _ _ (B.getD k dot0).id W (DL7.below hb) (DB7.below hb) HAB.out.2 HLL.out (hG17.later hb))
              generalize (B.getD k dot0).id = Z at *
              have e0 := HCK.out _ hbr
              clear hck
              by_cases h19 : Z ≤ 19
              · have h20 : decide (Z ≤ 19) = true := by simpa using h19
                clear h19
                go_wp2_with fail
                go_roundw
                case rel => exact ⟨k + 1, by omega, by go_num, hbr⟩
                case measure => simp [intOf]; omega
              · have h20 : decide (Z ≤ 19) = false := by simpa using h19
                obtain ⟨j1, j2, j3, j4, j5⟩ := HNJk.out (by omega)
                have J3 := hide j3
                have J4 := hide j4
                have J5 := hide j5
                rw [j1] at HJA
                rw [j2] at HJW
                rw [j3] at HJL
                generalize judV A B Z = VA at *
                generalize judV WD B Z = VW at *
                generalize judV LS B Z = VL at *
                obtain ⟨vk, ⟨v1, v2, v3⟩, vp, v4, v5, v6⟩ := VA
                obtain ⟨xk, ⟨x1, x2, x3⟩, xp, x4, x5, x6⟩ := VW
                obtain ⟨yk, ⟨y1, y2, y3⟩, yp, y4, y5, y6⟩ := VL
                clear h19 j1 j2 j3 j4 j5 HNJk
                go_wp2_with fail
                refine (HJA.out _ hbr).mono ?_
                rintro e za ⟨rfl, hxza⟩
                have e0za := HCK.out za (below2 hbr hxza)
                have l0za : bl < za.heap.size := lt_of_cell e0za
                clear e0
                go_wp2_with fail
                generalize hXX : World.alloc za _ = ZA
                have hyza : Below za.heap.size za ZA := by rw [← hXX]; exact bal za _
                have bVA : Blk ZA za.heap.size [iV vk, iV v1, iV v2, iV v3, iV vp, iV v4, iV v5, iV v6] 55 := by rw [← hXX]; exact Blk.newA za _ rfl
                clear hXX e0za l0za
                have hbA := below2 hbr (below2 hxza hyza)
                generalize za.heap.size = RA at *
                refine (HJW.out _ hbA).mono ?_
                rintro e zb ⟨rfl, hxzb⟩
                have e0zb := HCK.out zb (below2 hbA hxzb)
                have l0zb : bl < zb.heap.size := lt_of_cell e0zb
                have bVB0 := bVA.later hxzb
                go_wp2_with fail
                generalize hXX : World.alloc zb _ = ZB
                have hyzb : Below zb.heap.size zb ZB := by rw [← hXX]; exact bal zb _
                have bWB : Blk ZB zb.heap.size [iV xk, iV x1, iV x2, iV x3, iV xp, iV x4, iV x5, iV x6] 55 := by rw [← hXX]; exact Blk.newA zb _ rfl
                clear hXX e0zb l0zb
                have bVB := bVB0.later hyzb
                have hbB := below2 hbA (below2 hxzb hyzb)
                generalize zb.heap.size = RB at *
                refine (HJL.out _ hbB).mono ?_
                rintro e zc ⟨rfl, hxzc⟩
                have e0zc := HCK.out zc (below2 hbB hxzc)
                have l0zc : bl < zc.heap.size := lt_of_cell e0zc
                have bVC0 := bVB.later hxzc
                have bWC0 := bWB.later hxzc
                have v0 := bVC0.cell 0 rfl
                have lV := bVC0.lt
                have w0 := bWC0.cell 0 rfl
                have lW := bWC0.lt
                have hbZ := fun o' => below2 hbB (below2 hxzc (bal zc o'))
                clear e0zc l0zc
                by_cases hnm1 : 1 < NM
                · rw [if_pos hnm1]
                  have hnd1 : decide (1 < NM) = true := by simpa using hnm1
                  have hnd2 : decide ((1 : Int) < (NM : Int)) = true := by simp; omega
                  cases b1 : (xk != 2)
                  · cases b2 : (yk != 2)
                    · go_wp2_with fail
                      go_roundw
                      case rel => exact ⟨k + 1, by omega, by go_num, hbZ _⟩
                      case measure => simp [intOf]; omega
                    · obtain rfl := J5.out hnm1 (by simpa using b2)
                      go_wp2_with fail
                      go_roundw
                      case rel => exact ⟨k + 1, by omega, by go_num, hbZ _⟩
                      case measure => simp [intOf]; omega
                  · obtain rfl := J4.out (by simpa using b1)
                    cases b2 : (yk != 2)
                    · go_wp2_with fail
                      go_roundw
                      case rel => exact ⟨k + 1, by omega, by go_num, hbZ _⟩
                      case measure => simp [intOf]; omega
                    · obtain rfl := J5.out hnm1 (by simpa using b2)
                      go_wp2_with fail
                      go_roundw
                      case rel => exact ⟨k + 1, by omega, by go_num, hbZ _⟩
                      case measure => simp [intOf]; omega
                · rw [if_neg hnm1]
                  have hnd1 : decide (1 < NM) = false := by simpa using hnm1
                  have hnd2 : decide ((1 : Int) < (NM : Int)) = false := by simp; omega
                  cases b1 : (xk != 2)
                  · go_wp2_with fail
                    go_roundw
                    case rel => exact ⟨k + 1, by omega, by go_num, hbZ _⟩
                    case measure => simp [intOf]; omega
                  · obtain rfl := J4.out (by simpa using b1)
                    go_wp2_with fail
                    go_roundw
                    case rel => exact ⟨k + 1, by omega, by go_num, hbZ _⟩
                    case measure => simp [intOf]; omega
            · obtain rfl : k = B.length := by omega
              go_wp2_with fail
              go_ret
              exact ⟨rfl, hbw7.trans (hbr.mono hbw7.size)⟩
        · have hnd1 : decide (1 < NM) = false := by simpa using hnm1
          have hnd2 : decide ((1 : Int) < (NM : Int)) = false := by simp; omega
          go_wp2_with fail
          clear hnm1 hnd1 hnd2 f1 f2
          go_loopw [20] (fun i wr => ∃ k : Nat, k ≤ B.length ∧ i = .int .i64 k ∧ Below W7.heap.size W7 wr) (fun i _ => B.length - (intOf i).toNat)
          case atStart => exact ⟨0, by omega, rfl, hb7b⟩
          case round =>
            obtain ⟨k, hk, rfl, hbr⟩ := hrel
            by_cases hlt : k < B.length
            · obtain ⟨bl, o, heq, hck⟩ := HB7.out k hlt
              subst heq
              have hkd : decide (k < B.length) = true := by simpa using hlt
              have HCK := hide (fun (W : World) (hb : Below W7.heap.size W7 W) => (show W.cell? ⟨bl, o + k * 4, none⟩ = some (iV (B.getD k dot0).id) from keep hb (hck 0 _ rfl)))
              have HNJk := hide (HNJ.out k hlt)
              have HJA := hide (fun (W : World) hb => judge_any A B _ _ (B.getD k dot0).id W (DA7.below hb) (DB7.below hb) HAB.out.2 HAB.out.1 (hG17.later hb))
              have HJW := hide (fun (W : World) hb => judge_any WD B _ _ (B.getD k dot0).id W (DW.below hb) (DB7.below hb) HAB.out.2 HWL2.out (hG17.later hb))
              have HJL := hide (fun (W : World) hb => judge_any LS B _ _ (B.getD k dot0).id W (DL7.below hb) (DB7.below hb) HAB.out.2 HLL.out (hG17.later hb))
              generalize (B.getD k dot0).id = Z at *
              have e0 := HCK.out _ hbr
              clear hck
              by_cases h19 : Z ≤ 19
              · have h20 : decide (Z ≤ 19) = true := by simpa using h19
                clear h19
                go_wp2_with fail
                go_roundw
                case rel => exact ⟨k + 1, by omega, by go_num, hbr⟩
                case measure => simp [intOf]; omega
              · have h20 : decide (Z ≤ 19) = false := by simpa using h19
                obtain ⟨j1, j2, j3, j4, j5⟩ := HNJk.out (by omega)
                have J3 := hide j3
                have J4 := hide j4
                have J5 := hide j5
                rw [j1] at HJA
                rw [j2] at HJW
                rw [j3] at HJL
                generalize judV A B Z = VA at *
                generalize judV WD B Z = VW at *
                generalize judV LS B Z = VL at *
                obtain ⟨vk, ⟨v1, v2, v3⟩, vp, v4, v5, v6⟩ := VA
                obtain ⟨xk, ⟨x1, x2, x3⟩, xp, x4, x5, x6⟩ := VW
                obtain ⟨yk, ⟨y1, y2, y3⟩, yp, y4, y5, y6⟩ := VL
                clear h19 j1 j2 j3 j4 j5 HNJk
                go_wp2_with fail
                refine (HJA.out _ hbr).mono ?_
                rintro e za ⟨rfl, hxza⟩
                have e0za := HCK.out za (below2 hbr hxza)
                have l0za : bl < za.heap.size := lt_of_cell e0za
                clear e0
                go_wp2_with fail
                generalize hXX : World.alloc za _ = ZA
                have hyza : Below za.heap.size za ZA := by rw [← hXX]; exact bal za _
                have bVA : Blk ZA za.heap.size [iV vk, iV v1, iV v2, iV v3, iV vp, iV v4, iV v5, iV v6] 55 := by rw [← hXX]; exact Blk.newA za _ rfl
                clear hXX e0za l0za
                have hbA := below2 hbr (below2 hxza hyza)
                generalize za.heap.size = RA at *
                refine (HJW.out _ hbA).mono ?_
                rintro e zb ⟨rfl, hxzb⟩
                have e0zb := HCK.out zb (below2 hbA hxzb)
                have l0zb : bl < zb.heap.size := lt_of_cell e0zb
                have bVB0 := bVA.later hxzb
                go_wp2_with fail
                generalize hXX : World.alloc zb _ = ZB
                have hyzb : Below zb.heap.size zb ZB := by rw [← hXX]; exact bal zb _
                have bWB : Blk ZB zb.heap.size [iV xk, iV x1, iV x2, iV x3, iV xp, iV x4, iV x5, iV x6] 55 := by rw [← hXX]; exact Blk.newA zb _ rfl
                clear hXX e0zb l0zb
                have bVB := bVB0.later hyzb
                have hbB := below2 hbA (below2 hxzb hyzb)
                generalize zb.heap.size = RB at *
                refine (HJL.out _ hbB).mono ?_
                rintro e zc ⟨rfl, hxzc⟩
                have e0zc := HCK.out zc (below2 hbB hxzc)
                have l0zc : bl < zc.heap.size := lt_of_cell e0zc
                have bVC0 := bVB.later hxzc
                have bWC0 := bWB.later hxzc
                have v0 := bVC0.cell 0 rfl
                have lV := bVC0.lt
                have w0 := bWC0.cell 0 rfl
                have lW := bWC0.lt
                have hbZ := fun o' => below2 hbB (below2 hxzc (bal zc o'))
                clear e0zc l0zc
                by_cases hnm1 : 1 < NM
                · rw [if_pos hnm1]
                  have hnd1 : decide (1 < NM) = true := by simpa using hnm1
                  have hnd2 : decide ((1 : Int) < (NM : Int)) = true := by simp; omega
                  cases b1 : (xk != 2)
                  · cases b2 : (yk != 2)
                    · go_wp2_with fail
                      go_roundw
                      case rel => exact ⟨k + 1, by omega, by go_num, hbZ _⟩
                      case measure => simp [intOf]; omega
                    · obtain rfl := J5.out hnm1 (by simpa using b2)
                      go_wp2_with fail
                      go_roundw
                      case rel => exact ⟨k + 1, by omega, by go_num, hbZ _⟩
                      case measure => simp [intOf]; omega
                  · obtain rfl := J4.out (by simpa using b1)
                    cases b2 : (yk != 2)
                    · go_wp2_with fail
                      go_roundw
                      case rel => exact ⟨k + 1, by omega, by go_num, hbZ _⟩
                      case measure => simp [intOf]; omega
                    · obtain rfl := J5.out hnm1 (by simpa using b2)
                      go_wp2_with fail
                      go_roundw
                      case rel => exact ⟨k + 1, by omega, by go_num, hbZ _⟩
                      case measure => simp [intOf]; omega
                · rw [if_neg hnm1]
                  have hnd1 : decide (1 < NM) = false := by simpa using hnm1
                  have hnd2 : decide ((1 : Int) < (NM : Int)) = false := by simp; omega
                  cases b1 : (xk != 2)
                  · go_wp2_with fail
                    go_roundw
                    case rel => exact ⟨k + 1, by omega, by go_num, hbZ _⟩
                    case measure => simp [intOf]; omega
                  · obtain rfl := J4.out (by simpa using b1)
                    go_wp2_with fail
                    go_roundw
                    case rel => exact ⟨k + 1, by omega, by go_num, hbZ _⟩
                    case measure => simp [intOf]; omega
            · obtain rfl : k = B.length := by omega
              go_wp2_with fail
              go_ret
              exact ⟨rfl, hbw7.trans (hbr.mono hbw7.size)⟩
end Go.Proofs.YtoofkahklboojaaDoor
