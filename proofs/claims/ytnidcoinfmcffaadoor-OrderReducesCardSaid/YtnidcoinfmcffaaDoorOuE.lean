/- The walk of OrderReduces. Conditions: how the arguments and the tables of math/bits lie in memory; that integers are of 64 bits. -/
import Derived.Test.YtnidcoinfmcffaaDoorOtG
namespace Go.Proofs.YtnidcoinfmcffaaDoor
open Go.RowKit
attribute [local go_sem] Oper.semAt_some
theorem made_split (n : Int) (xs : List (Int × Int)) (line : Int) : madeO n xs line = ⟨((looseN n : Nat) : Int), (madeO n xs line).pairs⟩ := rfl
theorem RecIn.takeK {α : Type} {f : α → List Value} {d : α} {k n m j : Nat} {c : Rd} {l : List α} {a : Option Addr} (h : RecIn f d k c (.slice a m n) l) (hj : j ≤ l.length) : RecIn f d k c (.slice a j n) (l.take j) := by
  obtain ⟨a', n', h1, h2, h3, h4⟩ := h
  cases h1
  have e : (l.take j).length = j := by rw [List.length_take, Nat.min_eq_left hj]
  refine ⟨a, n, by rw [e], by omega, h3, fun i hi => ?_⟩
  rw [e] at hi
  obtain ⟨b, o, e1, hc⟩ := h4 i (by omega)
  refine ⟨b, o, e1, fun m u hu => hc m u ?_⟩
  rwa [List.getD_eq_getElem?_getD, List.getElem?_take_of_lt hi, ← List.getD_eq_getElem?_getD] at hu
theorem RecIn.dropK {α : Type} {f : α → List Value} {d : α} {k n m j : Nat} {c : Rd} {l : List α} {b o : Nat} (h : RecIn f d k c (.slice (some ⟨b, o, none⟩) m n) l) (hj : j ≤ l.length) : RecIn f d k c (.slice (if n = j then some ⟨b, o, none⟩ else some ⟨b, o + j * k, none⟩) (m - j) (n - j)) (l.drop j) := by
  obtain ⟨a', n', h1, h2, h3, h4⟩ := h
  cases h1
  have e : (l.drop j).length = l.length - j := List.length_drop
  refine ⟨_, n - j, by rw [e], by omega, by omega, fun i hi => ?_⟩
  rw [e] at hi
  obtain ⟨b', o', e9, hc⟩ := h4 (j + i) (by omega)
  cases e9
  refine ⟨b, o + j * k, by rw [if_neg (by omega)], fun m u hu => ?_⟩
  rw [Nat.add_assoc o, ← Nat.add_mul]
  refine hc m u ?_
  rwa [List.getD_eq_getElem?_getD, List.getElem?_drop, ← List.getD_eq_getElem?_getD] at hu
/-- 'append(a, x...)' of pairs to a slice of one's own, in a region that draws its order -/
theorem step_more {W : World} {ops : Array Oper} {o : Oper} {T : Array Value} {D : List Deferred} {K : Act → World → Prop} {Q : Exit → Act → World → Prop} {E : Prop} (hgd : o.guard = none) (s x : Operand)
    (ho : o.op = .call { callee := .builtin .append, args := #[s, x], argTypes := #[22, 22] }) (B : Nat) (v : Value) (ps : List (Int × Int)) (hs : Act.eval ⟨T, D⟩ s = v) (hown : OwnR W B 46 2 v (ps.map pairC))
    (xa : Option Addr) (m c : Nat) (qs : List (Int × Int)) (hx : Act.eval ⟨T, D⟩ x = .slice xa m c) (hq : PairsIn W.cell? (.slice xa m c) qs) (hl : ps.length + qs.length ≤ 1000) (hB : B ≤ W.heap.size)
    (h : ∀ v' W', OwnR W' B 46 2 v' ((ps ++ qs).map pairC) → EffE B 46 W W' → K (Act.put ⟨T, D⟩ o.dst v') W') :
    if Region.wanted o (yielded ops T) = true then Oper.wp Tryd.prog o ⟨T, D⟩ W K Q else E := by
  have hw : Region.wanted o (yielded ops T) = true := by simp [Region.wanted, hgd]
  rw [if_pos hw]
  have hm := pairs_form hq
  obtain ⟨i0, hi, hz0, hz1, hz2⟩ := info_parts infoPair
  cases xa with
  | none =>
    have hn := pairs_none hq
    rw [List.map_eq_nil_iff] at hn
    subst hn
    obtain rfl : m = 0 := hm
    have hrun := run_app_nilK B 22 o.type 46 i0 2 Tryd.underlying22 hi v (ps.map pairC).length (ps.map pairC).flatten hown.1 c
    unfold Oper.wp execOp
    simp only [ho, resolve, invoke, builtin, Sem.run_bind, Sem.run_pure, Result.andThen_ok, List.map_toArray, List.map_cons, List.map_nil, hs, hx, hrun]
    exact h v W (by rw [List.append_nil]; exact hown) ⟨rfl, rfl, rfl, Nat.le_refl _, fun _ _ _ => rfl⟩
  | some ad =>
    refine wp_append_own _ s x 22 ho B 46 i0 _ 2 16 Tryd.underlying22 hi hz0 hz1 hz2 rfl (by decide) v (ps.map pairC).length (ps.map pairC).flatten hs hown.1 ad m c (qs.map pairC).flatten hx (by rw [flat_len (pairs_one qs), List.length_map, hm]) (pairs_flat hq ad rfl) (pairs_cells qs) (by rw [List.length_map]; unfold maxLen; omega) (by rw [List.length_map]; omega) hB ?_
    intro v' w' hown' hg _
    refine h v' w' ⟨?_, pairs_one _⟩ (effE_of_grown hown hg)
    rw [List.map_append, List.flatten_append, List.length_append, show (qs.map pairC).length = m by rw [List.length_map, hm]]
    exact hown'
/-- a new order, its pairs in a slice of its own -/
def NewV (V : World) (n : Int) (ps : List (Int × Int)) (x : Value) (W : World) : Prop := ∃ (b : Nat) (v : Value), x = .pointer (some ⟨b, 0, none⟩) ∧ Blk W b [.int .i64 n, v] 25 ∧ OwnR W V.heap.size 46 2 v (ps.map pairC) ∧ V.heap.size ≤ b
theorem own_form3 {W : World} {B : Nat} {e : TypeId} {k : Nat} {v : Value} {l : List (List Value)} (h : OwnR W B e k v l) : ∃ ga gn gc, v = .slice ga gn gc := by
  obtain ⟨a, c, e⟩ := OwnR.formE h
  exact ⟨a, _, c, e⟩
def hasL (l : List (Int × Int)) (x : Int × Int) : Bool := l.any fun p => decide (p = x)
theorem has_succ {l : List (Int × Int)} {k : Nat} (x : Int × Int) (hk : k < l.length) : hasL (l.take (k + 1)) x = (hasL (l.take k) x || decide (l.getD k (0, 0) = x)) := by
  unfold hasL
  rw [take_succ' l k (0, 0) hk, List.any_append, List.any_cons, List.any_nil, Bool.or_false]
/-- an order in a box -/
structure OrdAt (P N : Nat) (v : Value) (l : List (Int × Int)) (W : World) : Prop where
  b : Blk W P [.int .i64 (N : Nat), v] 25
  p : PairsIn W.cell? v l
theorem OrdAt.later {P N : Nat} {v : Value} {l : List (Int × Int)} {W W' : World} (h : OrdAt P N v l W) (hb : Below W.heap.size W W') : OrdAt P N v l W' := ⟨h.b.later hb, h.p.below hb⟩
/-- three orders in boxes -/
structure RedG (w : World) (P C R N : Nat) (pv cv rv : Value) (ps cl rl : List (Int × Int)) (W : World) : Prop where
  o : OrdAt P N pv ps W
  c : OrdAt C N cv cl W
  r : OrdAt R N rv rl W
  hb : Below w.heap.size w W
theorem RedG.later {w : World} {P C R N : Nat} {pv cv rv : Value} {ps cl rl : List (Int × Int)} {W W' : World} (h : RedG w P C R N pv cv rv ps cl rl W) (hb : Below W.heap.size W W') : RedG w P C R N pv cv rv ps cl rl W' := ⟨h.o.later hb, h.c.later hb, h.r.later hb, below2 h.hb hb⟩
set_option maxRecDepth 100000 in
set_option maxHeartbeats 4000000 in
theorem reduces_any (n : Int) (xs : List (Int × Int)) (xv : Value) (line a0 b0 : Int) (w : World) (hn : i64B n) (hx : PairsIn w.cell? xv xs) (h64 : ∀ p ∈ xs, i64B p.1 ∧ i64B p.2) (hl : i64B line) (ha : i64B a0) (hb : i64B b0) (hGl : Glob w) :
    Calls Tryd.prog 5 #[.int .i64 n, xv, .int .i64 line, .int .i64 a0, .int .i64 b0] w (Ret (.bool true) w) := by
  have HMD := hide (fun W (hb : Below w.heap.size w W) => made_any n xs line xv W hn hl (RecIn.below hb hx) h64)
  have hN8 := looseN_le n
  have hvd := made_valid n xs line
  rw [made_split] at hvd
  have hpl := made_len n xs line
  generalize (madeO n xs line).pairs = ps at *
  generalize looseN n = N at *
  have HPO := hide (show PoO N (beforeO ⟨(N : Int), ps⟩) from before_po hvd)
  have HVD := hide hvd
  obtain ⟨xa, xc, rfl, -, -, -⟩ := id hx
  clear hx h64 hn hl hvd
  have HPA := hide (fun W => pickl_any a0 8 W ha (by decide) (by decide))
  have HPB := hide (fun W => pickl_any b0 8 W hb (by decide) (by decide))
  have ha8 := pk_lt a0 (n := 8) (by decide)
  have hb8 := pk_lt b0 (n := 8) (by decide)
  generalize pkO a0 8 = a at *
  generalize pkO b0 8 = b at *
  have HBE : Hid (befB ⟨(N : Int), ps⟩ a b = beforeO ⟨(N : Int), ps⟩ a b) := hide (by
    unfold befB
    rw [HVD.out]
    by_cases h : a < N ∧ b < N
    · rw [decide_eq_true (by simp only; omega)]; rfl
    · rw [decide_eq_false (by simp only; omega)]
      cases e : beforeO ⟨(N : Int), ps⟩ a b
      · rfl
      · exact absurd (HPO.out.dom a b e) h)
  have HHA : Hid (hasL (listO N (beforeO ⟨(N : Int), ps⟩)) ((a : Int), (b : Int)) = beforeO ⟨(N : Int), ps⟩ a b) := hide (list_rel HPO.out.dom a b)
  have HIN := hide (fun i (hi : i < (redL N (beforeO ⟨(N : Int), ps⟩)).length) => (show hasL ps ((redL N (beforeO ⟨(N : Int), ps⟩)).getD i (0, 0)) = true by
    obtain ⟨x, y, -, -, h1, h2⟩ := list_mem.1 (getD_mem (redL N (beforeO ⟨(N : Int), ps⟩)) i (d := (0, 0)) hi)
    rw [h2]
    exact red_in (o := ⟨(N : Int), ps⟩) HVD.out h1))
  have HCL := hide (fun pv W hp => close_yes N ps pv W hp HVD.out)
  have HRE := hide (fun pv W hp => reduce_yes N ps pv W hp HVD.out)
  have HCL2 := hide (fun pv W (hp : PairsIn W.cell? pv (redL N (beforeO ⟨(N : Int), ps⟩))) => (show Calls Tryd.prog 24 #[orderV N pv] W (OrdEQ N (listO N (beforeO ⟨(N : Int), ps⟩)) W) by
    have h := close_yes N _ pv W hp (red_valid HPO.out hN8)
    rw [red_before HPO.out hN8] at h
    exact h))
  have HRE2 := hide (fun pv W (hp : PairsIn W.cell? pv (listO N (beforeO ⟨(N : Int), ps⟩))) => (show Calls Tryd.prog 25 #[orderV N pv] W (OrdEQ N (redL N (beforeO ⟨(N : Int), ps⟩)) W) by
    have h := reduce_yes N _ pv W hp (list_valid HPO.out hN8)
    rw [list_before HPO.out] at h
    exact h))
  have HLE := hide (fun i hi => red_less HPO.out hN8 (i := i) hi)
  have hr28 := red_len HPO.out hN8
  have hl28 := list_28 HPO.out hN8
  generalize redL N (beforeO ⟨(N : Int), ps⟩) = rl at *
  generalize hRR : beforeO ⟨(N : Int), ps⟩ = R0 at *
  generalize listO N R0 = LL at *
  have HSA := hide (fun l v u W hv hu => same_any ⟨(N : Int), l⟩ ⟨(N : Int), l⟩ v u W hv hu)
  have HSB : Hid (∀ l, sameB ⟨(N : Int), l⟩ ⟨(N : Int), l⟩ = true) := hide (fun l => by unfold sameB; simp)
  clear ha hb hRR
  go_enter Tryd.func5, Tryd.ntmps5
  go_wp2_with fail
  refine (sane_any w hGl).mono ?_
  rintro e w1 ⟨rfl, hb1⟩
  have hGl1 := hGl.later hb1
  clear hGl
  go_wp2_with fail
  refine (HMD.out _ hb1).mono ?_
  rintro e w2 ⟨pv, rfl, hO, hb2⟩
  have hp2 : PairsIn w2.cell? pv ps := RecIn.at (RecIn.of_own hO (fun _ => rfl) (Nat.le_refl _))
  have hw2 := below2 hb1 hb2
  have hGl2 := hGl1.later hb2
  obtain ⟨pa, pc, rfl⟩ := OwnR.formE hO
  rw [List.length_map] at hp2 ⊢
  clear hO hb1 hb2 hGl1 HMD
  go_upto_region 5 with (fail)
  generalize hY1 : World.alloc w2 _ = Y1
  have zY1 : Y1.heap.size = w2.heap.size + 1 := by rw [← hY1]; simp
  have bY1 : Below w2.heap.size w2 Y1 := by rw [← hY1]; exact bal w2 _
  have bP : Blk Y1 (w2.heap.size) [.int .i64 (N : Nat), .slice pa ps.length pc] 25 := by rw [← hY1]; exact Blk.newA w2 _ (by first | rfl | simp)
  have Yb := bY1
  have Yz := zY1
  clear hY1 zY1 bY1
  have hpY := RecIn.below Yb hp2
  have hwY := below2 hw2 Yb
  have HGL := hide (hGl2.later Yb)
  obtain ⟨P, hP⟩ : ∃ P, w2.heap.size = P := ⟨_, rfl⟩
  rw [hP] at bP ⊢
  clear hp2 hw2 hGl2 Yb Yz hP
  have c0 := bP.cell 0 rfl
  have c1 := bP.cell 1 rfl
  have oP : OrdAt P N (.slice pa ps.length pc) ps Y1 := ⟨bP, hpY⟩
  clear bP hpY HGL
  go_wp2_with fail
  refine (HCL.out _ _ oP.p).mono ?_
  rintro e w3 ⟨cv, rfl, hv, hb3⟩
  have hq := hv.at
  obtain ⟨ca, cc, e, -, -, -⟩ := id hq
  subst e
  have oP3 := oP.later hb3
  have hw3 := below2 hwY hb3
  clear hv hb3 oP hwY c0 c1 HCL
  go_upto_region 6 with (fail)
  generalize hU1 : World.alloc w3 _ = U1
  have zU1 : U1.heap.size = w3.heap.size + 1 := by rw [← hU1]; simp
  have bU1 : Below w3.heap.size w3 U1 := by rw [← hU1]; exact bal w3 _
  have bC : Blk U1 (w3.heap.size) [.int .i64 (N : Nat), .slice ca LL.length cc] 25 := by rw [← hU1]; exact Blk.newA w3 _ (by first | rfl | simp)
  have Ub := bU1
  have Uz := zU1
  clear hU1 zU1 bU1
  have oP4 := oP3.later Ub
  have oC4 : OrdAt w3.heap.size N (.slice ca LL.length cc) LL U1 := ⟨bC, RecIn.below Ub hq⟩
  have hw4 := below2 hw3 Ub
  obtain ⟨C, hC⟩ : ∃ C, w3.heap.size = C := ⟨_, rfl⟩
  rw [hC] at oC4 ⊢
  clear oP3 hq hw3 Ub Uz hC bC
  have c0 := oP4.b.cell 0 rfl
  have c1 := oP4.b.cell 1 rfl
  go_wp2_with fail
  refine (HRE.out _ _ oP4.p).mono ?_
  rintro e w5 ⟨rv, rfl, hv, hb3⟩
  have hq := hv.at
  obtain ⟨ra, rc, e, -, -, -⟩ := id hq
  subst e
  have oP5 := oP4.later hb3
  have oC5 := oC4.later hb3
  have hw5 := below2 hw4 hb3
  clear hv hb3 oP4 oC4 hw4 c0 c1 HRE
  go_upto_region 7 with (fail)
  generalize hV1 : World.alloc w5 _ = V1
  have zV1 : V1.heap.size = w5.heap.size + 1 := by rw [← hV1]; simp
  have bV1 : Below w5.heap.size w5 V1 := by rw [← hV1]; exact bal w5 _
  have bR : Blk V1 (w5.heap.size) [.int .i64 (N : Nat), .slice ra rl.length rc] 25 := by rw [← hV1]; exact Blk.newA w5 _ (by first | rfl | simp)
  have Vb := bV1
  have Vz := zV1
  clear hV1 zV1 bV1
  have oP6 := oP5.later Vb
  have oC6 := oC5.later Vb
  have oR6 : OrdAt w5.heap.size N (.slice ra rl.length rc) rl V1 := ⟨bR, RecIn.below Vb hq⟩
  have hw6 := below2 hw5 Vb
  obtain ⟨R, hR⟩ : ∃ R, w5.heap.size = R := ⟨_, rfl⟩
  rw [hR] at oR6 ⊢
  have hG6 : RedG w P C R N _ _ _ ps LL rl V1 := ⟨oP6, oC6, oR6, hw6⟩
  clear oP5 oC5 hq hw5 Vb Vz hR bR oP6 oC6 oR6 hw6
  have c0 := hG6.r.b.cell 0 rfl
  have c1 := hG6.r.b.cell 1 rfl
  go_wp2_with fail
  refine (HCL2.out _ _ hG6.r.p).mono ?_
  rintro e w7 ⟨dv, rfl, hv, hb3⟩
  have hq := hv.at
  obtain ⟨da, dc, e, -, -, -⟩ := id hq
  subst e
  have hG7 := hG6.later hb3
  clear hv hb3 hG6 c0 c1 HCL2
  go_upto_region 8 with (fail)
  generalize hX1 : World.alloc w7 _ = X1
  have zX1 : X1.heap.size = w7.heap.size + 1 := by rw [← hX1]; simp
  have bX1 : Below w7.heap.size w7 X1 := by rw [← hX1]; exact bal w7 _
  have bD : Blk X1 (w7.heap.size) [.int .i64 (N : Nat), .slice da LL.length dc] 25 := by rw [← hX1]; exact Blk.newA w7 _ (by first | rfl | simp)
  have Xb := bX1
  have Xz := zX1
  clear hX1 zX1 bX1
  have hG8 := hG7.later Xb
  have oD8 : OrdAt w7.heap.size N (.slice da LL.length dc) LL X1 := ⟨bD, RecIn.below Xb hq⟩
  obtain ⟨Db, hDb⟩ : ∃ Db, w7.heap.size = Db := ⟨_, rfl⟩
  rw [hDb] at oD8 ⊢
  clear hG7 hq Xb Xz hDb bD
  have c0 := hG8.c.b.cell 0 rfl
  have c1 := hG8.c.b.cell 1 rfl
  go_wp2_with fail
  refine (HRE2.out _ _ hG8.c.p).mono ?_
  rintro e w9 ⟨sv, rfl, hv, hb3⟩
  have hq := hv.at
  obtain ⟨sa, sc, e, -, -, -⟩ := id hq
  subst e
  have hG9 := hG8.later hb3
  have oD9 := oD8.later hb3
  clear hv hb3 hG8 oD8 c0 c1 HRE2
  go_upto_region 9 with (fail)
  generalize hZ1 : World.alloc w9 _ = Z1
  have zZ1 : Z1.heap.size = w9.heap.size + 1 := by rw [← hZ1]; simp
  have bZ1 : Below w9.heap.size w9 Z1 := by rw [← hZ1]; exact bal w9 _
  have bS : Blk Z1 (w9.heap.size) [.int .i64 (N : Nat), .slice sa rl.length sc] 25 := by rw [← hZ1]; exact Blk.newA w9 _ (by first | rfl | simp)
  have Zb := bZ1
  have Zz := zZ1
  clear hZ1 zZ1 bZ1
  have hG10 := hG9.later Zb
  have oD10 := oD9.later Zb
  have oS10 : OrdAt w9.heap.size N (.slice sa rl.length sc) rl Z1 := ⟨bS, RecIn.below Zb hq⟩
  obtain ⟨Sb, hSb⟩ : ∃ Sb, w9.heap.size = Sb := ⟨_, rfl⟩
  rw [hSb] at oS10 ⊢
  clear hG9 oD9 hq Zb Zz hSb bS
  have c0 := hG10.c.b.cell 0 rfl
  have c1 := hG10.c.b.cell 1 rfl
  have d0 := oD10.b.cell 0 rfl
  have d1 := oD10.b.cell 1 rfl
  go_wp2_with fail
  refine (HSA.out _ _ _ _ hG10.c.p oD10.p).mono ?_
  rintro e w11 ⟨rfl, hb11⟩
  rw [HSB.out]
  have hG11 := hG10.later hb11
  have oS11 := oS10.later hb11
  clear c0 c1 d0 d1 hG10 oD10 oS10 hb11
  have c0 := hG11.r.b.cell 0 rfl
  have c1 := hG11.r.b.cell 1 rfl
  have d0 := oS11.b.cell 0 rfl
  have d1 := oS11.b.cell 1 rfl
  go_wp2_with fail
  refine (HSA.out _ _ _ _ hG11.r.p oS11.p).mono ?_
  rintro e w12 ⟨rfl, hb12⟩
  rw [HSB.out]
  have hG12 := hG11.later hb12
  clear c0 c1 d0 d1 hG11 oS11 hb12
  have c0 := hG12.c.b.cell 0 rfl
  have d0 := hG12.o.b.cell 0 rfl
  go_wp2_with fail
  refine (HPA.out _).mono ?_
  rintro e w13 ⟨rfl, hw13⟩
  obtain rfl := hw13
  clear c0 d0
  go_wp2_with fail
  refine (HPB.out _).mono ?_
  rintro e w14 ⟨rfl, hw14⟩
  obtain rfl := hw14
  have hlI : (LL.length : Int) ≤ 9223372036854775807 := by omega
  have hrI : (rl.length : Int) ≤ 9223372036854775807 := by omega
  have hpI : (ps.length : Int) ≤ 9223372036854775807 := by omega
  have HG14 := hide hG12
  clear hG12
  go_wp2_with fail
  go_loopw [21, 22] (fun h i wz => ∃ k : Nat, k ≤ LL.length ∧ h = .bool (hasL (LL.take k) ((a : Int), (b : Int))) ∧ i = .int .i64 k ∧ wz = w14) (fun _ i _ => LL.length - (intOf i).toNat)
  case atStart => exact ⟨0, by omega, rfl, rfl, rfl⟩
  case round =>
    obtain ⟨k, hk, rfl, rfl, hwz⟩ := hrel
    subst hwz
    have c1 := HG14.out.c.b.cell 1 rfl
    by_cases hlk : k < LL.length
    · have hlkI : (k : Int) < LL.length := by omega
      have HK := hide hlk
      have HSU := hide (has_succ ((a : Int), (b : Int)) hlk)
      obtain ⟨h, hh⟩ : ∃ h, hasL (LL.take k) ((a : Int), (b : Int)) = h := ⟨_, rfl⟩
      rw [hh] at HSU ⊢
      cases h
      · obtain ⟨a', c', e, -, -, hc⟩ := HG14.out.c.p
        obtain ⟨rfl, -, -⟩ := Value.slice.inj e
        obtain ⟨cb, co, rfl, hcell⟩ := hc k hlk
        generalize LL.getD k (0, 0) = x at hcell HSU
        have p0 := hcell 0 _ rfl
        have p1 := hcell 1 _ rfl
        rw [Nat.add_zero] at p0
        clear hcell hc e hh
        by_cases hxy : x = ((a : Int), (b : Int))
        · subst hxy
          have hq := eq_yes ((a : Int), (b : Int))
          dsimp only at hq p0 p1
          go_wp2_with fail
          clear p0 p1 c1
          go_roundw
          case rel => exact ⟨k + 1, by have := HK.out; omega, by rw [HSU.out]; simp, by go_num, by trivial⟩
          case measure => have := HK.out; simp [intOf]; omega
        · have hq := eq_no hxy
          dsimp only at hq
          have HXY := hide hxy
          clear hxy
          go_wp2_with fail
          clear p0 p1 c1
          go_roundw
          case rel => exact ⟨k + 1, by have := HK.out; omega, by rw [HSU.out]; simp [HXY.out], by go_num, by trivial⟩
          case measure => have := HK.out; simp [intOf]; omega
      · clear hh
        go_wp2_with fail
        clear c1
        go_roundw
        case rel => exact ⟨k + 1, by have := HK.out; omega, by rw [HSU.out]; simp, by go_num, by trivial⟩
        case measure => have := HK.out; simp [intOf]; omega
    · obtain rfl : k = LL.length := by omega
      rw [List.take_length, HHA.out]
      have q0 := HG14.out.o.b.cell 0 rfl
      have q1 := HG14.out.o.b.cell 1 rfl
      go_wp2_with fail
      refine (before_any ⟨(N : Int), ps⟩ _ a b _ HG14.out.o.p).mono ?_
      rintro e w15 ⟨rfl, hb15⟩
      rw [HBE.out]
      have HG15 := hide (HG14.out.later hb15)
      clear HHA HBE hb15 HG14 q0 q1 c1
      generalize R0 a b = rab at *
      go_wp2_with fail
      go_loopw [23] (fun i wz => ∃ k : Nat, k ≤ rl.length ∧ i = .int .i64 k ∧ RedG w P C R N (.slice pa ps.length pc) (.slice ca LL.length cc) (.slice ra rl.length rc) ps LL rl wz) (fun i _ => rl.length - (intOf i).toNat)
      case atStart => exact ⟨0, by omega, rfl, HG15.out⟩
      case round =>
        clear HG15
        obtain ⟨i, hi, rfl, hG⟩ := hrel
        have HG := hide hG
        clear hG
        have c1 := HG.out.r.b.cell 1 rfl
        by_cases hli : i < rl.length
        · have hliI : (i : Int) < rl.length := by omega
          have HI := hide hli
          obtain ⟨a', c', e, hrc, -, hc⟩ := HG.out.r.p
          obtain ⟨rfl, -, e9⟩ := Value.slice.inj e
          obtain ⟨rb, ro, rfl, -⟩ := hc i hli
          rw [← e9] at hrc
          have HQ := hide (fun W (hW : RedG w P C R N (.slice pa ps.length pc) (.slice ca LL.length cc) (.slice (some ⟨rb, ro, none⟩) rl.length rc) ps LL rl W) => (show W.cell? ⟨rb, ro + i * 2, none⟩ = some (.int .i64 (rl.getD i (0, 0)).1) ∧ W.cell? ⟨rb, ro + i * 2 + 1, none⟩ = some (.int .i64 (rl.getD i (0, 0)).2) by
            obtain ⟨a', c', e, -, -, hc⟩ := hW.r.p
            obtain ⟨rfl, -, -⟩ := Value.slice.inj e
            obtain ⟨b9, o9, e8, h8⟩ := hc i HI.out
            cases e8
            exact ⟨h8 0 _ rfl, h8 1 _ rfl⟩))
          have HHX := hide (HIN.out i hli)
          obtain ⟨y, hy⟩ : ∃ y, rl.getD i (0, 0) = y := ⟨_, rfl⟩
          rw [hy] at HQ HHX
          clear hc e hy e9
          go_wp2_with fail
          clear c1
          go_loopw [24, 25] (fun h j wz => ∃ k : Nat, k ≤ ps.length ∧ h = .bool (hasL (ps.take k) y) ∧ j = .int .i64 k ∧ RedG w P C R N (.slice pa ps.length pc) (.slice ca LL.length cc) (.slice (some ⟨rb, ro, none⟩) rl.length rc) ps LL rl wz) (fun _ j _ => ps.length - (intOf j).toNat)
          case atStart => exact ⟨0, by omega, rfl, rfl, HG.out⟩
          case round =>
            clear HG
            obtain ⟨k, hk, rfl, rfl, hG⟩ := hrel
            have HG := hide hG
            clear hG
            have c1 := HG.out.o.b.cell 1 rfl
            by_cases hlk : k < ps.length
            · have hlkI : (k : Int) < ps.length := by omega
              have HK := hide hlk
              have HSU := hide (has_succ y hlk)
              obtain ⟨h, hh⟩ : ∃ h, hasL (ps.take k) y = h := ⟨_, rfl⟩
              rw [hh] at HSU ⊢
              cases h
              · obtain ⟨a', c', e, -, -, hc⟩ := HG.out.o.p
                obtain ⟨rfl, -, -⟩ := Value.slice.inj e
                obtain ⟨pb, po, rfl, hcell⟩ := hc k hlk
                obtain ⟨q0, q1⟩ := HQ.out _ HG.out
                have d1 := HG.out.r.b.cell 1 rfl
                generalize ps.getD k (0, 0) = x at hcell HSU
                have p0 := hcell 0 _ rfl
                have p1 := hcell 1 _ rfl
                rw [Nat.add_zero] at p0
                clear hcell hc e hh
                go_upto_region 27 with (fail)
                refine wp_region_still_tail 12 (by kernel_rfl) (by kernel_rfl) ?_
                simp only [List.take_succ_cons, List.take_zero, List.drop_succ_cons, List.drop_zero]
                repeat (with_reducible refine wpStill_step (fun K hK => ?_) ; go_simp ; with_reducible refine hK _ ?_ ; clear hK K)
                refine wpStill_nil ?_
                change wpList _ _ _ _ _ wr.drew
                have HG2 := hide (HG.out.later (Below.refl _ _).drew)
                clear p0 p1 q0 q1 c1 d1
                generalize World.drew wr = w8 at *
                by_cases hxy : x = y
                · subst hxy
                  have hq := eq_yes x
                  go_wp2_with fail
                  go_roundw
                  case rel => exact ⟨k + 1, by have := HK.out; omega, by rw [HSU.out]; simp, by go_num, HG2.out⟩
                  case measure => have := HK.out; simp [intOf]; omega
                · have hq := eq_no hxy
                  have HXY := hide hxy
                  clear hxy
                  go_wp2_with fail
                  go_roundw
                  case rel => exact ⟨k + 1, by have := HK.out; omega, by rw [HSU.out]; simp [HXY.out], by go_num, HG2.out⟩
                  case measure => have := HK.out; simp [intOf]; omega
              · clear hh
                go_upto_region 27 with (fail)
                refine wp_region_still_tail 12 (by kernel_rfl) (by kernel_rfl) ?_
                simp only [List.take_succ_cons, List.take_zero, List.drop_succ_cons, List.drop_zero]
                repeat (with_reducible refine wpStill_step (fun K hK => ?_) ; go_simp ; with_reducible refine hK _ ?_ ; clear hK K)
                refine wpStill_nil ?_
                change wpList _ _ _ _ _ wr.drew
                have HG2 := hide (HG.out.later (Below.refl _ _).drew)
                clear c1
                generalize World.drew wr = w8 at *
                go_wp2_with fail
                go_roundw
                case rel => exact ⟨k + 1, by have := HK.out; omega, by rw [HSU.out]; simp, by go_num, HG2.out⟩
                case measure => have := HK.out; simp [intOf]; omega
            · obtain rfl : k = ps.length := by omega
              rw [List.take_length, HHX.out]
              clear HQ HHX
              obtain ⟨hval, hne⟩ := HLE.out i hli
              have hT1 := RecIn.takeK HG.out.r.p (j := i) (by omega)
              have hT2 := RecIn.dropK HG.out.r.p (j := i + 1) (by omega)
              have hl12 : (rl.take i).length + (rl.drop (i + 1)).length ≤ 1000 := by rw [List.length_take, List.length_drop]; omega
              generalize rl.take i = TK at *
              generalize rl.drop (i + 1) = DK at *
              have hSB : sameB ⟨(N : Int), listO N (beforeO ⟨(N : Int), TK ++ DK⟩)⟩ ⟨(N : Int), LL⟩ = false := by
                unfold sameB
                rw [decide_eq_false hne, Bool.and_false]
              have HCT := hide (fun v W hp => close_yes N (TK ++ DK) v W hp hval)
              generalize listO N (beforeO ⟨(N : Int), TK ++ DK⟩) = TL at *
              have HSF := hide (fun v u W hv hu => same_any ⟨(N : Int), TL⟩ ⟨(N : Int), LL⟩ v u W hv hu)
              rw [hSB] at HSF
              have HT1 := hide hT1
              have HT2 := hide hT2
              have hs1 : i ≤ rc := by omega
              have hs2 : i + 1 ≤ rl.length := by omega
              have hs3 : (0 : Int) ≤ (i : Int) + 1 := by omega
              have hs4 : (i : Int) + 1 ≤ (rl.length : Int) := by omega
              have hs5 : (i : Int) ≤ rc := by omega
              have hi2 : i ≤ 1000 := by omega
              have hs6 : IntKind.i64.wrap ((i : Int) + 1) = (i : Int) + 1 := IntWalk.i64_in _ ⟨by omega, by omega⟩
              clear hT1 hT2 hval hne hSB
              go_upto_region 28 with (fail)
              clear c1
              have c0 := HG.out.r.b.cell 0 rfl
              have c1 := HG.out.r.b.cell 1 rfl
              generalize wr = V at *
              refine wp_region_inv [some 146, some 147, some 148, some 149, some 150, some 151, some 152, some 153, some 154, some 155, some 156, some 157, some 158, some 159, some 160, some 26, none] (fun L vs W => match vs with | [x0, x1, x2, x3, x4, x5, x6, x7, x8, x9, x10, x11, x12, x13, x14, x15, x16] => (Below V.heap.size V W) ∧ (L 0 = true → x0 = .pointer (some ⟨R, 0, none⟩)) ∧ (L 1 = true → x1 = .int .i64 (N : Nat)) ∧ (L 2 = true → (L 7 = false → ∃ b0 : Nat, x2 = .slice (some ⟨b0, 0, none⟩) 0 0 ∧ OwnR W V.heap.size 46 2 (.slice (some ⟨b0, 0, none⟩) 0 0) [])) ∧ (L 3 = true → x3 = .pointer (some ⟨R, 1, none⟩)) ∧ (L 4 = true → x4 = .slice (some ⟨rb, ro, none⟩) rl.length rc) ∧ (L 5 = true → x5 = .int .i64 ((i : Nat) : Int)) ∧ (L 6 = true → x6 = .slice (some ⟨rb, ro, none⟩) i rc) ∧ (L 7 = true → (L 13 = false → ∃ va vc, x7 = .slice va i vc ∧ OwnR W V.heap.size 46 2 (.slice va i vc) (List.map pairC TK))) ∧ (L 8 = true → x8 = .pointer (some ⟨R, 1, none⟩)) ∧ (L 9 = true → x9 = .slice (some ⟨rb, ro, none⟩) rl.length rc) ∧ (L 10 = true → x10 = .int .i64 ((i : Nat) : Int)) ∧ (L 11 = true → x11 = .int .i64 (i + 1 : Nat)) ∧ (L 12 = true → x12 = .slice (if rc = i + 1 then some ⟨rb, ro, none⟩ else some ⟨rb, ro + (i + 1) * 2, none⟩) (rl.length - (i + 1)) (rc - (i + 1))) ∧ (L 13 = true → (L 14 = false → OwnR W V.heap.size 46 2 x13 (List.map pairC (TK ++ DK)) ∧ ∃ ga gn gc, x13 = .slice ga gn gc) ∧ L 7 = true) ∧ (L 14 = true → L 13 = true ∧ ∃ ga gn gc, x13 = .slice ga gn gc ∧ OwnR W V.heap.size 46 2 (.slice ga gn gc) (List.map pairC (TK ++ DK)) ∧ x14 = .agg #[.int .i64 (N : Nat), .slice ga gn gc]) ∧ (L 15 = true → (L 16 = false → ∃ b0 : Nat, V.heap.size ≤ b0 ∧ x15 = .pointer (some ⟨b0, 0, none⟩) ∧ Blk W b0 [.int .i64 0, .slice none 0 0] 25)) ∧ (L 16 = true → (L 13 = true ∧ L 15 = true) ∧ NewV V (N : Nat) (TK ++ DK) x15 W) | _ => False) [_, _, _, _, _, _, _, _, _, _, _, _, _, _, _, _, undef] (by kernel_rfl) (by kernel_rfl) rfl (by simp only [puts, Act.put, List.setIfInBounds_toArray, List.set_cons_zero, List.set_cons_succ] <;> rfl) ?_ ?_ ?_
              · exact ⟨(Below.refl _ _).drew, (fun h => by cases h), (fun h => by cases h), (fun h => by cases h), (fun h => by cases h), (fun h => by cases h), (fun h => by cases h), (fun h => by cases h), (fun h => by cases h), (fun h => by cases h), (fun h => by cases h), (fun h => by cases h), (fun h => by cases h), (fun h => by cases h), (fun h => by cases h), (fun h => by cases h), (fun h => by cases h), (fun h => by cases h)⟩
              · refine ⟨?_, ?_, ?_, ?_, ?_, ?_, ?_, ?_, ?_, ?_, ?_, ?_, ?_, ?_, ?_, ?_, ?_, trivial⟩
                · intro L vs W hlen hL hD hI K hK
                  obtain ⟨x0, x1, x2, x3, x4, x5, x6, x7, x8, x9, x10, x11, x12, x13, x14, x15, x16, rfl⟩ := len17 hlen
                  have hG := hI.1
                  replace hI := hI.2
                  have f0 := hide hI.1
                  replace hI := hI.2
                  have f1 := hide hI.1
                  replace hI := hI.2
                  have f2 := hide hI.1
                  replace hI := hI.2
                  have f3 := hide hI.1
                  replace hI := hI.2
                  have f4 := hide hI.1
                  replace hI := hI.2
                  have f5 := hide hI.1
                  replace hI := hI.2
                  have f6 := hide hI.1
                  replace hI := hI.2
                  have f7 := hide hI.1
                  replace hI := hI.2
                  have f8 := hide hI.1
                  replace hI := hI.2
                  have f9 := hide hI.1
                  replace hI := hI.2
                  have f10 := hide hI.1
                  replace hI := hI.2
                  have f11 := hide hI.1
                  replace hI := hI.2
                  have f12 := hide hI.1
                  replace hI := hI.2
                  have f13 := hide hI.1
                  replace hI := hI.2
                  have f14 := hide hI.1
                  replace hI := hI.2
                  have f15 := hide hI.1
                  replace hI := hI.2
                  have f16 := hide hI
                  clear hI
                  have c0 := keep hG c0
                  have c1 := keep hG c1
                  try simp only [puts, Act.put, List.setIfInBounds_toArray, List.set_cons_zero, List.set_cons_succ]
                  try go_simp
                  exact hK.out _ _ _ (by simp only [puts, Act.put, List.setIfInBounds_toArray, List.set_cons_zero, List.set_cons_succ] <;> rfl) ⟨hG, (fun _ => rfl), (fun h => f1.out h), (fun h => f2.out h), (fun h => f3.out h), (fun h => f4.out h), (fun h => f5.out h), (fun h => f6.out h), (fun h => f7.out h), (fun h => f8.out h), (fun h => f9.out h), (fun h => f10.out h), (fun h => f11.out h), (fun h => f12.out h), (fun h => f13.out h), (fun h => f14.out h), (fun h => f15.out h), (fun h => f16.out h)⟩
                · intro L vs W hlen hL hD hI K hK
                  obtain ⟨x0, x1, x2, x3, x4, x5, x6, x7, x8, x9, x10, x11, x12, x13, x14, x15, x16, rfl⟩ := len17 hlen
                  have hG := hI.1
                  replace hI := hI.2
                  have f0 := hide hI.1
                  replace hI := hI.2
                  have f1 := hide hI.1
                  replace hI := hI.2
                  have f2 := hide hI.1
                  replace hI := hI.2
                  have f3 := hide hI.1
                  replace hI := hI.2
                  have f4 := hide hI.1
                  replace hI := hI.2
                  have f5 := hide hI.1
                  replace hI := hI.2
                  have f6 := hide hI.1
                  replace hI := hI.2
                  have f7 := hide hI.1
                  replace hI := hI.2
                  have f8 := hide hI.1
                  replace hI := hI.2
                  have f9 := hide hI.1
                  replace hI := hI.2
                  have f10 := hide hI.1
                  replace hI := hI.2
                  have f11 := hide hI.1
                  replace hI := hI.2
                  have f12 := hide hI.1
                  replace hI := hI.2
                  have f13 := hide hI.1
                  replace hI := hI.2
                  have f14 := hide hI.1
                  replace hI := hI.2
                  have f15 := hide hI.1
                  replace hI := hI.2
                  have f16 := hide hI
                  clear hI
                  have c0 := keep hG c0
                  have c1 := keep hG c1
                  obtain rfl := f0.out (hD.on 0 (by kernel_rfl))
                  try simp only [puts, Act.put, List.setIfInBounds_toArray, List.set_cons_zero, List.set_cons_succ]
                  try go_simp
                  exact hK.out _ _ _ (by simp only [puts, Act.put, List.setIfInBounds_toArray, List.set_cons_zero, List.set_cons_succ] <;> rfl) ⟨hG, (fun h => f0.out h), (fun _ => rfl), (fun h => f2.out h), (fun h => f3.out h), (fun h => f4.out h), (fun h => f5.out h), (fun h => f6.out h), (fun h => f7.out h), (fun h => f8.out h), (fun h => f9.out h), (fun h => f10.out h), (fun h => f11.out h), (fun h => f12.out h), (fun h => f13.out h), (fun h => f14.out h), (fun h => f15.out h), (fun h => f16.out h)⟩
                · intro L vs W hlen hL hD hI K hK
                  obtain ⟨x0, x1, x2, x3, x4, x5, x6, x7, x8, x9, x10, x11, x12, x13, x14, x15, x16, rfl⟩ := len17 hlen
                  have hG := hI.1
                  replace hI := hI.2
                  have f0 := hide hI.1
                  replace hI := hI.2
                  have f1 := hide hI.1
                  replace hI := hI.2
                  have f2 := hide hI.1
                  replace hI := hI.2
                  have f3 := hide hI.1
                  replace hI := hI.2
                  have f4 := hide hI.1
                  replace hI := hI.2
                  have f5 := hide hI.1
                  replace hI := hI.2
                  have f6 := hide hI.1
                  replace hI := hI.2
                  have f7 := hide hI.1
                  replace hI := hI.2
                  have f8 := hide hI.1
                  replace hI := hI.2
                  have f9 := hide hI.1
                  replace hI := hI.2
                  have f10 := hide hI.1
                  replace hI := hI.2
                  have f11 := hide hI.1
                  replace hI := hI.2
                  have f12 := hide hI.1
                  replace hI := hI.2
                  have f13 := hide hI.1
                  replace hI := hI.2
                  have f14 := hide hI.1
                  replace hI := hI.2
                  have f15 := hide hI.1
                  replace hI := hI.2
                  have f16 := hide hI
                  clear hI
                  have c0 := keep hG c0
                  have c1 := keep hG c1
                  try simp only [puts, Act.put, List.setIfInBounds_toArray, List.set_cons_zero, List.set_cons_succ]
                  try go_simp
                  generalize hW' : World.alloc W _ = W'
                  have hb : Below W.heap.size W W' := by rw [← hW']; exact bal W _
                  exact hK.out _ _ _ (by simp only [puts, Act.put, List.setIfInBounds_toArray, List.set_cons_zero, List.set_cons_succ] <;> rfl) ⟨below2 hG hb, (fun h => f0.out h), (fun h => f1.out h), (fun _ => fun _ => ⟨W.heap.size, rfl, by rw [← hW']; exact lit_recsK W _ 2 hG.size⟩), (fun h => f3.out h), (fun h => f4.out h), (fun h => f5.out h), (fun h => f6.out h), (fun h => (fun h => fun h8 => let ⟨va, vc, e, o⟩ := h h8; ⟨va, vc, e, OwnR.later' o hb⟩) (f7.out h)), (fun h => f8.out h), (fun h => f9.out h), (fun h => f10.out h), (fun h => f11.out h), (fun h => f12.out h), (fun h => (fun h => ⟨fun h14 => ⟨OwnR.later' (h.1 h14).1 hb, (h.1 h14).2⟩, h.2⟩) (f13.out h)), (fun h => (fun h => ⟨h.1, let ⟨ga, gn, gc, e1, o, e2⟩ := h.2; ⟨ga, gn, gc, e1, OwnR.later' o hb, e2⟩⟩) (f14.out h)), (fun h => (fun h => fun h8 => let ⟨b0, h0, e, k⟩ := h h8; ⟨b0, h0, e, k.later hb⟩) (f15.out h)), (fun h => (fun h => ⟨h.1, let ⟨b, v, e, k, o, q⟩ := h.2; ⟨b, v, e, k.later hb, OwnR.later' o hb, q⟩⟩) (f16.out h))⟩
                · intro L vs W hlen hL hD hI K hK
                  obtain ⟨x0, x1, x2, x3, x4, x5, x6, x7, x8, x9, x10, x11, x12, x13, x14, x15, x16, rfl⟩ := len17 hlen
                  have hG := hI.1
                  replace hI := hI.2
                  have f0 := hide hI.1
                  replace hI := hI.2
                  have f1 := hide hI.1
                  replace hI := hI.2
                  have f2 := hide hI.1
                  replace hI := hI.2
                  have f3 := hide hI.1
                  replace hI := hI.2
                  have f4 := hide hI.1
                  replace hI := hI.2
                  have f5 := hide hI.1
                  replace hI := hI.2
                  have f6 := hide hI.1
                  replace hI := hI.2
                  have f7 := hide hI.1
                  replace hI := hI.2
                  have f8 := hide hI.1
                  replace hI := hI.2
                  have f9 := hide hI.1
                  replace hI := hI.2
                  have f10 := hide hI.1
                  replace hI := hI.2
                  have f11 := hide hI.1
                  replace hI := hI.2
                  have f12 := hide hI.1
                  replace hI := hI.2
                  have f13 := hide hI.1
                  replace hI := hI.2
                  have f14 := hide hI.1
                  replace hI := hI.2
                  have f15 := hide hI.1
                  replace hI := hI.2
                  have f16 := hide hI
                  clear hI
                  have c0 := keep hG c0
                  have c1 := keep hG c1
                  try simp only [puts, Act.put, List.setIfInBounds_toArray, List.set_cons_zero, List.set_cons_succ]
                  try go_simp
                  exact hK.out _ _ _ (by simp only [puts, Act.put, List.setIfInBounds_toArray, List.set_cons_zero, List.set_cons_succ] <;> rfl) ⟨hG, (fun h => f0.out h), (fun h => f1.out h), (fun h => f2.out h), (fun _ => rfl), (fun h => f4.out h), (fun h => f5.out h), (fun h => f6.out h), (fun h => f7.out h), (fun h => f8.out h), (fun h => f9.out h), (fun h => f10.out h), (fun h => f11.out h), (fun h => f12.out h), (fun h => f13.out h), (fun h => f14.out h), (fun h => f15.out h), (fun h => f16.out h)⟩
                · intro L vs W hlen hL hD hI K hK
                  obtain ⟨x0, x1, x2, x3, x4, x5, x6, x7, x8, x9, x10, x11, x12, x13, x14, x15, x16, rfl⟩ := len17 hlen
                  have hG := hI.1
                  replace hI := hI.2
                  have f0 := hide hI.1
                  replace hI := hI.2
                  have f1 := hide hI.1
                  replace hI := hI.2
                  have f2 := hide hI.1
                  replace hI := hI.2
                  have f3 := hide hI.1
                  replace hI := hI.2
                  have f4 := hide hI.1
                  replace hI := hI.2
                  have f5 := hide hI.1
                  replace hI := hI.2
                  have f6 := hide hI.1
                  replace hI := hI.2
                  have f7 := hide hI.1
                  replace hI := hI.2
                  have f8 := hide hI.1
                  replace hI := hI.2
                  have f9 := hide hI.1
                  replace hI := hI.2
                  have f10 := hide hI.1
                  replace hI := hI.2
                  have f11 := hide hI.1
                  replace hI := hI.2
                  have f12 := hide hI.1
                  replace hI := hI.2
                  have f13 := hide hI.1
                  replace hI := hI.2
                  have f14 := hide hI.1
                  replace hI := hI.2
                  have f15 := hide hI.1
                  replace hI := hI.2
                  have f16 := hide hI
                  clear hI
                  have c0 := keep hG c0
                  have c1 := keep hG c1
                  obtain rfl := f3.out (hD.on 3 (by kernel_rfl))
                  try simp only [puts, Act.put, List.setIfInBounds_toArray, List.set_cons_zero, List.set_cons_succ]
                  try go_simp
                  exact hK.out _ _ _ (by simp only [puts, Act.put, List.setIfInBounds_toArray, List.set_cons_zero, List.set_cons_succ] <;> rfl) ⟨hG, (fun h => f0.out h), (fun h => f1.out h), (fun h => f2.out h), (fun h => f3.out h), (fun _ => rfl), (fun h => f5.out h), (fun h => f6.out h), (fun h => f7.out h), (fun h => f8.out h), (fun h => f9.out h), (fun h => f10.out h), (fun h => f11.out h), (fun h => f12.out h), (fun h => f13.out h), (fun h => f14.out h), (fun h => f15.out h), (fun h => f16.out h)⟩
                · intro L vs W hlen hL hD hI K hK
                  obtain ⟨x0, x1, x2, x3, x4, x5, x6, x7, x8, x9, x10, x11, x12, x13, x14, x15, x16, rfl⟩ := len17 hlen
                  have hG := hI.1
                  replace hI := hI.2
                  have f0 := hide hI.1
                  replace hI := hI.2
                  have f1 := hide hI.1
                  replace hI := hI.2
                  have f2 := hide hI.1
                  replace hI := hI.2
                  have f3 := hide hI.1
                  replace hI := hI.2
                  have f4 := hide hI.1
                  replace hI := hI.2
                  have f5 := hide hI.1
                  replace hI := hI.2
                  have f6 := hide hI.1
                  replace hI := hI.2
                  have f7 := hide hI.1
                  replace hI := hI.2
                  have f8 := hide hI.1
                  replace hI := hI.2
                  have f9 := hide hI.1
                  replace hI := hI.2
                  have f10 := hide hI.1
                  replace hI := hI.2
                  have f11 := hide hI.1
                  replace hI := hI.2
                  have f12 := hide hI.1
                  replace hI := hI.2
                  have f13 := hide hI.1
                  replace hI := hI.2
                  have f14 := hide hI.1
                  replace hI := hI.2
                  have f15 := hide hI.1
                  replace hI := hI.2
                  have f16 := hide hI
                  clear hI
                  have c0 := keep hG c0
                  have c1 := keep hG c1
                  try simp only [puts, Act.put, List.setIfInBounds_toArray, List.set_cons_zero, List.set_cons_succ]
                  try go_simp
                  exact hK.out _ _ _ (by simp only [puts, Act.put, List.setIfInBounds_toArray, List.set_cons_zero, List.set_cons_succ] <;> rfl) ⟨hG, (fun h => f0.out h), (fun h => f1.out h), (fun h => f2.out h), (fun h => f3.out h), (fun h => f4.out h), (fun _ => rfl), (fun h => f6.out h), (fun h => f7.out h), (fun h => f8.out h), (fun h => f9.out h), (fun h => f10.out h), (fun h => f11.out h), (fun h => f12.out h), (fun h => f13.out h), (fun h => f14.out h), (fun h => f15.out h), (fun h => f16.out h)⟩
                · intro L vs W hlen hL hD hI K hK
                  obtain ⟨x0, x1, x2, x3, x4, x5, x6, x7, x8, x9, x10, x11, x12, x13, x14, x15, x16, rfl⟩ := len17 hlen
                  have hG := hI.1
                  replace hI := hI.2
                  have f0 := hide hI.1
                  replace hI := hI.2
                  have f1 := hide hI.1
                  replace hI := hI.2
                  have f2 := hide hI.1
                  replace hI := hI.2
                  have f3 := hide hI.1
                  replace hI := hI.2
                  have f4 := hide hI.1
                  replace hI := hI.2
                  have f5 := hide hI.1
                  replace hI := hI.2
                  have f6 := hide hI.1
                  replace hI := hI.2
                  have f7 := hide hI.1
                  replace hI := hI.2
                  have f8 := hide hI.1
                  replace hI := hI.2
                  have f9 := hide hI.1
                  replace hI := hI.2
                  have f10 := hide hI.1
                  replace hI := hI.2
                  have f11 := hide hI.1
                  replace hI := hI.2
                  have f12 := hide hI.1
                  replace hI := hI.2
                  have f13 := hide hI.1
                  replace hI := hI.2
                  have f14 := hide hI.1
                  replace hI := hI.2
                  have f15 := hide hI.1
                  replace hI := hI.2
                  have f16 := hide hI
                  clear hI
                  have c0 := keep hG c0
                  have c1 := keep hG c1
                  obtain rfl := f4.out (hD.on 4 (by kernel_rfl))
                  obtain rfl := f5.out (hD.on 5 (by kernel_rfl))
                  try simp only [puts, Act.put, List.setIfInBounds_toArray, List.set_cons_zero, List.set_cons_succ]
                  try go_simp
                  exact hK.out _ _ _ (by simp only [puts, Act.put, List.setIfInBounds_toArray, List.set_cons_zero, List.set_cons_succ] <;> rfl) ⟨hG, (fun h => f0.out h), (fun h => f1.out h), (fun h => f2.out h), (fun h => f3.out h), (fun h => f4.out h), (fun h => f5.out h), (fun _ => rfl), (fun h => f7.out h), (fun h => f8.out h), (fun h => f9.out h), (fun h => f10.out h), (fun h => f11.out h), (fun h => f12.out h), (fun h => f13.out h), (fun h => f14.out h), (fun h => f15.out h), (fun h => f16.out h)⟩
                · intro L vs W hlen hL hD hI K hK
                  obtain ⟨x0, x1, x2, x3, x4, x5, x6, x7, x8, x9, x10, x11, x12, x13, x14, x15, x16, rfl⟩ := len17 hlen
                  have hG := hI.1
                  replace hI := hI.2
                  have f0 := hide hI.1
                  replace hI := hI.2
                  have f1 := hide hI.1
                  replace hI := hI.2
                  have f2 := hide hI.1
                  replace hI := hI.2
                  have f3 := hide hI.1
                  replace hI := hI.2
                  have f4 := hide hI.1
                  replace hI := hI.2
                  have f5 := hide hI.1
                  replace hI := hI.2
                  have f6 := hide hI.1
                  replace hI := hI.2
                  have f7 := hide hI.1
                  replace hI := hI.2
                  have f8 := hide hI.1
                  replace hI := hI.2
                  have f9 := hide hI.1
                  replace hI := hI.2
                  have f10 := hide hI.1
                  replace hI := hI.2
                  have f11 := hide hI.1
                  replace hI := hI.2
                  have f12 := hide hI.1
                  replace hI := hI.2
                  have f13 := hide hI.1
                  replace hI := hI.2
                  have f14 := hide hI.1
                  replace hI := hI.2
                  have f15 := hide hI.1
                  replace hI := hI.2
                  have f16 := hide hI
                  clear hI
                  have c0 := keep hG c0
                  have c1 := keep hG c1
                  have g2 := f2.out (hD.on 2 (by kernel_rfl))
                  obtain rfl := f6.out (hD.on 6 (by kernel_rfl))
                  try simp only [puts, Act.put, List.setIfInBounds_toArray, List.set_cons_zero, List.set_cons_succ]
                  obtain ⟨b0, rfl, hO0⟩ := g2 hL
                  refine step_copy rfl _ _ rfl V.heap.size b0 rfl hO0 (some ⟨rb, ro, none⟩) i rc TK rfl (RecIn.below hG HT1.out) hi2 hG.size ?_
                  intro va vc W' hO' hb
                  exact hK.out _ _ _ (by simp only [puts, Act.put, List.setIfInBounds_toArray, List.set_cons_zero, List.set_cons_succ] <;> rfl) ⟨below2 hG hb, (fun h => f0.out h), (fun h => f1.out h), (fun h => (fun _ h8 => absurd h8 (by simp)) (f2.out h)), (fun h => f3.out h), (fun h => f4.out h), (fun h => f5.out h), (fun h => f6.out h), (fun _ => fun _ => ⟨va, vc, rfl, hO'⟩), (fun h => f8.out h), (fun h => f9.out h), (fun h => f10.out h), (fun h => f11.out h), (fun h => f12.out h), (fun h => (fun h => absurd (h.2.symm.trans hL) (by decide)) (f13.out h)), (fun h => (fun h => ⟨h.1, let ⟨ga, gn, gc, e1, o, e2⟩ := h.2; ⟨ga, gn, gc, e1, OwnR.later' o hb, e2⟩⟩) (f14.out h)), (fun h => (fun h => fun h8 => let ⟨b0, h0, e, k⟩ := h h8; ⟨b0, h0, e, k.later hb⟩) (f15.out h)), (fun h => (fun h => ⟨h.1, let ⟨b, v, e, k, o, q⟩ := h.2; ⟨b, v, e, k.later hb, OwnR.later' o hb, q⟩⟩) (f16.out h))⟩
                · intro L vs W hlen hL hD hI K hK
                  obtain ⟨x0, x1, x2, x3, x4, x5, x6, x7, x8, x9, x10, x11, x12, x13, x14, x15, x16, rfl⟩ := len17 hlen
                  have hG := hI.1
                  replace hI := hI.2
                  have f0 := hide hI.1
                  replace hI := hI.2
                  have f1 := hide hI.1
                  replace hI := hI.2
                  have f2 := hide hI.1
                  replace hI := hI.2
                  have f3 := hide hI.1
                  replace hI := hI.2
                  have f4 := hide hI.1
                  replace hI := hI.2
                  have f5 := hide hI.1
                  replace hI := hI.2
                  have f6 := hide hI.1
                  replace hI := hI.2
                  have f7 := hide hI.1
                  replace hI := hI.2
                  have f8 := hide hI.1
                  replace hI := hI.2
                  have f9 := hide hI.1
                  replace hI := hI.2
                  have f10 := hide hI.1
                  replace hI := hI.2
                  have f11 := hide hI.1
                  replace hI := hI.2
                  have f12 := hide hI.1
                  replace hI := hI.2
                  have f13 := hide hI.1
                  replace hI := hI.2
                  have f14 := hide hI.1
                  replace hI := hI.2
                  have f15 := hide hI.1
                  replace hI := hI.2
                  have f16 := hide hI
                  clear hI
                  have c0 := keep hG c0
                  have c1 := keep hG c1
                  try simp only [puts, Act.put, List.setIfInBounds_toArray, List.set_cons_zero, List.set_cons_succ]
                  try go_simp
                  exact hK.out _ _ _ (by simp only [puts, Act.put, List.setIfInBounds_toArray, List.set_cons_zero, List.set_cons_succ] <;> rfl) ⟨hG, (fun h => f0.out h), (fun h => f1.out h), (fun h => f2.out h), (fun h => f3.out h), (fun h => f4.out h), (fun h => f5.out h), (fun h => f6.out h), (fun h => f7.out h), (fun _ => rfl), (fun h => f9.out h), (fun h => f10.out h), (fun h => f11.out h), (fun h => f12.out h), (fun h => f13.out h), (fun h => f14.out h), (fun h => f15.out h), (fun h => f16.out h)⟩
                · intro L vs W hlen hL hD hI K hK
                  obtain ⟨x0, x1, x2, x3, x4, x5, x6, x7, x8, x9, x10, x11, x12, x13, x14, x15, x16, rfl⟩ := len17 hlen
                  have hG := hI.1
                  replace hI := hI.2
                  have f0 := hide hI.1
                  replace hI := hI.2
                  have f1 := hide hI.1
                  replace hI := hI.2
                  have f2 := hide hI.1
                  replace hI := hI.2
                  have f3 := hide hI.1
                  replace hI := hI.2
                  have f4 := hide hI.1
                  replace hI := hI.2
                  have f5 := hide hI.1
                  replace hI := hI.2
                  have f6 := hide hI.1
                  replace hI := hI.2
                  have f7 := hide hI.1
                  replace hI := hI.2
                  have f8 := hide hI.1
                  replace hI := hI.2
                  have f9 := hide hI.1
                  replace hI := hI.2
                  have f10 := hide hI.1
                  replace hI := hI.2
                  have f11 := hide hI.1
                  replace hI := hI.2
                  have f12 := hide hI.1
                  replace hI := hI.2
                  have f13 := hide hI.1
                  replace hI := hI.2
                  have f14 := hide hI.1
                  replace hI := hI.2
                  have f15 := hide hI.1
                  replace hI := hI.2
                  have f16 := hide hI
                  clear hI
                  have c0 := keep hG c0
                  have c1 := keep hG c1
                  obtain rfl := f8.out (hD.on 8 (by kernel_rfl))
                  try simp only [puts, Act.put, List.setIfInBounds_toArray, List.set_cons_zero, List.set_cons_succ]
                  try go_simp
                  exact hK.out _ _ _ (by simp only [puts, Act.put, List.setIfInBounds_toArray, List.set_cons_zero, List.set_cons_succ] <;> rfl) ⟨hG, (fun h => f0.out h), (fun h => f1.out h), (fun h => f2.out h), (fun h => f3.out h), (fun h => f4.out h), (fun h => f5.out h), (fun h => f6.out h), (fun h => f7.out h), (fun h => f8.out h), (fun _ => rfl), (fun h => f10.out h), (fun h => f11.out h), (fun h => f12.out h), (fun h => f13.out h), (fun h => f14.out h), (fun h => f15.out h), (fun h => f16.out h)⟩
                · intro L vs W hlen hL hD hI K hK
                  obtain ⟨x0, x1, x2, x3, x4, x5, x6, x7, x8, x9, x10, x11, x12, x13, x14, x15, x16, rfl⟩ := len17 hlen
                  have hG := hI.1
                  replace hI := hI.2
                  have f0 := hide hI.1
                  replace hI := hI.2
                  have f1 := hide hI.1
                  replace hI := hI.2
                  have f2 := hide hI.1
                  replace hI := hI.2
                  have f3 := hide hI.1
                  replace hI := hI.2
                  have f4 := hide hI.1
                  replace hI := hI.2
                  have f5 := hide hI.1
                  replace hI := hI.2
                  have f6 := hide hI.1
                  replace hI := hI.2
                  have f7 := hide hI.1
                  replace hI := hI.2
                  have f8 := hide hI.1
                  replace hI := hI.2
                  have f9 := hide hI.1
                  replace hI := hI.2
                  have f10 := hide hI.1
                  replace hI := hI.2
                  have f11 := hide hI.1
                  replace hI := hI.2
                  have f12 := hide hI.1
                  replace hI := hI.2
                  have f13 := hide hI.1
                  replace hI := hI.2
                  have f14 := hide hI.1
                  replace hI := hI.2
                  have f15 := hide hI.1
                  replace hI := hI.2
                  have f16 := hide hI
                  clear hI
                  have c0 := keep hG c0
                  have c1 := keep hG c1
                  try simp only [puts, Act.put, List.setIfInBounds_toArray, List.set_cons_zero, List.set_cons_succ]
                  try go_simp
                  exact hK.out _ _ _ (by simp only [puts, Act.put, List.setIfInBounds_toArray, List.set_cons_zero, List.set_cons_succ] <;> rfl) ⟨hG, (fun h => f0.out h), (fun h => f1.out h), (fun h => f2.out h), (fun h => f3.out h), (fun h => f4.out h), (fun h => f5.out h), (fun h => f6.out h), (fun h => f7.out h), (fun h => f8.out h), (fun h => f9.out h), (fun _ => rfl), (fun h => f11.out h), (fun h => f12.out h), (fun h => f13.out h), (fun h => f14.out h), (fun h => f15.out h), (fun h => f16.out h)⟩
                · intro L vs W hlen hL hD hI K hK
                  obtain ⟨x0, x1, x2, x3, x4, x5, x6, x7, x8, x9, x10, x11, x12, x13, x14, x15, x16, rfl⟩ := len17 hlen
                  have hG := hI.1
                  replace hI := hI.2
                  have f0 := hide hI.1
                  replace hI := hI.2
                  have f1 := hide hI.1
                  replace hI := hI.2
                  have f2 := hide hI.1
                  replace hI := hI.2
                  have f3 := hide hI.1
                  replace hI := hI.2
                  have f4 := hide hI.1
                  replace hI := hI.2
                  have f5 := hide hI.1
                  replace hI := hI.2
                  have f6 := hide hI.1
                  replace hI := hI.2
                  have f7 := hide hI.1
                  replace hI := hI.2
                  have f8 := hide hI.1
                  replace hI := hI.2
                  have f9 := hide hI.1
                  replace hI := hI.2
                  have f10 := hide hI.1
                  replace hI := hI.2
                  have f11 := hide hI.1
                  replace hI := hI.2
                  have f12 := hide hI.1
                  replace hI := hI.2
                  have f13 := hide hI.1
                  replace hI := hI.2
                  have f14 := hide hI.1
                  replace hI := hI.2
                  have f15 := hide hI.1
                  replace hI := hI.2
                  have f16 := hide hI
                  clear hI
                  have c0 := keep hG c0
                  have c1 := keep hG c1
                  obtain rfl := f10.out (hD.on 10 (by kernel_rfl))
                  try simp only [puts, Act.put, List.setIfInBounds_toArray, List.set_cons_zero, List.set_cons_succ]
                  try go_simp
                  exact hK.out _ _ _ (by simp only [puts, Act.put, List.setIfInBounds_toArray, List.set_cons_zero, List.set_cons_succ] <;> rfl) ⟨hG, (fun h => f0.out h), (fun h => f1.out h), (fun h => f2.out h), (fun h => f3.out h), (fun h => f4.out h), (fun h => f5.out h), (fun h => f6.out h), (fun h => f7.out h), (fun h => f8.out h), (fun h => f9.out h), (fun h => f10.out h), (fun _ => rfl), (fun h => f12.out h), (fun h => f13.out h), (fun h => f14.out h), (fun h => f15.out h), (fun h => f16.out h)⟩
                · intro L vs W hlen hL hD hI K hK
                  obtain ⟨x0, x1, x2, x3, x4, x5, x6, x7, x8, x9, x10, x11, x12, x13, x14, x15, x16, rfl⟩ := len17 hlen
                  have hG := hI.1
                  replace hI := hI.2
                  have f0 := hide hI.1
                  replace hI := hI.2
                  have f1 := hide hI.1
                  replace hI := hI.2
                  have f2 := hide hI.1
                  replace hI := hI.2
                  have f3 := hide hI.1
                  replace hI := hI.2
                  have f4 := hide hI.1
                  replace hI := hI.2
                  have f5 := hide hI.1
                  replace hI := hI.2
                  have f6 := hide hI.1
                  replace hI := hI.2
                  have f7 := hide hI.1
                  replace hI := hI.2
                  have f8 := hide hI.1
                  replace hI := hI.2
                  have f9 := hide hI.1
                  replace hI := hI.2
                  have f10 := hide hI.1
                  replace hI := hI.2
                  have f11 := hide hI.1
                  replace hI := hI.2
                  have f12 := hide hI.1
                  replace hI := hI.2
                  have f13 := hide hI.1
                  replace hI := hI.2
                  have f14 := hide hI.1
                  replace hI := hI.2
                  have f15 := hide hI.1
                  replace hI := hI.2
                  have f16 := hide hI
                  clear hI
                  have c0 := keep hG c0
                  have c1 := keep hG c1
                  obtain rfl := f9.out (hD.on 9 (by kernel_rfl))
                  obtain rfl := f11.out (hD.on 11 (by kernel_rfl))
                  try simp only [puts, Act.put, List.setIfInBounds_toArray, List.set_cons_zero, List.set_cons_succ]
                  try go_simp
                  exact hK.out _ _ _ (by simp only [puts, Act.put, List.setIfInBounds_toArray, List.set_cons_zero, List.set_cons_succ] <;> rfl) ⟨hG, (fun h => f0.out h), (fun h => f1.out h), (fun h => f2.out h), (fun h => f3.out h), (fun h => f4.out h), (fun h => f5.out h), (fun h => f6.out h), (fun h => f7.out h), (fun h => f8.out h), (fun h => f9.out h), (fun h => f10.out h), (fun h => f11.out h), (fun _ => rfl), (fun h => f13.out h), (fun h => f14.out h), (fun h => f15.out h), (fun h => f16.out h)⟩
                · intro L vs W hlen hL hD hI K hK
                  obtain ⟨x0, x1, x2, x3, x4, x5, x6, x7, x8, x9, x10, x11, x12, x13, x14, x15, x16, rfl⟩ := len17 hlen
                  have hG := hI.1
                  replace hI := hI.2
                  have f0 := hide hI.1
                  replace hI := hI.2
                  have f1 := hide hI.1
                  replace hI := hI.2
                  have f2 := hide hI.1
                  replace hI := hI.2
                  have f3 := hide hI.1
                  replace hI := hI.2
                  have f4 := hide hI.1
                  replace hI := hI.2
                  have f5 := hide hI.1
                  replace hI := hI.2
                  have f6 := hide hI.1
                  replace hI := hI.2
                  have f7 := hide hI.1
                  replace hI := hI.2
                  have f8 := hide hI.1
                  replace hI := hI.2
                  have f9 := hide hI.1
                  replace hI := hI.2
                  have f10 := hide hI.1
                  replace hI := hI.2
                  have f11 := hide hI.1
                  replace hI := hI.2
                  have f12 := hide hI.1
                  replace hI := hI.2
                  have f13 := hide hI.1
                  replace hI := hI.2
                  have f14 := hide hI.1
                  replace hI := hI.2
                  have f15 := hide hI.1
                  replace hI := hI.2
                  have f16 := hide hI
                  clear hI
                  have c0 := keep hG c0
                  have c1 := keep hG c1
                  have g7 := f7.out (hD.on 7 (by kernel_rfl))
                  obtain rfl := f12.out (hD.on 12 (by kernel_rfl))
                  try simp only [puts, Act.put, List.setIfInBounds_toArray, List.set_cons_zero, List.set_cons_succ]
                  obtain ⟨va, vc, rfl, hO7⟩ := g7 hL
                  refine step_more rfl _ _ rfl V.heap.size _ TK rfl hO7 _ _ _ DK rfl (RecIn.below hG HT2.out) hl12 hG.size ?_
                  intro v' W' hO' hE'
                  have hb := effE_far hG hE'
                  exact hK.out _ _ _ (by simp only [puts, Act.put, List.setIfInBounds_toArray, List.set_cons_zero, List.set_cons_succ] <;> rfl) ⟨hG.trans hb, (fun h => f0.out h), (fun h => f1.out h), (fun h => (fun _ h8 => absurd ((hD.on 7 (by kernel_rfl)).symm.trans h8) (by decide)) (f2.out h)), (fun h => f3.out h), (fun h => f4.out h), (fun h => f5.out h), (fun h => f6.out h), (fun h => (fun _ h8 => absurd h8 (by simp)) (f7.out h)), (fun h => f8.out h), (fun h => f9.out h), (fun h => f10.out h), (fun h => f11.out h), (fun h => f12.out h), (fun _ => ⟨fun _ => ⟨hO', own_form3 hO'⟩, hD.on 7 (by kernel_rfl)⟩), (fun h => (fun h => absurd (h.1.symm.trans hL) (by decide)) (f14.out h)), (fun h => (fun h h13 => let ⟨b0, h0, e, k⟩ := h h13; ⟨b0, h0, e, hE'.blk k (by decide)⟩) (f15.out h)), (fun h => (fun h => absurd (h.1.1.symm.trans hL) (by decide)) (f16.out h))⟩
                · intro L vs W hlen hL hD hI K hK
                  obtain ⟨x0, x1, x2, x3, x4, x5, x6, x7, x8, x9, x10, x11, x12, x13, x14, x15, x16, rfl⟩ := len17 hlen
                  have hG := hI.1
                  replace hI := hI.2
                  have f0 := hide hI.1
                  replace hI := hI.2
                  have f1 := hide hI.1
                  replace hI := hI.2
                  have f2 := hide hI.1
                  replace hI := hI.2
                  have f3 := hide hI.1
                  replace hI := hI.2
                  have f4 := hide hI.1
                  replace hI := hI.2
                  have f5 := hide hI.1
                  replace hI := hI.2
                  have f6 := hide hI.1
                  replace hI := hI.2
                  have f7 := hide hI.1
                  replace hI := hI.2
                  have f8 := hide hI.1
                  replace hI := hI.2
                  have f9 := hide hI.1
                  replace hI := hI.2
                  have f10 := hide hI.1
                  replace hI := hI.2
                  have f11 := hide hI.1
                  replace hI := hI.2
                  have f12 := hide hI.1
                  replace hI := hI.2
                  have f13 := hide hI.1
                  replace hI := hI.2
                  have f14 := hide hI.1
                  replace hI := hI.2
                  have f15 := hide hI.1
                  replace hI := hI.2
                  have f16 := hide hI
                  clear hI
                  have c0 := keep hG c0
                  have c1 := keep hG c1
                  obtain rfl := f1.out (hD.on 1 (by kernel_rfl))
                  have g13 := f13.out (hD.on 13 (by kernel_rfl))
                  try simp only [puts, Act.put, List.setIfInBounds_toArray, List.set_cons_zero, List.set_cons_succ]
                  obtain ⟨hO13, ga, gn, gc, rfl⟩ := g13.1 hL
                  go_simp
                  exact hK.out _ _ _ (by simp only [puts, Act.put, List.setIfInBounds_toArray, List.set_cons_zero, List.set_cons_succ] <;> rfl) ⟨hG, (fun h => f0.out h), (fun h => f1.out h), (fun h => f2.out h), (fun h => f3.out h), (fun h => f4.out h), (fun h => f5.out h), (fun h => f6.out h), (fun h => f7.out h), (fun h => f8.out h), (fun h => f9.out h), (fun h => f10.out h), (fun h => f11.out h), (fun h => f12.out h), (fun h => (fun h => ⟨fun h14 => absurd h14 (by simp), h.2⟩) (f13.out h)), (fun _ => ⟨hD.on 13 (by kernel_rfl), ga, gn, gc, rfl, hO13, rfl⟩), (fun h => f15.out h), (fun h => f16.out h)⟩
                · intro L vs W hlen hL hD hI K hK
                  obtain ⟨x0, x1, x2, x3, x4, x5, x6, x7, x8, x9, x10, x11, x12, x13, x14, x15, x16, rfl⟩ := len17 hlen
                  have hG := hI.1
                  replace hI := hI.2
                  have f0 := hide hI.1
                  replace hI := hI.2
                  have f1 := hide hI.1
                  replace hI := hI.2
                  have f2 := hide hI.1
                  replace hI := hI.2
                  have f3 := hide hI.1
                  replace hI := hI.2
                  have f4 := hide hI.1
                  replace hI := hI.2
                  have f5 := hide hI.1
                  replace hI := hI.2
                  have f6 := hide hI.1
                  replace hI := hI.2
                  have f7 := hide hI.1
                  replace hI := hI.2
                  have f8 := hide hI.1
                  replace hI := hI.2
                  have f9 := hide hI.1
                  replace hI := hI.2
                  have f10 := hide hI.1
                  replace hI := hI.2
                  have f11 := hide hI.1
                  replace hI := hI.2
                  have f12 := hide hI.1
                  replace hI := hI.2
                  have f13 := hide hI.1
                  replace hI := hI.2
                  have f14 := hide hI.1
                  replace hI := hI.2
                  have f15 := hide hI.1
                  replace hI := hI.2
                  have f16 := hide hI
                  clear hI
                  have c0 := keep hG c0
                  have c1 := keep hG c1
                  try simp only [puts, Act.put, List.setIfInBounds_toArray, List.set_cons_zero, List.set_cons_succ]
                  try go_simp
                  generalize hW' : World.alloc W _ = W'
                  have hb : Below W.heap.size W W' := by rw [← hW']; exact bal W _
                  exact hK.out _ _ _ (by simp only [puts, Act.put, List.setIfInBounds_toArray, List.set_cons_zero, List.set_cons_succ] <;> rfl) ⟨below2 hG hb, (fun h => f0.out h), (fun h => f1.out h), (fun h => (fun h => fun h5 => let ⟨b0, e, o⟩ := h h5; ⟨b0, e, OwnR.later' o hb⟩) (f2.out h)), (fun h => f3.out h), (fun h => f4.out h), (fun h => f5.out h), (fun h => f6.out h), (fun h => (fun h => fun h8 => let ⟨va, vc, e, o⟩ := h h8; ⟨va, vc, e, OwnR.later' o hb⟩) (f7.out h)), (fun h => f8.out h), (fun h => f9.out h), (fun h => f10.out h), (fun h => f11.out h), (fun h => f12.out h), (fun h => (fun h => ⟨fun h14 => ⟨OwnR.later' (h.1 h14).1 hb, (h.1 h14).2⟩, h.2⟩) (f13.out h)), (fun h => (fun h => ⟨h.1, let ⟨ga, gn, gc, e1, o, e2⟩ := h.2; ⟨ga, gn, gc, e1, OwnR.later' o hb, e2⟩⟩) (f14.out h)), (fun _ => fun _ => ⟨W.heap.size, hG.size, rfl, by rw [← hW']; exact Blk.newA W _ rfl⟩), (fun h => (fun h => absurd (h.1.2.symm.trans hL) (by decide)) (f16.out h))⟩
                · intro L vs W hlen hL hD hI K hK
                  obtain ⟨x0, x1, x2, x3, x4, x5, x6, x7, x8, x9, x10, x11, x12, x13, x14, x15, x16, rfl⟩ := len17 hlen
                  have hG := hI.1
                  replace hI := hI.2
                  have f0 := hide hI.1
                  replace hI := hI.2
                  have f1 := hide hI.1
                  replace hI := hI.2
                  have f2 := hide hI.1
                  replace hI := hI.2
                  have f3 := hide hI.1
                  replace hI := hI.2
                  have f4 := hide hI.1
                  replace hI := hI.2
                  have f5 := hide hI.1
                  replace hI := hI.2
                  have f6 := hide hI.1
                  replace hI := hI.2
                  have f7 := hide hI.1
                  replace hI := hI.2
                  have f8 := hide hI.1
                  replace hI := hI.2
                  have f9 := hide hI.1
                  replace hI := hI.2
                  have f10 := hide hI.1
                  replace hI := hI.2
                  have f11 := hide hI.1
                  replace hI := hI.2
                  have f12 := hide hI.1
                  replace hI := hI.2
                  have f13 := hide hI.1
                  replace hI := hI.2
                  have f14 := hide hI.1
                  replace hI := hI.2
                  have f15 := hide hI.1
                  replace hI := hI.2
                  have f16 := hide hI
                  clear hI
                  have c0 := keep hG c0
                  have c1 := keep hG c1
                  have g14 := f14.out (hD.on 14 (by kernel_rfl))
                  have g15 := f15.out (hD.on 15 (by kernel_rfl))
                  try simp only [puts, Act.put, List.setIfInBounds_toArray, List.set_cons_zero, List.set_cons_succ]
                  obtain ⟨h13, ga, gn, gc, rfl, hO13, rfl⟩ := g14
                  obtain ⟨b0, h0, rfl, hB0⟩ := g15 hL
                  have z0 := hB0.cell 0 rfl
                  have z1 := hB0.cell 1 rfl
                  have zf0 := hB0.frozen 0
                  have zf1 := hB0.frozen 1
                  go_simp
                  have hb := ((Below.refl (V.heap.size) W).setCell (p := ⟨b0, 0, none⟩) h0 (.int .i64 (N : Nat))).setCell (p := ⟨b0, 1, none⟩) h0 (.slice ga gn gc)
                  exact hK.out _ undef _ (by simp only [puts, Act.put, List.setIfInBounds_toArray, List.set_cons_zero, List.set_cons_succ] <;> rfl) ⟨hG.trans hb, (fun h => f0.out h), (fun h => f1.out h), (fun h => (fun _ h8 => absurd ((hD.on 7 (by kernel_rfl)).symm.trans h8) (by decide)) (f2.out h)), (fun h => f3.out h), (fun h => f4.out h), (fun h => f5.out h), (fun h => f6.out h), (fun h => (fun _ h8 => absurd (h13.symm.trans h8) (by decide)) (f7.out h)), (fun h => f8.out h), (fun h => f9.out h), (fun h => f10.out h), (fun h => f11.out h), (fun h => f12.out h), (fun h => (fun h => ⟨fun h14 => absurd ((hD.on 14 (by kernel_rfl)).symm.trans h14) (by decide), h.2⟩) (f13.out h)), (fun h => (fun h => ⟨h.1, let ⟨g1, n1, c1, e1, o, e2⟩ := h.2; ⟨g1, n1, c1, e1, (o.setO hB0 (by decide) (j := 0) _).setO (hB0.set 0 _) (by decide) (j := 1) _, e2⟩⟩) (f14.out h)), (fun h => (fun _ h8 => absurd h8 (by simp)) (f15.out h)), (fun _ => ⟨⟨h13, hD.on 15 (by kernel_rfl)⟩, b0, .slice ga gn gc, rfl, (hB0.set 0 _).set 1 _, (hO13.setO hB0 (by decide) (j := 0) _).setO (hB0.set 0 _) (by decide) (j := 1) _, h0⟩)⟩
              intro L vs W hlen hall hI
              obtain ⟨x0, x1, x2, x3, x4, x5, x6, x7, x8, x9, x10, x11, x12, x13, x14, x15, x16, rfl⟩ := len17 hlen
              have hG := hI.1
              replace hI := hI.2
              have f0 := hide hI.1
              replace hI := hI.2
              have f1 := hide hI.1
              replace hI := hI.2
              have f2 := hide hI.1
              replace hI := hI.2
              have f3 := hide hI.1
              replace hI := hI.2
              have f4 := hide hI.1
              replace hI := hI.2
              have f5 := hide hI.1
              replace hI := hI.2
              have f6 := hide hI.1
              replace hI := hI.2
              have f7 := hide hI.1
              replace hI := hI.2
              have f8 := hide hI.1
              replace hI := hI.2
              have f9 := hide hI.1
              replace hI := hI.2
              have f10 := hide hI.1
              replace hI := hI.2
              have f11 := hide hI.1
              replace hI := hI.2
              have f12 := hide hI.1
              replace hI := hI.2
              have f13 := hide hI.1
              replace hI := hI.2
              have f14 := hide hI.1
              replace hI := hI.2
              have f15 := hide hI.1
              replace hI := hI.2
              have f16 := hide hI
              clear hI
              obtain rfl := f0.out (hall 0 (by decide))
              obtain rfl := f1.out (hall 1 (by decide))
              have g2 := f2.out (hall 2 (by decide))
              obtain rfl := f3.out (hall 3 (by decide))
              obtain rfl := f4.out (hall 4 (by decide))
              obtain rfl := f5.out (hall 5 (by decide))
              obtain rfl := f6.out (hall 6 (by decide))
              have g7 := f7.out (hall 7 (by decide))
              obtain rfl := f8.out (hall 8 (by decide))
              obtain rfl := f9.out (hall 9 (by decide))
              obtain rfl := f10.out (hall 10 (by decide))
              obtain rfl := f11.out (hall 11 (by decide))
              obtain rfl := f12.out (hall 12 (by decide))
              have g13 := f13.out (hall 13 (by decide))
              have g14 := f14.out (hall 14 (by decide))
              have g15 := f15.out (hall 15 (by decide))
              have g16 := f16.out (hall 16 (by decide))
              have hal := hide hall
              clear hall f0 f1 f2 f3 f4 f5 f6 f7 f8 f9 f10 f11 f12 f13 f14 f15 f16
              try simp only [puts, Act.put, List.setIfInBounds_toArray, List.set_cons_zero, List.set_cons_succ]
              obtain ⟨-, b1, v1, rfl, hB1, hO1, hb1V⟩ := g16
              have HG9 := hide (HG.out.later hG)
              have hq1 : PairsIn W.cell? v1 (TK ++ DK) := RecIn.at (RecIn.of_own hO1 (fun _ => rfl) (Nat.le_refl _))
              clear hG hal g2 g7 g13 g14 g15 hO1 hb1V c0 c1 HG HT1 HT2 hs1 hs2 hs3 hs4 hs5 hs6
              generalize W = V3 at *
              obtain ⟨ta9, hta9⟩ : ∃ t, (if rc = i + 1 then (some ⟨rb, ro, none⟩ : Option Addr) else some ⟨rb, ro + (i + 1) * 2, none⟩) = t := ⟨_, rfl⟩
              rw [hta9]
              clear hta9
              have e0 := hB1.cell 0 rfl
              have e1 := hB1.cell 1 rfl
              go_wp2_with fail
              refine (HCT.out _ _ hq1).mono ?_
              rintro e w9 ⟨tv, rfl, hv, hb9⟩
              have hq := hv.at
              obtain ⟨ta, tc, e, -, -, -⟩ := id hq
              subst e
              have hG11 := HG9.out.later hb9
              clear hv hb9 HG9 hq1 hB1 e0 e1 HCT
              go_upto_region 30 with (fail)
              generalize hA1 : World.alloc w9 _ = A1
              have zA1 : A1.heap.size = w9.heap.size + 1 := by rw [← hA1]; simp
              have bA1 : Below w9.heap.size w9 A1 := by rw [← hA1]; exact bal w9 _
              have bT : Blk A1 (w9.heap.size) [.int .i64 (N : Nat), .slice ta TL.length tc] 25 := by rw [← hA1]; exact Blk.newA w9 _ (by first | rfl | simp)
              have Ab := bA1
              have Az := zA1
              clear hA1 zA1 bA1
              have hG12 := hG11.later Ab
              have oT : OrdAt w9.heap.size N (.slice ta TL.length tc) TL A1 := ⟨bT, RecIn.below Ab hq⟩
              clear bT hG11 hq Ab Az
              have c0 := hG12.c.b.cell 0 rfl
              have c1 := hG12.c.b.cell 1 rfl
              have d0 := oT.b.cell 0 rfl
              have d1 := oT.b.cell 1 rfl
              go_wp2_with fail
              refine (HSF.out _ _ _ oT.p hG12.c.p).mono ?_
              rintro e w13 ⟨rfl, hb13⟩
              have HG13 := hide (hG12.later hb13)
              clear c0 c1 d0 d1 hG12 oT hb13 HSF
              go_wp2_with fail
              go_roundw
              case rel => exact ⟨i + 1, by have := HI.out; omega, by go_num, HG13.out⟩
              case measure => have := HI.out; simp [intOf]; omega
        · obtain rfl : i = rl.length := by omega
          go_wp2_with fail
          go_ret
          exact ⟨rfl, HG.out.hb⟩
end Go.Proofs.YtnidcoinfmcffaaDoor
